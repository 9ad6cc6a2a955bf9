/- Part 5: an evaluator, proved sound, and its use at this seat; no condition. -/
import Derived.KernelRfl
import Derived.Test.YtmfohfbdddlilaaGreatP1
import Derived.Test.YtmfohfbdddlilaaGreatP2
import Derived.Test.YtmfohfbdddlilaaGreatP3
import Derived.Test.YtmfohfbdddlilaaGreatP4
set_option linter.unusedSimpArgs false
set_option linter.unusedVariables false
set_option linter.unusedSectionVars false
set_option linter.deprecated false
set_option maxRecDepth 100000
set_option maxHeartbeats 4000000
namespace Go.Proofs
open Go Go.Am Go.RowKit
section
variable [Inhabited aL]
theorem Tryz.tL:Tryz.tab.fns.get 136=some Tryz.f136:=by kernel_rfl
theorem QO:Extern.findNext Tryz.f136=none:=by kernel_rfl
theorem QH:Extern.find Tryz.f136=some (o6 4 Tryz.f136):=by kernel_rfl
theorem Tryz.tM:Tryz.tab.fns.get 244=some Tryz.f244:=by kernel_rfl
theorem QP:Extern.findNext Tryz.f244=none:=by kernel_rfl
theorem QI:Extern.find Tryz.f244=some (o6 1 Tryz.f244):=by kernel_rfl
theorem P0:gG Tryz.prog Tryz.tab:=Qp [(136,4),(244,1)] rfl (by
 intro x hx;simp only[Aj,BT,DB]at hx;rcases hx with rfl|rfl
 . exact⟨_,Tryz.tL,QO,QH⟩
 . exact⟨_,Tryz.tM,QP,QI⟩)
theorem Tryz.mix:Tryz.prog.follows .mixedOrders=true:=by kernel_rfl
theorem bC:Go.Sy.gj Tryz.prog Tryz.tab:=⟨Tryz.kB,ZK Tryz.kB P0,Tryz.mix⟩
end
end Go.Proofs
namespace Go.Proofs
open Go Go.Am Go.RowKit Go.Sy
section
variable [Inhabited aL]
abbrev CO (f:FuncId) (C:aN):Prop:=Go.Sy.cE  Tryz.prog Tryz.tab f C
theorem iD:∀g C,cj g=some C->CO g C:=fun _ _ h=>by cases h
theorem cu (i:Nat) (h:i<1000000000):bq .i64 ((i:Int)+1)=true:=by rw[iq];omega
theorem M5 (b:UInt8):Int.ofNat b.toNat=nB b:=rfl
theorem VQ (b:UInt8):0<=nB b/\nB b<=255:=by
 have:=b.toNat_lt;unfold nB;constructor
 . exact EN _
 . show((b.toNat:Nat):Int)<=255
   omega
theorem L3 {s:Bs} {c:Int} {i:Nat} (h:i<s.length) (h1:nB s[i]=c) (h2:∀(j:Nat) (h:j<s.length),j<i->nB s[j]=c->False):iG s c=i:=by
 have:cN s c=some i:=fv.2 ⟨h,h1,fun j hj=>h2 j (by omega) hj⟩;unfold iG;rw[this]
theorem Vh {s:Bs} {c:Int} (h2:∀(j:Nat) (h:j<s.length),nB s[j]=c->False):iG s c= -1:=by
 have:cN s c=none:=jr.2 h2;unfold iG;rw[this]
theorem JK (s:Bs) (c:Int) (i:Nat) (hall:∀(j:Nat) (h:j<s.length),j<i->nB s[j]=c->False) (hi:i<=s.length) (h:¬(i:Int)<Int.ofNat s.length):iG s c= -1:=
 Vh fun j hj=>hall j hj (by simp only[Ac]at h;omega)
theorem Zf:CO nE tt:=bZ (cfg:=fun y=>bW cj (cD nE 3 (yC y))) bC (fun _=>rfl) (fun _=>iD) (n:=400) (by
 rw[OA];rintro⟨s,c⟩ hpre;simp only at hpre;refine⟨⟨0,⟨by simp,fun j h hj=>by omega⟩,⟨rfl,rfl,rfl,rfl,rfl,trivial⟩,trivial,trivial⟩,?_⟩;rintro i ⟨hi,hall⟩;simp only[ah,au,ag,cr,Ad,Ah,DE]at hi hall⊢;refine⟨fun hlt=>?_,fun hge=>(JK s c i hall hi hge).symm⟩;have hlt':i<s.length:=by simp only[Ac]at hlt;omega
 refine⟨s[i],by simp[hlt'],fun h1=>(L3 hlt' (by simpa [nB]using h1) hall).symm,fun h1=>⟨cu i (by omega),i+1,⟨by omega,fun j h hj he=>?_⟩,?_,by simp[ak]⟩⟩
 . by_cases hji:j=i
   . subst hji;exact absurd he (by simpa [nB]using h1)
   . exact hall j h (by omega) he
 . show s.length - (i+1)<s.length - i
   omega)
theorem YA:CO nH tt:=bZ (cfg:=fun y=>bW cj (cD nH 2 (xT y))) bC (fun _=>rfl) (fun _=>iD) (n:=400) (by
 rw[XQ];rintro⟨s,c⟩ hpre;simp only at hpre;refine⟨⟨0,⟨by simp,fun j h hj=>by omega⟩,⟨rfl,rfl,rfl,trivial⟩,trivial,trivial⟩,?_⟩;rintro i ⟨hi,hall⟩;simp only[ah,au,ag,cr,Ad,Ah,DE]at hi hall⊢;refine⟨fun hlt=>?_,fun hge=>(JK s c i hall hi hge).symm⟩;have hlt':i<s.length:=by simp only[Ac]at hlt;omega
 refine⟨s[i],by simp[hlt'],fun h1=>(L3 hlt' (by simpa [nB]using h1) hall).symm,fun h1=>⟨cu i (by omega),i+1,⟨by omega,fun j h hj he=>?_⟩,?_,by simp[ak]⟩⟩
 . by_cases hji:j=i
   . subst hji;exact absurd he (by simpa [nB]using h1)
   . exact hall j h (by omega) he
 . show s.length - (i+1)<s.length - i
   omega)
theorem KL:∀g C,yK g=some C->CO g C:=bR Zf sr
theorem Ck (s:Bs) (c:Int):(∃i,cN s c=some i/\iG s c=(i:Int)/\i<s.length)\/(cN s c=none/\iG s c= -1):=by
 unfold iG
 cases h:cN s c with
 |none=>exact .inr ⟨rfl,rfl⟩
 |some i=>
  obtain⟨h1,_⟩:=fv.1 h;exact .inl ⟨i,rfl,rfl,h1⟩
theorem Pz:CO G0 p8:=bZ (cfg:=fun y=>bW yK (cW y)) bC (fun _=>rfl) (fun _=>KL) (n:=400) (by
 rw[PD];rintro⟨s,c⟩ hpre;refine⟨(s,c),rfl,rfl,hpre,?_⟩;simp only at hpre⊢;rcases Ck s c with⟨i,h1,h2,h3⟩|⟨h1,h2⟩
 . simp only[ah,ag,h2,dW,h1,cr,lO,Ad,Ah];refine⟨fun h=>by omega,fun _=>⟨by omega,?_,?_,by omega,?_,?_⟩⟩
   . rw[AG];simp;omega
   . exact cu i (by omega)
   . rw[AG];omega
   . rw[show((i:Int)+1).toNat=i+1 by omega];simp
 . simp only[ah,ag,h2,dW,h1,cr,lO,Ad,Ah];exact⟨fun _=>by simp,fun h=>absurd (by decide) h⟩)
theorem KM:∀g C,yL g=some C->CO g C:=bR Pz KL
theorem X5:CO nA sZ:=bZ (cfg:=fun y=>bW yL (cD nA 2 (xY y))) bC (fun _=>rfl) (fun _=>KM) (n:=400) (by
 rw[Y0];rintro⟨s,c⟩ hpre;simp only at hpre;refine⟨⟨(s,[]),⟨by simp,by simp⟩,⟨rfl,rfl,trivial,trivial⟩,⟨⟨rfl,fun _=>rfl⟩,trivial⟩,trivial⟩,?_⟩;rintro⟨t,l⟩ ⟨h1,h2⟩;simp only at h1 h2;refine⟨(t,c),rfl,rfl,by simp only;omega,(dW t c).1,rfl,?_⟩;simp only[ah,ag];refine⟨by simp;omega,fun h=>⟨?_,trivial⟩,fun h=>⟨((dW t c).2.1,l++[(dW t c).1]),⟨?_,?_⟩,?_,by simp[ak]⟩⟩
 . have h3:=wO t c
   cases hp:cN t c with
   |none=>rw[hp]at h3;simp only at h3;simp only[dW,hp];rw[h1,h3]
   |some i=>simp[dW,hp]at h
 . have h3:=wO t c
   cases hp:cN t c with
   |none=>simp[dW,hp]at h
   |some i=>rw[hp]at h3;simp only at h3;simp only[dW,hp];rw[h1,h3];simp
 . cases hp:cN t c with
   |none=>simp[dW,hp]at h
   |some i=>
    obtain⟨h4,_⟩:=fv.1 hp;simp[dW,hp];omega
 . show(dW t c).2.1.length<t.length
   cases hp:cN t c with
   |none=>simp[dW,hp]at h
   |some i=>
    obtain⟨h4,_⟩:=fv.1 hp;simp[dW,hp];omega)
theorem PA:CO rF p9:=bZ (cfg:=fun y=>bW cj (cW y)) bC (fun _=>rfl) (fun _=>iD) (n:=400) (by
 rw[PE];intro y _;simp only[ah,fc,dE,DE];constructor<;>intro h<;>simp[h])
theorem KO:∀g C,yM g=some C->CO g C:=bR X5 (bR PA KM)
theorem ZX:CO nj tq:=bZ (cfg:=fun y=>bW yM (cD nj 2 (yB y))) bC (fun _=>rfl) (fun _=>KO) (n:=400) (by
 rw[Oz];intro s hpre;refine⟨⟨0,by simp,⟨rfl,rfl,trivial⟩,trivial,trivial⟩,?_⟩;intro i hi;have hle:=xq s;simp only[ah,au,ag,cr,Ad,Ah,DE];refine⟨fun hlt=>?_,fun hge=>?_⟩
 . have hlt':i<s.length:=by simp only[Ac]at hlt;omega
   refine⟨s[i],by simp[hlt'],s[i],rfl,trivial,fun h=>⟨cu i (by omega),i+1,?_,?_,by simp[ak]⟩,fun h=>?_⟩
   . apply Bk;intro hn;have:dv s=i:=by omega
     have h2:=CP (s:=s) (by omega);simp only[this]at h2;rw[h]at h2
     cases h2
   . show s.length - (i+1)<s.length - i
     omega
   . apply Bk;intro hn;have hlt2:i<dv s:=by simp only[ak]at hn;omega
     obtain⟨_,h2⟩:=Kq hlt2;rw[h2]at h
     cases h
 . simp only[Ac]at hge;simp only[ak];omega)
theorem KI (n:Int) (h: -9223372036854775808<=n/\n<=9223372036854775807):Go.IntKind.wrap Go.IntKind.i64 n=n:=by rw[IntKind.wrap_i64];omega
theorem ME {b:UInt8} (h:dE b=true):Go.IntKind.wrap Go.IntKind.i64 (Go.IntKind.wrap Go.IntKind.u8 (Int.ofNat (UInt8.toNat b) - 48))=nB b - 48/\Go.IntKind.wrap Go.IntKind.i64 (Int.ofNat (UInt8.toNat b))=nB b/\0<=nB b - 48/\nB b - 48<=9:=by
 rw[pA]at h;rw[M5];have h1:Go.IntKind.wrap Go.IntKind.u8 (nB b - 48)=nB b - 48:=by simp only[IntKind.wrap,IntKind.signed,IntKind.bits,Bb,Ak,AB];omega
 rw[h1,KI _ (by omega),KI _ (by omega)];exact⟨rfl,rfl,by omega,by omega⟩
theorem Ky (s:Bs) (x:Nat) (h:x<s.length):(s.take (x+1)).foldl cm 0=cm ((s.take x).foldl cm 0) s[x]:=by
 rw[AF h,ES];rfl
theorem Kz (s:Bs) (h:∀b∈s,dE b=true) (x:Nat):0<=(s.take x).foldl cm 0/\(s.take x).foldl cm 0<=1099511627776:=
 I9 _ (fun b hb=>h b (Du hb)) 0 (by omega) (by omega)
theorem FV {y:Bs} (hne:ay y≠[]) (hd:∀b∈ay y,dE b=true):bu y=((if cK y then -1 else 1)*(ay y).foldl cm 0,true):=by
 have h1:¬dv (ay y)<(ay y).length:=by
  intro h;have h2:=CP h;rw[hd _ (AJ h)]at h2
  cases h2
 unfold bu;rw[if_neg (by rintro(h|h);exact hne h;exact h1 h)]
theorem tf {y:Bs} (h:ay y=[]\/dv (ay y)<(ay y).length):bu y=(0,false):=by
 unfold bu;rw[if_pos h]
theorem Lu (y t:Bs) (K:Int) (ht:t=ay y) (hK:K=if cK y=true then -1 else 1) (hne:ay y≠[]) (hd:∀b∈ay y,dE b=true) (hl:(ay y).length<=1000000):((∃(x:Nat),
      (x<=List.length (ay y)/\ ∀(b:UInt8),b∈ay y->dE b=Bool.true)/\
      (t=ay y/\
      ak K (if cK y=Bool.true then -1 else 1)/\
      ak 0 (List.foldl cm 0 (List.take x (ay y)))/\
      ak (Int.ofNat (List.length t)) (Int.ofNat (List.length (ay y)))/\ak 0 ↑x/\True)/\
      True/\True)/\
      ∀(x:Nat),
      (x<=List.length (ay y)/\ ∀(b:UInt8),b∈ay y->dE b=Bool.true)->
      br (bI (↑x) (Int.ofNat (List.length (ay y))))
      (ck (bq Go.IntKind.i64 (List.foldl cm 0 (List.take x (ay y))*10))
      (so (ay y)[Int.toNat ↑x]? fun(val:UInt8)=>
      ck
      (bq Go.IntKind.i64
      (List.foldl cm 0 (List.take x (ay y))*10+
      Go.IntKind.wrap Go.IntKind.i64 (Go.IntKind.wrap Go.IntKind.u8 (Int.ofNat (UInt8.toNat val) - 48))))
      (ck (bq Go.IntKind.i64 (↑x+1))
      (∃(y_2:Nat),
      (y_2<=List.length (ay y)/\ ∀(b:UInt8),b∈ay y->dE b=Bool.true)/\
      aI.μ (jd y) y_2<aI.μ (jd y) x/\
      (ay y=ay y/\
      ak (if cK y=Bool.true then -1 else 1) (if cK y=Bool.true then -1 else 1)/\
      ak
      (if
      1099511627776<
      List.foldl cm 0 (List.take x (ay y))*10+
      Go.IntKind.wrap Go.IntKind.i64 (Go.IntKind.wrap Go.IntKind.u8 (Int.ofNat (UInt8.toNat val) - 48))then
      1099511627776
      else
      List.foldl cm 0 (List.take x (ay y))*10+
      Go.IntKind.wrap Go.IntKind.i64 (Go.IntKind.wrap Go.IntKind.u8 (Int.ofNat (UInt8.toNat val) - 48)))
      (List.foldl cm 0 (List.take y_2 (ay y)))/\
      ak (Int.ofNat (List.length (ay y))) (Int.ofNat (List.length (ay y)))/\
      ak (↑x+1) ↑y_2/\True)/\
      True/\True))))
      (ck
      (bq Go.IntKind.i64 ((if cK y=Bool.true then -1 else 1)*List.foldl cm 0 (List.take x (ay y))))
      (ak ((if cK y=Bool.true then -1 else 1)*List.foldl cm 0 (List.take x (ay y)))
      (Prod.fst (bu y))/\
      Bool.true=Prod.snd (bu y)/\True))):=by
 refine⟨⟨0,⟨by simp,hd⟩,⟨ht,hK,by simp[ak],by rw[ht],by simp[ak],trivial⟩,trivial,trivial⟩,?_⟩;rintro x ⟨hx,_⟩;obtain⟨r1,r2⟩:=Kz _ hd x;simp only[ah,au,ag,cr,Ad,Ah,DE];refine⟨fun hlt=>?_,fun hge=>?_⟩
 . have hlt':x<(ay y).length:=by simp only[Ac]at hlt;omega
   obtain⟨d1,_,d3,d4⟩:=ME (hd _ (AJ hlt'));refine⟨by rw[iq];omega,(ay y)[x],by simp[hlt'],?_,cu x (by omega),x+1,⟨by omega,hd⟩,?_,?_⟩
   . rw[d1,iq];omega
   . show(ay y).length - (x+1)<(ay y).length - x
     omega
   . refine⟨trivial,trivial,?_,trivial,by simp[ak]⟩;rw[Ky _ _ hlt',d1];simp only[cm,ak];omega
 . have he:x=(ay y).length:=by simp only[Ac]at hge;omega
   subst he;rw[Bp,FV hne hd]at*;refine⟨?_,by simp[ak]⟩;rw[iq];split<;>omega
theorem Kh (y:Bs) (K:Int) (hK:K=Int.ofNat (cg y)) (hne:ay y≠[]) (hd:∀b∈ay y,dE b=true) (hl:y.length<=1000000):((∃(x:Nat),
        (cg y<=x/\x<=List.length y/\ ∀(b:UInt8),b∈ay y->dE b=Bool.true)/\
        (y=y/\
        ak K (Int.ofNat (cg y))/\
        ak 0 (List.foldl cm 0 (List.take (x - cg y) (ay y)))/\ak K ↑x/\True)/\
        True/\True)/\
        ∀(x:Nat),
        (cg y<=x/\x<=List.length y/\ ∀(b:UInt8),b∈ay y->dE b=Bool.true)->
        br (bI (↑x) (Int.ofNat (List.length y)))
        (ck (bq Go.IntKind.i64 (List.foldl cm 0 (List.take (x - cg y) (ay y))*10))
        (so y[Int.toNat ↑x]? fun(val:UInt8)=>
        ck
        (bq Go.IntKind.i64
        (List.foldl cm 0 (List.take (x - cg y) (ay y))*10+
        Go.IntKind.wrap Go.IntKind.i64 (Int.ofNat (UInt8.toNat val))))
        (ck
        (bq Go.IntKind.i64
        (List.foldl cm 0 (List.take (x - cg y) (ay y))*10+
        Go.IntKind.wrap Go.IntKind.i64 (Int.ofNat (UInt8.toNat val)) -
        48))
        (br
        (bI 1099511627776
        (List.foldl cm 0 (List.take (x - cg y) (ay y))*10+
        Go.IntKind.wrap Go.IntKind.i64 (Int.ofNat (UInt8.toNat val)) -
        48))
        (ck (bq Go.IntKind.i64 (↑x+1))
        (∃(y_2:Nat),
        (cg y<=y_2/\y_2<=List.length y/\ ∀(b:UInt8),b∈ay y->dE b=Bool.true)/\
        aI.μ (ju y) y_2<aI.μ (ju y) x/\
        (y=y/\
        ak (Int.ofNat (cg y)) (Int.ofNat (cg y))/\
        ak 1099511627776 (List.foldl cm 0 (List.take (y_2 - cg y) (ay y)))/\
        ak (↑x+1) ↑y_2/\True)/\
        True/\True))
        (ck (bq Go.IntKind.i64 (↑x+1))
        (∃(y_2:Nat),
        (cg y<=y_2/\y_2<=List.length y/\ ∀(b:UInt8),b∈ay y->dE b=Bool.true)/\
        aI.μ (ju y) y_2<aI.μ (ju y) x/\
        (y=y/\
        ak (Int.ofNat (cg y)) (Int.ofNat (cg y))/\
        ak
        (List.foldl cm 0 (List.take (x - cg y) (ay y))*10+
        Go.IntKind.wrap Go.IntKind.i64 (Int.ofNat (UInt8.toNat val)) -
        48)
        (List.foldl cm 0 (List.take (y_2 - cg y) (ay y)))/\
        ak (↑x+1) ↑y_2/\True)/\
        True/\True))))))
        (br (Int.ofNat (cg y)==1)
        (ck (bq Go.IntKind.i64 (0 - List.foldl cm 0 (List.take (x - cg y) (ay y))))
        (ak (0 - List.foldl cm 0 (List.take (x - cg y) (ay y))) (Prod.fst (bu y))/\
        Bool.true=Prod.snd (bu y)/\True))
        (ak (List.foldl cm 0 (List.take (x - cg y) (ay y))) (Prod.fst (bu y))/\
        Bool.true=Prod.snd (bu y)/\True))):=by
 have hlen:(ay y).length=y.length - cg y:=by unfold ay cg;split<;>simp
 have hpos:0<(ay y).length:=A4.2 hne;have hget:∀x (h:x<y.length),cg y<=x->y[x]=(ay y)[x - cg y]'(by omega):=by
   intro x h h2;have e:(ay y)[x - cg y]? =y[x]? :=by
     unfold ay cg;unfold cg at h2;split
     . rename_i hn;rw[if_pos hn]at h2;rw[BX];congr 1
       omega
     . simp
   rw[Af h,Af (by omega)]at e;exact(Dj e).symm
 refine⟨⟨cg y,⟨Ai _,by omega,hd⟩,⟨rfl,hK,by simp[ak],by simp[ak,hK],trivial⟩,trivial,trivial⟩,?_⟩;rintro x ⟨hx0,hx,_⟩;obtain⟨r1,r2⟩:=Kz _ hd (x - cg y);simp only[ah,au,ag,cr,Ad,Ah,DE];refine⟨fun hlt=>?_,fun hge=>?_⟩
 . have hlt':x<y.length:=by simp only[Ac]at hlt;omega
   have hg:=hget x hlt' hx0;have hdx:dE y[x]=true:=by rw[hg];exact hd _ (AJ _)
   obtain⟨_,d1,d3,d4⟩:=ME hdx;have hs:List.foldl cm 0 (List.take (x+1 - cg y) (ay y))=cm (List.foldl cm 0 (List.take (x - cg y) (ay y))) y[x]:=by
     rw[show x+1 - cg y=(x - cg y)+1 by omega,Ky _ _ (by omega),hg]
   have hm:aI.μ (ju y) (x+1)<aI.μ (ju y) x:=by
     show y.length - (x+1)<y.length - x
     omega
   refine⟨by rw[iq];omega,y[x],by simp[hlt'],?_,?_,fun h1=>⟨cu x (by omega),x+1,⟨by omega,by omega,hd⟩,hm,?_⟩,fun h1=>⟨cu x (by omega),x+1,⟨by omega,by omega,hd⟩,hm,?_⟩⟩
   . rw[d1,iq];omega
   . rw[d1,iq];omega
   . refine⟨trivial,trivial,?_,by simp[ak]⟩;rw[d1]at h1;rw[hs];simp only[cm,ak];omega
   . refine⟨trivial,trivial,?_,by simp[ak]⟩;rw[d1]at h1;rw[hs,d1];simp only[cm,ak];omega
 . have he:x=y.length:=by simp only[Ac]at hge;omega
   subst he;rw[show y.length - cg y=(ay y).length by omega,Bp]at*;rw[FV hne hd];unfold cg
   cases hn:cK y
   . simp[ak]
   . simp only[if_true];refine⟨fun _=>⟨by rw[iq];omega,by simp[ak]⟩,fun h=>by simp at h⟩
theorem Yx:CO nr tq:=bZ (cfg:=fun y=>bW cj (cD nr 3 (mc y))) bC (fun _=>rfl) (fun _=>iD) (n:=400) (by
 rw[XP];intro s hpre;refine⟨⟨0,by simp,⟨rfl,by simp[ak],rfl,trivial⟩,trivial,trivial⟩,?_⟩;intro i hi;have hle:=xq s;simp only[ah,au,ag,cr,fc,Ad,Ah,DE];refine⟨fun hlt=>?_,fun hge=>?_⟩
 . have hlt':i<s.length:=by simp only[Ac]at hlt;omega
   have hm:aI.μ (mc s) (i+1)<aI.μ (mc s) i:=by
     show s.length - (i+1)<s.length - i
     omega
   have no:dE s[i]=false->dv s<=i:=by
     intro h;apply Bk;intro hn;obtain⟨_,h2⟩:=Kq (show i<dv s by omega);rw[h2]at h
     cases h
   have step:∀(n:Int),n=Int.ofNat (min (i+1) (dv s))->n=Int.ofNat (min (i+1) (dv s)):=fun _ h=>h
   refine⟨fun hq=>⟨s[i],by simp[hlt'],fun h1=>⟨s[i],by simp[hlt'],fun h2=>⟨by rw[iq];simp only[Ac];omega,cu i (by omega),i+1,by omega,hm,trivial,?_,by simp[ak]⟩,fun h2=>⟨cu i (by omega),i+1,by omega,hm,trivial,?_,by simp[ak]⟩⟩,fun h1=>⟨cu i (by omega),i+1,by omega,hm,trivial,?_,by simp[ak]⟩⟩,fun hq=>⟨cu i (by omega),i+1,by omega,hm,trivial,?_,by simp[ak]⟩⟩
   . have hd:dE s[i]=true:=by rw[pA];exact⟨h1,h2⟩
     have:¬dv s<=i:=by
      intro hn;simp only[Ac,BP]at hq;have he:dv s=i:=by omega
      have h3:=CP (s:=s) (by omega);simp only[he]at h3;rw[hd]at h3
      cases h3
     simp only[ak,Ac];omega
   . have hd:dE s[i]=false:=by rw[Av];intro h;rw[pA]at h;exact h2 h.2
     have:=no hd;simp only[ak,Ac];omega
   . have hd:dE s[i]=false:=by rw[Av];intro h;rw[pA]at h;exact h1 h.1
     have:=no hd;simp only[ak,Ac];omega
   . simp only[Ac,Dm]at hq;simp only[ak,Ac];omega
 . simp only[Ac]at hge;simp only[ak,Ac];omega)
theorem Su {s:Bs} {c:Int} {a i:Nat} (hai:a<=i) (h:i<s.length) (h1:nB s[i]=c) (h2:∀(j:Nat) (h:j<s.length),a<=j->j<i->nB s[j]=c->False):aW (s.drop a) c=(s.drop a).take (i - a)::aW (s.drop (i+1)) c:=by
 have hp:cN (s.drop a) c=some (i - a):=fv.2 ⟨by simp;omega,by rw[Df];simp only[show a+(i - a)=i by omega];exact h1,fun j hj=>by
  rw[Df];exact fun e=>h2 (a+j) (by omega) (by omega) (by omega) e⟩
 rw[wO,hp];simp only[EG];rw[show a+(i - a+1)=i+1 by omega]
theorem Sv {s:Bs} {c:Int} {a:Nat} (h2:∀(j:Nat) (h:j<s.length),a<=j->nB s[j]=c->False):aW (s.drop a) c=[s.drop a]:=by
 have hp:cN (s.drop a) c=none:=jr.2 (fun j hj=>by
  rw[Df];exact fun e=>h2 (a+j) (by simp at hj;omega) (by omega) e)
 rw[wO,hp]
theorem VG:CO nC sZ:=bZ (cfg:=fun y=>bW cj (cD nC 4 (sT y))) bC (fun _=>rfl) (fun _=>iD) (n:=400) (by
 rw[WE];rintro⟨s,c⟩ hpre;simp only at hpre;refine⟨⟨(0,0,[]),⟨by simp,by simp,by simp,by simp,fun j h _ hj=>by simp at hj⟩,⟨rfl,rfl,trivial,rfl,rfl,trivial⟩,⟨rfl,trivial⟩,trivial⟩,?_⟩;rintro⟨a,i,l⟩ ⟨h1,h2,h3,h4,h5⟩;simp only at h1 h2 h3 h4 h5;simp only[ah,au,ag,cr,Ad,Ah,DE,Dv];refine⟨fun hlt=>?_,fun hge=>?_⟩
 . have hlt':i<s.length:=by simp only[Ac]at hlt;omega
   refine⟨s[i],by simp[hlt'],fun hc=>?_,fun hc=>⟨cu i (by omega),(a,i+1,l),⟨by simp only;omega,by simp only;omega,h3,h4,fun j hj ha hji he=>?_⟩,?_,by simp[ak]⟩⟩
   . have hc':nB s[i]=c:=by simpa [nB]using hc
     have hs:=Su h1 hlt' hc' h5;refine⟨by simp;omega,_,rfl,by simp;omega,cu i (by omega),cu i (by omega),(i+1,i+1,l++[(s.drop a).take (i - a)]),⟨by simp,by simp only;omega,?_,by simp;omega,fun j hj ha hji=>by simp only at ha hji;omega⟩,?_,by simp[ak]⟩
     . rw[h3,hs];simp
     . show s.length - (i+1)<s.length - i
       omega
   . by_cases hji2:j=i
     . subst hji2;exact absurd he (by simpa [nB]using hc)
     . exact h5 j hj ha (by simp only at hji;omega) he
   . show s.length - (i+1)<s.length - i
     omega
 . have he:i=s.length:=by simp only[Ac]at hge;omega
   subst he;refine⟨by simpa using h1,_,rfl,by simp;omega,?_⟩;rw[h3,Sv (fun j hj ha=>h5 j hj ha hj)])
theorem sD {y:Bs} (h:cK y=true):ay y=y.drop 1:=by unfold ay;rw[if_pos h]
theorem uw {y:Bs} (h:cK y=false):ay y=y:=by unfold ay;rw[if_neg (by simp[h])]
theorem nZ {b:UInt8} {y:Bs}:cK (b::y)=(Int.ofNat b.toNat==45):=rfl
theorem wv {y:Bs} (h:¬(↑(dv y):Int)<Int.ofNat y.length):∀b∈y,dE b=true:=wM (by simp only[Ac]at h;omega)
theorem Ct:∀g C,tw g=some C->CO g C:=bR ZX (bR Yx KO)
theorem PB:CO nm lC:=bZ (cfg:=fun y=>bW tw (cD nm 8 (jd y))) bC (fun _=>rfl) (fun _=>Ct) (n:=400) (by
 rw[OX];intro y hpre
 cases y with
 |nil=>
  have hn:bu []=(0,false):=rfl;refine ah.2 ⟨fun h=>by simp at h,fun _=>ah.2 ⟨fun _=>by rw[hn];exact⟨rfl,rfl,trivial⟩,fun h=>by simp at h⟩⟩
 |cons b s=>
  refine ah.2 ⟨fun _=>au.2 ⟨b,rfl,ah.2 ⟨fun hb=>ag.2 ⟨by simp,ah.2 ⟨fun h=>?_,fun h=>⟨s,rfl,by simp at hpre;omega,ah.2 ⟨fun hd=>?_,fun hd=>?_⟩⟩⟩⟩,fun hb=>ah.2 ⟨fun h=>by simp at h,fun _=>⟨b::s,rfl,hpre,ah.2 ⟨fun hd=>?_,fun hd=>?_⟩⟩⟩⟩⟩,fun h=>by simp at h⟩
  . have hg:cK (b::s)=true:=by rw[nZ];exact hb
    have he:ay (b::s)=[]:=by rw[sD hg];simpa using h
    rw[tf (.inl he)];exact⟨rfl,rfl,trivial⟩
  . have hg:cK (b::s)=true:=by rw[nZ];exact hb
    rw[cr,Ad]at hd;rw[tf (.inr (by rw[sD hg];simp only[Ac]at hd;simp at hd⊢;omega))];exact⟨rfl,rfl,trivial⟩
  . have hg:cK (b::s)=true:=by rw[nZ];exact hb
    rw[cr,Ah]at hd;have ha:=sD hg;exact Lu _ _ _ ha.symm (by rw[if_pos hg]) (by rw[ha];simpa using h) (by rw[ha];exact wv hd) (by rw[ha];simp at hpre⊢;omega)
  . have hg:cK (b::s)=false:=by rw[nZ];exact hb
    rw[cr,Ad]at hd;rw[tf (.inr (by rw[uw hg];simp only[Ac]at hd;omega))];exact⟨rfl,rfl,trivial⟩
  . have hg:cK (b::s)=false:=by rw[nZ];exact hb
    rw[cr,Ah]at hd;have ha:=uw hg;exact Lu _ _ _ ha.symm (by rw[if_neg (by simp[hg])]) (by rw[ha];simp) (by rw[ha];exact wv hd) (by rw[ha];exact hpre))
theorem Zt:CO nu lC:=bZ (cfg:=fun y=>bW tw (cD nu 8 (ju y))) bC (fun _=>rfl) (fun _=>Ct) (n:=400) (by
 rw[OI];intro y hpre
 cases y with
 |nil=>
  have hn:bu []=(0,false):=rfl;refine ah.2 ⟨fun h=>by simp[cr]at h,fun _=>ah.2 ⟨fun _=>by rw[hn];exact⟨rfl,rfl,trivial⟩,fun h=>by simp at h⟩⟩
 |cons b s=>
  have hbig:s.length+1<=1000000:=by simpa using hpre
  have hln:Int.ofNat (b::s).length=(s.length:Int)+1:=by simp
  rw[hln];refine ah.2 ⟨fun _=>au.2 ⟨b,rfl,ah.2 ⟨fun hb=>ah.2 ⟨fun h=>?_,fun h=>ag.2 ⟨by simp,s,rfl,by omega,ag.2 ⟨by rw[iq];omega,ah.2 ⟨fun hd=>?_,fun hd=>?_⟩⟩⟩⟩,fun hb=>ah.2 ⟨fun h=>by simp at h;omega,fun _=>⟨b::s,rfl,hpre,ag.2 ⟨by rw[iq];omega,ah.2 ⟨fun hd=>?_,fun hd=>?_⟩⟩⟩⟩⟩⟩,fun h=>by rw[cr]at h;simp at h<;>omega⟩
  . have hg:cK (b::s)=true:=by rw[nZ];exact hb
    have hs:s=[]:=by simp at h;exact AP (by omega)
    rw[tf (.inl (by rw[sD hg];simpa using hs))];exact⟨rfl,rfl,trivial⟩
  . have hg:cK (b::s)=true:=by rw[nZ];exact hb
    rw[cr,Ad]at hd;rw[tf (.inr (by rw[sD hg];simp at hd⊢;omega))];exact⟨rfl,rfl,trivial⟩
  . have hg:cK (b::s)=true:=by rw[nZ];exact hb
    rw[cr,Ah]at hd;have ha:=sD hg;have:=Kh (b::s) 1 (by unfold cg;rw[if_pos hg];rfl) (by rw[ha];intro e;simp at e;subst e;simp at h) (by rw[ha];exact wv (by simp at hd⊢;omega)) hpre;rw[hln]at this;exact this
  . have hg:cK (b::s)=false:=by rw[nZ];exact hb
    rw[cr,Ad]at hd;rw[tf (.inr (by rw[uw hg];simp at hd⊢;omega))];exact⟨rfl,rfl,trivial⟩
  . have hg:cK (b::s)=false:=by rw[nZ];exact hb
    rw[cr,Ah]at hd;have ha:=uw hg;have:=Kh (b::s) 0 (by unfold cg;rw[if_neg (by simp[hg])];rfl) (by rw[ha];simp) (by rw[ha];exact wv (by simp at hd⊢;omega)) hpre;rw[hln]at this;exact this)
theorem Lg (k n:Nat) (h:n<=9):lP (k+1) n=[UInt8.ofNat (48+n)]:=by simp[lP,h]
theorem Zy:CO nI GB:=bZ (cfg:=fun y=>bW cj (cD nI 6 (yE y))) bC (fun _=>rfl) (fun _=>iD) (n:=400) (by
 rw[OL];intro n hpre;have hpre:n<=1099511627776:=hpre;refine⟨⟨(30,n,[]),⟨by simp,by simp,by simp[jO],by simp,?_,Ai _⟩,⟨rfl,rfl,trivial⟩,trivial,trivial⟩,?_⟩
 . exact Nat.lt_of_le_of_lt hpre (by show 1099511627776<10 ^ 31;decide)
 rintro⟨k,m,s⟩ ⟨h1,h2,h3,h4,h5,h6⟩;simp only at h1 h2 h3 h4 h5 h6;have wr:∀d:Nat,d<=9->[SV.int Go.IntKind.u8 (Go.IntKind.wrap Go.IntKind.u8 (48+(d:Int)))]=qS [UInt8.ofNat (48+d)]:=by
   intro d hd;have:Go.IntKind.wrap Go.IntKind.u8 (48+(d:Int))=Int.ofNat (UInt8.ofNat (48+d)).toNat:=by
    simp only[IntKind.wrap,IntKind.signed,IntKind.bits,Bb,Ak,AB,UInt8.toNat_ofNat',Ac];omega
   rw[this];rfl
 have hk:9<m->1<=k:=by
   intro hm;apply Bk;intro hn;have:k=0:=by omega
   subst this;simp at h5;omega
 have tm:Int.tmod (m:Int) 10=((m % 10:Nat):Int):=rfl;have td:Int.tdiv (m:Int) 10=((m / 10:Nat):Int):=rfl;simp only[tm,td];refine ah.2 ⟨fun h=>ag.2 ⟨?_,[UInt8.ofNat (48+m % 10)],wr _ (by omega),ag.2 ⟨by simp;omega,ag.2 ⟨?_,(k - 1,m / 10,UInt8.ofNat (48+m % 10)::s),⟨by simp only;omega,?_,?_,?_,?_,?_⟩,?_,⟨rfl,rfl,trivial⟩,trivial,trivial⟩⟩⟩,fun h=>ag.2 ⟨?_,[UInt8.ofNat (48+m)],wr _ ?_,ag.2 ⟨by simp;omega,?_,trivial⟩⟩⟩
 . rw[iq];omega
 . rw[iq];omega
 all_goals (simp only[cr,Ad,Ah]at h)
 . have:=hk (by omega);simp;omega
 . have:=hk (by omega);rw[h3,show 10+k=(10+(k - 1))+1 by omega];have hm:¬m<=9:=by omega
   simp only[lP,if_neg hm];simp
 . have:=hk (by omega);simp;omega
 . have:=hk (by omega);simp only;rw[show k - 1+1=k by omega];rw[Nat.pow_succ]at h5;omega
 . simp only;omega
 . show m / 10<m
   omega
 . rw[iq];omega
 . omega
 . rw[h3,show 10+k=(9+k)+1 by omega,Lg _ _ (by omega)])
theorem VF:∀g C,NA g=some C->CO g C:=bR PB (bR Zt (bR YA (bR VG (bR Zy Ct))))
end
section
variable [Inhabited aL]
def F3:aN:={Y:=UInt8×Bool,pre:=fun _=>True,args:=fun y=>[.int .u8 (nB y.1), .bool y.2],res:=fun y=> .bool (gF (nB y.1) y.2)}
def GA:aN:={Y:=UInt8,pre:=fun _=>True,args:=fun y=>[.int .u8 (nB y)],res:=fun y=> .bool (ir y)}
def gn (p:Bs->Bool):aN:={Y:=Bs,pre:=fun y=>y.length<=100000,args:=fun y=>[.str y],res:=fun y=> .bool (p y)}
def pI (y:Bs):aI:={α:=Nat,ok:=fun i=>i<=y.length/\ ∀j (h:j<y.length),j<i->gF (nB y[j]) (j==0||j==y.length - 1)=true,μ:=fun i=>y.length - i,aX:=[],aS:=fun i=>[(0, .str y),(12,i64 (Int.ofNat y.length)),(13,i64 i)],bw:=fun _=>[]}
def pL (y:Bs):aI:={α:=Nat,ok:=fun i=>i<=(aW y 46).length/\ ∀j (h:j<(aW y 46).length),j<i->gT (aW y 46)[j]=true,μ:=fun i=>(aW y 46).length - i,aX:=[],aS:=fun i=>[(13,strs (aW y 46)),(14,i64 (Int.ofNat (aW y 46).length)),(15,i64 i)],bw:=fun _=>[]}
def ia (y:Bs):aI:=let l:=(y.drop 1).take (y.length - 2);{α:=Nat,ok:=fun i=>i<=l.length/\ ∀j (h:j<l.length),j<i->dm l[j]=true,μ:=fun i=>l.length - i,aX:=[],aS:=fun i=>[(31, .ar UInt8 l dh),(32,i64 (Int.ofNat l.length)),(33,i64 i)],bw:=fun _=>[]}
def ig (y:Bs):aI:={α:=Nat,ok:=fun i=>1<=i/\i+1<=y.length/\ ∀j (h:j<y.length),1<=j->j<i->dm y[j]=true,μ:=fun i=>y.length - i,aX:=[],aS:=fun i=>[(0, .str y),(3,i64 i)],bw:=fun _=>[]}
def yD (y:Bs):aI:={α:=Nat,ok:=fun i=>i<=(aW y 46).length/\ ∀j (h:j<(aW y 46).length),j<i->fh (aW y 46)[j]=true,μ:=fun i=>(aW y 46).length - i,aX:=[],aS:=fun i=>[(13,strs (aW y 46)),(14,i64 (Int.ofNat (aW y 46).length)),(15,i64 i)],bw:=fun _=>[]}
def C9:aN:={Y:=Bs,pre:=fun y=>y.length<=100000,args:=fun y=>[.str y],res:=fun y=>strs (if eL y then aW y 46 else[])}
def sM:aN:={Y:=Bs×Bs,pre:=fun y=>y.1.length<=100000/\y.2.length<=100000,args:=fun y=>[.str y.1, .str y.2],res:=fun y=> .bool (decide (y.1.take y.2.length=y.2))}
def F1:aN:={Y:=Bs,pre:=fun y=>y.length<=100000,args:=fun y=>[.str y],res:=fun y=> .bG [.agg [.str (gv y).1, .bool (gv y).2.1, .bool (gv y).2.2], .bool (jG y)]}
def oU (l:List Bs):Int:=if 256<l.length then 3 else if l.all jG then 0 else 1
def C8:aN:={Y:=List Bs,pre:=fun y=>y.length<=100000/\ ∀s∈y,s.length<=100000,args:=fun y=>[strs y],res:=fun y=>i64 (oU y)}
def xF (y:List Bs):aI:={α:=Nat,ok:=fun i=>i<=y.length/\ ∀j (h:j<y.length),j<i->jG y[j]=true,μ:=fun i=>y.length - i,aX:=[],aS:=fun i=>[(10,strs y),(11,i64 (Int.ofNat y.length)),(12,i64 i)],bw:=fun _=>[]}
def xG (y:Bs):aI:={α:=Nat,ok:=fun i=>i<=y.length/\ ∀j (h:j<y.length),j<i->ir y[j]=true,μ:=fun i=>y.length - i,aX:=[],aS:=fun i=>[(0, .str y),(3,i64 i)],bw:=fun _=>[]}
def xU (y:Bs):aI:={α:=Nat,ok:=fun i=>i<=4/\ ∀j (h:j<(aW y 46).length),j<i->gT (aW y 46)[j]=true,μ:=fun i=>4 - i,aX:=[],aS:=fun i=>[(3,strs (aW y 46)),(4,i64 i)],bw:=fun _=>[]}
def xW (y:Bs):aI:={α:=Nat,ok:=fun i=>i<=(aW y 46).length/\ ∀j (h:j<(aW y 46).length),j<i->fh (aW y 46)[j]=true,μ:=fun i=>(aW y 46).length - i,aX:=[],aS:=fun i=>[(3,strs (aW y 46)),(4,i64 i)],bw:=fun _=>[]}
noncomputable def mj (f:FuncId):Option aN:=bif Nat.beq f G1 then some F3 else bif Nat.beq f GU then some GA else NA f
noncomputable def pR (f:FuncId):Option aN:=bif Nat.beq f nG then some (gn fh)else bif Nat.beq f nD then some (gn fh)else bif Nat.beq f nN then some (gn fK)else bif Nat.beq f nK then some (gn fK)else bif Nat.beq f nq then some (gn fx)else bif Nat.beq f nf then some (gn fx)else mj f
noncomputable def yl (f:FuncId):Option aN:=bif Nat.beq f rB then some (gn il)else bif Nat.beq f rz then some (gn il)else bif Nat.beq f nJ then some (gn eL)else pR f
noncomputable def tA (f:FuncId):Option aN:=bif Nat.beq f nO then some (gn eL)else bif Nat.beq f Hc then some sM else yl f
noncomputable def ym (f:FuncId):Option aN:=bif Nat.beq f rJ then some C9 else bif Nat.beq f ri then some sM else tA f
noncomputable def yn (f:FuncId):Option aN:=bif Nat.beq f rE then some F1 else ym f
noncomputable def ND (f:FuncId):Option aN:=bif Nat.beq f ny then some C8 else yn f
end
section
variable [Inhabited aL]
theorem YZ:(cf (fun(y:aN.Y F3)=>bW cj (cW y)) 400 G1)=(∀(y:UInt8×Bool),True->br (nB y.1==45) (br y.2 (false=gF (nB y.1) y.2/\True) (true=gF (nB y.1) y.2/\True)) (br (bV 97 (nB y.1)) (br (bV (nB y.1) 122) (true=gF (nB y.1) y.2/\True) (br (bV 48 (nB y.1)) (br (bV (nB y.1) 57) (true=gF (nB y.1) y.2/\True) (br (nB y.1==95) (true=gF (nB y.1) y.2/\True) (false=gF (nB y.1) y.2/\True))) (br (nB y.1==95) (true=gF (nB y.1) y.2/\True) (false=gF (nB y.1) y.2/\True)))) (br (bV 48 (nB y.1)) (br (bV (nB y.1) 57) (true=gF (nB y.1) y.2/\True) (br (nB y.1==95) (true=gF (nB y.1) y.2/\True) (false=gF (nB y.1) y.2/\True))) (br (nB y.1==95) (true=gF (nB y.1) y.2/\True) (false=gF (nB y.1) y.2/\True))))):=by kernel_rfl
theorem OK:(cf (fun(y:aN.Y GA)=>bW cj (cW y)) 400 GU)=(∀(y:UInt8),True->br (bV 97 (nB y)) (br (bV (nB y) 122) (true=ir y/\True) (br (bV 48 (nB y)) (br (bV (nB y) 57) (true=ir y/\True) (br (nB y==45) (true=ir y/\True) ((nB y==95)=ir y/\True))) (br (nB y==45) (true=ir y/\True) ((nB y==95)=ir y/\True)))) (br (bV 48 (nB y)) (br (bV (nB y) 57) (true=ir y/\True) (br (nB y==45) (true=ir y/\True) ((nB y==95)=ir y/\True))) (br (nB y==45) (true=ir y/\True) ((nB y==95)=ir y/\True)))):=by kernel_rfl
theorem XS:(cf (fun(y:aN.Y (gn fh))=>bW mj (cD nG 4 (pI y))) 400 nG)=(∀(y:List UInt8),y.length<=100000->br (y==Array.toList (ByteArray.data {data:=#[]})) (false=fh y/\True) (br (bI 63 (Int.ofNat y.length)) (false=fh y/\True) ((∃(x:Nat),(x<=y.length/\ ∀(j:Nat) (h:j<y.length),j<x->gF (nB y[j]) (j==0||j==y.length - 1)=true)/\(y=y/\ak (Int.ofNat y.length) (Int.ofNat y.length)/\ak 0 ↑x/\True)/\True/\True)/\ ∀(x:Nat),(x<=y.length/\ ∀(j:Nat) (h:j<y.length),j<x->gF (nB y[j]) (j==0||j==y.length - 1)=true)->br (bI (↑x) (Int.ofNat y.length)) (so y[Int.toNat ↑x]? fun(val:UInt8)=>br ((↑x:Int)==0) (∃(z:UInt8×Bool),ak (Int.ofNat (UInt8.toNat val)) (nB z.1)/\true=z.2/\True/\br (!gF (nB z.1) z.2) (false=fh y/\True) (ck (bq .i64 (↑x+1)) (∃(u:Nat),(u<=y.length/\ ∀(j:Nat) (h:j<y.length),j<u->gF (nB y[j]) (j==0||j==y.length - 1)=true)/\aI.μ (pI y) u<aI.μ (pI y) x/\(y=y/\ak (Int.ofNat y.length) (Int.ofNat y.length)/\ak (↑x+1) ↑u/\True)/\True/\True))) (ck (bq .i64 (Int.ofNat y.length - 1)) (∃(z:UInt8×Bool),ak (Int.ofNat (UInt8.toNat val)) (nB z.1)/\((↑x:Int)==Int.ofNat y.length - 1)=z.2/\True/\br (!gF (nB z.1) z.2) (false=fh y/\True) (ck (bq .i64 (↑x+1)) (∃(u:Nat),(u<=y.length/\ ∀(j:Nat) (h:j<y.length),j<u->gF (nB y[j]) (j==0||j==y.length - 1)=true)/\aI.μ (pI y) u<aI.μ (pI y) x/\(y=y/\ak (Int.ofNat y.length) (Int.ofNat y.length)/\ak (↑x+1) ↑u/\True)/\True/\True))))) (true=fh y/\True)))):=by kernel_rfl
theorem Xf:(cf (fun(y:aN.Y (gn fh))=>bW mj (cD nD 4 (xG y))) 400 nD)=(∀(y:List UInt8),y.length<=100000->br (bI (Int.ofNat y.length) 1) (false=fh y/\True) (br (bI 63 (Int.ofNat y.length)) (false=fh y/\True) (so y[Int.toNat 0]? fun(val:UInt8)=>br (Int.ofNat (UInt8.toNat val)==45) (false=fh y/\True) (ck (bq .i64 (Int.ofNat y.length - 1)) (ck (nn (Int.ofNat y.length - 1)) (so y[Int.toNat (Int.ofNat y.length - 1)]? fun(val:UInt8)=>br (Int.ofNat (UInt8.toNat val)==45) (false=fh y/\True) ((∃(x:Nat),(x<=y.length/\ ∀(j:Nat) (h:j<y.length),j<x->ir y[j]=true)/\(y=y/\ak 0 ↑x/\True)/\True/\True)/\ ∀(x:Nat),(x<=y.length/\ ∀(j:Nat) (h:j<y.length),j<x->ir y[j]=true)->br (bI (↑x) (Int.ofNat y.length)) (so y[Int.toNat ↑x]? fun(val:UInt8)=>∃(u:UInt8),ak (Int.ofNat (UInt8.toNat val)) (nB u)/\True/\br (!ir u) (false=fh y/\True) (ck (bq .i64 (↑x+1)) (∃(z:Nat),(z<=y.length/\ ∀(j:Nat) (h:j<y.length),j<z->ir y[j]=true)/\aI.μ (xG y) z<aI.μ (xG y) x/\(y=y/\ak (↑x+1) ↑z/\True)/\True/\True))) (true=fh y/\True)))))))):=by kernel_rfl
theorem OB:(cf (fun(y:aN.Y (gn fK))=>bW mj (cD nN 5 (pL y))) 400 nN)=(∀(y:List UInt8),y.length<=100000->∃(z:Bs×Int),y=z.1/\ak 46 z.2/\z.1.length<=100000/\br (!Int.ofNat (List.length (aW z.1 z.2))==4) (false=fK y/\True) ((∃(x:Nat),(x<=List.length (aW y 46)/\ ∀(j:Nat) (h:j<List.length (aW y 46)),j<x->gT (aW y 46)[j]=true)/\(SV.ar Bs (aW z.1 z.2) aU=SV.ar Bs (aW y 46) aU/\ak (Int.ofNat (List.length (aW z.1 z.2))) (Int.ofNat (List.length (aW y 46)))/\ak 0 ↑x/\True)/\True/\True)/\ ∀(x:Nat),(x<=List.length (aW y 46)/\ ∀(j:Nat) (h:j<List.length (aW y 46)),j<x->gT (aW y 46)[j]=true)->br (bI (↑x) (Int.ofNat (List.length (aW y 46)))) (so (aW y 46)[Int.toNat ↑x]? fun(val:Bs)=>∃(w:List UInt8),val=w/\w.length<=1000000/\br (val==Array.toList (ByteArray.data {data:=#[]})) (false=fK y/\True) (∃(v:List UInt8),val=v/\v.length<=1000000/\br (bI (↑(dv v)) (Int.ofNat val.length)) (false=fK y/\True) (br (bI 255 (Prod.fst (bu w))) (false=fK y/\True) (br (bI 1 (Int.ofNat val.length)) (so val[Int.toNat 0]? fun(val:UInt8)=>br (Int.ofNat (UInt8.toNat val)==48) (false=fK y/\True) (ck (bq .i64 (↑x+1)) (∃(u:Nat),(u<=List.length (aW y 46)/\ ∀(j:Nat) (h:j<List.length (aW y 46)),j<u->gT (aW y 46)[j]=true)/\aI.μ (pL y) u<aI.μ (pL y) x/\(SV.ar Bs (aW y 46) aU=SV.ar Bs (aW y 46) aU/\ak (Int.ofNat (List.length (aW y 46))) (Int.ofNat (List.length (aW y 46)))/\ak (↑x+1) ↑u/\True)/\True/\True))) (ck (bq .i64 (↑x+1)) (∃(u:Nat),(u<=List.length (aW y 46)/\ ∀(j:Nat) (h:j<List.length (aW y 46)),j<u->gT (aW y 46)[j]=true)/\aI.μ (pL y) u<aI.μ (pL y) x/\(SV.ar Bs (aW y 46) aU=SV.ar Bs (aW y 46) aU/\ak (Int.ofNat (List.length (aW y 46))) (Int.ofNat (List.length (aW y 46)))/\ak (↑x+1) ↑u/\True)/\True/\True)))))) (true=fK y/\True))):=by kernel_rfl
theorem XR:(cf (fun(y:aN.Y (gn fK))=>bW mj (cD nK 5 (xU y))) 400 nK)=(∀(y:List UInt8),y.length<=100000->∃(z:Bs×Int),y=z.1/\ak 46 z.2/\z.1.length<=100000/\br (!Int.ofNat (List.length (aW z.1 z.2))==4) (false=fK y/\True) ((∃(x:Nat),(x<=4/\ ∀(j:Nat) (h:j<List.length (aW y 46)),j<x->gT (aW y 46)[j]=true)/\(SV.ar Bs (aW z.1 z.2) aU=SV.ar Bs (aW y 46) aU/\ak 0 ↑x/\True)/\True/\True)/\ ∀(x:Nat),(x<=4/\ ∀(j:Nat) (h:j<List.length (aW y 46)),j<x->gT (aW y 46)[j]=true)->br (bI (↑x) 4) (so (aW y 46)[Int.toNat ↑x]? fun(val:Bs)=>br (bI (Int.ofNat val.length) 1) (false=fK y/\True) (so (aW y 46)[Int.toNat ↑x]? fun(val:Bs)=>br (bI 3 (Int.ofNat val.length)) (false=fK y/\True) (so (aW y 46)[Int.toNat ↑x]? fun(val:Bs)=>so (aW y 46)[Int.toNat ↑x]? fun(b:Bs)=>∃(w:List UInt8),val=w/\w.length<=1000000/\br (!↑(dv w)==Int.ofNat b.length) (false=fK y/\True) (so (aW y 46)[Int.toNat ↑x]? fun(val:Bs)=>∃(u:List UInt8),val=u/\u.length<=1000000/\br (bI 255 (Prod.fst (bu u))) (false=fK y/\True) (so (aW y 46)[Int.toNat ↑x]? fun(val:Bs)=>∃(a:Nat),ak (Prod.fst (bu u)) ↑a/\a<=1099511627776/\br (!jO a==val) (false=fK y/\True) (ck (bq .i64 (↑x+1)) (∃(v:Nat),(v<=4/\ ∀(j:Nat) (h:j<List.length (aW y 46)),j<v->gT (aW y 46)[j]=true)/\aI.μ (xU y) v<aI.μ (xU y) x/\(SV.ar Bs (aW y 46) aU=SV.ar Bs (aW y 46) aU/\ak (↑x+1) ↑v/\True)/\True/\True))))))) (true=fK y/\True))):=by kernel_rfl
theorem Ym:(cf (fun(y:aN.Y (gn fx))=>bW mj (cD nq 4 (ia y))) 400 nq)=(∀(y:List UInt8),y.length<=100000->br (bI (Int.ofNat y.length) 4) (false=fx y/\True) (br (bI 47 (Int.ofNat y.length)) (false=fx y/\True) (so y[Int.toNat 0]? fun(val:UInt8)=>br (!Int.ofNat (UInt8.toNat val)==91) (false=fx y/\True) (ck (bq .i64 (Int.ofNat y.length - 1)) (ck (nn (Int.ofNat y.length - 1)) (so y[Int.toNat (Int.ofNat y.length - 1)]? fun(val:UInt8)=>br (!Int.ofNat (UInt8.toNat val)==93) (false=fx y/\True) (ck (bq .i64 (Int.ofNat y.length - 1)) (ck (nn (Int.ofNat y.length - 1)) (ck (Nat.ble (Int.toNat 1) (Int.toNat (Int.ofNat y.length - 1))&&Nat.ble (Int.toNat (Int.ofNat y.length - 1)) y.length) ((∃(x:Nat),(x<=List.length (List.take (y.length - 2) (List.drop 1 y))/\ ∀(j:Nat) (h:j<List.length (List.take (y.length - 2) (List.drop 1 y))),j<x->dm (List.take (y.length - 2) (List.drop 1 y))[j]=true)/\(SV.ar UInt8 (List.take (Int.toNat (Int.ofNat y.length - 1) - Int.toNat 1) (List.drop (Int.toNat 1) y)) dh=SV.ar UInt8 (List.take (y.length - 2) (List.drop 1 y)) dh/\ak (Int.ofNat (List.length (List.take (Int.toNat (Int.ofNat y.length - 1) - Int.toNat 1) (List.drop (Int.toNat 1) y)))) (Int.ofNat (List.length (List.take (y.length - 2) (List.drop 1 y))))/\ak 0 ↑x/\True)/\True/\True)/\ ∀(x:Nat),(x<=List.length (List.take (y.length - 2) (List.drop 1 y))/\ ∀(j:Nat) (h:j<List.length (List.take (y.length - 2) (List.drop 1 y))),j<x->dm (List.take (y.length - 2) (List.drop 1 y))[j]=true)->br (bI (↑x) (Int.ofNat (List.length (List.take (y.length - 2) (List.drop 1 y))))) (so (List.take (y.length - 2) (List.drop 1 y))[Int.toNat ↑x]? fun(val:UInt8)=>br (bV 48 (Int.ofNat (UInt8.toNat val))) (br (bV (Int.ofNat (UInt8.toNat val)) 57) (ck (bq .i64 (↑x+1)) (∃(z:Nat),(z<=List.length (List.take (y.length - 2) (List.drop 1 y))/\ ∀(j:Nat) (h:j<List.length (List.take (y.length - 2) (List.drop 1 y))),j<z->dm (List.take (y.length - 2) (List.drop 1 y))[j]=true)/\aI.μ (ia y) z<aI.μ (ia y) x/\(SV.ar UInt8 (List.take (y.length - 2) (List.drop 1 y)) dh=SV.ar UInt8 (List.take (y.length - 2) (List.drop 1 y)) dh/\ak (Int.ofNat (List.length (List.take (y.length - 2) (List.drop 1 y)))) (Int.ofNat (List.length (List.take (y.length - 2) (List.drop 1 y))))/\ak (↑x+1) ↑z/\True)/\True/\True)) (br (bV 97 (Int.ofNat (UInt8.toNat val))) (br (bV (Int.ofNat (UInt8.toNat val)) 102) (ck (bq .i64 (↑x+1)) (∃(z:Nat),(z<=List.length (List.take (y.length - 2) (List.drop 1 y))/\ ∀(j:Nat) (h:j<List.length (List.take (y.length - 2) (List.drop 1 y))),j<z->dm (List.take (y.length - 2) (List.drop 1 y))[j]=true)/\aI.μ (ia y) z<aI.μ (ia y) x/\(SV.ar UInt8 (List.take (y.length - 2) (List.drop 1 y)) dh=SV.ar UInt8 (List.take (y.length - 2) (List.drop 1 y)) dh/\ak (Int.ofNat (List.length (List.take (y.length - 2) (List.drop 1 y)))) (Int.ofNat (List.length (List.take (y.length - 2) (List.drop 1 y))))/\ak (↑x+1) ↑z/\True)/\True/\True)) (br (Int.ofNat (UInt8.toNat val)==58) (ck (bq .i64 (↑x+1)) (∃(z:Nat),(z<=List.length (List.take (y.length - 2) (List.drop 1 y))/\ ∀(j:Nat) (h:j<List.length (List.take (y.length - 2) (List.drop 1 y))),j<z->dm (List.take (y.length - 2) (List.drop 1 y))[j]=true)/\aI.μ (ia y) z<aI.μ (ia y) x/\(SV.ar UInt8 (List.take (y.length - 2) (List.drop 1 y)) dh=SV.ar UInt8 (List.take (y.length - 2) (List.drop 1 y)) dh/\ak (Int.ofNat (List.length (List.take (y.length - 2) (List.drop 1 y)))) (Int.ofNat (List.length (List.take (y.length - 2) (List.drop 1 y))))/\ak (↑x+1) ↑z/\True)/\True/\True)) (br (!Int.ofNat (UInt8.toNat val)==46) (false=fx y/\True) (ck (bq .i64 (↑x+1)) (∃(z:Nat),(z<=List.length (List.take (y.length - 2) (List.drop 1 y))/\ ∀(j:Nat) (h:j<List.length (List.take (y.length - 2) (List.drop 1 y))),j<z->dm (List.take (y.length - 2) (List.drop 1 y))[j]=true)/\aI.μ (ia y) z<aI.μ (ia y) x/\(SV.ar UInt8 (List.take (y.length - 2) (List.drop 1 y)) dh=SV.ar UInt8 (List.take (y.length - 2) (List.drop 1 y)) dh/\ak (Int.ofNat (List.length (List.take (y.length - 2) (List.drop 1 y)))) (Int.ofNat (List.length (List.take (y.length - 2) (List.drop 1 y))))/\ak (↑x+1) ↑z/\True)/\True/\True))))) (br (Int.ofNat (UInt8.toNat val)==58) (ck (bq .i64 (↑x+1)) (∃(z:Nat),(z<=List.length (List.take (y.length - 2) (List.drop 1 y))/\ ∀(j:Nat) (h:j<List.length (List.take (y.length - 2) (List.drop 1 y))),j<z->dm (List.take (y.length - 2) (List.drop 1 y))[j]=true)/\aI.μ (ia y) z<aI.μ (ia y) x/\(SV.ar UInt8 (List.take (y.length - 2) (List.drop 1 y)) dh=SV.ar UInt8 (List.take (y.length - 2) (List.drop 1 y)) dh/\ak (Int.ofNat (List.length (List.take (y.length - 2) (List.drop 1 y)))) (Int.ofNat (List.length (List.take (y.length - 2) (List.drop 1 y))))/\ak (↑x+1) ↑z/\True)/\True/\True)) (br (!Int.ofNat (UInt8.toNat val)==46) (false=fx y/\True) (ck (bq .i64 (↑x+1)) (∃(z:Nat),(z<=List.length (List.take (y.length - 2) (List.drop 1 y))/\ ∀(j:Nat) (h:j<List.length (List.take (y.length - 2) (List.drop 1 y))),j<z->dm (List.take (y.length - 2) (List.drop 1 y))[j]=true)/\aI.μ (ia y) z<aI.μ (ia y) x/\(SV.ar UInt8 (List.take (y.length - 2) (List.drop 1 y)) dh=SV.ar UInt8 (List.take (y.length - 2) (List.drop 1 y)) dh/\ak (Int.ofNat (List.length (List.take (y.length - 2) (List.drop 1 y)))) (Int.ofNat (List.length (List.take (y.length - 2) (List.drop 1 y))))/\ak (↑x+1) ↑z/\True)/\True/\True)))))) (br (bV 97 (Int.ofNat (UInt8.toNat val))) (br (bV (Int.ofNat (UInt8.toNat val)) 102) (ck (bq .i64 (↑x+1)) (∃(z:Nat),(z<=List.length (List.take (y.length - 2) (List.drop 1 y))/\ ∀(j:Nat) (h:j<List.length (List.take (y.length - 2) (List.drop 1 y))),j<z->dm (List.take (y.length - 2) (List.drop 1 y))[j]=true)/\aI.μ (ia y) z<aI.μ (ia y) x/\(SV.ar UInt8 (List.take (y.length - 2) (List.drop 1 y)) dh=SV.ar UInt8 (List.take (y.length - 2) (List.drop 1 y)) dh/\ak (Int.ofNat (List.length (List.take (y.length - 2) (List.drop 1 y)))) (Int.ofNat (List.length (List.take (y.length - 2) (List.drop 1 y))))/\ak (↑x+1) ↑z/\True)/\True/\True)) (br (Int.ofNat (UInt8.toNat val)==58) (ck (bq .i64 (↑x+1)) (∃(z:Nat),(z<=List.length (List.take (y.length - 2) (List.drop 1 y))/\ ∀(j:Nat) (h:j<List.length (List.take (y.length - 2) (List.drop 1 y))),j<z->dm (List.take (y.length - 2) (List.drop 1 y))[j]=true)/\aI.μ (ia y) z<aI.μ (ia y) x/\(SV.ar UInt8 (List.take (y.length - 2) (List.drop 1 y)) dh=SV.ar UInt8 (List.take (y.length - 2) (List.drop 1 y)) dh/\ak (Int.ofNat (List.length (List.take (y.length - 2) (List.drop 1 y)))) (Int.ofNat (List.length (List.take (y.length - 2) (List.drop 1 y))))/\ak (↑x+1) ↑z/\True)/\True/\True)) (br (!Int.ofNat (UInt8.toNat val)==46) (false=fx y/\True) (ck (bq .i64 (↑x+1)) (∃(z:Nat),(z<=List.length (List.take (y.length - 2) (List.drop 1 y))/\ ∀(j:Nat) (h:j<List.length (List.take (y.length - 2) (List.drop 1 y))),j<z->dm (List.take (y.length - 2) (List.drop 1 y))[j]=true)/\aI.μ (ia y) z<aI.μ (ia y) x/\(SV.ar UInt8 (List.take (y.length - 2) (List.drop 1 y)) dh=SV.ar UInt8 (List.take (y.length - 2) (List.drop 1 y)) dh/\ak (Int.ofNat (List.length (List.take (y.length - 2) (List.drop 1 y)))) (Int.ofNat (List.length (List.take (y.length - 2) (List.drop 1 y))))/\ak (↑x+1) ↑z/\True)/\True/\True))))) (br (Int.ofNat (UInt8.toNat val)==58) (ck (bq .i64 (↑x+1)) (∃(z:Nat),(z<=List.length (List.take (y.length - 2) (List.drop 1 y))/\ ∀(j:Nat) (h:j<List.length (List.take (y.length - 2) (List.drop 1 y))),j<z->dm (List.take (y.length - 2) (List.drop 1 y))[j]=true)/\aI.μ (ia y) z<aI.μ (ia y) x/\(SV.ar UInt8 (List.take (y.length - 2) (List.drop 1 y)) dh=SV.ar UInt8 (List.take (y.length - 2) (List.drop 1 y)) dh/\ak (Int.ofNat (List.length (List.take (y.length - 2) (List.drop 1 y)))) (Int.ofNat (List.length (List.take (y.length - 2) (List.drop 1 y))))/\ak (↑x+1) ↑z/\True)/\True/\True)) (br (!Int.ofNat (UInt8.toNat val)==46) (false=fx y/\True) (ck (bq .i64 (↑x+1)) (∃(z:Nat),(z<=List.length (List.take (y.length - 2) (List.drop 1 y))/\ ∀(j:Nat) (h:j<List.length (List.take (y.length - 2) (List.drop 1 y))),j<z->dm (List.take (y.length - 2) (List.drop 1 y))[j]=true)/\aI.μ (ia y) z<aI.μ (ia y) x/\(SV.ar UInt8 (List.take (y.length - 2) (List.drop 1 y)) dh=SV.ar UInt8 (List.take (y.length - 2) (List.drop 1 y)) dh/\ak (Int.ofNat (List.length (List.take (y.length - 2) (List.drop 1 y)))) (Int.ofNat (List.length (List.take (y.length - 2) (List.drop 1 y))))/\ak (↑x+1) ↑z/\True)/\True/\True)))))) (true=fx y/\True))))))))))):=by kernel_rfl
theorem Xb:(cf (fun(y:aN.Y (gn fx))=>bW cj (cD nf 4 (ig y))) 400 nf)=(∀(y:List UInt8),y.length<=100000->br (bI (Int.ofNat y.length) 4) (false=fx y/\True) (br (bI 47 (Int.ofNat y.length)) (false=fx y/\True) (so y[Int.toNat 0]? fun(val:UInt8)=>br (!Int.ofNat (UInt8.toNat val)==91) (false=fx y/\True) (ck (bq .i64 (Int.ofNat y.length - 1)) (ck (nn (Int.ofNat y.length - 1)) (so y[Int.toNat (Int.ofNat y.length - 1)]? fun(val:UInt8)=>br (!Int.ofNat (UInt8.toNat val)==93) (false=fx y/\True) ((∃(x:Nat),(1<=x/\x+1<=y.length/\ ∀(j:Nat) (h:j<y.length),1<=j->j<x->dm y[j]=true)/\(y=y/\ak 1 ↑x/\True)/\True/\True)/\ ∀(x:Nat),(1<=x/\x+1<=y.length/\ ∀(j:Nat) (h:j<y.length),1<=j->j<x->dm y[j]=true)->ck (bq .i64 (Int.ofNat y.length - 1)) (br (bI (↑x) (Int.ofNat y.length - 1)) (so y[Int.toNat ↑x]? fun(val:UInt8)=>br (bV 48 (Int.ofNat (UInt8.toNat val))) (br (bV (Int.ofNat (UInt8.toNat val)) 57) (ck (bq .i64 (↑x+1)) (∃(z:Nat),(1<=z/\z+1<=y.length/\ ∀(j:Nat) (h:j<y.length),1<=j->j<z->dm y[j]=true)/\aI.μ (ig y) z<aI.μ (ig y) x/\(y=y/\ak (↑x+1) ↑z/\True)/\True/\True)) (br (bV 97 (Int.ofNat (UInt8.toNat val))) (br (bV (Int.ofNat (UInt8.toNat val)) 102) (ck (bq .i64 (↑x+1)) (∃(z:Nat),(1<=z/\z+1<=y.length/\ ∀(j:Nat) (h:j<y.length),1<=j->j<z->dm y[j]=true)/\aI.μ (ig y) z<aI.μ (ig y) x/\(y=y/\ak (↑x+1) ↑z/\True)/\True/\True)) (br (Int.ofNat (UInt8.toNat val)==58) (ck (bq .i64 (↑x+1)) (∃(z:Nat),(1<=z/\z+1<=y.length/\ ∀(j:Nat) (h:j<y.length),1<=j->j<z->dm y[j]=true)/\aI.μ (ig y) z<aI.μ (ig y) x/\(y=y/\ak (↑x+1) ↑z/\True)/\True/\True)) (br (!Int.ofNat (UInt8.toNat val)==46) (false=fx y/\True) (ck (bq .i64 (↑x+1)) (∃(z:Nat),(1<=z/\z+1<=y.length/\ ∀(j:Nat) (h:j<y.length),1<=j->j<z->dm y[j]=true)/\aI.μ (ig y) z<aI.μ (ig y) x/\(y=y/\ak (↑x+1) ↑z/\True)/\True/\True))))) (br (Int.ofNat (UInt8.toNat val)==58) (ck (bq .i64 (↑x+1)) (∃(z:Nat),(1<=z/\z+1<=y.length/\ ∀(j:Nat) (h:j<y.length),1<=j->j<z->dm y[j]=true)/\aI.μ (ig y) z<aI.μ (ig y) x/\(y=y/\ak (↑x+1) ↑z/\True)/\True/\True)) (br (!Int.ofNat (UInt8.toNat val)==46) (false=fx y/\True) (ck (bq .i64 (↑x+1)) (∃(z:Nat),(1<=z/\z+1<=y.length/\ ∀(j:Nat) (h:j<y.length),1<=j->j<z->dm y[j]=true)/\aI.μ (ig y) z<aI.μ (ig y) x/\(y=y/\ak (↑x+1) ↑z/\True)/\True/\True)))))) (br (bV 97 (Int.ofNat (UInt8.toNat val))) (br (bV (Int.ofNat (UInt8.toNat val)) 102) (ck (bq .i64 (↑x+1)) (∃(z:Nat),(1<=z/\z+1<=y.length/\ ∀(j:Nat) (h:j<y.length),1<=j->j<z->dm y[j]=true)/\aI.μ (ig y) z<aI.μ (ig y) x/\(y=y/\ak (↑x+1) ↑z/\True)/\True/\True)) (br (Int.ofNat (UInt8.toNat val)==58) (ck (bq .i64 (↑x+1)) (∃(z:Nat),(1<=z/\z+1<=y.length/\ ∀(j:Nat) (h:j<y.length),1<=j->j<z->dm y[j]=true)/\aI.μ (ig y) z<aI.μ (ig y) x/\(y=y/\ak (↑x+1) ↑z/\True)/\True/\True)) (br (!Int.ofNat (UInt8.toNat val)==46) (false=fx y/\True) (ck (bq .i64 (↑x+1)) (∃(z:Nat),(1<=z/\z+1<=y.length/\ ∀(j:Nat) (h:j<y.length),1<=j->j<z->dm y[j]=true)/\aI.μ (ig y) z<aI.μ (ig y) x/\(y=y/\ak (↑x+1) ↑z/\True)/\True/\True))))) (br (Int.ofNat (UInt8.toNat val)==58) (ck (bq .i64 (↑x+1)) (∃(z:Nat),(1<=z/\z+1<=y.length/\ ∀(j:Nat) (h:j<y.length),1<=j->j<z->dm y[j]=true)/\aI.μ (ig y) z<aI.μ (ig y) x/\(y=y/\ak (↑x+1) ↑z/\True)/\True/\True)) (br (!Int.ofNat (UInt8.toNat val)==46) (false=fx y/\True) (ck (bq .i64 (↑x+1)) (∃(z:Nat),(1<=z/\z+1<=y.length/\ ∀(j:Nat) (h:j<y.length),1<=j->j<z->dm y[j]=true)/\aI.μ (ig y) z<aI.μ (ig y) x/\(y=y/\ak (↑x+1) ↑z/\True)/\True/\True)))))) (true=fx y/\True))))))))):=by kernel_rfl
theorem Yl:(cf (fun(y:aN.Y (gn il))=>bW pR (cW y)) 400 rz)=(∀(y:List UInt8),y.length<=100000->∃(z:List UInt8),y=z/\z.length<=100000/\br (fK z) (true=il y/\True) (∃(u:List UInt8),y=u/\u.length<=100000/\fx u=il y/\True)):=by kernel_rfl
theorem Ov:(cf (fun(y:aN.Y (gn il))=>bW pR (cW y)) 400 rB)=(∀(y:List UInt8),y.length<=100000->∃(z:List UInt8),y=z/\z.length<=100000/\br (fK z) (true=il y/\True) (∃(u:List UInt8),y=u/\u.length<=100000/\fx u=il y/\True)):=by kernel_rfl
theorem OH:(cf (fun(y:aN.Y (gn eL))=>bW yl (cD nO 4 (yD y))) 400 nO)=(∀(y:List UInt8),y.length<=100000->br (bI 256 (Int.ofNat y.length)) (false=eL y/\True) (∃(w:List UInt8),y=w/\w.length<=100000/\br (il w) (false=eL y/\True) (∃(z:Bs×Int),y=z.1/\ak 46 z.2/\z.1.length<=100000/\(∃(x:Nat),(x<=List.length (aW y 46)/\ ∀(j:Nat) (h:j<List.length (aW y 46)),j<x->fh (aW y 46)[j]=true)/\(SV.ar Bs (aW z.1 z.2) aU=SV.ar Bs (aW y 46) aU/\ak (Int.ofNat (List.length (aW z.1 z.2))) (Int.ofNat (List.length (aW y 46)))/\ak 0 ↑x/\True)/\True/\True)/\ ∀(x:Nat),(x<=List.length (aW y 46)/\ ∀(j:Nat) (h:j<List.length (aW y 46)),j<x->fh (aW y 46)[j]=true)->br (bI (↑x) (Int.ofNat (List.length (aW y 46)))) (so (aW y 46)[Int.toNat ↑x]? fun(val:Bs)=>∃(v:List UInt8),val=v/\v.length<=100000/\br (!fh v) (false=eL y/\True) (ck (bq .i64 (↑x+1)) (∃(u:Nat),(u<=List.length (aW y 46)/\ ∀(j:Nat) (h:j<List.length (aW y 46)),j<u->fh (aW y 46)[j]=true)/\aI.μ (yD y) u<aI.μ (yD y) x/\(SV.ar Bs (aW y 46) aU=SV.ar Bs (aW y 46) aU/\ak (Int.ofNat (List.length (aW y 46))) (Int.ofNat (List.length (aW y 46)))/\ak (↑x+1) ↑u/\True)/\True/\True))) (true=eL y/\True)))):=by kernel_rfl
theorem XV:(cf (fun(y:aN.Y (gn eL))=>bW pR (cD nJ 5 (xW y))) 400 nJ)=(∀(y:List UInt8),y.length<=100000->br (bI 256 (Int.ofNat y.length)) (false=eL y/\True) (∃(w:List UInt8),y=w/\w.length<=100000/\br (fK w) (false=eL y/\True) (∃(z:Bs×Int),y=z.1/\ak 46 z.2/\z.1.length<=100000/\(∃(x:Nat),(x<=List.length (aW y 46)/\ ∀(j:Nat) (h:j<List.length (aW y 46)),j<x->fh (aW y 46)[j]=true)/\(SV.ar Bs (aW z.1 z.2) aU=SV.ar Bs (aW y 46) aU/\ak 0 ↑x/\True)/\True/\True)/\ ∀(x:Nat),(x<=List.length (aW y 46)/\ ∀(j:Nat) (h:j<List.length (aW y 46)),j<x->fh (aW y 46)[j]=true)->br (bI (↑x) (Int.ofNat (List.length (aW y 46)))) (so (aW y 46)[Int.toNat ↑x]? fun(val:Bs)=>∃(v:List UInt8),val=v/\v.length<=100000/\br (!fh v) (false=eL y/\True) (ck (bq .i64 (↑x+1)) (∃(u:Nat),(u<=List.length (aW y 46)/\ ∀(j:Nat) (h:j<List.length (aW y 46)),j<u->fh (aW y 46)[j]=true)/\aI.μ (xW y) u<aI.μ (xW y) x/\(SV.ar Bs (aW y 46) aU=SV.ar Bs (aW y 46) aU/\ak (↑x+1) ↑u/\True)/\True/\True))) (true=eL y/\True)))):=by kernel_rfl
theorem WC:(cf (fun(y:aN.Y sM)=>bW cj (cW y)) 400 Hc)=(∀(y:Bs×Bs),y.1.length<=100000/\y.2.length<=100000->br (bV (Int.ofNat y.2.length) (Int.ofNat y.1.length)) (ck (Nat.ble (Int.toNat (Int.ofNat y.2.length)) y.1.length) ((List.take (Int.toNat (Int.ofNat y.2.length)) y.1==y.2)=decide (List.take y.2.length y.1=y.2)/\True)) (false=decide (List.take y.2.length y.1=y.2)/\True)):=by kernel_rfl
theorem UA:(cf (fun(y:aN.Y sM)=>bW tA (cW y)) 400 ri)=(∀(y:Bs×Bs),y.1.length<=100000/\y.2.length<=100000->∃(z:Bs×Bs),y.1=z.1/\y.2=z.2/\(z.1.length<=100000/\z.2.length<=100000)/\decide (List.take z.2.length z.1=z.2)=decide (List.take y.2.length y.1=y.2)/\True):=by kernel_rfl
theorem Xg:(cf (fun(y:aN.Y C9)=>bW tA (cW y)) 400 rJ)=(∀(y:List UInt8),y.length<=100000->∃(u:List UInt8),y=u/\u.length<=100000/\br (!eL u) ((if eL y=true then aW y 46 else[])=[]/\True) (∃(z:Bs×Int),y=z.1/\ak 46 z.2/\z.1.length<=100000/\SV.ar Bs (aW z.1 z.2) aU=SV.ar Bs (if eL y=true then aW y 46 else[]) aU/\True)):=by kernel_rfl
theorem XX:(cf (fun(y:aN.Y F1)=>bW ym (cW y)) 400 rE)=(∀(y:List UInt8),y.length<=100000->∃(v:Bs×Bs),y=v.1/\Array.toList (ByteArray.data {data:=#[42,46]})=v.2/\(v.1.length<=100000/\v.2.length<=100000)/\br (decide (List.take v.2.length v.1=v.2)) (ck (Nat.ble (Int.toNat 2) y.length) (∃(z:List UInt8),List.drop (Int.toNat 2) y=z/\z.length<=100000/\br (bI 0 (Int.ofNat (List.length (if eL z=true then aW z 46 else[])))) (List.drop (Int.toNat 2) y=Prod.fst (gv y)/\true=Prod.fst (Prod.snd (gv y))/\false=Prod.snd (Prod.snd (gv y))/\true=jG y/\True) (List.drop (Int.toNat 2) y=Prod.fst (gv y)/\true=Prod.fst (Prod.snd (gv y))/\false=Prod.snd (Prod.snd (gv y))/\false=jG y/\True))) (∃(z:Bs×Bs),y=z.1/\Array.toList (ByteArray.data {data:=#[33]})=z.2/\(z.1.length<=100000/\z.2.length<=100000)/\br (decide (List.take z.2.length z.1=z.2)) (ck (Nat.ble (Int.toNat 1) y.length) (∃(u:List UInt8),List.drop (Int.toNat 1) y=u/\u.length<=100000/\br (bI 0 (Int.ofNat (List.length (if eL u=true then aW u 46 else[])))) (List.drop (Int.toNat 1) y=Prod.fst (gv y)/\false=Prod.fst (Prod.snd (gv y))/\true=Prod.snd (Prod.snd (gv y))/\bI 1 (Int.ofNat (List.length (if eL u=true then aW u 46 else[])))=jG y/\True) (List.drop (Int.toNat 1) y=Prod.fst (gv y)/\false=Prod.fst (Prod.snd (gv y))/\true=Prod.snd (Prod.snd (gv y))/\false=jG y/\True))) (∃(u:List UInt8),y=u/\u.length<=100000/\br (bI 0 (Int.ofNat (List.length (if eL u=true then aW u 46 else[])))) (y=Prod.fst (gv y)/\false=Prod.fst (Prod.snd (gv y))/\false=Prod.snd (Prod.snd (gv y))/\true=jG y/\True) (y=Prod.fst (gv y)/\false=Prod.fst (Prod.snd (gv y))/\false=Prod.snd (Prod.snd (gv y))/\false=jG y/\True)))):=by kernel_rfl
theorem Xd:(cf (fun(y:aN.Y C8)=>bW yn (cD ny 4 (xF y))) 400 ny)=(∀(y:List Bs),(y.length<=100000/\ ∀(s:Bs),s∈y->s.length<=100000)->br (bI 256 (Int.ofNat y.length)) (ak 3 (oU y)/\True) ((∃(x:Nat),(x<=y.length/\ ∀(j:Nat) (h:j<y.length),j<x->jG y[j]=true)/\(SV.ar Bs y aU=SV.ar Bs y aU/\ak (Int.ofNat y.length) (Int.ofNat y.length)/\ak 0 ↑x/\True)/\True/\True)/\ ∀(x:Nat),(x<=y.length/\ ∀(j:Nat) (h:j<y.length),j<x->jG y[j]=true)->br (bI (↑x) (Int.ofNat y.length)) (so y[Int.toNat ↑x]? fun(val:Bs)=>∃(u:List UInt8),val=u/\u.length<=100000/\br (!jG u) (ak 1 (oU y)/\True) (ck (bq .i64 (↑x+1)) (∃(z:Nat),(z<=y.length/\ ∀(j:Nat) (h:j<y.length),j<z->jG y[j]=true)/\aI.μ (xF y) z<aI.μ (xF y) x/\(SV.ar Bs y aU=SV.ar Bs y aU/\ak (Int.ofNat y.length) (Int.ofNat y.length)/\ak (↑x+1) ↑z/\True)/\True/\True))) (ak 0 (oU y)/\True))):=by kernel_rfl
end
section
variable [Inhabited aL]
section
variable {α:Type} {l:List α} {p:α->Bool} {x:Nat}
theorem qt (h:∀(j:Nat) (h:j<l.length),j<x->p l[j]=true) (hx:¬(x:Int)<Int.ofNat l.length):l.all p=true:=by
 rw[AI];intro a ha;obtain⟨j,hj,rfl⟩:=Bn ha;exact h j hj (by simp only[Ac]at hx;omega)
theorem sE (h:x<l.length) (hp:p l[x]=false):l.all p=false:=by
 rw[Av];intro ha;rw[AI]at ha;rw[ha _ (AJ h)]at hp
 cases hp
theorem qu (h:∀(j:Nat) (h:j<l.length),j<x->p l[j]=true) (hx:x<l.length) (hp:p l[x]=true):∀(j:Nat) (h:j<l.length),j<x+1->p l[j]=true:=by
 intro j hj hjx;by_cases e:j=x
 . subst e;exact hp
 . exact h j hj (by omega)
end
theorem cB {x n:Nat} (h:bI (x:Int) (Int.ofNat n)=true):x<n:=by
 rw[cr,Ad,Ac]at h;omega
theorem gQ {x n:Nat} (h:bI (x:Int) (Int.ofNat n)=false):¬(x:Int)<Int.ofNat n:=by
 rw[cr,Ah]at h;exact h
theorem cO {α:Type} {l:List α} {x:Nat} (h:x<l.length):l[Int.toNat (x:Int)]? =some l[x]:=by simp[h]
theorem X1:CO G1 F3:=bZ (cfg:=fun y=>bW cj (cW y)) bC (fun _=>rfl) (fun _=>iD) (n:=400) (by
 rw[YZ];rintro⟨b,e⟩ -;simp only[ah,fc,gF,DE,Ad,Ah,BP,Dm];refine⟨fun h=>⟨fun h2=>by simp[h,h2],fun h2=>by simp[h,h2]⟩,fun h=>⟨fun h1=>⟨fun h2=>?_,fun h2=>⟨fun h3=>⟨fun h4=>?_,fun h4=>⟨fun h5=>?_,fun h5=>?_⟩⟩,fun h3=>⟨fun h5=>?_,fun h5=>?_⟩⟩⟩,fun h1=>⟨fun h3=>⟨fun h4=>?_,fun h4=>⟨fun h5=>?_,fun h5=>?_⟩⟩,fun h3=>⟨fun h5=>?_,fun h5=>?_⟩⟩⟩⟩
 all_goals (simp_all<;>omega))
theorem Zx:CO GU GA:=bZ (cfg:=fun y=>bW cj (cW y)) bC (fun _=>rfl) (fun _=>iD) (n:=400) (by
 rw[OK];intro b _;simp only[ah,fc,ir,DE,Ad,Ah,BP,Dm];refine⟨fun h1=>⟨fun h2=>?_,fun h2=>⟨fun h3=>⟨fun h4=>?_,fun h4=>⟨fun h5=>?_,fun h5=>?_⟩⟩,fun h3=>⟨fun h5=>?_,fun h5=>?_⟩⟩⟩,fun h1=>⟨fun h3=>⟨fun h4=>?_,fun h4=>⟨fun h5=>?_,fun h5=>?_⟩⟩,fun h3=>⟨fun h5=>?_,fun h5=>?_⟩⟩⟩
 all_goals (simp_all<;>omega))
theorem sI:∀g C,mj g=some C->CO g C:=bR X1 (bR Zx VF)
theorem xf (b:UInt8) (e:Bool):gF (nB b) e=(ir b&& !(nB b==45&&e)):=by
 unfold gF ir;by_cases h:nB b=45
 . simp[h]
 . have:(nB b==45)=false:=by simpa using h
   simp[h,this]
theorem ko (b:UInt8):b=45↔nB b=45:=⟨fun h=>by rw[h];rfl,fun h=>uX (h.trans rfl)⟩
theorem J8 (s:Bs) (h0:s≠[]) (h63:s.length<=63):fh s=true↔∀(j:Nat) (h:j<s.length),gF (nB s[j]) (j==0||j==s.length - 1)=true:=by
 have hp:0<s.length:=A4.2 h0;have hhd:s.head? =some s[0]:=by rw[Dz];simp[hp]
 have htl:s.getLast? =some (s[s.length - 1]'(by omega)):=by rw[Er];simp[hp]
 unfold fh;rw[hhd,htl];simp only[Aa,bne_iff_ne,ne_eq,h0,Bl,Ad,h63,true_and,AI,AX];constructor
 . rintro⟨⟨h1,h2⟩,h3⟩ j hj;rw[xf,h1 _ (AJ hj)];by_cases e0:j=0
   . subst e0;rw[ko]at h2;simp[h2]
   . by_cases e1:j=s.length - 1
     . subst e1;rw[ko]at h3;simp[h3]
     . simp[e0,e1]
 . intro h;refine⟨⟨fun b hb=>?_,?_⟩,?_⟩
   . obtain⟨j,hj,rfl⟩:=Bn hb;have:=h j hj;rw[xf,Aa]at this;exact this.1
   . have:=h 0 hp;rw[xf,Aa]at this;rw[ko];have h2:=this.2;simpa using h2
   . have:=h (s.length - 1) (by omega);rw[xf,Aa]at this;rw[ko];have h2:=this.2;simpa using h2
theorem JG {s:Bs} (h0:s≠[]) (h63:s.length<=63) {x:Nat} (h:x<s.length) (hx:gF (nB s[x]) (x==0||x==s.length - 1)=false):fh s=false:=by
 rw[Av];intro hl;rw[(J8 s h0 h63).1 hl x h]at hx
 cases hx
theorem J7 {s:Bs} (h:63<s.length):fh s=false:=by
 unfold fh;have:decide (s.length<=63)=false:=by simp;omega
 simp[this]
theorem YC:CO nG (gn fh):=bZ (cfg:=fun y=>bW mj (cD nG 4 (pI y))) bC (fun _=>rfl) (fun _=>sI) (n:=400) (by
 rw[XS];intro s hpre;have hpre:s.length<=100000:=hpre;refine ah.2 ⟨fun h=>?_,fun h=>ah.2 ⟨fun h2=>?_,fun h2=>⟨⟨0,⟨by simp,fun j h hj=>by omega⟩,⟨rfl,rfl,rfl,trivial⟩,trivial,trivial⟩,?_⟩⟩⟩
 . have:s=[]:=by simpa using h
   subst this;exact⟨rfl,trivial⟩
 . rw[cr,Ad,Ac]at h2;exact⟨(J7 (by omega)).symm,trivial⟩
 have h0:s≠[]:=by simpa using h
 have h63:s.length<=63:=by
   rw[cr,Ah,Ac]at h2;omega
 rintro x ⟨hx,hall⟩;refine ah.2 ⟨fun hlt=>au.2 ⟨_,cO (cB hlt),?_⟩,fun hge=>⟨((J8 s h0 h63).2 fun j hj=>hall j hj (by have:=gQ hge;simp only[Ac]at this;omega)).symm,trivial⟩⟩;have hlt':=cB hlt;have next:gF (nB s[x]) (x==0||x==s.length - 1)=true->∃(y_2:Nat),(y_2<=s.length/\ ∀(j:Nat) (h:j<s.length),j<y_2->gF (nB s[j]) (j==0||j==s.length - 1)=true)/\(pI s).μ y_2<(pI s).μ x/\(s=s/\ak (Int.ofNat s.length) (Int.ofNat s.length)/\ak (↑x+1) ↑y_2/\True)/\True/\True:=by
   intro he;refine⟨x+1,⟨by omega,fun j hj hjx=>?_⟩,?_,⟨rfl,rfl,by simp[ak],trivial⟩,trivial,trivial⟩
   . by_cases e:j=x
     . subst e;exact he
     . exact hall j hj (by omega)
   . show s.length - (x+1)<s.length - x
     omega
 refine ah.2 ⟨fun hx0=>⟨(s[x],true),rfl,rfl,trivial,ah.2 ⟨fun hs=>?_,fun hs=>ag.2 ⟨cu x (by omega),next ?_⟩⟩⟩,fun hx0=>ag.2 ⟨by rw[iq,Ac];omega,(s[x],(x:Int)==Int.ofNat s.length - 1),rfl,rfl,trivial,ah.2 ⟨fun hs=>?_,fun hs=>ag.2 ⟨cu x (by omega),next ?_⟩⟩⟩⟩
 . have:x=0:=by simpa using hx0
   subst this;exact⟨(JG h0 h63 hlt' (by simpa using hs)).symm,trivial⟩
 . have:x=0:=by simpa using hx0
   subst this;simpa using hs
 . have hx1:¬x=0:=by simpa using hx0
   have e:((x:Int)==Int.ofNat s.length - 1)=(x==0||x==s.length - 1):=by
     rw[A2];simp[hx1];omega
   rw[e]at hs;exact⟨(JG h0 h63 hlt' (by simpa using hs)).symm,trivial⟩
 . have hx1:¬x=0:=by simpa using hx0
   have e:((x:Int)==Int.ofNat s.length - 1)=(x==0||x==s.length - 1):=by
     rw[A2];simp[hx1];omega
   rw[e]at hs;simpa using hs)
theorem Jb {s:Bs} {x:Nat} (h:x<s.length) (hx:ir s[x]=false):fh s=false:=by
 unfold fh;rw[sE h hx];simp
theorem V5:CO nD (gn fh):=bZ (cfg:=fun y=>bW mj (cD nD 4 (xG y))) bC (fun _=>rfl) (fun _=>sI) (n:=400) (by
 rw[Xf];intro s hpre;have hpre:s.length<=100000:=hpre;refine ah.2 ⟨fun h=>?_,fun h=>ah.2 ⟨fun h2=>?_,fun h2=>?_⟩⟩
 . rw[cr,Ad,Ac]at h;have:s=[]:=AP (by omega);subst this;exact⟨rfl,trivial⟩
 . rw[cr,Ad,Ac]at h2;exact⟨(J7 (by omega)).symm,trivial⟩
 rw[cr,Ah,Ac]at h h2;have hp:0<s.length:=by omega
 have h0:s≠[]:=A4.1 hp;have hhd:s.head? =some s[0]:=by rw[Dz];simp[hp]
 have htl:s.getLast? =some (s[s.length - 1]'(by omega)):=by rw[Er];simp[hp]
 have hlast:s[Int.toNat (Int.ofNat s.length - 1)]? =some (s[s.length - 1]'(by omega)):=by
   rw[show Int.toNat (Int.ofNat s.length - 1)=s.length - 1 by rw[Ac];omega];simp[hp]
 refine au.2 ⟨s[0],by simp[hp],ah.2 ⟨fun h3=>?_,fun h3=>ag.2 ⟨by rw[iq,Ac];omega,ag.2 ⟨by rw[lO,Ad,Ac];omega,au.2 ⟨_,hlast,ah.2 ⟨fun h4=>?_,fun h4=>⟨⟨0,⟨by simp,fun j h hj=>by omega⟩,⟨rfl,rfl,trivial⟩,trivial,trivial⟩,?_⟩⟩⟩⟩⟩⟩⟩
 . have:s[0]=45:=by rw[ko];simpa [nB]using h3
   refine⟨?_,trivial⟩;unfold fh;rw[hhd,this];simp
 . have:s[s.length - 1]'(by omega)=45:=by rw[ko];simpa [nB]using h4
   refine⟨?_,trivial⟩;unfold fh;rw[htl,this];simp
 rintro x ⟨hx,hall⟩;refine ah.2 ⟨fun hlt=>au.2 ⟨_,cO (cB hlt),s[x]'(cB hlt),rfl,trivial,ah.2 ⟨fun hs=>⟨(Jb (cB hlt) (by simpa using hs)).symm,trivial⟩,fun hs=>ag.2 ⟨cu x (by have:=cB hlt;omega),x+1,⟨cB hlt,qu hall (cB hlt) (by simpa using hs)⟩,?_,⟨rfl,by simp[ak],trivial⟩,trivial,trivial⟩⟩⟩,fun hge=>⟨?_,trivial⟩⟩
 . have:=cB hlt;show s.length - (x+1)<s.length - x
   omega
 . have ha:=qt hall (gQ hge);have n1:s[0]≠45:=by intro e;rw[ko]at e;simp[nB]at e h3;exact h3 e
   have n2:(s[s.length - 1]'(by omega))≠45:=by intro e;rw[ko]at e;simp[nB]at e h4;exact h4 e
   unfold fh;rw[ha,hhd,htl];simp[h0,n1,n2];omega)
theorem Mo {p:Bs} (h0:p≠[]) (hd:∀b∈p,dE b=true):bu p=(p.foldl cm 0,true):=by
 cases p with
 |nil=>exact absurd rfl h0
 | cons b s=>
  have hb:=(pA b).1 (hd b An);have hn:cK (b::s)=false:=by
   show(nB b==45)=false
   rw[Dm];omega
  have ha:=uw hn;rw[FV (by rw[ha];simp) (by rw[ha];exact hd),ha,hn];simp
theorem sL {b:UInt8} {n:Nat} (h:nB b=48+(n:Int)):UInt8.ofNat (48+n)=b:=by
 apply uX;have:=VQ b;rw[h];unfold nB;rw[UInt8.toNat_ofNat'];rw[Nat.mod_eq_of_lt (by omega)];simp
theorem nX {b:UInt8} (h:dE b=true):∃d:Nat,d<=9/\nB b=48+(d:Int):=by
 rw[pA]at h;exact⟨(nB b - 48).toNat,by omega,by omega⟩
theorem nS {n:Int} {b:UInt8} {d:Nat} (hb:nB b=48+(d:Int)) (hd:d<=9) (h0:0<=n) (hn:n<=100000):cm n b=n*10+d:=by
 unfold cm;rw[hb];omega
theorem Xi (s:Bs) (hd:∀b∈s,dE b=true):∀n:Int,1000<=n->n<=1099511627776->1000<=s.foldl cm n:=by
 induction s with
 |nil=>intro n h _;exact h
 |cons b s ih=>
  intro n h1 h2;have hb:=(pA b).1 (hd b An);refine ih (fun c hc=>hd c (Ao _ hc)) _ ?_ ?_<;>unfold cm<;>omega
theorem GJ (d:Nat) (h:d<=9):jO d=[UInt8.ofNat (48+d)]:=by unfold jO;exact Lg 39 d h
theorem HW (n:Nat) (h:9<n) (h2:n<=99):jO n=[UInt8.ofNat (48+n / 10),UInt8.ofNat (48+n % 10)]:=by
 unfold jO;show lP (39+1) n=_
 have:¬n<=9:=by omega
 simp only[lP,if_neg this];rw[if_pos (by omega)];rfl
theorem PC (n:Nat) (h:99<n) (h2:n<=999):jO n=[UInt8.ofNat (48+n / 100),UInt8.ofNat (48+n / 10 % 10),UInt8.ofNat (48+n % 10)]:=by
 unfold jO;show lP (39+1) n=_
 have h3:¬n<=9:=by omega
 have h4:¬n / 10<=9:=by omega
 simp only[lP,if_neg h3,if_neg h4];rw[if_pos (by omega)];rw[show n / 10 / 10=n / 100 by omega];rfl
theorem VL {p:Bs} (h1:1<=p.length) (hd:dv p=p.length):0<=(bu p).1/\(bu p).1<=1099511627776:=by
 have hdd:∀b∈p,dE b=true:=wM (by omega);rw[Mo (A4.1 h1) hdd];exact I9 p hdd 0 (by omega) (by omega)
theorem Cb {p:Bs} (h1:1<=p.length) (hd:dv p=p.length) (h2:(bu p).1<=255):(decide (1<p.length)&&p.head? ==some 48)=false↔(p.length<=3/\jO (bu p).1.toNat=p):=by
 have hdd:∀b∈p,dE b=true:=wM (by omega);rw[Mo (A4.1 h1) hdd]at h2⊢;simp only at h2⊢;have e48:∀b:UInt8,b=48↔nB b=48:=fun b=>⟨fun h=>by rw[h];rfl,fun h=>uX (h.trans rfl)⟩
 match p,h1 with
 |[a],_=>
  obtain⟨d,d9,hb⟩:=nX (hdd a (by simp));simp only[Bt,Ej,nS hb d9 (E2 0) (by omega)];rw[show((0:Int)*10+(d:Int)).toNat=d by omega,GJ d d9,sL hb];simp
 |[a,b],_=>
  obtain⟨d,d9,hb⟩:=nX (hdd a (by simp));obtain⟨d2,d29,hb2⟩:=nX (hdd b (by simp));simp only[Bt,Ej,nS hb d9 (E2 0) (by omega)];rw[nS hb2 d29 (by omega) (by omega),show(((0:Int)*10+(d:Int))*10+(d2:Int)).toNat=d*10+d2 by omega];by_cases hz:d=0
  . subst hz;have:a=48:=by rw[e48];simpa using hb
    rw[show 0*10+d2=d2 by omega,GJ d2 d29];simp[this]
  . have:a≠48:=by intro e;rw[e48]at e;omega
    rw[HW _ (by omega) (by omega),show(d*10+d2) / 10=d by omega,show(d*10+d2) % 10=d2 by omega,sL hb,sL hb2];simp[this]
 |[a,b,c],_=>
  obtain⟨d,d9,hb⟩:=nX (hdd a (by simp));obtain⟨d2,d29,hb2⟩:=nX (hdd b (by simp));obtain⟨d3,d39,hb3⟩:=nX (hdd c (by simp));simp only[Bt,Ej,nS hb d9 (E2 0) (by omega)];rw[nS hb2 d29 (by omega) (by omega),nS hb3 d39 (by omega) (by omega),show((((0:Int)*10+(d:Int))*10+(d2:Int))*10+(d3:Int)).toNat=d*100+d2*10+d3 by omega];by_cases hz:d=0
  . subst hz;have:a=48:=by rw[e48];simpa using hb
    have hlt:(jO (0*100+d2*10+d3)).length<3:=by
     by_cases h:d2=0
     . subst h;rw[show 0*100+0*10+d3=d3 by omega,GJ d3 d39];simp
     . rw[HW _ (by omega) (by omega)];simp
    have hne:jO (0*100+d2*10+d3)≠[a,b,c]:=by
     intro e;rw[e]at hlt;simp at hlt
    simp only[this,AA,AK,E4];rw[this]at hne;have hne2:jO (d2*10+d3)≠[48,b,c]:=by simpa using hne
    simp[hne2]
  . have:a≠48:=by intro e;rw[e48]at e;omega
    rw[PC _ (by omega) (by omega),show(d*100+d2*10+d3) / 100=d by omega,show(d*100+d2*10+d3) / 10 % 10=d2 by omega,show(d*100+d2*10+d3) % 10=d3 by omega,sL hb,sL hb2,sL hb3];simp[this]
 |a::b::c::e::s,_=>
  obtain⟨d,d9,hb⟩:=nX (hdd a (by simp));obtain⟨d2,d29,hb2⟩:=nX (hdd b (by simp));obtain⟨d3,d39,hb3⟩:=nX (hdd c (by simp));obtain⟨d4,d49,hb4⟩:=nX (hdd e (by simp));have hz:d=0:=by
    apply Bk;intro hz;simp only[Bt,nS hb d9 (E2 0) (by omega)]at h2;rw[nS hb2 d29 (by omega) (by omega),nS hb3 d39 (by omega) (by omega),nS hb4 d49 (by omega) (by omega)]at h2;have:=Xi s (fun x hx=>hdd x (by simp[hx])) (((((0:Int)*10+(d:Int))*10+(d2:Int))*10+(d3:Int))*10+(d4:Int)) (by omega) (by omega);omega
  subst hz;have:a=48:=by rw[e48];simpa using hb
  constructor
  . intro h;simp[this]at h
  . rintro⟨h,_⟩;simp at h
theorem KB {s:Bs} {x:Nat} (h:x<(aW s 46).length) (hp:gT (aW s 46)[x]=false):fK s=false:=by
 unfold fK;rw[sE h hp];simp
theorem wZ {s:Bs} {x:Nat} (h:x<(aW s 46).length):((aW s 46)[x]).length<=s.length:=Sw s 46 _ (AJ h)
theorem Zh:CO nN (gn fK):=bZ (cfg:=fun y=>bW mj (cD nN 5 (pL y))) bC (fun _=>rfl) (fun _=>sI) (n:=400) (by
 rw[OB];intro s hpre;have hpre:s.length<=100000:=hpre;have hsl:=zQ s 46;refine⟨(s,46),rfl,rfl,hpre,ah.2 ⟨fun h=>?_,fun h=>⟨⟨0,⟨by simp,fun j h hj=>by omega⟩,⟨rfl,rfl,rfl,trivial⟩,trivial,trivial⟩,?_⟩⟩⟩
 . refine⟨?_,trivial⟩;unfold fK;have:¬(aW s 46).length=4:=by
     simp only[AQ,Dm,ne_eq,Ac]at h;omega
   simp[this]
 have h4:(aW s 46).length=4:=by
   simp only[En,BP,Ac]at h;omega
 rintro x ⟨hx,hall⟩;refine ah.2 ⟨fun hlt=>au.2 ⟨_,cO (cB hlt),?_⟩,fun hge=>⟨?_,trivial⟩⟩
 . have hx':=cB hlt;have hpl:=wZ hx';have next:gT (aW s 46)[x]=true->ck (bq Go.IntKind.i64 (↑x+1)) (∃(y_4:Nat),(y_4<=(aW s 46).length/\ ∀(j:Nat) (h:j<(aW s 46).length),j<y_4->gT (aW s 46)[j]=true)/\(pL s).μ y_4<(pL s).μ x/\(SV.ar Bs (aW s 46) aU=SV.ar Bs (aW s 46) aU/\ak (Int.ofNat (aW s 46).length) (Int.ofNat (aW s 46).length)/\ak (↑x+1) ↑y_4/\True)/\True/\True):=by
     intro hp;refine ag.2 ⟨cu x (by omega),x+1,⟨hx',qu hall hx' hp⟩,?_,⟨rfl,rfl,by simp[ak],trivial⟩,trivial,trivial⟩;show(aW s 46).length - (x+1)<(aW s 46).length - x
     omega
   generalize hpe:(aW s 46)[x]=p at*
   have fail:gT p=false->false=fK s:=fun h=>(KB hx' (by rw[hpe];exact h)).symm
   refine⟨p,rfl,by omega,ah.2 ⟨fun h1=>⟨fail ?_,trivial⟩,fun h1=>⟨p,rfl,by omega,ah.2 ⟨fun h2=>⟨fail ?_,trivial⟩,fun h2=>ah.2 ⟨fun h3=>⟨fail ?_,trivial⟩,fun h3=>ah.2 ⟨fun h5=>?_,fun h5=>next ?_⟩⟩⟩⟩⟩⟩
   . have:p=[]:=by simpa using h1
     subst this;rfl
   . have:=cB h2;unfold gT;have h2':¬dv p=p.length:=by omega
     simp[h2']
   . rw[cr,Ad]at h3;unfold gT;have:¬(bu p).1<=255:=by omega
     simp[this]
   all_goals (have hp0:p≠[]:=by simpa using h1)
   all_goals (have hd:dv p=p.length:=by have:=gQ h2;have:=xq p;simp only[Ac]at*;omega)
   all_goals (have h255:(bu p).1<=255:=by rw[cr,Ah]at h3;omega)
   . rw [cr,Ad,Ac]at h5;have hpl1:1<p.length:=by omega
     refine au.2 ⟨p[0],by simp[show 0<p.length by omega],ah.2 ⟨fun h6=>⟨fail ?_,trivial⟩,fun h6=>next ?_⟩⟩
     . have:p.head? =some 48:=by
        rw[Dz,Af (by omega)];congr 1
        exact uX (by simpa [nB]using h6)
       unfold gT;simp[this,hpl1]
     . have:¬p.head? =some 48:=by
        rw[Dz,Af (by omega)];intro e;simp only[AX]at e;rw[e]at h6;simp at h6
       unfold gT;simp[this,hp0,hd,h255]
   . rw[cr,Ah,Ac]at h5;have hpl1:¬1<p.length:=by omega
     unfold gT;simp[hpl1,hp0,hd,h255]
 . unfold fK;rw[qt hall (gQ hge)];simp[h4])
theorem YB:CO nK (gn fK):=bZ (cfg:=fun y=>bW mj (cD nK 5 (xU y))) bC (fun _=>rfl) (fun _=>sI) (n:=400) (by
 rw[XR];intro s hpre;have hpre:s.length<=100000:=hpre;refine⟨(s,46),rfl,rfl,hpre,ah.2 ⟨fun h=>?_,fun h=>⟨⟨0,⟨by simp,fun j h hj=>by omega⟩,⟨rfl,rfl,trivial⟩,trivial,trivial⟩,?_⟩⟩⟩
 . refine⟨?_,trivial⟩;unfold fK;have:¬(aW s 46).length=4:=by
     simp only[AQ,Dm,ne_eq,Ac]at h;omega
   simp[this]
 have h4:(aW s 46).length=4:=by
   simp only[En,BP,Ac]at h;omega
 rintro x ⟨hx,hall⟩;refine ah.2 ⟨fun hlt=>?_,fun hge=>⟨?_,trivial⟩⟩
 . have hx':x<(aW s 46).length:=by rw[cr,Ad]at hlt;omega
   have hpl:=wZ hx';have hget:(aW s 46)[Int.toNat (x:Int)]? =some (aW s 46)[x]:=cO hx';have next:=qu hall hx';generalize hpe:(aW s 46)[x]=p at*
   have fail:gT p=false->false=fK s:=fun h=>(KB hx' (by rw[hpe];exact h)).symm
   refine au.2 ⟨p,hget,ah.2 ⟨fun h1=>⟨fail ?_,trivial⟩,fun h1=>au.2 ⟨p,hget,ah.2 ⟨fun h2=>⟨fail ?_,trivial⟩,fun h2=>au.2 ⟨p,hget,au.2 ⟨p,hget,p,rfl,by omega,ah.2 ⟨fun h3=>⟨fail ?_,trivial⟩,fun h3=>au.2 ⟨p,hget,p,rfl,by omega,ah.2 ⟨fun h5=>⟨fail ?_,trivial⟩,fun h5=>au.2 ⟨p,hget,(bu p).1.toNat,?_,?_,ah.2 ⟨fun h6=>⟨fail ?_,trivial⟩,fun h6=>ag.2 ⟨cu x (by omega),x+1,⟨by omega,next ?_⟩,?_,⟨rfl,by simp[ak],trivial⟩,trivial,trivial⟩⟩⟩⟩⟩⟩⟩⟩⟩⟩⟩⟩
   . rw[cr,Ad,Ac]at h1;have:p=[]:=AP (by omega);subst this;rfl
   all_goals (have hp1:1<=p.length:=by rw[cr,Ah,Ac]at h1;omega)
   . rw[cr,Ad,Ac]at h2;rw[Av];intro hp;unfold gT at hp;simp only[Aa,Ad,AQ]at hp;have:=(Cb hp1 hp.1.1.2 hp.1.2).1 hp.2;omega
   . have h3':¬dv p=p.length:=by
      simp only[AQ,Dm,ne_eq,Ac]at h3;omega
     unfold gT;simp[h3']
   all_goals (have hd:dv p=p.length:=by simp only[En,BP,Ac]at h3;omega)
   all_goals (have hnn:=VL hp1 hd)
   . rw[cr,Ad]at h5;unfold gT;have:¬(bu p).1<=255:=by omega
     simp[this]
   . simp only[ak];omega
   . omega
   all_goals (have h255:(bu p).1<=255:=by rw[cr,Ah]at h5;omega)
   . rw[Av];intro hp;unfold gT at hp;simp only[Aa,Ad,AQ]at hp;have:=((Cb hp1 hd h255).1 hp.2).2;rw[this]at h6;simp at h6
   . have hl3:p.length<=3:=by rw[cr,Ah,Ac]at h2;omega
     have ht:jO (bu p).1.toNat=p:=by simpa using h6
     have:=(Cb hp1 hd h255).2 ⟨hl3,ht⟩;unfold gT;rw[this];have hp0:p≠[]:=A4.1 hp1;simp[hp0,hd,h255]
   . show 4 - (x+1)<4 - x
     omega
 . unfold fK;rw[cr,Ah]at hge;rw[qt hall (by rw[h4,Ac];omega)];simp[h4])
theorem MY {b:UInt8} {P Q:Prop} (hp:dm b=true->P) (hq:dm b=false->Q):
  br (bV 48 (Int.ofNat (UInt8.toNat b))) (br (bV (Int.ofNat (UInt8.toNat b)) 57) P (br (bV 97 (Int.ofNat (UInt8.toNat b))) (br (bV (Int.ofNat (UInt8.toNat b)) 102) P (br (Int.ofNat (UInt8.toNat b)==58) P (br (!Int.ofNat (UInt8.toNat b)==46) Q P))) (br (Int.ofNat (UInt8.toNat b)==58) P (br (!Int.ofNat (UInt8.toNat b)==46) Q P))))
   (br (bV 97 (Int.ofNat (UInt8.toNat b))) (br (bV (Int.ofNat (UInt8.toNat b)) 102) P (br (Int.ofNat (UInt8.toNat b)==58) P (br (!Int.ofNat (UInt8.toNat b)==46) Q P))) (br (Int.ofNat (UInt8.toNat b)==58) P (br (!Int.ofNat (UInt8.toNat b)==46) Q P))):=by
 rw[M5];have e:dm b=((bV 48 (nB b)&&bV (nB b) 57)||(bV 97 (nB b)&&bV (nB b) 102)||(nB b==58)||(nB b==46)):=by
  simp only[fc];rfl
 rw[e]at hp hq;generalize bV 48 (nB b)=a1 at*
 generalize bV (nB b) 57=a2 at*
 generalize bV 97 (nB b)=a3 at*
 generalize bV (nB b) 102=a4 at*
 generalize (nB b==58)=a5 at*
 generalize (nB b==46)=a6 at*
 cases a1<;>cases a2<;>cases a3<;>cases a4<;>cases a5<;>cases a6<;>simp_all[br]
theorem xj {s:Bs} (h4:4<=s.length):s.head? =some (s[0]'(by omega))/\s.getLast? =some (s[s.length - 1]'(by omega)):=by
 rw[Dz,Er];exact⟨by simp[show 0<s.length by omega],by simp[show 0<s.length by omega]⟩
theorem Mz {s:Bs} {j:Nat} (h:j<((s.drop 1).take (s.length - 2)).length):((s.drop 1).take (s.length - 2))[j]=s[j+1]'(by simp at h;omega):=by
 rw[Et,Df];congr 1
 omega
theorem IV {s:Bs} (h:s.length<4):fx s=false:=by
 unfold fx;have:decide (4<=s.length)=false:=by simp;omega
 simp[this]
theorem JW {s:Bs} (h:47<s.length):fx s=false:=by
 unfold fx;have:decide (s.length<=47)=false:=by simp;omega
 simp[this]
theorem hU {b:UInt8} {n:UInt8}:(Int.ofNat b.toNat==nB n)=true↔b=n:=by
 constructor
 . intro h;exact uX (by simpa [nB]using h)
 . intro h;subst h;simp[nB]
theorem IU {s:Bs} (h4:4<=s.length) (h:(!Int.ofNat (UInt8.toNat (s[0]'(by omega)))==91)=true):fx s=false:=by
 have:s[0]'(by omega)≠91:=by
  intro e;rw[AQ]at h;rw[show(91:Int)=nB 91 from rfl,hU.2 e]at h
  cases h
 unfold fx;rw[(xj h4).1];simp[this]
theorem Jt {s:Bs} (h4:4<=s.length) (h:(!Int.ofNat (UInt8.toNat (s[s.length - 1]'(by omega)))==93)=true):fx s=false:=by
 have:s[s.length - 1]'(by omega)≠93:=by
  intro e;rw[AQ]at h;rw[show(93:Int)=nB 93 from rfl,hU.2 e]at h
  cases h
 unfold fx;rw[(xj h4).2];simp[this]
theorem JX {s:Bs} (h4:4<=s.length) (h47:s.length<=47) (h1:(!Int.ofNat (UInt8.toNat (s[0]'(by omega)))==91)=false) (h2:(!Int.ofNat (UInt8.toNat (s[s.length - 1]'(by omega)))==93)=false):fx s=((s.drop 1).take (s.length - 2)).all dm:=by
 have e1:s[0]'(by omega)=91:=hU.1 (by simpa [nB]using h1);have e2:s[s.length - 1]'(by omega)=93:=hU.1 (by simpa [nB]using h2);unfold fx;rw[(xj h4).1,(xj h4).2,e1,e2];simp[h4,h47]
theorem Yt:CO nq (gn fx):=bZ (cfg:=fun y=>bW mj (cD nq 4 (ia y))) bC (fun _=>rfl) (fun _=>sI) (n:=400) (by
 rw[Ym];intro s hpre;have hpre:s.length<=100000:=hpre;refine ah.2 ⟨fun h=>⟨(IV (by rw[cr,Ad,Ac]at h;omega)).symm,trivial⟩,fun h=>ah.2 ⟨fun h2=>⟨(JW (by rw[cr,Ad,Ac]at h2;omega)).symm,trivial⟩,fun h2=>?_⟩⟩;have h4:4<=s.length:=by rw[cr,Ah,Ac]at h;omega
 have h47:s.length<=47:=by rw[cr,Ah,Ac]at h2;omega
 have hi:Int.toNat (Int.ofNat s.length - 1)=s.length - 1:=by rw[Ac];omega
 have hr:bq Go.IntKind.i64 (Int.ofNat s.length - 1)=true:=by rw[iq,Ac];omega
 have hn:nn (Int.ofNat s.length - 1)=true:=by rw[lO,Ad,Ac];omega
 rw[hi];refine au.2 ⟨s[0]'(by omega),by simp[show 0<s.length by omega],ah.2 ⟨fun h5=>⟨(IU h4 h5).symm,trivial⟩,fun h5=>ag.2 ⟨hr,ag.2 ⟨hn,au.2 ⟨s[s.length - 1]'(by omega),by simp[show 0<s.length by omega],ah.2 ⟨fun h6=>⟨(Jt h4 h6).symm,trivial⟩,fun h6=>ag.2 ⟨hr,ag.2 ⟨hn,ag.2 ⟨by simp;omega,⟨0,⟨by simp,fun j h hj=>by omega⟩,⟨?_,?_,rfl,trivial⟩,trivial,trivial⟩,?_⟩⟩⟩⟩⟩⟩⟩⟩⟩
 . rw[show s.length - 1 - Int.toNat 1=s.length - 2 by simp;omega];rfl
 . rw[show s.length - 1 - Int.toNat 1=s.length - 2 by simp;omega];rfl
 have hb:=JX h4 h47 h5 h6;rintro x ⟨hx,hall⟩;refine ah.2 ⟨fun hlt=>au.2 ⟨_,cO (cB hlt),MY (fun hh=>ag.2 ⟨cu x (by have:=cB hlt;simp at this;omega),x+1,⟨cB hlt,qu hall (cB hlt) hh⟩,?_,⟨rfl,rfl,by simp[ak],trivial⟩,trivial,trivial⟩) (fun hh=>⟨?_,trivial⟩)⟩,fun hge=>⟨?_,trivial⟩⟩
 . have:=cB hlt;show((s.drop 1).take (s.length - 2)).length - (x+1)<((s.drop 1).take (s.length - 2)).length - x
   omega
 . rw[hb,sE (cB hlt) hh]
 . rw[hb,qt hall (gQ hge)])
theorem VX:CO nf (gn fx):=bZ (cfg:=fun y=>bW cj (cD nf 4 (ig y))) bC (fun _=>rfl) (fun _=>iD) (n:=400) (by
 rw[Xb];intro s hpre;have hpre:s.length<=100000:=hpre;refine ah.2 ⟨fun h=>⟨(IV (by rw[cr,Ad,Ac]at h;omega)).symm,trivial⟩,fun h=>ah.2 ⟨fun h2=>⟨(JW (by rw[cr,Ad,Ac]at h2;omega)).symm,trivial⟩,fun h2=>?_⟩⟩;have h4:4<=s.length:=by rw[cr,Ah,Ac]at h;omega
 have h47:s.length<=47:=by rw[cr,Ah,Ac]at h2;omega
 have hi:Int.toNat (Int.ofNat s.length - 1)=s.length - 1:=by rw[Ac];omega
 have hr:bq Go.IntKind.i64 (Int.ofNat s.length - 1)=true:=by rw[iq,Ac];omega
 have hn:nn (Int.ofNat s.length - 1)=true:=by rw[lO,Ad,Ac];omega
 rw[hi];refine au.2 ⟨s[0]'(by omega),by simp[show 0<s.length by omega],ah.2 ⟨fun h5=>⟨(IU h4 h5).symm,trivial⟩,fun h5=>ag.2 ⟨hr,ag.2 ⟨hn,au.2 ⟨s[s.length - 1]'(by omega),by simp[show 0<s.length by omega],ah.2 ⟨fun h6=>⟨(Jt h4 h6).symm,trivial⟩,fun h6=>⟨⟨1,⟨by omega,by omega,fun j h h1 hj=>by omega⟩,⟨rfl,rfl,trivial⟩,trivial,trivial⟩,?_⟩⟩⟩⟩⟩⟩⟩;have hb:=JX h4 h47 h5 h6;rintro x ⟨hx1,hx,hall⟩;refine ag.2 ⟨hr,ah.2 ⟨fun hlt=>?_,fun hge=>⟨?_,trivial⟩⟩⟩
 . have hlt':x+1<s.length:=by rw[cr,Ad,Ac]at hlt;omega
   refine au.2 ⟨s[x],cO (by omega),MY (fun hh=>ag.2 ⟨cu x (by omega),x+1,⟨by omega,by omega,fun j hj h1 hjx=>?_⟩,?_,⟨rfl,by simp[ak],trivial⟩,trivial,trivial⟩) (fun hh=>⟨?_,trivial⟩)⟩
   . by_cases e:j=x
     . subst e;exact hh
     . exact hall j hj h1 (by omega)
   . show s.length - (x+1)<s.length - x
     omega
   . have hl:x - 1<((s.drop 1).take (s.length - 2)).length:=by simp;omega
     rw[hb,sE hl (by rw[Mz hl];simp only[show x - 1+1=x by omega];exact hh)]
 . rw[cr,Ah,Ac]at hge;rw[hb];symm;rw[AI];intro b hbm;obtain⟨j,hj,rfl⟩:=Bn hbm;rw[Mz hj];simp at hj;exact hall (j+1) (by omega) (by omega) (by omega))
theorem xl:∀g C,pR g=some C->CO g C:=bR YC (bR V5 (bR Zh (bR YB (bR Yt (bR VX sI)))))
theorem ZR:CO rB (gn il):=bZ (cfg:=fun y=>bW pR (cW y)) bC (fun _=>rfl) (fun _=>xl) (n:=400) (by
 rw[Ov];intro s hpre;refine⟨s,rfl,hpre,ah.2 ⟨fun h=>⟨by unfold il;rw[h];rfl,trivial⟩,fun h=>⟨s,rfl,hpre,by unfold il;rw[h];rfl,trivial⟩⟩⟩)
theorem Yr:CO rz (gn il):=bZ (cfg:=fun y=>bW pR (cW y)) bC (fun _=>rfl) (fun _=>xl) (n:=400) (by
 rw[Yl];intro s hpre;refine⟨s,rfl,hpre,ah.2 ⟨fun h=>⟨by unfold il;rw[h];rfl,trivial⟩,fun h=>⟨s,rfl,hpre,by unfold il;rw[h];rfl,trivial⟩⟩⟩)
theorem Ls {s:Bs} (h:256<s.length):eL s=false:=by
 unfold eL;have:decide (s.length<=256)=false:=by simp;omega
 simp[this]
theorem Kg {s:Bs} (h:fK s=true):eL s=false:=by
 unfold eL;simp[h]
theorem Sz {s:Bs} (h:fx s=true):eL s=false:=by
 unfold fx at h;simp only[Aa,BP]at h;have h1:=h.1.1.2
 cases s with
 |nil=>simp at h1
 | cons b s=>
  simp only[E4,AX]at h1;subst h1;have:(aW (91::s) 46).all fh=false:=by
   have hs:aW (91::s) 46=(match aW s 46 with|h::t=>(91::h)::t|[]=>[[91]]):=by
    rw[aW];rw[if_neg (by decide)]
    try (cases aW s 46<;>rfl)
   rw[hs];have hl:∀h:Bs,fh (91::h)=false:=fun h=>Jb (s:=91::h) (x:=0) (by simp) (by simp[ir,nB])
   cases aW s 46 with
   |nil=>simp[hl]
   |cons h t=>simp[hl]
  unfold eL;rw[this];simp
theorem Kf {s:Bs} {x:Nat} (h:x<(aW s 46).length) (hp:fh (aW s 46)[x]=false):eL s=false:=by
 unfold eL;rw[sE h hp];simp
theorem Ke {s:Bs} (h1:s.length<=256) (h2:fK s=false):eL s=(aW s 46).all fh:=by
 unfold eL;simp[h1,h2]
theorem YG:CO nJ (gn eL):=bZ (cfg:=fun y=>bW pR (cD nJ 5 (xW y))) bC (fun _=>rfl) (fun _=>xl) (n:=400) (by
 rw[XV];intro s hpre;have hpre:s.length<=100000:=hpre;have hsl:=zQ s 46;refine ah.2 ⟨fun h=>⟨(Ls (by rw[cr,Ad,Ac]at h;omega)).symm,trivial⟩,fun h=>⟨s,rfl,hpre,ah.2 ⟨fun h2=>⟨(Kg h2).symm,trivial⟩,fun h2=>⟨(s,46),rfl,rfl,hpre,⟨0,⟨by simp,fun j h hj=>by omega⟩,⟨rfl,rfl,trivial⟩,trivial,trivial⟩,?_⟩⟩⟩⟩;have h256:s.length<=256:=by rw[cr,Ah,Ac]at h;omega
 rintro x ⟨hx,hall⟩;refine ah.2 ⟨fun hlt=>au.2 ⟨_,cO (cB hlt),_,rfl,?_,ah.2 ⟨fun hh=>⟨(Kf (cB hlt) (by simpa using hh)).symm,trivial⟩,fun hh=>ag.2 ⟨cu x (by have:=cB hlt;omega),x+1,⟨cB hlt,qu hall (cB hlt) (by simpa using hh)⟩,?_,⟨rfl,by simp[ak],trivial⟩,trivial,trivial⟩⟩⟩,fun hge=>⟨?_,trivial⟩⟩
 . have:=wZ (cB hlt);omega
 . have:=cB hlt;show(aW s 46).length - (x+1)<(aW s 46).length - x
   omega
 . rw[Ke h256 h2,qt hall (gQ hge)])
theorem KV:∀g C,yl g=some C->CO g C:=bR ZR (bR Yr (bR YG xl))
theorem Zs:CO nO (gn eL):=bZ (cfg:=fun y=>bW yl (cD nO 4 (yD y))) bC (fun _=>rfl) (fun _=>KV) (n:=400) (by
 rw[OH];intro s hpre;have hpre:s.length<=100000:=hpre;have hsl:=zQ s 46;refine ah.2 ⟨fun h=>⟨(Ls (by rw[cr,Ad,Ac]at h;omega)).symm,trivial⟩,fun h=>⟨s,rfl,hpre,ah.2 ⟨fun h2=>⟨?_,trivial⟩,fun h2=>⟨(s,46),rfl,rfl,hpre,⟨0,⟨by simp,fun j h hj=>by omega⟩,⟨rfl,rfl,rfl,trivial⟩,trivial,trivial⟩,?_⟩⟩⟩⟩
 . unfold il at h2;rw[BF]at h2;rcases h2 with h2|h2
   . exact(Kg h2).symm
   . exact(Sz h2).symm
 have h256:s.length<=256:=by rw[cr,Ah,Ac]at h;omega
 have h3:fK s=false:=by unfold il at h2;rw[Bool.or_eq_false_iff]at h2;exact h2.1
 rintro x ⟨hx,hall⟩;refine ah.2 ⟨fun hlt=>au.2 ⟨_,cO (cB hlt),_,rfl,?_,ah.2 ⟨fun hh=>⟨(Kf (cB hlt) (by simpa using hh)).symm,trivial⟩,fun hh=>ag.2 ⟨cu x (by have:=cB hlt;omega),x+1,⟨cB hlt,qu hall (cB hlt) (by simpa using hh)⟩,?_,⟨rfl,rfl,by simp[ak],trivial⟩,trivial,trivial⟩⟩⟩,fun hge=>⟨?_,trivial⟩⟩
 . have:=wZ (cB hlt);omega
 . have:=cB hlt;show(aW s 46).length - (x+1)<(aW s 46).length - x
   omega
 . rw[Ke h256 h3,qt hall (gQ hge)])
theorem V9:CO Hc sM:=bZ (cfg:=fun y=>bW cj (cW y)) bC (fun _=>rfl) (fun _=>iD) (n:=400) (by
 rw[WC];rintro⟨s,t⟩ _;refine ah.2 ⟨fun h=>ag.2 ⟨?_,?_,trivial⟩,fun h=>⟨?_,trivial⟩⟩
 . rw[fc,Ad]at h;simp at h⊢;exact h
 . rw[A2];simp
 . rw[fc,Ah]at h;symm;rw[Ah];intro e;have:=Ap List.length e;simp at this h;omega)
theorem Cw:∀g C,tA g=some C->CO g C:=bR Zs (bR V9 KV)
theorem T3:CO ri sM:=bZ (cfg:=fun y=>bW tA (cW y)) bC (fun _=>rfl) (fun _=>Cw) (n:=400) (by
 rw[UA];rintro⟨s,t⟩ h;exact⟨(s,t),rfl,rfl,h,rfl,trivial⟩)
theorem V6:CO rJ C9:=bZ (cfg:=fun y=>bW tA (cW y)) bC (fun _=>rfl) (fun _=>Cw) (n:=400) (by
 rw[Xg];intro s hpre;refine⟨s,rfl,hpre,ah.2 ⟨fun h=>⟨?_,trivial⟩,fun h=>⟨(s,46),rfl,rfl,hpre,?_,trivial⟩⟩⟩
 . rw[if_neg (by simpa using h)]
 . rw[if_pos (by simpa using h)])
theorem LF:∀g C,ym g=some C->CO g C:=bR V6 (bR T3 Cw)
theorem wq (s:Bs):bI 0 (Int.ofNat (if eL s=true then aW s 46 else[]).length)=eL s:=by
 have:=A4.2 (KE s 46);rw[cr,Ac]
 cases h:eL s
 . simp
 . simp;omega
theorem YK:CO rE F1:=bZ (cfg:=fun y=>bW ym (cW y)) bC (fun _=>rfl) (fun _=>LF) (n:=400) (by
 rw[XX];intro s hpre;have hpre:s.length<=100000:=hpre;refine⟨(s,[42,46]),rfl,rfl,⟨hpre,by simp⟩,ah.2 ⟨fun h=>?_,fun h=>⟨(s,[33]),rfl,rfl,⟨hpre,by simp⟩,ah.2 ⟨fun h2=>?_,fun h2=>?_⟩⟩⟩⟩
 . have h':s.take 2=[42,46]:=by simpa using h
   have hl:2<=s.length:=by have:=Ap List.length h';simp at this;omega
   have hr:gv s=(s.drop 2,true,false):=by unfold gv;rw[if_pos h']
   have hi:jG s=eL (s.drop 2):=by unfold jG;rw[hr];simp
   refine ag.2 ⟨by simp;omega,s.drop 2,rfl,by simp;omega,ah.2 ⟨fun h3=>?_,fun h3=>?_⟩⟩
   all_goals (rw[wq]at h3;rw[hr,hi,h3];exact⟨rfl,rfl,rfl,rfl,trivial⟩)
 . have h0:¬s.take 2=[42,46]:=by simpa using h
   have h':s.take 1=[33]:=by simpa using h2
   have hl:1<=s.length:=by have:=Ap List.length h';simp at this;omega
   have hr:gv s=(s.drop 1,false,true):=by unfold gv;rw[if_neg h0,if_pos h']
   have hi:jG s=(eL (s.drop 1)&&decide (1<(aW (s.drop 1) 46).length)):=by unfold jG;rw[hr];simp
   refine ag.2 ⟨by simp;omega,s.drop 1,rfl,by simp;omega,ah.2 ⟨fun h3=>?_,fun h3=>?_⟩⟩
   . rw[wq]at h3;rw[hr,hi,h3,if_pos rfl];refine⟨rfl,rfl,rfl,?_,trivial⟩;rw[cr,A2];simp;omega
   . rw[wq]at h3;rw[hr,hi,h3];exact⟨rfl,rfl,rfl,rfl,trivial⟩
 . have h0:¬s.take 2=[42,46]:=by simpa using h
   have h1:¬s.take 1=[33]:=by simpa using h2
   have hr:gv s=(s,false,false):=by unfold gv;rw[if_neg h0,if_neg h1]
   have hi:jG s=eL s:=by unfold jG;rw[hr];simp
   refine⟨s,rfl,hpre,ah.2 ⟨fun h3=>?_,fun h3=>?_⟩⟩
   all_goals (rw[wq]at h3;rw[hr,hi,h3];exact⟨rfl,rfl,rfl,rfl,trivial⟩))
theorem LG:∀g C,yn g=some C->CO g C:=bR YK LF
theorem V0:CO ny C8:=bZ (cfg:=fun y=>bW yn (cD ny 4 (xF y))) bC (fun _=>rfl) (fun _=>LG) (n:=400) (by
 rw[Xd];rintro l ⟨hpre,hs⟩;refine ah.2 ⟨fun h=>⟨?_,trivial⟩,fun h=>⟨⟨0,⟨by simp,fun j h hj=>by omega⟩,⟨rfl,rfl,rfl,trivial⟩,trivial,trivial⟩,?_⟩⟩
 . rw[cr,Ad,Ac]at h;unfold oU;rw[if_pos (by omega)]
 have h256:¬256<l.length:=by rw[cr,Ah,Ac]at h;omega
 rintro x ⟨hx,hall⟩;refine ah.2 ⟨fun hlt=>au.2 ⟨_,cO (cB hlt),_,rfl,hs _ (AJ _),ah.2 ⟨fun hh=>⟨?_,trivial⟩,fun hh=>ag.2 ⟨cu x (by omega),x+1,⟨cB hlt,qu hall (cB hlt) (by simpa using hh)⟩,?_,⟨rfl,rfl,by simp[ak],trivial⟩,trivial,trivial⟩⟩⟩,fun hge=>⟨?_,trivial⟩⟩
 . unfold oU;rw[if_neg h256,sE (cB hlt) (by simpa using hh)];simp[ak]
 . have:=cB hlt;show l.length - (x+1)<l.length - x
   omega
 . unfold oU;rw[if_neg h256,qt hall (gQ hge)];simp[ak])
theorem Vo:∀g C,ND g=some C->CO g C:=bR V0 LG
end
section
variable [Inhabited aL]
theorem Tryz.tN:Tryz.tab.fns.get yV=some Tryz.f208:=by kernel_rfl
theorem Qv (a b:List UInt8):run Tryz.tab 200 {fr:=ai.enter Tryz.f208 yV (Tryz.f208.body.getD .skip) [.str a, .str b] .normal,cs:=[],h:=fB}= .ok [(.int .i64 (Extern.BytealgCompare.cmp ⟨a.toArray⟩ ⟨b.toArray⟩),fB)]:=by kernel_rfl
noncomputable def pJ:aN:={Y:=Bs×Bs,pre:=fun _=>True,args:=fun y=>[.str y.1, .str y.2],res:=fun y=> .int .i64 (eD y.1 y.2)}
theorem ZT:CO yV pJ:=by
 refine cE.shut bC fun fn body hfn hb y _ avs Fz hav=>?_
 rw[Tryz.tN]at hfn
 cases hfn;obtain⟨a,b⟩:=y;have hl:avs=[.str a, .str b]:=by
   obtain⟨h1,h2⟩:=hav
   cases avs with
   |nil=>simp[pJ]at h1
   | cons u avs=>cases avs with
    |nil=>simp[pJ]at h1
    | cons w avs=>cases avs with
     |cons=>simp[pJ]at h1
     |nil=>
      have e1:=h2 0 _ u rfl rfl;have e2:=h2 1 _ w rfl rfl;simp only at e1 e2
      cases e1
      cases e2;rfl
 subst hl;refine⟨fun _ _=>rfl,fun v _=>v= .int .i64 (eD a b),?_,?_⟩
 . have ho:=Qv a b;rw[hb]at ho;refine(eW.run bC ho).mono fun v h' hm=>?_
   simp only[Aj,BT,DB,B5]at hm;rw[hm.1,Tv]
 . rintro v h' rfl;exact⟨fun _ _=>rfl, .int _ _⟩
end
section
variable [Inhabited aL]
def fe (x:cU) (now:Int):Bool:=x.persistent&&decide (x.aQ<=now)
def ic (a b:aa):Int:=
 let n:=if dg a.ab.access b.ab.access≠0 then dg a.ab.access b.ab.access else dg a.ab.aq b.ab.aq
 if n≠0\/a.key=b.key then n else if fy a.key b.key then -1 else 1
def fF (a b:aa):Bool:=decide (ic a b<0)
def iE:List aa->Bool
 |x::y::l=>fy x.key y.key&&iE (y::l)
 |_=>true
def eV (l:List aa) (k:aA):List aa:=l.filter fun x=>decide (x.key≠k)
def fb (l:List aa) (d:Bs):List aa:=l.filter fun x=>decide (x.key.domain=d)
def qH:aA:=⟨[],[],[]⟩
def bE:aa:=⟨qH,⟨[],false,false,false,false,0,0,0⟩⟩
def ef (l:List Bs) (d:Bs):Nat:=(l.takeWhile fun x=>lt x d).length
def fT (l:List Bs) (d:Bs):List Bs:=if l[ef l d]? =some d then l else l.take (ef l d)++d::l.drop (ef l d)
def bj (l:List aa):List Bs:=l.foldl (fun a x=>fT a x.key.domain) []
def fV (l:List aa) (d:Bs) (all:Bool):Option aa:=l.foldl (fun b x=>if all||decide (x.key.domain=d)then(match b with|none=>some x|some y=>if fF x y then some x else some y)else b) none
def fJ (l:List aa) (d:Bs) (all:Bool):aA:=match fV l d all with|some x=>x.key|none=>qH
def gD (c:az):Int:=if c.aC<1\/c.aC>64\/c.domain<1\/c.domain>2048\/c.total<1\/c.total>2048 then 4 else oU c.rules
noncomputable def Z1:TypeId->Option View:=fun t=>bif Nat.beq t Ty.string then some ⟨Bs,aU⟩else bif Nat.beq t GN then some ⟨aa,aa.enc⟩else none
noncomputable def bH (gP:FuncId->Option aN) (mB:FuncId->Nat->Option aI):iL:={tab:=qX,view:=Z1,gP,mB}
def ec (l:List aa):SV:= .ar aa l aa.enc
def om (l:List aa):SO:= .arr aa l aa.enc GN
def l4 (f r:Nat) (A:aI) (a:FuncId->Nat->Option aI):FuncId->Nat->Option aI:=fun g s=>bif Nat.beq g f&&Nat.beq s r then some A else a g s
def tv:aN:={Y:=cU×Int,pre:=fun _=>True,args:=fun y=>[.agg y.1.enc,i64 y.2],res:=fun y=> .bool (fe y.1 y.2)}
def Gw:aN:={Y:=Int×Int,pre:=fun _=>True,args:=fun y=>[i64 y.1,i64 y.2],res:=fun y=>i64 (dg y.1 y.2)}
def Gy:aN:={Y:=aA×aA,pre:=fun _=>True,args:=fun y=>[.agg y.1.enc, .agg y.2.enc],res:=fun y=>i64 (oV y.1 y.2)}
def tu:aN:={Y:=aA×aA,pre:=fun _=>True,args:=fun y=>[.agg y.1.enc, .agg y.2.enc],res:=fun y=> .bool (fy y.1 y.2)}
def uS:aN:={Y:=aa×aa,pre:=fun _=>True,args:=fun y=>[.agg y.1.enc, .agg y.2.enc],res:=fun y=>i64 (ic y.1 y.2)}
def FJ:aN:={Y:=aa×aa,pre:=fun _=>True,args:=fun y=>[.agg y.1.enc, .agg y.2.enc],res:=fun y=> .bool (fF y.1 y.2)}
def jx (l:List aa):Prop:=l.length<=10000
def FI:aN:={Y:=List aa,pre:=jx,args:=fun y=>[ec y],res:=fun y=> .bool (iE y)}
def xH (y:List aa):aI:={α:=Nat,ok:=fun i=>1<=i/\i<=y.length+1/\ ∀j (h:j+1<y.length),j+1<i->fy (y[j]'(by omega)).key y[j+1].key=true,μ:=fun i=>y.length+1 - i,aX:=[],aS:=fun i=>[(0,ec y),(3,i64 i)],bw:=fun _=>[]}
def bJ:aN:={Y:=List aa×aA,pre:=fun y=>jx y.1,args:=fun y=>[ec y.1, .agg y.2.enc],res:=fun y=>ec (eV y.1 y.2)}
def l5:aN:={Y:=List aa×Bs,pre:=fun y=>jx y.1,args:=fun y=>[ec y.1, .str y.2],res:=fun y=>ec (fb y.1 y.2)}
def jW (l:List aa) (p:aa->Bool):aI:={α:=Nat,ok:=fun i=>i<=l.length,μ:=fun i=>l.length - i,aX:=[1],aS:=fun i=>[(8,ec l),(9,i64 (Int.ofNat l.length)),(10,i64 i),(5, .own 1)],bw:=fun i=>[(1,om ((l.take i).filter p))]}
def sh (y:List aa×aA):aI:={α:=Nat,ok:=fun i=>i<=y.1.length,μ:=fun i=>y.1.length - i,aX:=[3],aS:=fun i=>[(0,ec y.1),(5, .own 1),(6,i64 i)],bw:=fun i=>[(1,om ((y.1.take i).filter fun x=>decide (x.key≠y.2)))]}
def sC (y:List aa×Bs):aI:={α:=Nat,ok:=fun i=>i<=y.1.length,μ:=fun i=>y.1.length - i,aX:=[],aS:=fun i=>[(0,ec y.1),(1, .str y.2),(5, .own 0),(6,i64 i)],bw:=fun i=>[(0,om ((y.1.take i).filter fun x=>decide (x.key.domain=y.2)))]}
def zY:aN:={Y:=List aa×aa,pre:=fun y=>jx y.1,args:=fun y=>[ec y.1, .agg y.2.enc],res:=fun y=> .bool (decide (y.2∈y.1))}
def xV (y:List aa×aa):aI:={α:=Nat,ok:=fun i=>i<=y.1.length/\ ∀j (h:j<y.1.length),j<i->y.1[j]≠y.2,μ:=fun i=>y.1.length - i,aX:=[3],aS:=fun i=>[(0,ec y.1),(7,i64 (Int.ofNat y.1.length)),(8,i64 i)],bw:=fun _=>[]}
def F2:aN:={Y:=List aa×List aa,pre:=fun y=>jx y.1/\jx y.2,args:=fun y=>[ec y.1,ec y.2],res:=fun y=> .bool (decide (y.1=y.2))}
def xX (y:List aa×List aa):aI:={α:=Nat,ok:=fun i=>i<=y.1.length/\y.1.length=y.2.length/\y.1.take i=y.2.take i,μ:=fun i=>y.1.length - i,aX:=[],aS:=fun i=>[(0,ec y.1),(1,ec y.2),(5,i64 i)],bw:=fun _=>[]}
def CD:aN:={Y:=List aa,pre:=jx,args:=fun y=>[ec y],res:=fun y=>strs (bj y)}
def lj (y:List aa):aI:={α:=Nat,ok:=fun i=>i<=y.length,μ:=fun i=>y.length - i,aX:=[],aS:=fun i=>[(0,ec y),(3,strs (bj (y.take i))),(4,i64 i)],bw:=fun _=>[],fo:=[3]}
def wH (y:List aa):aI:={α:=Nat×Nat,ok:=fun x=>∃h:x.1<y.length,x.2<=ef (bj (y.take x.1)) y[x.1].key.domain,μ:=fun x=>(bj (y.take x.1)).length - x.2,aX:=[],aS:=fun x=>[(0,ec y),(3,strs (bj (y.take x.1))),(4,i64 x.1),(5, .str ((y[x.1]?).getD bE).key.domain),(6,i64 x.2)],bw:=fun _=>[],link:=some fun a b=>b.1=a.1}
def Cr:aN:={Y:=List aa×Bs×Bool,pre:=fun y=>jx y.1,args:=fun y=>[ec y.1, .str y.2.1, .bool y.2.2],res:=fun y=> .agg (fJ y.1 y.2.1 y.2.2).enc}
def kH (y:List aa×Bs×Bool):aI:={α:=Nat×Int,ok:=fun x=>x.1<=y.1.length/\((x.2= -1/\fV (y.1.take x.1) y.2.1 y.2.2=none)\/ ∃b:Nat,x.2=Int.ofNat b/\ ∃h:b<y.1.length,fV (y.1.take x.1) y.2.1 y.2.2=some y.1[b]),μ:=fun x=>y.1.length - x.1,aX:=[6],aS:=fun x=>[(0,ec y.1),(1, .str y.2.1),(2, .bool y.2.2),(7,i64 x.2),(8,i64 x.1)],bw:=fun _=>[]}
def uJ (c:az):Prop:=c.rules.length<=100000/\ ∀s∈c.rules,s.length<=100000
def C7:aN:={Y:=az,pre:=uJ,args:=fun y=>[.agg y.enc],res:=fun y=>i64 (gD y)}
noncomputable def yo (f:FuncId):Option aN:=bif Nat.beq f yV then some pJ else ND f
noncomputable def yp (f:FuncId):Option aN:=bif Nat.beq f rG then some tv else bif Nat.beq f GV then some tv else bif Nat.beq f rm then some Gw else bif Nat.beq f rn then some pJ else yo f
noncomputable def yq (f:FuncId):Option aN:=bif Nat.beq f GS then some Gy else yp f
noncomputable def pS (f:FuncId):Option aN:=bif Nat.beq f GR then some tu else bif Nat.beq f GW then some tu else yq f
noncomputable def pT (f:FuncId):Option aN:=bif Nat.beq f rI then some uS else bif Nat.beq f rD then some FJ else pS f
noncomputable def yr (f:FuncId):Option aN:=bif Nat.beq f np then some FI else bif Nat.beq f nz then some bJ else bif Nat.beq f ng then some bJ else bif Nat.beq f rP then some l5 else bif Nat.beq f nv then some l5 else bif Nat.beq f rf then some zY else bif Nat.beq f nL then some F2 else bif Nat.beq f nh then some Cr else bif Nat.beq f rH then some C7 else pT f
noncomputable def Gi (f:FuncId):Option aN:=bif Nat.beq f kX then some CD else yr f
end
section
variable [Inhabited aL]
theorem OJ:(cf (fun(y:aN.Y tv)=>bH cj (cW y)) 400 rG)=(∀(y:cU×Int),True->br y.1.persistent (bV y.1.aQ y.2=fe y.1 y.2/\True) (false=fe y.1 y.2/\True)):=by kernel_rfl
theorem XW:(cf (fun(y:aN.Y tv)=>bH cj (cW y)) 400 GV)=(∀(y:cU×Int),True->br y.1.persistent (bV y.1.aQ y.2=fe y.1 y.2/\True) (false=fe y.1 y.2/\True)):=by kernel_rfl
theorem Ow:(cf (fun(y:aN.Y Gw)=>bH cj (cW y)) 400 rm)=(∀(y:Int×Int),True->br (!y.1==y.1) (br (!y.2==y.2) (ak 0 (dg y.1 y.2)/\True) (ak (-1) (dg y.1 y.2)/\True)) (br (!y.2==y.2) (ak 1 (dg y.1 y.2)/\True) (br (bI y.1 y.2) (ak (-1) (dg y.1 y.2)/\True) (br (bI y.2 y.1) (ak 1 (dg y.1 y.2)/\True) (ak 0 (dg y.1 y.2)/\True))))):=by kernel_rfl
theorem Ox:(cf (fun(y:aN.Y pJ)=>bH yo (cW y)) 400 rn)=(∀(y:Bs×Bs),True->∃(z:Bs×Bs),y.1=z.1/\y.2=z.2/\True/\ak (eD z.1 z.2) (eD y.1 y.2)/\True):=by kernel_rfl
theorem OD:(cf (fun(y:aN.Y Gy)=>bH yp (cW y)) 600 GS)=(∀(y:aA×aA),True->∃(u:Bs×Bs),y.1.name=u.1/\y.2.name=u.2/\True/\ ∃(v:Bs×Bs),y.1.domain=v.1/\y.2.domain=v.2/\True/\ ∃(z:Bs×Bs),y.1.path=z.1/\y.2.path=z.2/\True/\br (!eD u.1 u.2==0) (ak (eD u.1 u.2) (oV y.1 y.2)/\True) (br (!eD v.1 v.2==0) (ak (eD v.1 v.2) (oV y.1 y.2)/\True) (br (!eD z.1 z.2==0) (ak (eD z.1 z.2) (oV y.1 y.2)/\True) (ak 0 (oV y.1 y.2)/\True)))):=by kernel_rfl
theorem OG:(cf (fun(y:aN.Y tu)=>bH yq (cW y)) 400 GR)=(∀(y:aA×aA),True->∃(z:aA×aA),y.1.name=z.1.name/\y.1.domain=z.1.domain/\y.1.path=z.1.path/\y.2.name=z.2.name/\y.2.domain=z.2.domain/\y.2.path=z.2.path/\True/\bI (oV z.1 z.2) 0=fy y.1 y.2/\True):=by kernel_rfl
theorem XU:(cf (fun(y:aN.Y tu)=>bH cj (cW y)) 400 GW)=(∀(y:aA×aA),True->br (!y.1.name==y.2.name) (Go.Op.bytesLess y.1.name y.2.name=fy y.1 y.2/\True) (br (!y.1.domain==y.2.domain) (Go.Op.bytesLess y.1.domain y.2.domain=fy y.1 y.2/\True) (Go.Op.bytesLess y.1.path y.2.path=fy y.1 y.2/\True))):=by kernel_rfl
theorem Y1:(cf (fun(y:aN.Y uS)=>bH pS (cW y)) 600 rI)=(∀(y:aa×aa),True->∃(u:Int×Int),ak y.1.ab.access u.1/\ak y.2.ab.access u.2/\True/\ ∃(v:Int×Int),ak y.1.ab.aq v.1/\ak y.2.ab.aq v.2/\True/\br (!dg u.1 u.2==0) (br (!dg u.1 u.2==0) (ak (dg u.1 u.2) (ic y.1 y.2)/\True) (br (y.1.key.name==y.2.key.name&&(y.1.key.domain==y.2.key.domain&&(y.1.key.path==y.2.key.path&&true))) (ak (dg u.1 u.2) (ic y.1 y.2)/\True) (∃(z:aA×aA),y.1.key.name=z.1.name/\y.1.key.domain=z.1.domain/\y.1.key.path=z.1.path/\y.2.key.name=z.2.name/\y.2.key.domain=z.2.domain/\y.2.key.path=z.2.path/\True/\br (fy z.1 z.2) (ak (-1) (ic y.1 y.2)/\True) (ak 1 (ic y.1 y.2)/\True)))) (br (!dg v.1 v.2==0) (br (!dg v.1 v.2==0) (ak (dg v.1 v.2) (ic y.1 y.2)/\True) (br (y.1.key.name==y.2.key.name&&(y.1.key.domain==y.2.key.domain&&(y.1.key.path==y.2.key.path&&true))) (ak (dg v.1 v.2) (ic y.1 y.2)/\True) (∃(z:aA×aA),y.1.key.name=z.1.name/\y.1.key.domain=z.1.domain/\y.1.key.path=z.1.path/\y.2.key.name=z.2.name/\y.2.key.domain=z.2.domain/\y.2.key.path=z.2.path/\True/\br (fy z.1 z.2) (ak (-1) (ic y.1 y.2)/\True) (ak 1 (ic y.1 y.2)/\True)))) (br (y.1.key.name==y.2.key.name&&(y.1.key.domain==y.2.key.domain&&(y.1.key.path==y.2.key.path&&true))) (ak 0 (ic y.1 y.2)/\True) (∃(z:aA×aA),y.1.key.name=z.1.name/\y.1.key.domain=z.1.domain/\y.1.key.path=z.1.path/\y.2.key.name=z.2.name/\y.2.key.domain=z.2.domain/\y.2.key.path=z.2.path/\True/\br (fy z.1 z.2) (ak (-1) (ic y.1 y.2)/\True) (ak 1 (ic y.1 y.2)/\True))))):=by kernel_rfl
theorem UB:(cf (fun(y:aN.Y FJ)=>bH pS (cW y)) 400 rD)=(∀(y:aa×aa),True->br (!y.1.ab.access==y.2.ab.access) (bI y.1.ab.access y.2.ab.access=fF y.1 y.2/\True) (br (!y.1.ab.aq==y.2.ab.aq) (bI y.1.ab.aq y.2.ab.aq=fF y.1 y.2/\True) (∃(z:aA×aA),y.1.key.name=z.1.name/\y.1.key.domain=z.1.domain/\y.1.key.path=z.1.path/\y.2.key.name=z.2.name/\y.2.key.domain=z.2.domain/\y.2.key.path=z.2.path/\True/\fy z.1 z.2=fF y.1 y.2/\True))):=by kernel_rfl
theorem WD:(cf (fun(y:aN.Y FI)=>bH pS (cD np 2 (xH y))) 400 np)=(∀(y:List aa),y.length<=10000->(∃(x:Nat),(1<=x/\x<=y.length+1/\ ∀(j:Nat) (h:j+1<y.length),j+1<x->fy (aa.key y[j]) (aa.key y[j+1])=true)/\(SV.ar aa y aa.enc=SV.ar aa y aa.enc/\ak 1 ↑x/\True)/\True/\True)/\ ∀(x:Nat),(1<=x/\x<=y.length+1/\ ∀(j:Nat) (h:j+1<y.length),j+1<x->fy (aa.key y[j]) (aa.key y[j+1])=true)->br (bI (↑x) (Int.ofNat y.length)) (ck (bq .i64 (↑x - 1)) (ck (nn (↑x - 1)) (so y[Int.toNat (↑x - 1)]? fun(val:aa)=>so y[Int.toNat ↑x]? fun(v:aa)=>∃(z:aA×aA),val.key.name=z.1.name/\val.key.domain=z.1.domain/\val.key.path=z.1.path/\v.key.name=z.2.name/\v.key.domain=z.2.domain/\v.key.path=z.2.path/\True/\br (!fy z.1 z.2) (false=iE y/\True) (ck (bq .i64 (↑x+1)) (∃(u:Nat),(1<=u/\u<=y.length+1/\ ∀(j:Nat) (h:j+1<y.length),j+1<u->fy (aa.key y[j]) (aa.key y[j+1])=true)/\aI.μ (xH y) u<aI.μ (xH y) x/\(SV.ar aa y aa.enc=SV.ar aa y aa.enc/\ak (↑x+1) ↑u/\True)/\True/\True))))) (true=iE y/\True)):=by kernel_rfl
theorem UD:(cf (fun(y:aN.Y bJ)=>bH cj (cD lS 3 (jW y.1 fun(x:aa)=>decide (x.key≠y.2)))) 600 nz)=(∀(y:List aa×aA),y.1.length<=10000->(∃(x:Nat),x<=y.1.length/\(SV.fn 98 [] [SV.ptr (SH.next (St.h {ts:=Fr.of (aN.args bJ y) 0,h:={next:=0,os:=[]},log:=[]})) 0]=SV.fn 98 [] [SV.ptr (SH.next (St.h {ts:=Fr.of (aN.args bJ y) 0,h:={next:=0,os:=[]},log:=[]})) 0]/\SV.ar aa y.1 aa.enc=SV.ar aa y.1 aa.enc/\ak (Int.ofNat y.1.length) (Int.ofNat y.1.length)/\ak 0 ↑x/\True/\True)/\((List.filter (fun(x:aa)=>decide (x.key≠y.2)) (List.take x y.1)=[]/\ ∀(x:aa),List.length (aa.enc x)=11)/\(y.2.name=y.2.name/\y.2.domain=y.2.domain/\y.2.path=y.2.path/\True)/\True)/\True)/\ ∀(x:Nat),x<=y.1.length->br (bI (↑x) (Int.ofNat y.1.length)) (so y.1[Int.toNat ↑x]? fun(val:aa)=>br (!(val.key.name==y.2.name&&(val.key.domain==y.2.domain&&(val.key.path==y.2.path&&true)))) (∃(u:aa),(aa.enc u)=(aa.enc val)/\ck (Nat.ble ((List.length (List.filter (fun(x:aa)=>decide (x.key≠y.2)) (List.take x y.1))+List.length [u])*96) 16777216&&Nat.ble (List.length (List.filter (fun(x:aa)=>decide (x.key≠y.2)) (List.take x y.1))+List.length [u]) 16777216) (ck (bq .i64 (↑x+1)) (∃(z:Nat),z<=y.1.length/\aI.μ (jW y.1 fun(x:aa)=>decide (x.key≠y.2)) z<aI.μ (jW y.1 fun(x:aa)=>decide (x.key≠y.2)) x/\(SV.fn 98 [] [SV.ptr (SH.next (St.h {ts:=Fr.of (aN.args bJ y) 0,h:={next:=0,os:=[]},log:=[]})) 0]=SV.fn 98 [] [SV.ptr (SH.next (St.h {ts:=Fr.of (aN.args bJ y) 0,h:={next:=0,os:=[]},log:=[]})) 0]/\SV.ar aa y.1 aa.enc=SV.ar aa y.1 aa.enc/\ak (Int.ofNat y.1.length) (Int.ofNat y.1.length)/\ak (↑x+1) ↑z/\True/\True)/\(SV.ar aa (List.filter (fun(x:aa)=>decide (x.key≠y.2)) (List.take x y.1)++[u]) aa.enc=SV.ar aa (List.filter (fun(x:aa)=>decide (x.key≠y.2)) (List.take z y.1)) aa.enc/\(y.2.name=y.2.name/\y.2.domain=y.2.domain/\y.2.path=y.2.path/\True)/\True)/\True))) (ck (bq .i64 (↑x+1)) (∃(z:Nat),z<=y.1.length/\aI.μ (jW y.1 fun(x:aa)=>decide (x.key≠y.2)) z<aI.μ (jW y.1 fun(x:aa)=>decide (x.key≠y.2)) x/\(SV.fn 98 [] [SV.ptr (SH.next (St.h {ts:=Fr.of (aN.args bJ y) 0,h:={next:=0,os:=[]},log:=[]})) 0]=SV.fn 98 [] [SV.ptr (SH.next (St.h {ts:=Fr.of (aN.args bJ y) 0,h:={next:=0,os:=[]},log:=[]})) 0]/\SV.ar aa y.1 aa.enc=SV.ar aa y.1 aa.enc/\ak (Int.ofNat y.1.length) (Int.ofNat y.1.length)/\ak (↑x+1) ↑z/\True/\True)/\(SV.ar aa (List.filter (fun(x:aa)=>decide (x.key≠y.2)) (List.take x y.1)) aa.enc=SV.ar aa (List.filter (fun(x:aa)=>decide (x.key≠y.2)) (List.take z y.1)) aa.enc/\(y.2.name=y.2.name/\y.2.domain=y.2.domain/\y.2.path=y.2.path/\True)/\True)/\True))) (SV.ar aa (List.filter (fun(x:aa)=>decide (x.key≠y.2)) (List.take x y.1)) aa.enc=SV.ar aa (eV y.1 y.2) aa.enc/\True)):=by kernel_rfl
theorem TU:(cf (fun(y:aN.Y bJ)=>bH cj (cD ng 3 (sh y))) 400 ng)=(∀(y:List aa×aA),y.1.length<=10000->(∃(x:Nat),x<=y.1.length/\(True/\SV.ar aa y.1 aa.enc=SV.ar aa y.1 aa.enc/\True/\ak 0 ↑x/\True)/\(SV.ar (View.X {X:=aa,enc:=aa.enc}) [] (View.enc {X:=aa,enc:=aa.enc})=SV.ar aa (List.filter (fun(x:aa)=>decide (x.key≠y.2)) (List.take x y.1)) aa.enc/\(y.2.name=y.2.name/\y.2.domain=y.2.domain/\y.2.path=y.2.path/\True)/\True)/\True)/\ ∀(x:Nat),x<=y.1.length->br (bI (↑x) (Int.ofNat y.1.length)) (so y.1[Int.toNat ↑x]? fun(val:aa)=>br (!(val.key.name==y.2.name&&(val.key.domain==y.2.domain&&(val.key.path==y.2.path&&true)))) (so y.1[Int.toNat ↑x]? fun(val:aa)=>∃(u:aa),(aa.enc u)=(aa.enc val)/\ck (Nat.ble ((List.length (List.filter (fun(x:aa)=>decide (x.key≠y.2)) (List.take x y.1))+List.length [u])*96) 16777216&&Nat.ble (List.length (List.filter (fun(x:aa)=>decide (x.key≠y.2)) (List.take x y.1))+List.length [u]) 16777216) (ck (bq .i64 (↑x+1)) (∃(z:Nat),z<=y.1.length/\aI.μ (sh y) z<aI.μ (sh y) x/\(True/\SV.ar aa y.1 aa.enc=SV.ar aa y.1 aa.enc/\True/\ak (↑x+1) ↑z/\True)/\(SV.ar aa (List.filter (fun(x:aa)=>decide (x.key≠y.2)) (List.take x y.1)++[u]) aa.enc=SV.ar aa (List.filter (fun(x:aa)=>decide (x.key≠y.2)) (List.take z y.1)) aa.enc/\(y.2.name=y.2.name/\y.2.domain=y.2.domain/\y.2.path=y.2.path/\True)/\True)/\True))) (ck (bq .i64 (↑x+1)) (∃(z:Nat),z<=y.1.length/\aI.μ (sh y) z<aI.μ (sh y) x/\(True/\SV.ar aa y.1 aa.enc=SV.ar aa y.1 aa.enc/\True/\ak (↑x+1) ↑z/\True)/\(SV.ar aa (List.filter (fun(x:aa)=>decide (x.key≠y.2)) (List.take x y.1)) aa.enc=SV.ar aa (List.filter (fun(x:aa)=>decide (x.key≠y.2)) (List.take z y.1)) aa.enc/\(y.2.name=y.2.name/\y.2.domain=y.2.domain/\y.2.path=y.2.path/\True)/\True)/\True))) (SV.ar aa (List.filter (fun(x:aa)=>decide (x.key≠y.2)) (List.take x y.1)) aa.enc=SV.ar aa (eV y.1 y.2) aa.enc/\True)):=by kernel_rfl
theorem Xe:(cf (fun(y:aN.Y l5)=>bH cj (cD lS 3 (jW y.1 fun(x:aa)=>decide (x.key.domain=y.2)))) 600 rP)=(∀(y:List aa×Bs),y.1.length<=10000->(∃(x:Nat),x<=y.1.length/\(SV.fn 99 [] [SV.ptr (SH.next (St.h {ts:=Fr.of (aN.args l5 y) 0,h:={next:=0,os:=[]},log:=[]})) 0]=SV.fn 99 [] [SV.ptr (SH.next (St.h {ts:=Fr.of (aN.args l5 y) 0,h:={next:=0,os:=[]},log:=[]})) 0]/\SV.ar aa y.1 aa.enc=SV.ar aa y.1 aa.enc/\ak (Int.ofNat y.1.length) (Int.ofNat y.1.length)/\ak 0 ↑x/\True/\True)/\((List.filter (fun(x:aa)=>decide (x.key.domain=y.2)) (List.take x y.1)=[]/\ ∀(x:aa),List.length (aa.enc x)=11)/\(y.2=y.2/\True)/\True)/\True)/\ ∀(x:Nat),x<=y.1.length->br (bI (↑x) (Int.ofNat y.1.length)) (so y.1[Int.toNat ↑x]? fun(val:aa)=>br (val.key.domain==y.2) (∃(u:aa),(aa.enc u)=(aa.enc val)/\ck (Nat.ble ((List.length (List.filter (fun(x:aa)=>decide (x.key.domain=y.2)) (List.take x y.1))+List.length [u])*96) 16777216&&Nat.ble (List.length (List.filter (fun(x:aa)=>decide (x.key.domain=y.2)) (List.take x y.1))+List.length [u]) 16777216) (ck (bq .i64 (↑x+1)) (∃(z:Nat),z<=y.1.length/\aI.μ (jW y.1 fun(x:aa)=>decide (x.key.domain=y.2)) z<aI.μ (jW y.1 fun(x:aa)=>decide (x.key.domain=y.2)) x/\(SV.fn 99 [] [SV.ptr (SH.next (St.h {ts:=Fr.of (aN.args l5 y) 0,h:={next:=0,os:=[]},log:=[]})) 0]=SV.fn 99 [] [SV.ptr (SH.next (St.h {ts:=Fr.of (aN.args l5 y) 0,h:={next:=0,os:=[]},log:=[]})) 0]/\SV.ar aa y.1 aa.enc=SV.ar aa y.1 aa.enc/\ak (Int.ofNat y.1.length) (Int.ofNat y.1.length)/\ak (↑x+1) ↑z/\True/\True)/\(SV.ar aa (List.filter (fun(x:aa)=>decide (x.key.domain=y.2)) (List.take x y.1)++[u]) aa.enc=SV.ar aa (List.filter (fun(x:aa)=>decide (x.key.domain=y.2)) (List.take z y.1)) aa.enc/\(y.2=y.2/\True)/\True)/\True))) (ck (bq .i64 (↑x+1)) (∃(z:Nat),z<=y.1.length/\aI.μ (jW y.1 fun(x:aa)=>decide (x.key.domain=y.2)) z<aI.μ (jW y.1 fun(x:aa)=>decide (x.key.domain=y.2)) x/\(SV.fn 99 [] [SV.ptr (SH.next (St.h {ts:=Fr.of (aN.args l5 y) 0,h:={next:=0,os:=[]},log:=[]})) 0]=SV.fn 99 [] [SV.ptr (SH.next (St.h {ts:=Fr.of (aN.args l5 y) 0,h:={next:=0,os:=[]},log:=[]})) 0]/\SV.ar aa y.1 aa.enc=SV.ar aa y.1 aa.enc/\ak (Int.ofNat y.1.length) (Int.ofNat y.1.length)/\ak (↑x+1) ↑z/\True/\True)/\(SV.ar aa (List.filter (fun(x:aa)=>decide (x.key.domain=y.2)) (List.take x y.1)) aa.enc=SV.ar aa (List.filter (fun(x:aa)=>decide (x.key.domain=y.2)) (List.take z y.1)) aa.enc/\(y.2=y.2/\True)/\True)/\True))) (SV.ar aa (List.filter (fun(x:aa)=>decide (x.key.domain=y.2)) (List.take x y.1)) aa.enc=SV.ar aa (fb y.1 y.2) aa.enc/\True)):=by kernel_rfl
theorem UX:(cf (fun(y:aN.Y l5)=>bH cj (cD nv 3 (sC y))) 400 nv)=(∀(y:List aa×Bs),y.1.length<=10000->(∃(x:Nat),x<=y.1.length/\(SV.ar aa y.1 aa.enc=SV.ar aa y.1 aa.enc/\y.2=y.2/\True/\ak 0 ↑x/\True)/\(SV.ar (View.X {X:=aa,enc:=aa.enc}) [] (View.enc {X:=aa,enc:=aa.enc})=SV.ar aa (List.filter (fun(x:aa)=>decide (x.key.domain=y.2)) (List.take x y.1)) aa.enc/\True)/\True)/\ ∀(x:Nat),x<=y.1.length->br (bI (↑x) (Int.ofNat y.1.length)) (so y.1[Int.toNat ↑x]? fun(val:aa)=>br (val.key.domain==y.2) (so y.1[Int.toNat ↑x]? fun(val:aa)=>∃(u:aa),(aa.enc u)=(aa.enc val)/\ck (Nat.ble ((List.length (List.filter (fun(x:aa)=>decide (x.key.domain=y.2)) (List.take x y.1))+List.length [u])*96) 16777216&&Nat.ble (List.length (List.filter (fun(x:aa)=>decide (x.key.domain=y.2)) (List.take x y.1))+List.length [u]) 16777216) (ck (bq .i64 (↑x+1)) (∃(z:Nat),z<=y.1.length/\aI.μ (sC y) z<aI.μ (sC y) x/\(SV.ar aa y.1 aa.enc=SV.ar aa y.1 aa.enc/\y.2=y.2/\True/\ak (↑x+1) ↑z/\True)/\(SV.ar aa (List.filter (fun(x:aa)=>decide (x.key.domain=y.2)) (List.take x y.1)++[u]) aa.enc=SV.ar aa (List.filter (fun(x:aa)=>decide (x.key.domain=y.2)) (List.take z y.1)) aa.enc/\True)/\True))) (ck (bq .i64 (↑x+1)) (∃(z:Nat),z<=y.1.length/\aI.μ (sC y) z<aI.μ (sC y) x/\(SV.ar aa y.1 aa.enc=SV.ar aa y.1 aa.enc/\y.2=y.2/\True/\ak (↑x+1) ↑z/\True)/\(SV.ar aa (List.filter (fun(x:aa)=>decide (x.key.domain=y.2)) (List.take x y.1)) aa.enc=SV.ar aa (List.filter (fun(x:aa)=>decide (x.key.domain=y.2)) (List.take z y.1)) aa.enc/\True)/\True))) (SV.ar aa (List.filter (fun(x:aa)=>decide (x.key.domain=y.2)) (List.take x y.1)) aa.enc=SV.ar aa (fb y.1 y.2) aa.enc/\True)):=by kernel_rfl
theorem TR:(cf (fun(y:aN.Y zY)=>bH cj (cD vE 2 (xV y))) 400 rf)=(∀(y:List aa×aa),y.1.length<=10000->(∃(x:Nat),(x<=y.1.length/\ ∀(j:Nat) (h:j<y.1.length),j<x->y.1[j]=y.2->False)/\(True/\SV.ar aa y.1 aa.enc=SV.ar aa y.1 aa.enc/\ak (Int.ofNat y.1.length) (Int.ofNat y.1.length)/\ak 0 ↑x/\True)/\((y.2.key.name=y.2.key.name/\y.2.key.domain=y.2.key.domain/\y.2.key.path=y.2.key.path/\y.2.ab.value=y.2.ab.value/\y.2.ab.aG=y.2.ab.aG/\y.2.ab.aV=y.2.ab.aV/\y.2.ab.aH=y.2.ab.aH/\y.2.ab.persistent=y.2.ab.persistent/\ak y.2.ab.aQ y.2.ab.aQ/\ak y.2.ab.aq y.2.ab.aq/\ak y.2.ab.access y.2.ab.access/\True)/\(y.2.key.name=y.2.key.name/\y.2.key.domain=y.2.key.domain/\y.2.key.path=y.2.key.path/\y.2.ab.value=y.2.ab.value/\y.2.ab.aG=y.2.ab.aG/\y.2.ab.aV=y.2.ab.aV/\y.2.ab.aH=y.2.ab.aH/\y.2.ab.persistent=y.2.ab.persistent/\ak y.2.ab.aQ y.2.ab.aQ/\ak y.2.ab.aq y.2.ab.aq/\ak y.2.ab.access y.2.ab.access/\True)/\True)/\True)/\ ∀(x:Nat),(x<=y.1.length/\ ∀(j:Nat) (h:j<y.1.length),j<x->y.1[j]=y.2->False)->br (bI (↑x) (Int.ofNat y.1.length)) (so y.1[Int.toNat ↑x]? fun(val:aa)=>br (y.2.key.name==val.key.name&&(y.2.key.domain==val.key.domain&&(y.2.key.path==val.key.path&&true))&&(y.2.ab.value==val.ab.value&&(y.2.ab.aG==val.ab.aG&&(y.2.ab.aV==val.ab.aV&&(y.2.ab.aH==val.ab.aH&&(y.2.ab.persistent==val.ab.persistent&&(y.2.ab.aQ==val.ab.aQ&&(y.2.ab.aq==val.ab.aq&&(y.2.ab.access==val.ab.access&&true)))))))&&true)) (bV 0 ↑x=decide (y.2∈y.1)/\True) (ck (bq .i64 (↑x+1)) (∃(z:Nat),(z<=y.1.length/\ ∀(j:Nat) (h:j<y.1.length),j<z->y.1[j]=y.2->False)/\aI.μ (xV y) z<aI.μ (xV y) x/\(True/\SV.ar aa y.1 aa.enc=SV.ar aa y.1 aa.enc/\ak (Int.ofNat y.1.length) (Int.ofNat y.1.length)/\ak (↑x+1) ↑z/\True)/\((y.2.key.name=y.2.key.name/\y.2.key.domain=y.2.key.domain/\y.2.key.path=y.2.key.path/\y.2.ab.value=y.2.ab.value/\y.2.ab.aG=y.2.ab.aG/\y.2.ab.aV=y.2.ab.aV/\y.2.ab.aH=y.2.ab.aH/\y.2.ab.persistent=y.2.ab.persistent/\ak y.2.ab.aQ y.2.ab.aQ/\ak y.2.ab.aq y.2.ab.aq/\ak y.2.ab.access y.2.ab.access/\True)/\(y.2.key.name=y.2.key.name/\y.2.key.domain=y.2.key.domain/\y.2.key.path=y.2.key.path/\y.2.ab.value=y.2.ab.value/\y.2.ab.aG=y.2.ab.aG/\y.2.ab.aV=y.2.ab.aV/\y.2.ab.aH=y.2.ab.aH/\y.2.ab.persistent=y.2.ab.persistent/\ak y.2.ab.aQ y.2.ab.aQ/\ak y.2.ab.aq y.2.ab.aq/\ak y.2.ab.access y.2.ab.access/\True)/\True)/\True))) (bV 0 (-1)=decide (y.2∈y.1)/\True)):=by kernel_rfl
theorem XY:(cf (fun(y:aN.Y F2)=>bH cj (cD nL 4 (xX y))) 400 nL)=(∀(y:List aa×List aa),y.1.length<=10000/\y.2.length<=10000->br (!Int.ofNat y.1.length==Int.ofNat y.2.length) (false=decide (y.1=y.2)/\True) ((∃(x:Nat),(x<=y.1.length/\y.1.length=y.2.length/\List.take x y.1=List.take x y.2)/\(SV.ar aa y.1 aa.enc=SV.ar aa y.1 aa.enc/\SV.ar aa y.2 aa.enc=SV.ar aa y.2 aa.enc/\ak 0 ↑x/\True)/\True/\True)/\ ∀(x:Nat),x<=y.1.length/\y.1.length=y.2.length/\List.take x y.1=List.take x y.2->br (bI (↑x) (Int.ofNat y.1.length)) (so y.1[Int.toNat ↑x]? fun(val:aa)=>so y.2[Int.toNat ↑x]? fun(z:aa)=>br (!(val.key.name==z.key.name&&(val.key.domain==z.key.domain&&(val.key.path==z.key.path&&true))&&(val.ab.value==z.ab.value&&(val.ab.aG==z.ab.aG&&(val.ab.aV==z.ab.aV&&(val.ab.aH==z.ab.aH&&(val.ab.persistent==z.ab.persistent&&(val.ab.aQ==z.ab.aQ&&(val.ab.aq==z.ab.aq&&(val.ab.access==z.ab.access&&true)))))))&&true))) (false=decide (y.1=y.2)/\True) (ck (bq .i64 (↑x+1)) (∃(u:Nat),(u<=y.1.length/\y.1.length=y.2.length/\List.take u y.1=List.take u y.2)/\aI.μ (xX y) u<aI.μ (xX y) x/\(SV.ar aa y.1 aa.enc=SV.ar aa y.1 aa.enc/\SV.ar aa y.2 aa.enc=SV.ar aa y.2 aa.enc/\ak (↑x+1) ↑u/\True)/\True/\True))) (true=decide (y.1=y.2)/\True))):=by kernel_rfl
theorem UC:(cf (fun(y:aN.Y Cr)=>bH pT (cD nh 3 (kH y))) 600 nh)=(∀(y:List aa×Bs×Bool),y.1.length<=10000->(∃(x:Nat×Int),(x.1<=y.1.length/\(x.2= -1/\fV (List.take x.1 y.1) y.2.1 y.2.2=Option.none\/ ∃(b:Nat),x.2=Int.ofNat b/\ ∃(h:b<y.1.length),fV (List.take x.1 y.1) y.2.1 y.2.2=Option.some y.1[b]))/\(True/\SV.ar aa y.1 aa.enc=SV.ar aa y.1 aa.enc/\y.2.1=y.2.1/\y.2.2=y.2.2/\ak (-1) x.2/\ak 0 ↑x.1/\True)/\((([]:List UInt8)=[]/\([]:List UInt8)=[]/\([]:List UInt8)=[]/\True)/\True)/\True)/\ ∀(x:Nat×Int),x.1<=y.1.length/\(x.2= -1/\fV (List.take x.1 y.1) y.2.1 y.2.2=Option.none\/ ∃(b:Nat),x.2=Int.ofNat b/\ ∃(h:b<y.1.length),fV (List.take x.1 y.1) y.2.1 y.2.2=Option.some y.1[b])->br (bI (↑x.1) (Int.ofNat y.1.length)) (br (!y.2.2) (so y.1[Int.toNat ↑x.1]? fun(val:aa)=>br (!val.key.domain==y.2.1) (ck (bq .i64 (↑x.1+1)) (∃(z:Nat×Int),(z.1<=y.1.length/\(z.2= -1/\fV (List.take z.1 y.1) y.2.1 y.2.2=Option.none\/ ∃(b:Nat),z.2=Int.ofNat b/\ ∃(h:b<y.1.length),fV (List.take z.1 y.1) y.2.1 y.2.2=Option.some y.1[b]))/\aI.μ (kH y) z<aI.μ (kH y) x/\(True/\SV.ar aa y.1 aa.enc=SV.ar aa y.1 aa.enc/\y.2.1=y.2.1/\y.2.2=y.2.2/\ak x.2 z.2/\ak (↑x.1+1) ↑z.1/\True)/\((([]:List UInt8)=[]/\([]:List UInt8)=[]/\([]:List UInt8)=[]/\True)/\True)/\True)) (br (bI x.2 0) (ck (bq .i64 (↑x.1+1)) (∃(z:Nat×Int),(z.1<=y.1.length/\(z.2= -1/\fV (List.take z.1 y.1) y.2.1 y.2.2=Option.none\/ ∃(b:Nat),z.2=Int.ofNat b/\ ∃(h:b<y.1.length),fV (List.take z.1 y.1) y.2.1 y.2.2=Option.some y.1[b]))/\aI.μ (kH y) z<aI.μ (kH y) x/\(True/\SV.ar aa y.1 aa.enc=SV.ar aa y.1 aa.enc/\y.2.1=y.2.1/\y.2.2=y.2.2/\ak (↑x.1) z.2/\ak (↑x.1+1) ↑z.1/\True)/\((([]:List UInt8)=[]/\([]:List UInt8)=[]/\([]:List UInt8)=[]/\True)/\True)/\True)) (so y.1[Int.toNat ↑x.1]? fun(val:aa)=>ck (nn x.2) (so y.1[Int.toNat x.2]? fun(v:aa)=>∃(z:aa×aa),val.key.name=z.1.key.name/\val.key.domain=z.1.key.domain/\val.key.path=z.1.key.path/\val.ab.value=z.1.ab.value/\val.ab.aG=z.1.ab.aG/\val.ab.aV=z.1.ab.aV/\val.ab.aH=z.1.ab.aH/\val.ab.persistent=z.1.ab.persistent/\ak val.ab.aQ z.1.ab.aQ/\ak val.ab.aq z.1.ab.aq/\ak val.ab.access z.1.ab.access/\v.key.name=z.2.key.name/\v.key.domain=z.2.key.domain/\v.key.path=z.2.key.path/\v.ab.value=z.2.ab.value/\v.ab.aG=z.2.ab.aG/\v.ab.aV=z.2.ab.aV/\v.ab.aH=z.2.ab.aH/\v.ab.persistent=z.2.ab.persistent/\ak v.ab.aQ z.2.ab.aQ/\ak v.ab.aq z.2.ab.aq/\ak v.ab.access z.2.ab.access/\True/\br (fF z.1 z.2) (ck (bq .i64 (↑x.1+1)) (∃(u:Nat×Int),(u.1<=y.1.length/\(u.2= -1/\fV (List.take u.1 y.1) y.2.1 y.2.2=Option.none\/ ∃(b:Nat),u.2=Int.ofNat b/\ ∃(h:b<y.1.length),fV (List.take u.1 y.1) y.2.1 y.2.2=Option.some y.1[b]))/\aI.μ (kH y) u<aI.μ (kH y) x/\(True/\SV.ar aa y.1 aa.enc=SV.ar aa y.1 aa.enc/\y.2.1=y.2.1/\y.2.2=y.2.2/\ak (↑x.1) u.2/\ak (↑x.1+1) ↑u.1/\True)/\((([]:List UInt8)=[]/\([]:List UInt8)=[]/\([]:List UInt8)=[]/\True)/\True)/\True)) (ck (bq .i64 (↑x.1+1)) (∃(u:Nat×Int),(u.1<=y.1.length/\(u.2= -1/\fV (List.take u.1 y.1) y.2.1 y.2.2=Option.none\/ ∃(b:Nat),u.2=Int.ofNat b/\ ∃(h:b<y.1.length),fV (List.take u.1 y.1) y.2.1 y.2.2=Option.some y.1[b]))/\aI.μ (kH y) u<aI.μ (kH y) x/\(True/\SV.ar aa y.1 aa.enc=SV.ar aa y.1 aa.enc/\y.2.1=y.2.1/\y.2.2=y.2.2/\ak x.2 u.2/\ak (↑x.1+1) ↑u.1/\True)/\((([]:List UInt8)=[]/\([]:List UInt8)=[]/\([]:List UInt8)=[]/\True)/\True)/\True)))))) (br (bI x.2 0) (ck (bq .i64 (↑x.1+1)) (∃(z:Nat×Int),(z.1<=y.1.length/\(z.2= -1/\fV (List.take z.1 y.1) y.2.1 y.2.2=Option.none\/ ∃(b:Nat),z.2=Int.ofNat b/\ ∃(h:b<y.1.length),fV (List.take z.1 y.1) y.2.1 y.2.2=Option.some y.1[b]))/\aI.μ (kH y) z<aI.μ (kH y) x/\(True/\SV.ar aa y.1 aa.enc=SV.ar aa y.1 aa.enc/\y.2.1=y.2.1/\y.2.2=y.2.2/\ak (↑x.1) z.2/\ak (↑x.1+1) ↑z.1/\True)/\((([]:List UInt8)=[]/\([]:List UInt8)=[]/\([]:List UInt8)=[]/\True)/\True)/\True)) (so y.1[Int.toNat ↑x.1]? fun(val:aa)=>ck (nn x.2) (so y.1[Int.toNat x.2]? fun(v:aa)=>∃(z:aa×aa),val.key.name=z.1.key.name/\val.key.domain=z.1.key.domain/\val.key.path=z.1.key.path/\val.ab.value=z.1.ab.value/\val.ab.aG=z.1.ab.aG/\val.ab.aV=z.1.ab.aV/\val.ab.aH=z.1.ab.aH/\val.ab.persistent=z.1.ab.persistent/\ak val.ab.aQ z.1.ab.aQ/\ak val.ab.aq z.1.ab.aq/\ak val.ab.access z.1.ab.access/\v.key.name=z.2.key.name/\v.key.domain=z.2.key.domain/\v.key.path=z.2.key.path/\v.ab.value=z.2.ab.value/\v.ab.aG=z.2.ab.aG/\v.ab.aV=z.2.ab.aV/\v.ab.aH=z.2.ab.aH/\v.ab.persistent=z.2.ab.persistent/\ak v.ab.aQ z.2.ab.aQ/\ak v.ab.aq z.2.ab.aq/\ak v.ab.access z.2.ab.access/\True/\br (fF z.1 z.2) (ck (bq .i64 (↑x.1+1)) (∃(u:Nat×Int),(u.1<=y.1.length/\(u.2= -1/\fV (List.take u.1 y.1) y.2.1 y.2.2=Option.none\/ ∃(b:Nat),u.2=Int.ofNat b/\ ∃(h:b<y.1.length),fV (List.take u.1 y.1) y.2.1 y.2.2=Option.some y.1[b]))/\aI.μ (kH y) u<aI.μ (kH y) x/\(True/\SV.ar aa y.1 aa.enc=SV.ar aa y.1 aa.enc/\y.2.1=y.2.1/\y.2.2=y.2.2/\ak (↑x.1) u.2/\ak (↑x.1+1) ↑u.1/\True)/\((([]:List UInt8)=[]/\([]:List UInt8)=[]/\([]:List UInt8)=[]/\True)/\True)/\True)) (ck (bq .i64 (↑x.1+1)) (∃(u:Nat×Int),(u.1<=y.1.length/\(u.2= -1/\fV (List.take u.1 y.1) y.2.1 y.2.2=Option.none\/ ∃(b:Nat),u.2=Int.ofNat b/\ ∃(h:b<y.1.length),fV (List.take u.1 y.1) y.2.1 y.2.2=Option.some y.1[b]))/\aI.μ (kH y) u<aI.μ (kH y) x/\(True/\SV.ar aa y.1 aa.enc=SV.ar aa y.1 aa.enc/\y.2.1=y.2.1/\y.2.2=y.2.2/\ak x.2 u.2/\ak (↑x.1+1) ↑u.1/\True)/\((([]:List UInt8)=[]/\([]:List UInt8)=[]/\([]:List UInt8)=[]/\True)/\True)/\True)))))) (br (bI x.2 0) ([]=aA.name (fJ y.1 y.2.1 y.2.2)/\[]=aA.domain (fJ y.1 y.2.1 y.2.2)/\[]=aA.path (fJ y.1 y.2.1 y.2.2)/\True) (ck (nn x.2) (so y.1[Int.toNat x.2]? fun(val:aa)=>val.key.name=aA.name (fJ y.1 y.2.1 y.2.2)/\val.key.domain=aA.domain (fJ y.1 y.2.1 y.2.2)/\val.key.path=aA.path (fJ y.1 y.2.1 y.2.2)/\True)))):=by kernel_rfl
theorem Xc:(cf (fun(y:aN.Y C7)=>bH pT (cW y)) 600 rH)=(∀(y:az),(y.rules.length<=100000/\ ∀(s:Bs),s∈y.rules->s.length<=100000)->br (bV 1 y.aC) (br (!bV y.aC 64) (ak 4 (gD y)/\True) (br (bV 1 y.domain) (br (!bV y.domain 2048) (ak 4 (gD y)/\True) (br (bV 1 y.total) (br (!bV y.total 2048) (ak 4 (gD y)/\True) (∃(z:List Bs),SV.ar Bs y.rules aU=SV.ar Bs z aU/\(z.length<=100000/\ ∀(s:Bs),s∈z->s.length<=100000)/\ak (oU z) (gD y)/\True)) (ak 4 (gD y)/\True))) (ak 4 (gD y)/\True))) (ak 4 (gD y)/\True)):=by kernel_rfl
theorem Uz:(cf (fun(y:aN.Y CD)=>bH yr (l4 kX 7 (wH y) (cD kX 3 (lj y)))) 600 kX)=(∀(y:List aa),y.length<=10000->(∃(x:Nat),x<=y.length/\(SV.ar aa y aa.enc=SV.ar aa y aa.enc/\SV.ar (View.X {X:=Bs,enc:=aU}) [] (View.enc {X:=Bs,enc:=aU})=SV.ar Bs (bj (List.take x y)) aU/\ak 0 ↑x/\True)/\(True/\True)/\True)/\ ∀(x:Nat),x<=y.length->br (bI (↑x) (Int.ofNat y.length)) (so y[Int.toNat ↑x]? fun(val:aa)=>∃(x0:Nat×Nat),(∃(z:Nat×Nat),((∃(h:z.1<y.length),z.2<=ef (bj (List.take z.1 y)) (aA.domain (aa.key y[z.1])))/\z.1=x0.1)/\(SV.ar aa y aa.enc=SV.ar aa y aa.enc/\SV.ar Bs (bj (List.take x y)) aU=SV.ar Bs (bj (List.take z.1 y)) aU/\ak ↑x ↑z.1/\val.key.domain=aA.domain (aa.key (Option.getD y[z.1]? bE))/\ak 0 ↑z.2/\True)/\(True/\True)/\True)/\ ∀(z:Nat×Nat),(∃(h:z.1<y.length),z.2<=ef (bj (List.take z.1 y)) (aA.domain (aa.key y[z.1])))/\z.1=x0.1->br (bI (↑z.2) (Int.ofNat (List.length (bj (List.take z.1 y))))) (so (bj (List.take z.1 y))[Int.toNat ↑z.2]? fun(val:Bs)=>br (Go.Op.bytesLess val (aA.domain (aa.key (Option.getD y[z.1]? bE)))) (ck (bq .i64 (↑z.2+1)) (∃(u:Nat×Nat),((∃(h:u.1<y.length),u.2<=ef (bj (List.take u.1 y)) (aA.domain (aa.key y[u.1])))/\u.1=x0.1)/\aI.μ (aI.when (wH y) (fun(a b:Nat×Nat)=>b.1=a.1) x0) u<aI.μ (aI.when (wH y) (fun(a b:Nat×Nat)=>b.1=a.1) x0) z/\(SV.ar aa y aa.enc=SV.ar aa y aa.enc/\SV.ar Bs (bj (List.take z.1 y)) aU=SV.ar Bs (bj (List.take u.1 y)) aU/\ak ↑z.1 ↑u.1/\aA.domain (aa.key (Option.getD y[z.1]? bE))=aA.domain (aa.key (Option.getD y[u.1]? bE))/\ak (↑z.2+1) ↑u.2/\True)/\(True/\True)/\True)) (br ((↑z.2:Int)==Int.ofNat (List.length (bj (List.take z.1 y)))) ((∀(x:Bs),List.length (aU x)=1)/\ck (Nat.ble (Int.toNat ↑z.2) (List.length (bj (List.take z.1 y)))) ((∀(x:Bs),List.length (aU x)=1)/\ck (Nat.ble (Int.toNat ↑z.2) (List.length (bj (List.take z.1 y)))) ((∀(x:Bs),List.length (aU x)=1/\List.all (aU x) jF=true)/\ ∃(M':List (View.X {X:=Bs,enc:=aU})),SV.ar Bs (List.take (Int.toNat ↑z.2) (bj (List.take z.1 y))) aU=SV.ar (View.X {X:=Bs,enc:=aU}) M' (View.enc {X:=Bs,enc:=aU})/\ck (Nat.ble ((List.length ([]:List Nat)+M'.length)*16) 16777216&&Nat.ble (List.length ([]:List Nat)+M'.length) 16777216) (∃(v:View.X {X:=Bs,enc:=aU}),[SV.str v]=[SV.str (aA.domain (aa.key (Option.getD y[z.1]? bE)))]/\ck (Nat.ble ((List.length ([]++M')+List.length [v])*16) 16777216&&Nat.ble (List.length ([]++M')+List.length [v]) 16777216) ((∀(x:Bs),List.length (aU x)=1/\List.all (aU x) jF=true)/\ ∃(M'_1:List (View.X {X:=Bs,enc:=aU})),SV.ar Bs (List.drop (Int.toNat ↑z.2) (bj (List.take z.1 y))) aU=SV.ar (View.X {X:=Bs,enc:=aU}) M'_1 (View.enc {X:=Bs,enc:=aU})/\ck (Nat.ble ((List.length ([]++M'++[v])+M'_1.length)*16) 16777216&&Nat.ble (List.length ([]++M'++[v])+M'_1.length) 16777216) (ck (bq .i64 (↑z.1+1)) (∃(u:Nat),u<=y.length/\aI.μ (lj y) u<aI.μ (lj y) x/\(SV.ar aa y aa.enc=SV.ar aa y aa.enc/\SV.ar (View.X {X:=Bs,enc:=aU}) ([]++M'++[v]++M'_1) (View.enc {X:=Bs,enc:=aU})=SV.ar Bs (bj (List.take u y)) aU/\ak (↑z.1+1) ↑u/\True)/\(True/\True)/\True))))))) (so (bj (List.take z.1 y))[Int.toNat ↑z.2]? fun(val:Bs)=>br (!val==aA.domain (aa.key (Option.getD y[z.1]? bE))) ((∀(x:Bs),List.length (aU x)=1)/\ck (Nat.ble (Int.toNat ↑z.2) (List.length (bj (List.take z.1 y)))) ((∀(x:Bs),List.length (aU x)=1)/\ck (Nat.ble (Int.toNat ↑z.2) (List.length (bj (List.take z.1 y)))) ((∀(x:Bs),List.length (aU x)=1/\List.all (aU x) jF=true)/\ ∃(M':List (View.X {X:=Bs,enc:=aU})),SV.ar Bs (List.take (Int.toNat ↑z.2) (bj (List.take z.1 y))) aU=SV.ar (View.X {X:=Bs,enc:=aU}) M' (View.enc {X:=Bs,enc:=aU})/\ck (Nat.ble ((List.length ([]:List Nat)+M'.length)*16) 16777216&&Nat.ble (List.length ([]:List Nat)+M'.length) 16777216) (∃(v:View.X {X:=Bs,enc:=aU}),[SV.str v]=[SV.str (aA.domain (aa.key (Option.getD y[z.1]? bE)))]/\ck (Nat.ble ((List.length ([]++M')+List.length [v])*16) 16777216&&Nat.ble (List.length ([]++M')+List.length [v]) 16777216) ((∀(x:Bs),List.length (aU x)=1/\List.all (aU x) jF=true)/\ ∃(M'_1:List (View.X {X:=Bs,enc:=aU})),SV.ar Bs (List.drop (Int.toNat ↑z.2) (bj (List.take z.1 y))) aU=SV.ar (View.X {X:=Bs,enc:=aU}) M'_1 (View.enc {X:=Bs,enc:=aU})/\ck (Nat.ble ((List.length ([]++M'++[v])+M'_1.length)*16) 16777216&&Nat.ble (List.length ([]++M'++[v])+M'_1.length) 16777216) (ck (bq .i64 (↑z.1+1)) (∃(u:Nat),u<=y.length/\aI.μ (lj y) u<aI.μ (lj y) x/\(SV.ar aa y aa.enc=SV.ar aa y aa.enc/\SV.ar (View.X {X:=Bs,enc:=aU}) ([]++M'++[v]++M'_1) (View.enc {X:=Bs,enc:=aU})=SV.ar Bs (bj (List.take u y)) aU/\ak (↑z.1+1) ↑u/\True)/\(True/\True)/\True))))))) (ck (bq .i64 (↑z.1+1)) (∃(u:Nat),u<=y.length/\aI.μ (lj y) u<aI.μ (lj y) x/\(SV.ar aa y aa.enc=SV.ar aa y aa.enc/\SV.ar Bs (bj (List.take z.1 y)) aU=SV.ar Bs (bj (List.take u y)) aU/\ak (↑z.1+1) ↑u/\True)/\(True/\True)/\True))))) (br ((↑z.2:Int)==Int.ofNat (List.length (bj (List.take z.1 y)))) ((∀(x:Bs),List.length (aU x)=1)/\ck (Nat.ble (Int.toNat ↑z.2) (List.length (bj (List.take z.1 y)))) ((∀(x:Bs),List.length (aU x)=1)/\ck (Nat.ble (Int.toNat ↑z.2) (List.length (bj (List.take z.1 y)))) ((∀(x:Bs),List.length (aU x)=1/\List.all (aU x) jF=true)/\ ∃(M':List (View.X {X:=Bs,enc:=aU})),SV.ar Bs (List.take (Int.toNat ↑z.2) (bj (List.take z.1 y))) aU=SV.ar (View.X {X:=Bs,enc:=aU}) M' (View.enc {X:=Bs,enc:=aU})/\ck (Nat.ble ((List.length ([]:List Nat)+M'.length)*16) 16777216&&Nat.ble (List.length ([]:List Nat)+M'.length) 16777216) (∃(v:View.X {X:=Bs,enc:=aU}),[SV.str v]=[SV.str (aA.domain (aa.key (Option.getD y[z.1]? bE)))]/\ck (Nat.ble ((List.length ([]++M')+List.length [v])*16) 16777216&&Nat.ble (List.length ([]++M')+List.length [v]) 16777216) ((∀(x:Bs),List.length (aU x)=1/\List.all (aU x) jF=true)/\ ∃(M'_1:List (View.X {X:=Bs,enc:=aU})),SV.ar Bs (List.drop (Int.toNat ↑z.2) (bj (List.take z.1 y))) aU=SV.ar (View.X {X:=Bs,enc:=aU}) M'_1 (View.enc {X:=Bs,enc:=aU})/\ck (Nat.ble ((List.length ([]++M'++[v])+M'_1.length)*16) 16777216&&Nat.ble (List.length ([]++M'++[v])+M'_1.length) 16777216) (ck (bq .i64 (↑z.1+1)) (∃(u:Nat),u<=y.length/\aI.μ (lj y) u<aI.μ (lj y) x/\(SV.ar aa y aa.enc=SV.ar aa y aa.enc/\SV.ar (View.X {X:=Bs,enc:=aU}) ([]++M'++[v]++M'_1) (View.enc {X:=Bs,enc:=aU})=SV.ar Bs (bj (List.take u y)) aU/\ak (↑z.1+1) ↑u/\True)/\(True/\True)/\True))))))) (so (bj (List.take z.1 y))[Int.toNat ↑z.2]? fun(val:Bs)=>br (!val==aA.domain (aa.key (Option.getD y[z.1]? bE))) ((∀(x:Bs),List.length (aU x)=1)/\ck (Nat.ble (Int.toNat ↑z.2) (List.length (bj (List.take z.1 y)))) ((∀(x:Bs),List.length (aU x)=1)/\ck (Nat.ble (Int.toNat ↑z.2) (List.length (bj (List.take z.1 y)))) ((∀(x:Bs),List.length (aU x)=1/\List.all (aU x) jF=true)/\ ∃(M':List (View.X {X:=Bs,enc:=aU})),SV.ar Bs (List.take (Int.toNat ↑z.2) (bj (List.take z.1 y))) aU=SV.ar (View.X {X:=Bs,enc:=aU}) M' (View.enc {X:=Bs,enc:=aU})/\ck (Nat.ble ((List.length ([]:List Nat)+M'.length)*16) 16777216&&Nat.ble (List.length ([]:List Nat)+M'.length) 16777216) (∃(v:View.X {X:=Bs,enc:=aU}),[SV.str v]=[SV.str (aA.domain (aa.key (Option.getD y[z.1]? bE)))]/\ck (Nat.ble ((List.length ([]++M')+List.length [v])*16) 16777216&&Nat.ble (List.length ([]++M')+List.length [v]) 16777216) ((∀(x:Bs),List.length (aU x)=1/\List.all (aU x) jF=true)/\ ∃(M'_1:List (View.X {X:=Bs,enc:=aU})),SV.ar Bs (List.drop (Int.toNat ↑z.2) (bj (List.take z.1 y))) aU=SV.ar (View.X {X:=Bs,enc:=aU}) M'_1 (View.enc {X:=Bs,enc:=aU})/\ck (Nat.ble ((List.length ([]++M'++[v])+M'_1.length)*16) 16777216&&Nat.ble (List.length ([]++M'++[v])+M'_1.length) 16777216) (ck (bq .i64 (↑z.1+1)) (∃(u:Nat),u<=y.length/\aI.μ (lj y) u<aI.μ (lj y) x/\(SV.ar aa y aa.enc=SV.ar aa y aa.enc/\SV.ar (View.X {X:=Bs,enc:=aU}) ([]++M'++[v]++M'_1) (View.enc {X:=Bs,enc:=aU})=SV.ar Bs (bj (List.take u y)) aU/\ak (↑z.1+1) ↑u/\True)/\(True/\True)/\True))))))) (ck (bq .i64 (↑z.1+1)) (∃(u:Nat),u<=y.length/\aI.μ (lj y) u<aI.μ (lj y) x/\(SV.ar aa y aa.enc=SV.ar aa y aa.enc/\SV.ar Bs (bj (List.take z.1 y)) aU=SV.ar Bs (bj (List.take u y)) aU/\ak (↑z.1+1) ↑u/\True)/\(True/\True)/\True))))) (SV.ar Bs (bj (List.take x y)) aU=SV.ar Bs (bj y) aU/\True)):=by kernel_rfl
end
section
variable [Inhabited aL]
theorem LH:∀g C,yo g=some C->CO g C:=bR ZT Vo
theorem oO (a b:aA):(a.name==b.name&&(a.domain==b.domain&&(a.path==b.path&&true)))=decide (a=b):=by
 rw[A2]
 cases a;cases b;simp
section
variable {l:List aa} {p:aa->Bool} {x:Nat}
theorem lG (h:x<l.length):(l.take (x+1)).filter p=(l.take x).filter p++if p l[x]then[l[x]]else[]:=by
 rw[AF h,Dq];by_cases hp:p l[x]=true<;>simp[hp]
theorem qm:((l.take x).filter p).length<=x:=Aq (AL _ _) (by simp;omega)
theorem ql (h:¬(x:Int)<Int.ofNat l.length):(l.take x).filter p=l.filter p:=by
 rw[Ay (by simp only[Ac]at h;omega)]
end
theorem Zu:CO rG tv:=bZ (cfg:=fun y=>bH cj (cW y)) bC (fun _=>rfl) (fun _=>iD) (n:=400) (by
 rw[OJ];rintro⟨c,now⟩ _;refine ah.2 ⟨fun h=>⟨?_,trivial⟩,fun h=>⟨?_,trivial⟩⟩
 . have h:c.persistent=true:=h;unfold fe;rw[h,fc,Bj]
 . have h:c.persistent=false:=h;unfold fe;rw[h,Bb])
theorem YJ:CO GV tv:=bZ (cfg:=fun y=>bH cj (cW y)) bC (fun _=>rfl) (fun _=>iD) (n:=400) (by
 rw[XW];rintro⟨c,now⟩ _;refine ah.2 ⟨fun h=>⟨?_,trivial⟩,fun h=>⟨?_,trivial⟩⟩
 . have h:c.persistent=true:=h;unfold fe;rw[h,fc,Bj]
 . have h:c.persistent=false:=h;unfold fe;rw[h,Bb])
theorem ZS:CO rm Gw:=bZ (cfg:=fun y=>bH cj (cW y)) bC (fun _=>rfl) (fun _=>iD) (n:=400) (by
 rw[Ow];rintro⟨a,b⟩ -;simp[ah,cr,dg];refine⟨fun h1 h2=>by omega,fun h1=>⟨fun h2=>?_,fun h2=>?_⟩⟩
 . rw[if_neg (by omega),if_pos h2]
 . rw[if_neg (by omega),if_neg (by omega)])
theorem Yw:CO rn pJ:=bZ (cfg:=fun y=>bH yo (cW y)) bC (fun _=>rfl) (fun _=>LH) (n:=400) (by
 rw[Ox];rintro⟨a,b⟩ -;exact⟨(a,b),rfl,rfl,trivial,rfl,trivial⟩)
theorem LI:∀g C,yp g=some C->CO g C:=bR Zu (bR YJ (bR ZS (bR Yw LH)))
theorem Zp:CO GS Gy:=bZ (cfg:=fun y=>bH yp (cW y)) bC (fun _=>rfl) (fun _=>LI) (n:=600) (by
 rw[OD];rintro⟨a,b⟩ -;refine⟨(_,_),rfl,rfl,trivial,⟨(_,_),rfl,rfl,trivial,⟨(_,_),rfl,rfl,trivial,?_⟩⟩⟩;simp only[ah,oV,DE];generalize eD a.name b.name=n
 generalize eD a.domain b.domain=d
 generalize eD a.path b.path=p
 refine⟨fun h=>?_,fun h=>⟨fun h2=>?_,fun h2=>⟨fun h3=>?_,fun h3=>?_⟩⟩⟩<;>simp_all)
theorem LJ:∀g C,yq g=some C->CO g C:=bR Zp LI
theorem Zr:CO GR tu:=bZ (cfg:=fun y=>bH yq (cW y)) bC (fun _=>rfl) (fun _=>LJ) (n:=400) (by
 rw[OG];rintro⟨a,b⟩ -;refine⟨(a,b),rfl,rfl,rfl,rfl,rfl,rfl,trivial,?_,trivial⟩;simp only[cr,fy])
theorem YE:CO GW tu:=bZ (cfg:=fun y=>bH cj (cW y)) bC (fun _=>rfl) (fun _=>iD) (n:=400) (by
 rw[XU];rintro⟨a,b⟩ -;simp only[ah,wo];refine⟨fun h=>?_,fun h=>⟨fun h2=>?_,fun h2=>?_⟩⟩<;>simp_all)
theorem xm:∀g C,pS g=some C->CO g C:=bR Zr (bR YE LJ)
theorem X6:CO rI uS:=bZ (cfg:=fun y=>bH pS (cW y)) bC (fun _=>rfl) (fun _=>xm) (n:=600) (by
 rw[Y1];rintro⟨a,b⟩ -;refine⟨(_,_),rfl,rfl,trivial,⟨(_,_),rfl,rfl,trivial,?_⟩⟩;simp only[oO,ah,ic];generalize dg a.ab.access b.ab.access=n
 generalize dg a.ab.aq b.ab.aq=m
 refine⟨fun hn=>⟨fun _=>?_,fun hn2=>?_⟩,fun hn=>⟨fun hm=>⟨fun _=>?_,fun hm2=>?_⟩,fun hm=>⟨fun hkk=>?_,fun hkk=>⟨(a.key,b.key),rfl,rfl,rfl,rfl,rfl,rfl,trivial,fun hl=>?_,fun hl=>?_⟩⟩⟩⟩
 all_goals simp_all)
theorem UQ (a b:aa):fF a b=if a.ab.access≠b.ab.access then decide (a.ab.access<b.ab.access)else if a.ab.aq≠b.ab.aq then decide (a.ab.aq<b.ab.aq)else fy a.key b.key:=by
 unfold fF ic;have e1:=si a.ab.access b.ab.access;have e2:=si a.ab.aq b.ab.aq;have e3:=sH a.ab.access b.ab.access;have e4:=sH a.ab.aq b.ab.aq;revert e1 e2 e3 e4;generalize dg a.ab.access b.ab.access=n
 generalize dg a.ab.aq b.ab.aq=m
 intro e1 e2 e3 e4;by_cases h1:a.ab.access=b.ab.access
 . have h5:n=0:=e1.2 h1;subst h5;by_cases h2:a.ab.aq=b.ab.aq
   . have h6:m=0:=e2.2 h2;subst h6;by_cases h3:a.key=b.key
     . simp[h1,h2,h3,mK]
     . by_cases h4:fy a.key b.key=true<;>simp[h1,h2,h3,h4]
   . have h6:m≠0:=fun h=>h2 (e2.1 h)
     simp[h1,h2,h6,e4]
 . have h6:n≠0:=fun h=>h1 (e1.1 h)
   simp[h1,h6,e3]
theorem U0:CO rD FJ:=bZ (cfg:=fun y=>bH pS (cW y)) bC (fun _=>rfl) (fun _=>xm) (n:=400) (by
 rw[UB];rintro⟨a,b⟩ -;simp only[UQ];refine ah.2 ⟨fun h=>⟨?_,trivial⟩,fun h=>ah.2 ⟨fun h2=>⟨?_,trivial⟩,fun h2=>⟨(a.key,b.key),rfl,rfl,rfl,rfl,rfl,rfl,trivial,?_,trivial⟩⟩⟩
 . rw[if_pos (by simpa using h),cr]
 . rw[if_neg (by simpa using h),if_pos (by simpa using h2),cr]
 . rw[if_neg (by simpa using h),if_neg (by simpa using h2)])
theorem xn:∀g C,pT g=some C->CO g C:=bR X6 (bR U0 xm)
theorem zy:∀l:List aa,iE l=true↔∀(j:Nat) (h:j+1<l.length),fy (l[j]'(by omega)).key l[j+1].key=true
 |[]=>by simp[iE]
 |[x]=>by simp[iE]
 |x::y::l=>by
  rw[iE,Aa,zy (y::l)];constructor
  . rintro⟨h1,h2⟩ j hj
    cases j with
    |zero=>exact h1
    |succ j=>exact h2 j (by simpa using hj)
  . intro h;exact⟨h 0 (by simp),fun j hj=>h (j+1) (by simpa using hj)⟩
theorem Wc:CO np FI:=bZ (cfg:=fun y=>bH pS (cD np 2 (xH y))) bC (fun _=>rfl) (fun _=>xm) (n:=400) (by
 rw[WD];intro l hpre;have hpre:l.length<=10000:=hpre;refine⟨⟨1,⟨by omega,by omega,fun j h hj=>by omega⟩,⟨rfl,rfl,trivial⟩,trivial,trivial⟩,?_⟩;rintro x ⟨h1,hx,hall⟩;refine ah.2 ⟨fun hlt=>?_,fun hge=>⟨?_,trivial⟩⟩
 . have hlt':=cB hlt;have e:Int.toNat ((x:Int) - 1)=x - 1:=by omega
   refine ag.2 ⟨by rw[iq];omega,ag.2 ⟨by rw[lO,Ad];omega,au.2 ⟨l[x - 1],by rw[e];exact Af (by omega),au.2 ⟨l[x],cO hlt',((l[x - 1]).key,(l[x]).key),rfl,rfl,rfl,rfl,rfl,rfl,trivial,ah.2 ⟨fun h=>⟨?_,trivial⟩,fun h=>ag.2 ⟨cu x (by omega),x+1,⟨by omega,by omega,fun j hj hjx=>?_⟩,?_,⟨rfl,rfl,trivial⟩,trivial,trivial⟩⟩⟩⟩⟩⟩
   . symm;rw[Av];intro hr;have:=(zy l).1 hr (x - 1) (by omega);simp only[show x - 1+1=x by omega]at this;simp[this]at h
   . by_cases e2:j+1=x
     . subst e2;simpa using h
     . exact hall j hj (by omega)
   . show l.length+1 - (x+1)<l.length+1 - x
     omega
 . symm;rw[zy];intro j hj;have:=gQ hge;simp only[Ac]at this;exact hall j hj (by omega))
theorem U4:CO nz bJ:=bZ (cfg:=fun y=>bH cj (cD lS 3 (jW (y:List aa×aA).1 fun x=>decide (x.key≠(y:List aa×aA).2)))) bC (fun _=>rfl) (fun _=>iD) (n:=600) (by
 rw[UD];rintro⟨l,k⟩ hpre;have hpre:l.length<=10000:=hpre;refine⟨⟨0,by simp,?_⟩,?_⟩
 . (repeat' (first|exact trivial|exact rfl|exact(fun _=>rfl)|apply And.intro))
 intro x hx;refine ah.2 ⟨fun hlt=>au.2 ⟨_,cO (cB hlt),?_⟩,fun hge=>⟨by rw[ql (gQ hge)];rfl,trivial⟩⟩;have hlt':x<l.length:=cB hlt;have hlen:=qm (l:=l) (x:=x) (p:=fun z:aa=>decide (z.key≠k));refine ah.2 ⟨fun h=>⟨l[x],rfl,ag.2 ⟨by simp only[Aa,AG,AA,AK];omega,ag.2 ⟨cu x (by omega),x+1,hlt',?_,?_⟩⟩⟩,fun h=>ag.2 ⟨cu x (by omega),x+1,hlt',?_,?_⟩⟩
 . show l.length - (x+1)<l.length - x
   omega
 . have hp:(fun z:aa=>decide (z.key≠k)) l[x]=true:=by rw[oO]at h;simpa using h
   have hf:=lG (p:=fun z:aa=>decide (z.key≠k)) hlt';rw[if_pos hp]at hf
   (repeat' (first|exact trivial|exact rfl|exact(fun _=>rfl)|apply And.intro))
   all_goals (first|(rw[hf])|(simp[ak]))
 . show l.length - (x+1)<l.length - x
   omega
 . have hp:(fun z:aa=>decide (z.key≠k)) l[x]=false:=by rw[oO]at h;simpa using h
   have hf:=lG (p:=fun z:aa=>decide (z.key≠k)) hlt';rw[if_neg (by simp only[hp];simp),Bu]at hf
   (repeat' (first|exact trivial|exact rfl|exact(fun _=>rfl)|apply And.intro))
   all_goals (first|(rw[hf])|(simp[ak])))
theorem SJ:CO ng bJ:=bZ (cfg:=fun y=>bH cj (cD ng 3 (sh y))) bC (fun _=>rfl) (fun _=>iD) (n:=400) (by
 rw[TU];rintro⟨l,k⟩ hpre;have hpre:l.length<=10000:=hpre;refine⟨⟨0,by simp,?_⟩,?_⟩
 . (repeat' (first|exact trivial|exact rfl|exact(fun _=>rfl)|apply And.intro))
 intro x hx;refine ah.2 ⟨fun hlt=>au.2 ⟨_,cO (cB hlt),?_⟩,fun hge=>⟨by rw[ql (gQ hge)];rfl,trivial⟩⟩;have hlt':x<l.length:=cB hlt;have hlen:=qm (l:=l) (x:=x) (p:=fun z:aa=>decide (z.key≠k));refine ah.2 ⟨fun h=>au.2 ⟨l[x],cO hlt',⟨l[x],rfl,ag.2 ⟨by simp only[Aa,AG,AA,AK];omega,ag.2 ⟨cu x (by omega),x+1,hlt',?_,?_⟩⟩⟩⟩,fun h=>ag.2 ⟨cu x (by omega),x+1,hlt',?_,?_⟩⟩
 . show l.length - (x+1)<l.length - x
   omega
 . have hp:(fun z:aa=>decide (z.key≠k)) l[x]=true:=by rw[oO]at h;simpa using h
   have hf:=lG (p:=fun z:aa=>decide (z.key≠k)) hlt';rw[if_pos hp]at hf
   (repeat' (first|exact trivial|exact rfl|exact(fun _=>rfl)|apply And.intro))
   all_goals (first|(rw[hf])|(simp[ak]))
 . show l.length - (x+1)<l.length - x
   omega
 . have hp:(fun z:aa=>decide (z.key≠k)) l[x]=false:=by rw[oO]at h;simpa using h
   have hf:=lG (p:=fun z:aa=>decide (z.key≠k)) hlt';rw[if_neg (by simp only[hp];simp),Bu]at hf
   (repeat' (first|exact trivial|exact rfl|exact(fun _=>rfl)|apply And.intro))
   all_goals (first|(rw[hf])|(simp[ak])))
theorem V2:CO rP l5:=bZ (cfg:=fun y=>bH cj (cD lS 3 (jW (y:List aa×Bs).1 fun x=>decide (x.key.domain=(y:List aa×Bs).2)))) bC (fun _=>rfl) (fun _=>iD) (n:=600) (by
 rw[Xe];rintro⟨l,k⟩ hpre;have hpre:l.length<=10000:=hpre;refine⟨⟨0,by simp,?_⟩,?_⟩
 . (repeat' (first|exact trivial|exact rfl|exact(fun _=>rfl)|apply And.intro))
 intro x hx;refine ah.2 ⟨fun hlt=>au.2 ⟨_,cO (cB hlt),?_⟩,fun hge=>⟨by rw[ql (gQ hge)];rfl,trivial⟩⟩;have hlt':x<l.length:=cB hlt;have hlen:=qm (l:=l) (x:=x) (p:=fun z:aa=>decide (z.key.domain=k));refine ah.2 ⟨fun h=>⟨l[x],rfl,ag.2 ⟨by simp only[Aa,AG,AA,AK];omega,ag.2 ⟨cu x (by omega),x+1,hlt',?_,?_⟩⟩⟩,fun h=>ag.2 ⟨cu x (by omega),x+1,hlt',?_,?_⟩⟩
 . show l.length - (x+1)<l.length - x
   omega
 . have hp:(fun z:aa=>decide (z.key.domain=k)) l[x]=true:=by simpa using h
   have hf:=lG (p:=fun z:aa=>decide (z.key.domain=k)) hlt';rw[if_pos hp]at hf
   (repeat' (first|exact trivial|exact rfl|exact(fun _=>rfl)|apply And.intro))
   all_goals (first|(rw[hf])|(simp[ak]))
 . show l.length - (x+1)<l.length - x
   omega
 . have hp:(fun z:aa=>decide (z.key.domain=k)) l[x]=false:=by simpa using h
   have hf:=lG (p:=fun z:aa=>decide (z.key.domain=k)) hlt';rw[if_neg (by simp only[hp];simp),Bu]at hf
   (repeat' (first|exact trivial|exact rfl|exact(fun _=>rfl)|apply And.intro))
   all_goals (first|(rw[hf])|(simp[ak])))
theorem T0:CO nv l5:=bZ (cfg:=fun y=>bH cj (cD nv 3 (sC y))) bC (fun _=>rfl) (fun _=>iD) (n:=400) (by
 rw[UX];rintro⟨l,k⟩ hpre;have hpre:l.length<=10000:=hpre;refine⟨⟨0,by simp,?_⟩,?_⟩
 . (repeat' (first|exact trivial|exact rfl|exact(fun _=>rfl)|apply And.intro))
 intro x hx;refine ah.2 ⟨fun hlt=>au.2 ⟨_,cO (cB hlt),?_⟩,fun hge=>⟨by rw[ql (gQ hge)];rfl,trivial⟩⟩;have hlt':x<l.length:=cB hlt;have hlen:=qm (l:=l) (x:=x) (p:=fun z:aa=>decide (z.key.domain=k));refine ah.2 ⟨fun h=>au.2 ⟨l[x],cO hlt',⟨l[x],rfl,ag.2 ⟨by simp only[Aa,AG,AA,AK];omega,ag.2 ⟨cu x (by omega),x+1,hlt',?_,?_⟩⟩⟩⟩,fun h=>ag.2 ⟨cu x (by omega),x+1,hlt',?_,?_⟩⟩
 . show l.length - (x+1)<l.length - x
   omega
 . have hp:(fun z:aa=>decide (z.key.domain=k)) l[x]=true:=by simpa using h
   have hf:=lG (p:=fun z:aa=>decide (z.key.domain=k)) hlt';rw[if_pos hp]at hf
   (repeat' (first|exact trivial|exact rfl|exact(fun _=>rfl)|apply And.intro))
   all_goals (first|(rw[hf])|(simp[ak]))
 . show l.length - (x+1)<l.length - x
   omega
 . have hp:(fun z:aa=>decide (z.key.domain=k)) l[x]=false:=by simpa using h
   have hf:=lG (p:=fun z:aa=>decide (z.key.domain=k)) hlt';rw[if_neg (by simp only[hp];simp),Bu]at hf
   (repeat' (first|exact trivial|exact rfl|exact(fun _=>rfl)|apply And.intro))
   all_goals (first|(rw[hf])|(simp[ak])))
theorem gr {x n:Nat} (h:bI (x:Int) (Int.ofNat n)=false):n<=x:=by
 have:=gQ h;simp only[Ac]at this;omega
theorem xz (a b:aa):(a.key.name==b.key.name&&(a.key.domain==b.key.domain&&(a.key.path==b.key.path&&true))&&(a.ab.value==b.ab.value&&(a.ab.aG==b.ab.aG&&(a.ab.aV==b.ab.aV&&(a.ab.aH==b.ab.aH&&(a.ab.persistent==b.ab.persistent&&(a.ab.aQ==b.ab.aQ&&(a.ab.aq==b.ab.aq&&(a.ab.access==b.ab.access&&true)))))))&&true))=decide (a=b):=by
 rw[A2];obtain⟨⟨a1,a2,a3⟩,⟨a4,a5,a6,a7,a8,a9,a10,a11⟩⟩:=a;obtain⟨⟨b1,b2,b3⟩,⟨b4,b5,b6,b7,b8,b9,b10,b11⟩⟩:=b;simp only[Aa,BP,Ad,aa.mk.injEq,aA.mk.injEq,cU.mk.injEq,DE]
theorem SC:CO rf zY:=bZ (cfg:=fun y=>bH cj (cD vE 2 (xV y))) bC (fun _=>rfl) (fun _=>iD) (n:=400) (by
 rw[TR];rintro⟨l,k⟩ hpre;have hpre:l.length<=10000:=hpre;refine⟨⟨0,⟨by simp,fun j h hj=>by omega⟩,?_⟩,?_⟩
 . (repeat' (first|exact trivial|exact rfl|exact(fun _=>rfl)|apply And.intro))
 rintro x ⟨hx,hall⟩;refine ah.2 ⟨fun hlt=>au.2 ⟨_,cO (cB hlt),?_⟩,fun hge=>⟨?_,trivial⟩⟩
 . have hlt':x<l.length:=cB hlt;refine ah.2 ⟨fun h=>⟨?_,trivial⟩,fun h=>ag.2 ⟨cu x (by omega),x+1,⟨hlt',fun j hj hjx he=>?_⟩,?_,?_⟩⟩
   . rw[xz]at h;have h:k=l[x]:=by simpa using h
     rw[fc,A2];have hm:k∈l:=by rw[h];exact AJ hlt'
     simp[hm]
   . rw[xz]at h;have h:¬k=l[x]:=by simpa using h
     by_cases hji:j=x
     . subst hji;exact h he.symm
     . exact hall j hj (by omega) he
   . show l.length - (x+1)<l.length - x
     omega
   . (repeat' (first|exact trivial|exact rfl|exact(fun _=>rfl)|apply And.intro))
 . rw[fc];symm;have hm:¬k∈l:=by
     intro hm;obtain⟨j,hj,he⟩:=Bn hm;exact hall j hj (by have:l.length<=x:=gr hge;omega) he
   simp[hm])
theorem X0:CO nL F2:=bZ (cfg:=fun y=>bH cj (cD nL 4 (xX y))) bC (fun _=>rfl) (fun _=>iD) (n:=400) (by
 rw[XY];rintro⟨l,m⟩ ⟨hl,hm⟩;have hl:l.length<=10000:=hl;refine ah.2 ⟨fun h=>⟨?_,trivial⟩,fun h=>⟨⟨0,⟨by simp,?_,by simp⟩,?_⟩,?_⟩⟩
 . symm;rw[Ah];intro e;have e:l=m:=e;subst e;simp at h
 . simp only[En,BP,Ac]at h;simp only at h⊢;omega
 . (repeat' (first|exact trivial|exact rfl|exact(fun _=>rfl)|apply And.intro))
 rintro x ⟨hx,hlen,ht⟩;have hlen:l.length=m.length:=hlen;have ht:l.take x=m.take x:=ht;refine ah.2 ⟨fun hlt=>?_,fun hge=>⟨?_,trivial⟩⟩
 . have hlt':x<l.length:=cB hlt;refine au.2 ⟨_,cO hlt',au.2 ⟨_,cO (show x<m.length by omega),ah.2 ⟨fun h2=>⟨?_,trivial⟩,fun h2=>ag.2 ⟨cu x (by omega),x+1,⟨hlt',hlen,?_⟩,?_,?_⟩⟩⟩⟩
   . rw[xz]at h2;symm;rw[Ah];intro e;have e:l=m:=e;subst e;simp at h2
   . rw[xz]at h2;show l.take (x+1)=m.take (x+1)
     rw[AF hlt',AF (show x<m.length by omega),ht];have:l[x]=m[x]'(by omega):=by simpa using h2
     rw[this]
   . show l.length - (x+1)<l.length - x
     omega
   . (repeat' (first|exact trivial|exact rfl|exact(fun _=>rfl)|apply And.intro))
 . symm;rw[Ad];have:l.length<=x:=gr hge;rw[Ay (by omega),Ay (by omega)]at ht;exact ht)
theorem VZ:CO rH C7:=bZ (cfg:=fun y=>bH pT (cW y)) bC (fun _=>rfl) (fun _=>xn) (n:=600) (by
 rw[Xc];intro c hpre;have four:(c.aC<1\/c.aC>64\/c.domain<1\/c.domain>2048\/c.total<1\/c.total>2048)->ak 4 (gD c)/\True:=by
   intro h;unfold gD;rw[if_pos h];exact⟨rfl,trivial⟩
 simp only[fc];refine ah.2 ⟨fun h1=>ah.2 ⟨fun h2=>four ?_,fun h2=>ah.2 ⟨fun h3=>ah.2 ⟨fun h4=>four ?_,fun h4=>ah.2 ⟨fun h5=>ah.2 ⟨fun h6=>four ?_,fun h6=>⟨c.rules,rfl,hpre,?_,trivial⟩⟩,fun h5=>four ?_⟩⟩,fun h3=>four ?_⟩⟩,fun h1=>four ?_⟩
 all_goals (simp at*)
 . omega
 . omega
 . omega
 . unfold gD;rw[if_neg (by omega)]
 . omega
 . omega
 . omega)
theorem ln {α β:Type} (f:β->α->β) (b:β) {l:List α} {x:Nat} (h:x<l.length):(l.take (x+1)).foldl f b=f ((l.take x).foldl f b) l[x]:=by
 rw[AF h,ES];rfl
theorem sq {α:Type} {l:List α} {x:Nat} (h:¬(x:Int)<Int.ofNat l.length):l.take x=l:=Ay (by simp only[Ac]at h;omega)
theorem TB {l:List aa} {d:Bs} {all:Bool} {x:Nat} (h:x<l.length):fV (l.take (x+1)) d all=if all||decide (l[x].key.domain=d)then(match fV (l.take x) d all with|none=>some l[x]|some y=>if fF l[x] y then some l[x]else some y)else fV (l.take x) d all:=by
 unfold fV;rw[ln _ _ h]
 all_goals (generalize List.foldl _ none (List.take x l)=r;cases r<;>rfl)
theorem U1 :CO nh Cr:=bZ (cfg:=fun y=>bH pT (cD nh 3 (kH y))) bC (fun _=>rfl) (fun _=>xn) (n:=600) (by
  rw[UC];rintro⟨l,d,all⟩ hpre;have hpre:l.length<=10000:=hpre;refine⟨⟨(0, -1),⟨by simp, .inl ⟨rfl,rfl⟩⟩,?_⟩,?_⟩
  . (repeat' (first|exact trivial|exact rfl|exact(fun _=>rfl)|apply And.intro))
  rintro⟨x,z⟩ ⟨hx,hb⟩;have hb:(z= -1/\fV (l.take x) d all=none)\/ ∃b:Nat,z=Int.ofNat b/\ ∃h:b<l.length,fV (l.take x) d all=some l[b]:=hb;refine aK (fun hlt=>?_) fun hge=>?_
  . have hlt':x<l.length:=cB hlt;have hn:=TB (d:=d) (all:=all) hlt';have hmu:l.length - (x+1)<l.length - x:=by omega
    refine ah.2 ⟨fun ha=>au.2 ⟨_,cO hlt',ah.2 ⟨fun hd=>?_,fun hd=>?_⟩⟩,fun ha=>?_⟩
    . have ha:all=false:=by simpa using ha
      have hd:¬l[x].key.domain=d:=by simpa using hd
      have hcf:¬(all||decide (l[x].key.domain=d))=true:=by simp[ha,hd]
      rw[if_neg hcf]at hn;refine ag.2 ⟨cu x (by omega),(x+1,z),⟨hlt',?_⟩,hmu,?_⟩
      . simp only;rw[hn];exact hb
      . (repeat' (first|exact trivial|exact rfl|exact(fun _=>rfl)|apply And.intro))
    all_goals (have hc:(all||decide (l[x].key.domain=d))=true:=by first|(have ha:all=true:=by simpa using ha);simp[ha]|(have hd:l[x].key.domain=d:=by simpa using hd);simp[hd])
    all_goals (rw[if_pos hc]at hn)
    all_goals (rcases hb with⟨hz,hbn⟩|⟨b,hz,hbl,hbb⟩)
    all_goals (subst hz)
    all_goals (first
      | (refine ah.2 ⟨fun _=>?_,fun h=>absurd h (by rw[cr];simp)⟩
         rw[hbn]at hn;refine ag.2 ⟨cu x (by omega),(x+1,(x:Int)),⟨hlt', .inr ⟨x,rfl,hlt',?_⟩⟩,hmu,?_⟩
         . exact hn
         . (repeat' (first|exact trivial|exact rfl|exact(fun _=>rfl)|apply And.intro)))
      | (refine ah.2 ⟨fun h=>absurd h (by rw[cr];simp),fun _=>au.2 ⟨_,cO hlt',ag.2 ⟨by rw[lO];simp,au.2 ⟨l[b],by simp[hbl],(l[x],l[b]),?_⟩⟩⟩⟩
         (repeat' (first|exact trivial|exact rfl|exact(fun _=>rfl)|apply And.intro))
         rw[hbb]at hn;simp only at hn;refine aK (fun hs=>?_) fun hs=>?_
         . rw[if_pos (show fF l[x] l[b]=true from hs)]at hn;refine ag.2 ⟨cu x (by omega),(x+1,(x:Int)),⟨hlt', .inr ⟨x,rfl,hlt',hn⟩⟩,hmu,?_⟩
           (repeat' (first|exact trivial|exact rfl|exact(fun _=>rfl)|apply And.intro))
         . rw[if_neg (by simp[show fF l[x] l[b]=false from hs])]at hn;refine ag.2 ⟨cu x (by omega),(x+1,Int.ofNat b),⟨hlt', .inr ⟨b,rfl,hbl,hn⟩⟩,hmu,?_⟩
           (repeat' (first|exact trivial|exact rfl|exact(fun _=>rfl)|apply And.intro))))
  . have hge':l.length<=x:=gr hge;rw[Ay hge']at hb;rcases hb with⟨hz,hbn⟩|⟨b,hz,hbl,hbb⟩
    . subst hz;have e:fJ l d all=qH:=by unfold fJ;rw[hbn]
      refine ah.2 ⟨fun _=>?_,fun h=>absurd h (by rw[cr];simp)⟩;rw[show fJ (l,d,all).1 (l,d,all).2.1 (l,d,all).2.2=qH from e]
      (repeat' (first|exact trivial|exact rfl|exact(fun _=>rfl)|apply And.intro))
    . subst hz;have e:fJ l d all=l[b].key:=by unfold fJ;rw[hbb]
      refine ah.2 ⟨fun h=>absurd h (by rw[cr];simp),fun _=>ag.2 ⟨by rw[lO];simp,au.2 ⟨l[b],by simp[hbl],?_⟩⟩⟩;rw[show fJ (l,d,all).1 (l,d,all).2.1 (l,d,all).2.2=l[b].key from e]
      (repeat' (first|exact trivial|exact rfl|exact(fun _=>rfl)|apply And.intro)))
theorem LK:∀g C,yr g=some C->CO g C:=bR Wc (bR U4 (bR SJ (bR V2 (bR T0 (bR SC (bR X0 (bR U1 (bR VZ xn))))))))
theorem yg {α:Type} {p:α->Bool}:∀{l:List α} {j:Nat} (_:j<(l.takeWhile p).length),∃h:j<l.length,p l[j]=true
 |[],j,hj=>by simp at hj
 | a ::l,j,hj=>by
  by_cases hb:p a=true
  . rw[BO,if_pos hb]at hj
    cases j with
    |zero=>exact⟨by simp,by simpa using hb⟩
    |succ j=>
     obtain⟨h1,h2⟩:=yg (l:=l) (j:=j) (by simpa using hj);exact⟨by simpa using h1,by simpa using h2⟩
  . rw[BO,if_neg hb]at hj;simp at hj
theorem yU {α:Type} {p:α->Bool}:∀{l:List α} (h:(l.takeWhile p).length<l.length),p (l[(l.takeWhile p).length])=false
 |[],h=>by simp at h
 |a::l,h=>by
  by_cases hb:p a=true
  . have e:((a::l).takeWhile p).length=(l.takeWhile p).length+1:=by rw[BO,if_pos hb];rfl
    simp only[e,Fu];exact yU (by rw[e]at h;simpa using h)
  . have e:((a::l).takeWhile p).length=0:=by rw[BO,if_neg hb];rfl
    simp only[e,Fs];exact Av.2 hb
theorem MQ (L:List Bs) (d:Bs):ef L d<=L.length:=(DZ _).length_le
theorem U6 {L:List Bs} {d:Bs} {k:Nat} (hk:k<=ef L d) (h:k<L.length) (hl:lt L[k] d=true):k+1<=ef L d:=by
 apply Bk;intro hn;have e:ef L d=k:=by omega
 have:=yU (p:=fun x=>lt x d) (l:=L) (by show ef L d<L.length;omega);have e2:(L.takeWhile fun x=>lt x d).length=k:=e;simp only[e2]at this;rw[hl]at this
 cases this
theorem U7 {L:List Bs} {d:Bs} {k:Nat} (hk:k<=ef L d) (h:k<L.length) (hl:lt L[k] d=false):k=ef L d:=by
 apply Bk;intro hn;obtain⟨h1,h2⟩:=yg (p:=fun x=>lt x d) (l:=L) (j:=k) (by show k<ef L d;omega);rw[hl]at h2
 cases h2
theorem Wl (L:List Bs) (d:Bs):(fT L d).length<=L.length+1:=by
 unfold fT;have:=MQ L d;split
 . omega
 . simp;omega
theorem vW:∀(l:List aa) (a:List Bs),(l.foldl (fun a x=>fT a x.key.domain) a).length<=a.length+l.length
 |[],a=>by simp
 |x::l,a=>by
  have h1:=vW l (fT a x.key.domain);have h2:=Wl a x.key.domain;simp only[Bt,AA];omega
theorem T1:CO kX CD:=bZ (cfg:=fun y=>bH yr (l4 kX 7 (wH y) (cD kX 3 (lj y)))) bC (fun _=>rfl) (fun _=>LK) (n:=600) (by
 rw[Uz];intro l hpre;have hpre:l.length<=10000:=hpre;refine⟨⟨0,by simp,?_⟩,?_⟩
 . (repeat' (first|exact trivial|exact rfl|exact(fun _=>rfl)|apply And.intro))
 intro x hx;refine ah.2 ⟨fun hlt=>?_,fun hge=>⟨by rw[sq (gQ hge)],trivial⟩⟩;have hlt':x<l.length:=cB hlt;have hd:((l[x]?).getD bE).key.domain=l[x].key.domain:=by simp[hlt']
 refine au.2 ⟨_,cO hlt',(x,0),⟨(x,0),⟨⟨hlt',Aw _⟩,rfl⟩,?_⟩,?_⟩
 . (repeat' (first|exact trivial|exact rfl|exact(fun _=>rfl)|apply And.intro))
   all_goals (simp[hlt'])
 rintro⟨x1,k⟩ ⟨⟨h1,h2⟩,hx1⟩;have hx1:x1=x:=hx1;subst hx1;have hn:=ln (fun a (z:aa)=>fT a z.key.domain) ([]:List Bs) hlt';have hn:bj (l.take (x1+1))=fT (bj (l.take x1)) l[x1].key.domain:=hn;have hlen:(bj (l.take x1)).length<=x1:=by have:=vW (l.take x1) [];unfold bj;simp at this⊢;omega
 have hk:k<=ef (bj (l.take x1)) l[x1].key.domain:=h2;have hkp:=MQ (bj (l.take x1)) l[x1].key.domain;have hkl:k<=(bj (l.take x1)).length:=by omega
 have hmu:l.length - (x1+1)<l.length - x1:=by omega
 refine aK (fun hlt2=>?_) fun hge2=>?_
 . have hlt2':k<(bj (l.take x1)).length:=cB hlt2;refine au.2 ⟨_,cO hlt2',ah.2 ⟨fun hl=>ag.2 ⟨cu k (by omega),(x1,k+1),⟨⟨hlt',?_⟩,rfl⟩,?_,?_⟩,fun hl=>ah.2 ⟨fun he=>absurd he (by simp;omega),fun he=>au.2 ⟨_,cO hlt2',ah.2 ⟨fun hne=>?_,fun hne=>?_⟩⟩⟩⟩⟩
   . exact U6 hk hlt2' (by rw[<-hd];exact hl)
   . show(bj (l.take x1)).length - (k+1)<(bj (l.take x1)).length - k
     omega
   . (repeat' (first|exact trivial|exact rfl|exact(fun _=>rfl)|apply And.intro))
   all_goals (have hkk:k=ef (bj (l.take x1)) l[x1].key.domain:=U7 hk hlt2' (by rw[<-hd];exact hl))
   all_goals (have hne:=hne;simp only[hd]at hne)
   . refine⟨fun _=>rfl,ag.2 ⟨by rw[AG];exact hkl,fun _=>rfl,ag.2 ⟨by rw[AG];exact hkl,fun _=>⟨rfl,rfl⟩,(bj (l.take x1)).take k,rfl,ag.2 ⟨by simp only[Aa,AG,A5,AA,AK,Bi,Bx];omega,l[x1].key.domain,by rw[hd],ag.2 ⟨by simp only[Aa,AG,A5,AA,AK,Bi,Bx];omega,fun _=>⟨rfl,rfl⟩,(bj (l.take x1)).drop k,rfl,ag.2 ⟨by simp only[Aa,AG,A5,AA,AK,Bi,Bx];omega,ag.2 ⟨cu x1 (by omega),x1+1,hlt',hmu,?_⟩⟩⟩⟩⟩⟩⟩
     (repeat' (first|exact trivial|exact rfl|exact(fun _=>rfl)|apply And.intro))
     all_goals (first|(rw[hn];unfold fT;rw[<-hkk,if_neg (by rw[Af hlt2'];simpa using hne)];simp)|(simp[ak]))
   . refine ag.2 ⟨cu x1 (by omega),x1+1,hlt',hmu,?_⟩
     (repeat' (first|exact trivial|exact rfl|exact(fun _=>rfl)|apply And.intro))
     all_goals (first|(rw[hn];unfold fT;rw[<-hkk,if_pos (by rw[Af hlt2'];simpa using hne)])|(simp[ak]))
 . have hge2':(bj (l.take x1)).length<=k:=gr hge2;have hkk:k=ef (bj (l.take x1)) l[x1].key.domain:=by omega
   refine ah.2 ⟨fun he=>?_,fun he=>absurd he (by simp;omega)⟩;refine⟨fun _=>rfl,ag.2 ⟨by rw[AG];exact hkl,fun _=>rfl,ag.2 ⟨by rw[AG];exact hkl,fun _=>⟨rfl,rfl⟩,(bj (l.take x1)).take k,rfl,ag.2 ⟨by simp only[Aa,AG,A5,AA,AK,Bi,Bx];omega,l[x1].key.domain,by rw[hd],ag.2 ⟨by simp only[Aa,AG,A5,AA,AK,Bi,Bx];omega,fun _=>⟨rfl,rfl⟩,(bj (l.take x1)).drop k,rfl,ag.2 ⟨by simp only[Aa,AG,A5,AA,AK,Bi,Bx];omega,ag.2 ⟨cu x1 (by omega),x1+1,hlt',hmu,?_⟩⟩⟩⟩⟩⟩⟩
   (repeat' (first|exact trivial|exact rfl|exact(fun _=>rfl)|apply And.intro))
   all_goals (first|(rw[hn];unfold fT;rw[<-hkk,if_neg (by rw[Bq hge2'];simp)];simp)|(simp[ak])))
theorem LL:∀g C,Gi g=some C->CO g C:=bR T1 LK
end
section
variable [Inhabited aL]
structure aj where
 dev:Int
 inc:Int
 seq:Int
deriving DecidableEq,Inhabited
structure dN where
 wall:Int
 count:Int
 dev:Int
deriving DecidableEq,Inhabited
def aj.enc (x:aj):List SV:=[.int .i64 x.dev, .int .i64 x.inc, .int .i64 x.seq]
def dN.enc (x:dN):List SV:=[.int .i64 x.wall, .int .i64 x.count, .int .i64 x.dev]
def vi (d i:Int):Bool:=bV 0 d&&bV d 63&&bV 1 i&&bV i 1048576
def fk (x:aj):Bool:=vi x.dev x.inc&&bV 1 x.seq&&bV x.seq 4294967296
def lM (a b c:Int):Bool:=bV b a&&bV a c
def l9 (x:dN):Bool:=lM x.wall 0 4398046511104&&lM x.count 0 65535&&lM x.dev 0 63
def lZ (a b:Int):Int:=if a=0 then b else a
def xZ (x y:aj):Int:=lZ (dg x.dev y.dev) (dg x.inc y.inc)
def og (x y:aj):Int:=lZ (xZ x y) (dg x.seq y.seq)
def bS (x y:aj):Bool:=decide (og x y<0)
def ya (x y:dN):Int:=lZ (dg x.wall y.wall) (dg x.count y.count)
def kR (x y:dN):Bool:=decide (lZ (ya x y) (dg x.dev y.dev)<0)
def oD:aN:={Y:=Int×Int,pre:=fun _=>True,args:=fun y=>[.agg [i64 y.1,i64 y.2]],res:=fun y=> .bool (vi y.1 y.2)}
def vo (p:aj->Bool):aN:={Y:=aj,pre:=fun _=>True,args:=fun y=>[.agg y.enc],res:=fun y=> .bool (p y)}
def xB (p:dN->Bool):aN:={Y:=dN,pre:=fun _=>True,args:=fun y=>[.agg y.enc],res:=fun y=> .bool (p y)}
def xD:aN:={Y:=Int×Int×Int,pre:=fun _=>True,args:=fun y=>[i64 y.1,i64 y.2.1,i64 y.2.2],res:=fun y=> .bool (lM y.1 y.2.1 y.2.2)}
def NJ:aN:={Y:=aj×aj,pre:=fun _=>True,args:=fun y=>[.agg [i64 y.1.dev,i64 y.1.inc], .agg [i64 y.2.dev,i64 y.2.inc]],res:=fun y=>i64 (xZ y.1 y.2)}
def yG:aN:={Y:=aj×aj,pre:=fun _=>True,args:=fun y=>[.agg y.1.enc, .agg y.2.enc],res:=fun y=>i64 (og y.1 y.2)}
def yH:aN:={Y:=aj×aj,pre:=fun _=>True,args:=fun y=>[.agg y.1.enc, .agg y.2.enc],res:=fun y=> .bool (bS y.1 y.2)}
def Ng:aN:={Y:=dN×dN,pre:=fun _=>True,args:=fun y=>[.agg y.1.enc, .agg y.2.enc],res:=fun y=>i64 (ya y.1 y.2)}
def xC:aN:={Y:=dN×dN,pre:=fun _=>True,args:=fun y=>[.agg y.1.enc, .agg y.2.enc],res:=fun y=> .bool (kR y.1 y.2)}
noncomputable def pP (f:FuncId):Option aN:=bif Nat.beq f Hl then some oD else bif Nat.beq f HH then some oD else bif Nat.beq f HY then some xD else bif Nat.beq f Hw then some xD else Gi f
noncomputable def ve (f:FuncId):Option aN:=bif Nat.beq f Hm then some (vo fk)else bif Nat.beq f HJ then some (vo fk)else bif Nat.beq f HA then some (xB l9)else bif Nat.beq f HK then some (xB l9)else bif Nat.beq f HC then some NJ else bif Nat.beq f HB then some Ng else pP f
noncomputable def yi (f:FuncId):Option aN:=bif Nat.beq f Hn then some yG else bif Nat.beq f HN then some xC else bif Nat.beq f HR then some xC else ve f
noncomputable def pQ (f:FuncId):Option aN:=bif Nat.beq f H4 then some yH else bif Nat.beq f HQ then some yH else yi f
theorem zh (a:Int):bI a 64=bV a 63:=by
 rw[cr,fc,A2,Ad,Ad];omega
theorem MO {a b:Int}:lZ a b<0↔a<0\/(a=0/\b<0):=by
 unfold lZ;by_cases h:a=0
 . simp[h]
 . simp[h]
theorem Lz {a b:Int}:lZ a b=0↔a=0/\b=0:=by
 unfold lZ;by_cases h:a=0<;>simp[h]
theorem ud (x y:aj):bS x y=true↔x.dev<y.dev\/(x.dev=y.dev/\(x.inc<y.inc\/(x.inc=y.inc/\x.seq<y.seq))):=by
 unfold bS og xZ;simp only[Ad,MO,Lz,sH,si];constructor
 . rintro((h|⟨h1,h2⟩)|⟨⟨h1,h2⟩,h3⟩)
   . exact .inl h
   . exact .inr ⟨h1, .inl h2⟩
   . exact .inr ⟨h1, .inr ⟨h2,h3⟩⟩
 . rintro(h|⟨h1,h2|⟨h2,h3⟩⟩)
   . exact .inl (.inl h)
   . exact .inl (.inr ⟨h1,h2⟩)
   . exact .inr ⟨⟨h1,h2⟩,h3⟩
theorem Rn (x y:dN):kR x y=true↔x.wall<y.wall\/(x.wall=y.wall/\(x.count<y.count\/(x.count=y.count/\x.dev<y.dev))):=by
 unfold kR ya;simp only[Ad,MO,Lz,sH,si];constructor
 . rintro((h|⟨h1,h2⟩)|⟨⟨h1,h2⟩,h3⟩)
   . exact .inl h
   . exact .inr ⟨h1, .inl h2⟩
   . exact .inr ⟨h1, .inr ⟨h2,h3⟩⟩
 . rintro(h|⟨h1,h2|⟨h2,h3⟩⟩)
   . exact .inl (.inl h)
   . exact .inl (.inr ⟨h1,h2⟩)
   . exact .inr ⟨⟨h1,h2⟩,h3⟩
theorem aj.ext' {x y:aj} (h1:x.dev=y.dev) (h2:x.inc=y.inc) (h3:x.seq=y.seq):x=y:=by cases x;cases y;simp_all
theorem tU (x:aj):bS x x=false:=by
 rw[Av,ne_eq,ud];omega
theorem tX {x y z:aj} (h1:bS x y=true) (h2:bS y z=true):bS x z=true:=by
 rw[ud]at*;omega
theorem vX (x y:aj):bS x y=true\/x=y\/bS y x=true:=by
 simp only[ud];by_cases h:x.dev=y.dev/\x.inc=y.inc/\x.seq=y.seq
 . exact .inr (.inl (aj.ext' h.1 h.2.1 h.2.2))
 . have:x.dev<y.dev\/y.dev<x.dev\/(x.dev=y.dev/\(x.inc<y.inc\/y.inc<x.inc\/(x.inc=y.inc/\(x.seq<y.seq\/y.seq<x.seq)))):=by omega
   omega
theorem Yq:CO Hl oD:=bZ (cfg:=fun y=>bH cj (cW y)) bC (fun _=>rfl) (fun _=>sr) (n:=400) (by
 rintro⟨a,b⟩ -
 repeat' (first|exact trivial|exact rfl|((conv=>whnf);first|(apply aK<;>intro)|apply And.intro))
 all_goals (simp_all[vi,zh]))
theorem VT:CO HH oD:=bZ (cfg:=fun y=>bH cj (cW y)) bC (fun _=>rfl) (fun _=>sr) (n:=400) (by
 rintro⟨a,b⟩ -
 repeat' (first|exact trivial|exact rfl|((conv=>whnf);first|(apply aK<;>intro)|apply And.intro))
 all_goals (simp_all[vi]))
theorem VK:CO HY xD:=bZ (cfg:=fun y=>bH cj (cW y)) bC (fun _=>rfl) (fun _=>sr) (n:=400) (by
 rintro⟨a,b⟩ -
 repeat' (first|exact trivial|exact rfl|((conv=>whnf);first|(apply aK<;>intro)|apply And.intro))
 all_goals (simp_all[lM]))
theorem U3:CO Hw xD:=bZ (cfg:=fun y=>bH cj (cW y)) bC (fun _=>rfl) (fun _=>sr) (n:=400) (by
 rintro⟨a,b⟩ -
 repeat' (first|exact trivial|exact rfl|((conv=>whnf);first|(apply aK<;>intro)|apply And.intro))
 all_goals (simp_all[lM]))
theorem qo:∀g C,pP g=some C->CO g C:=bR Yq (bR VT (bR VK (bR U3 LL)))
theorem NW:CO Hm (vo fk):=bZ (cfg:=fun y=>bH pP (cW y)) bC (fun _=>rfl) (fun _=>qo) (n:=400) (by
 rintro⟨a,b,c⟩ -
 (conv=>whnf)
 refine⟨(a,b),?_⟩
 repeat' (first|exact trivial|exact rfl|((conv=>whnf);first|(apply aK<;>intro)|apply And.intro))
 all_goals (simp_all[fk]))
theorem ZZ:CO HJ (vo fk):=bZ (cfg:=fun y=>bH pP (cW y)) bC (fun _=>rfl) (fun _=>qo) (n:=400) (by
 rintro⟨a,b,c⟩ -
 (conv=>whnf)
 refine⟨(a,b),?_⟩
 repeat' (first|exact trivial|exact rfl|((conv=>whnf);first|(apply aK<;>intro)|apply And.intro))
 all_goals (simp_all[fk]))
theorem Yv:CO HA (xB l9):=bZ (cfg:=fun y=>bH pP (cW y)) bC (fun _=>rfl) (fun _=>qo) (n:=400) (by
 rintro⟨a,b,c⟩ -
 repeat' (first|exact trivial|exact rfl|((conv=>whnf);first|(apply aK<;>intro)|apply And.intro))
 all_goals (simp_all[l9,lM]))
theorem V1:CO HK (xB l9):=bZ (cfg:=fun y=>bH pP (cW y)) bC (fun _=>rfl) (fun _=>qo) (n:=400) (by
 rintro⟨a,b,c⟩ -
 repeat' (first|exact trivial|exact rfl|((conv=>whnf);first|(apply aK<;>intro)|apply And.intro))
 all_goals (simp_all[l9,lM]))
theorem ZQ:CO HC NJ:=bZ (cfg:=fun y=>bH pP (cW y)) bC (fun _=>rfl) (fun _=>qo) (n:=400) (by
 rintro⟨⟨a,b,c⟩,d,e,f⟩ -
 (conv=>whnf)
 refine⟨(a,d),?_⟩
 repeat ((conv=>whnf);first|refine⟨rfl,?_⟩|refine⟨trivial,?_⟩)
 (conv=>whnf)
 refine⟨(b,e),?_⟩
 repeat' (first|exact trivial|exact rfl|((conv=>whnf);first|(apply aK<;>intro)|apply And.intro))
 all_goals (simp_all[xZ,lZ]))
theorem YD:CO HB Ng:=bZ (cfg:=fun y=>bH pP (cW y)) bC (fun _=>rfl) (fun _=>qo) (n:=400) (by
 rintro⟨⟨a,b,c⟩,d,e,f⟩ -
 (conv=>whnf)
 refine⟨(a,d),?_⟩
 repeat ((conv=>whnf);first|refine⟨rfl,?_⟩|refine⟨trivial,?_⟩)
 (conv=>whnf)
 refine⟨(b,e),?_⟩
 repeat' (first|exact trivial|exact rfl|((conv=>whnf);first|(apply aK<;>intro)|apply And.intro))
 all_goals (simp_all[ya,lZ]))
theorem xk:∀g C,ve g=some C->CO g C:=bR NW (bR ZZ (bR Yv (bR V1 (bR ZQ (bR YD qo)))))
theorem YH:CO Hn yG:=bZ (cfg:=fun y=>bH ve (cW y)) bC (fun _=>rfl) (fun _=>xk) (n:=400) (by
 rintro⟨x,y⟩ -
 (conv=>whnf)
 refine⟨(x,y),?_⟩
 repeat ((conv=>whnf);first|refine⟨rfl,?_⟩|refine⟨trivial,?_⟩)
 (conv=>whnf)
 refine⟨(x.seq,y.seq),?_⟩
 repeat' (first|exact trivial|exact rfl|((conv=>whnf);first|(apply aK<;>intro)|apply And.intro))
 all_goals (simp_all[og,lZ]))
theorem VH:CO HN xC:=bZ (cfg:=fun y=>bH ve (cW y)) bC (fun _=>rfl) (fun _=>xk) (n:=400) (by
 rintro⟨x,y⟩ -
 (conv=>whnf)
 refine⟨(x,y),?_⟩
 repeat ((conv=>whnf);first|refine⟨rfl,?_⟩|refine⟨trivial,?_⟩)
 (conv=>whnf)
 refine⟨(x.dev,y.dev),?_⟩
 repeat' (first|exact trivial|exact rfl|((conv=>whnf);first|(apply aK<;>intro)|apply And.intro))
 all_goals (simp_all[kR,lZ,cr]))
theorem VI:CO HR xC:=bZ (cfg:=fun y=>bH ve (cW y)) bC (fun _=>rfl) (fun _=>xk) (n:=400) (by
 rintro⟨⟨a,b,c⟩,d,e,f⟩ -
 repeat' (first|exact trivial|exact rfl|((conv=>whnf);first|(apply aK<;>intro)|apply And.intro))
 all_goals (rw[A2,Rn,cr,Ad];simp_all<;>omega))
theorem Cv:∀g C,yi g=some C->CO g C:=bR YH (bR VH (bR VI xk))
theorem ZY:CO H4 yH:=bZ (cfg:=fun y=>bH yi (cW y)) bC (fun _=>rfl) (fun _=>Cv) (n:=400) (by
 rintro⟨x,y⟩ -
 (conv=>whnf)
 refine⟨(x,y),?_⟩
 repeat' (first|exact trivial|exact rfl|((conv=>whnf);first|(apply aK<;>intro)|apply And.intro))
 all_goals (simp_all[bS,cr]))
theorem Yy:CO HQ yH:=bZ (cfg:=fun y=>bH yi (cW y)) bC (fun _=>rfl) (fun _=>Cv) (n:=400) (by
 rintro⟨⟨a,b,c⟩,d,e,f⟩ -
 repeat' (first|exact trivial|exact rfl|((conv=>whnf);first|(apply aK<;>intro)|apply And.intro))
 all_goals (rw[A2,ud,cr,Ad];simp_all<;>omega))
theorem qp:∀g C,pQ g=some C->CO g C:=bR ZY (bR Yy Cv)
end
theorem pC (a b:aa):fF a b=true↔a.ab.access<b.ab.access\/(a.ab.access=b.ab.access/\(a.ab.aq<b.ab.aq\/(a.ab.aq=b.ab.aq/\fy a.key b.key=true))):=by
 unfold fF ic;have h1:=si a.ab.access b.ab.access;have h2:=sH a.ab.access b.ab.access;have h3:=si a.ab.aq b.ab.aq;have h4:=sH a.ab.aq b.ab.aq;generalize dg a.ab.access b.ab.access=n at*
 generalize dg a.ab.aq b.ab.aq=m at*
 simp only[Ad];by_cases e1:n=0
 . have a1:=h1.1 e1;by_cases e2:m=0
   . have a2:=h3.1 e2;by_cases hk:a.key=b.key
     . simp[e1,e2,hk,mK,a1,a2]
     . cases hl:fy a.key b.key<;>simp[e1,e2,hk,a1,a2]
   . have a2:a.ab.aq≠b.ab.aq:=fun h=>e2 (h3.2 h)
     simp[e1,e2,a1,a2,h4]
 . have a1:a.ab.access≠b.ab.access:=fun h=>e1 (h1.2 h)
   simp[e1,a1,h2]
theorem vU (a:aa):fF a a=false:=by
 apply Av.2;intro h;rw[pC,mK]at h;simp at h
theorem vZ {a b c:aa} (h1:fF a b=true) (h2:fF b c=true):fF a c=true:=by
 rw[pC]at*;have ht:=pz a.key b.key c.key;rcases h1 with h1|⟨h1,h1'|⟨h1',h1''⟩⟩<;>rcases h2 with h2|⟨h2,h2'|⟨h2',h2''⟩⟩
 . left;omega
 . left;omega
 . left;omega
 . left;omega
 . right;exact⟨by omega, .inl (by omega)⟩
 . right;exact⟨by omega, .inl (by omega)⟩
 . left;omega
 . right;exact⟨by omega, .inl (by omega)⟩
 . right;exact⟨by omega, .inr ⟨by omega,ht h1'' h2''⟩⟩
theorem zR {a b:aa} (h1:fF a b=false) (h2:fF b a=false):a.key=b.key:=by
 have h1:=Av.1 h1;have h2:=Av.1 h2;rw[ne_eq,pC]at h1 h2;rcases ue a.key b.key with hk|hk|hk
 . exfalso;apply h1;rcases Ew a.ab.access b.ab.access with e|e|e
   . exact .inl e
   . refine .inr ⟨e,?_⟩;rcases Ew a.ab.aq b.ab.aq with g|g|g
     . exact .inl g
     . exact .inr ⟨g,hk⟩
     . exact absurd (.inr ⟨e.symm, .inl g⟩) h2
   . exact absurd (.inl e) h2
 . exact hk
 . exfalso;apply h2;rcases Ew b.ab.access a.ab.access with e|e|e
   . exact .inl e
   . refine .inr ⟨e,?_⟩;rcases Ew b.ab.aq a.ab.aq with g|g|g
     . exact .inl g
     . exact .inr ⟨g,hk⟩
     . exact absurd (.inr ⟨e.symm, .inl g⟩) h1
   . exact absurd (.inl e) h1
theorem IJ {a b c:aa} (h1:fF a b=false) (h2:fF b c=false):fF a c=false:=by
 apply Av.2;intro h
 cases hb:fF b a
 . have e:=zR h1 hb
   cases hc:fF c b
   . have e2:=zR h2 hc;have h1':=Av.1 h1;have h2':=Av.1 h2;have hb':=Av.1 hb;have hc':=Av.1 hc;rw[ne_eq,pC]at h1' h2' hb' hc';rw[pC,e,e2,mK]at h;simp only[e,e2,mK,Ak,and_false,DB]at h1' h2' hb' hc' h;omega
   . have:=vZ hc (?_:fF b c=true)
     . rw[vU]at this;cases this
     . rw[h2];exfalso;have h1':=Av.1 h1;have hb':=Av.1 hb;rw[ne_eq,pC]at h1' hb';rw[pC]at h hc;simp only[e,mK,Ak,and_false,DB]at h1' hb';have e1:a.ab.access=b.ab.access:=by omega
       have e2:a.ab.aq=b.ab.aq:=by omega
       rw[e1,e2,e]at h;have h:=(pC b c).2 h;rw[h2]at h
       cases h
 . have:=vZ hb h;rw[h2]at this
   cases this
abbrev KN (l:List aa):Prop:=(l.map fun x=>x.key).Nodup
theorem KN.sub {l l':List aa} (h:KN l) (hs:l'.Sublist l):KN l':=Em (hs.map _) h
theorem KN.nodup {l:List aa} (h:KN l):l.Nodup:=by
 unfold KN at h;rw[DG,DT]at h;rw[DG];exact h.imp fun hab e=>hab (by rw[e])
theorem KN.inj:∀{l:List aa},KN l->∀{a b:aa},a∈l->b∈l->a.key=b.key->a=b
 |[],_,a,b,ha,_,_=>by cases ha
 |x::l,h,a,b,ha,hb,hk=>by
  have h0:x.key∉l.map (fun x=>x.key)/\KN l:=by simpa [KN]using h
  rcases Aj.1 ha with rfl|ha'<;>rcases Aj.1 hb with rfl|hb'
  . rfl
  . exact absurd (Au.2 ⟨b,hb',hk.symm⟩) h0.1
  . exact absurd (Au.2 ⟨a,ha',hk⟩) h0.1
  . exact h0.2.inj ha' hb' hk
def iN (l:List aa) (d:Bs) (all:Bool):List aa:=l.filter fun x=>all||decide (x.key.domain=d)
theorem qB (l:List aa) (d:Bs):iN l d true=l:=by simp[iN]
theorem qy (l:List aa) (d:Bs):iN l d false=fb l d:=by simp[iN,fb]
abbrev qQ (P:aa->Bool) (b:Option aa) (x:aa):Option aa:=if P x then(match b with|none=>some x|some y=>if fF x y then some x else some y)else b
theorem JU (P:aa->Bool):∀(l:List aa) (b:Option aa),l.foldl (qQ P) b=none->b=none/\ ∀x∈l,P x=false
 |[],b,h=>⟨h,by simp⟩
 |x::l,b,h=>by
  obtain⟨h1,h2⟩:=JU P l _ h;by_cases hx:P x=true
  . exfalso;simp only[qQ,hx,if_true]at h1
    cases b with
    |none=>cases h1
    |some y=>by_cases hs:fF x y=true<;>simp[hs]at h1
  . simp only[qQ,hx,AB]at h1;exact⟨by simpa using h1,by simpa [hx]using h2⟩
theorem JV (P:aa->Bool):∀(l:List aa) (b:Option aa) (z:aa),l.foldl (qQ P) b=some z->(b=some z\/(z∈l/\P z=true))/\(∀y,b=some y->fF y z=false)/\ ∀x∈l,P x=true->fF x z=false
 |[],b,z,h=>⟨.inl h,fun y e=>by have h:b=some z:=h;rw[h]at e;cases e;exact vU _,by simp⟩
 | x :: l,b,z,h=>by
  obtain⟨i1,i2,i3⟩:=JV P l _ z h;have hmem:z∈l/\P z=true->z∈x::l/\P z=true:=fun h=>⟨Ao _ h.1,h.2⟩
  by_cases hx:P x=true
  . have all:fF x z=false->∀w∈x::l,P w=true->fF w z=false:=by
      intro h0 w hw hp;rcases Aj.1 hw with rfl|hw
      . exact h0
      . exact i3 w hw hp
    simp only[qQ,hx,if_true]at i1 i2
    cases b with
    | none=>
      simp only at i1 i2;refine⟨.inr ?_,fun y e=>(nomatch e),all (i2 _ rfl)⟩;rcases i1 with e|h1
      . cases e;exact⟨An,hx⟩
      . exact hmem h1
    | some y0=>
      by_cases hs:fF x y0=true
      . simp only[hs,if_true]at i1 i2;refine⟨.inr ?_,fun y e=>?_,all (i2 _ rfl)⟩
        . rcases i1 with e|h1
          . cases e;exact⟨An,hx⟩
          . exact hmem h1
        . cases e;apply Av.2;intro h2;have:=vZ hs h2;rw[i2 _ rfl]at this
          cases this
      . have hs:=Av.2 hs;simp only[hs,Ak,AB]at i1 i2;exact⟨i1.imp id hmem,i2,all (IJ hs (i2 _ rfl))⟩
  . simp only[qQ,hx,AB]at i1 i2;refine⟨i1.imp id hmem,i2,fun w hw hp=>?_⟩;rcases Aj.1 hw with rfl|hw
    . exact absurd hp hx
    . exact i3 w hw hp
theorem K2 (l:List aa) (d:Bs) (all:Bool):fV l d all=l.foldl (qQ fun x=>all||decide (x.key.domain=d)) none:=rfl
theorem zt {l:List aa} {d:Bs} {all:Bool} (h:iN l d all≠[]):∃b∈iN l d all,fJ l d all=b.key/\fV l d all=some b/\ ∀x∈iN l d all,fF x b=false:=by
 cases hb:fV l d all with
 |none=>
  exfalso;have:=(JU _ l none (by rw[<-K2];exact hb)).2;apply h;unfold iN;rw[DW];intro x hx;rw[this x hx];simp
 |some b=>
  obtain⟨i1,_,i3⟩:=JV _ l none b (by rw[<-K2];exact hb);rcases i1 with e|⟨i1,i2⟩
  . cases e
  . refine⟨b,Ar.2 ⟨i1,i2⟩,by simp only[fJ,hb],rfl,fun x hx=>?_⟩;obtain⟨h1,h2⟩:=Ar.1 hx;exact i3 x h1 h2
theorem VC (l:List aa) (d:Bs):fV l d false=fV (fb l d) [] true:=by
 unfold fV fb;rw[List.foldl_filter];congr 1
 try (funext b x;by_cases hx:x.key.domain=d<;>simp[hx])
theorem TX {l:List aa} {x:aa} (h:x∈l):(eV l x.key).length<l.length:=by
 unfold eV;apply Nat.lt_of_le_of_ne (AL _ _);intro e;have:=List.length_filter_eq_length_iff.1 e x h;simp at this
theorem rZ {l:List aa} {d:Bs} {all:Bool} {m:Nat} (h:m<(iN l d all).length):(eV l (fJ l d all)).length<l.length:=by
 obtain⟨b,hb,he,_⟩:=zt (l:=l) (d:=d) (all:=all) (by intro e;rw[e]at h;simp at h);rw[he];exact TX (Ar.1 hb).1
def jn (m:Nat) (d:Bs) (all:Bool) (l:List aa):List aa:=
 if h:m<(iN l d all).length then jn m d all (eV l (fJ l d all))else l
 termination_by l.length
 decreasing_by exact rZ h
theorem rV {m:Nat} {d:Bs} {all:Bool} {l:List aa} (h:m<(iN l d all).length):jn m d all l=jn m d all (eV l (fJ l d all)):=by
 conv=>lhs;unfold jn
 rw[dif_pos h]
theorem pD {m:Nat} {d:Bs} {all:Bool} {l:List aa} (h:(iN l d all).length<=m):jn m d all l=l:=by
 unfold jn;rw[dif_neg (by omega)]
abbrev fq (m:Nat) (l:List aa):List aa:=jn m [] true l
theorem rU {m:Nat} {l:List aa} (h:l.length<=m):fq m l=l:=pD (by rw[qB];exact h)
theorem Jp {m:Nat} {l:List aa} (h:m<l.length):fq m l=fq m (eV l (fJ l [] true)):=rV (by rw[qB];exact h)
theorem UW (m:Nat) (d:Bs) (all:Bool):∀(n:Nat) (l:List aa),l.length<=n->(jn m d all l).Sublist l:=by
 intro n;induction n with
 |zero=>intro l h;rw[pD (by unfold iN;exact Aq (AL _ _) (by omega))];exact EU _
 |succ n ih=>
  intro l h;by_cases hm:m<(iN l d all).length
  . rw[rV hm];exact(ih _ (by have:=rZ hm;omega)).trans BU
  . rw[pD (by omega)];exact EU _
theorem sK (m:Nat) (d:Bs) (all:Bool) (l:List aa):(jn m d all l).Sublist l:=UW m d all l.length l (Ai _)
theorem Lh (m:Nat) (d:Bs) (all:Bool):∀(n:Nat) (l:List aa),l.length<=n->(iN (jn m d all l) d all).length<=m:=by
 intro n;induction n with
 |zero=>intro l h;rw[pD (by unfold iN;exact Aq (AL _ _) (by omega))];unfold iN;exact Aq (AL _ _) (by omega)
 |succ n ih=>
  intro l h;by_cases hm:m<(iN l d all).length
  . rw[rV hm];exact ih _ (by have:=rZ hm;omega)
  . rw[pD (by omega)];omega
theorem R6 {l s:List aa} {x:aa} (hk:KN l) (hp:(x::s).Perm l):s.Perm (eV l x.key):=by
 have h1:(eV (x::s) x.key).Perm (eV l x.key):=hp.filter _;have hk2:KN (x::s):=(hp.map _).nodup_iff.2 hk;have h0:x.key∉s.map (fun x=>x.key):=by simp only[KN,AR,BW]at hk2;exact hk2.1
 have h2:eV (x::s) x.key=s:=by
  unfold eV;rw[BG,if_neg (by simp)];apply Bz.2;intro y hy;simp only[Ad];intro e;exact h0 (Au.2 ⟨y,hy,e⟩)
 rw[h2]at h1;exact h1
theorem ZE (m:Nat):∀(n:Nat) (l s:List aa),l.length<=m+n->KN l->s.Perm l->s.Pairwise (fun a b=>fF b a=false)->(s.take (l.length - m)).foldl (fun a x=>eV a x.key) l=fq m l:=by
 intro n;induction n with
 |zero=>
  intro l s hl _ _ _;rw[show l.length - m=0 by omega];simp only[DP,Ej];exact(rU (by omega)).symm
 |succ n ih=>
  intro l s hl hk hp hs;by_cases hm:l.length<=m
  . rw[show l.length - m=0 by omega];simp only[DP,Ej];exact(rU (by omega)).symm
  . cases s with
    |nil=>have:=hp.length_eq;simp at this;omega
    | cons x s=>
     obtain⟨b,hb,he,_,hall⟩:=zt (l:=l) (d:=[]) (all:=true) (by rw[qB];intro e;rw[e]at hm;simp at hm);rw[qB]at hb hall;have hx:x∈l:=hp.subset An;have hbx:fF b x=false:=by
      rcases Aj.1 (hp.symm.subset hb)with rfl|h
      . exact vU _
      . exact(BH.1 hs).1 b h
     have hxb:=hall x hx;have:b=x:=hk.inj hb hx (zR hbx hxb);subst this;rw[show l.length - m=(l.length - 1 - m)+1 by omega,List.take_succ_cons,Bt];have hp2:=R6 hk hp;have hlen:(eV l b.key).length=l.length - 1:=by
      have h1:=hp2.length_eq;have h2:=hp.length_eq;simp at h2;omega
     rw[<-hlen,ih (eV l b.key) s (by rw[hlen];omega) (hk.sub BU) hp2 (BH.1 hs).2,Jp (l:=l) (by omega),he]
theorem Ir (l:List aa) (d:Bs) (k:aA):fb (eV l k) d=eV (fb l d) k:=by
 unfold fb eV;rw[BZ,BZ];congr 1
 funext x
 exact Fl _ _
theorem Sc (m:Nat) (d:Bs):∀(n:Nat) (l:List aa),l.length<=n->jn m d false l=l.filter fun x=>decide (x.key.domain≠d)||decide (x∈fq m (fb l d)):=by
 intro n;have done:∀l:List aa,(fb l d).length<=m->jn m d false l=l.filter fun x=>decide (x.key.domain≠d)||decide (x∈fq m (fb l d)):=by
  intro l h;rw[pD (by rw[qy];exact h),rU h];refine(Bz.2 fun x hx=>?_).symm;by_cases hd:x.key.domain=d
  . have:x∈fb l d:=Ar.2 ⟨hx,by simpa using hd⟩;simp[this]
  . simp[hd]
 induction n with
 |zero=>intro l h;exact done l (Aq (AL _ _) (by omega))
 |succ n ih=>
  intro l h;by_cases hm:m<(fb l d).length
  . have hm1:m<(iN l d false).length:=by rw[qy];exact hm
    have hm2:m<(iN (fb l d) [] true).length:=by rw[qB];exact hm
    have hk:fJ l d false=fJ (fb l d) [] true:=by simp only[fJ,VC]
    obtain⟨b,hb,he,_⟩:=zt (l:=l) (d:=d) (all:=false) (by intro e;rw[e]at hm1;simp at hm1);rw[qy]at hb;have hbd:b.key.domain=d:=by simpa using(Ar.1 hb).2
    rw[rV hm1,ih _ (by have:=rZ hm1;omega),show fq m (fb l d)=fq m (eV (fb l d) (fJ (fb l d) [] true))from rV hm2,<-hk,<-Ir];conv=>lhs;arg 2;unfold eV
    rw[BZ];apply B8;intro x hx;by_cases hq:(decide (x.key.domain≠d)||decide (x∈fq m (fb (eV l (fJ l d false)) d)))=true
    . rw[hq,Bj,Ad];simp only[BF,Ad]at hq;rcases hq with hq|hq
      . rw[he];intro e;rw[e]at hq;exact hq hbd
      . have h1:=(sK m [] true _).subset hq;rw[Ir]at h1;simpa using(Ar.1 h1).2
    . rw[Av.2 hq,Bb]
  . exact done l (by omega)
def jN (T:List aa) (a:List aa) (x:aa):List aa:=if x∈T then a else eV a x.key
theorem zS (T:List aa):∀(o l:List aa),o.foldl (jN T) l=l.filter fun y=>decide (∀x∈o,x∉T->y.key≠x.key)
 |[],l=>(Bz.2 fun y _=>by simp).symm
 |x::o,l=>by
  rw[Bt,zS T o];unfold jN;by_cases hx:x∈T
  . rw[if_pos hx];apply B8;intro y _;simp[hx]
  . rw[if_neg hx];unfold eV;rw[BZ];apply B8;intro y _;simp[hx];rw[Fl]
theorem Yg {l:List aa} (hk:KN l) (m:Nat) (d:Bs):(fb l d).foldl (jN (fq m (fb l d))) l=jn m d false l:=by
 rw[zS,Sc m d l.length l (Ai _)];apply B8;intro y hy;rw[A2];simp only[Ad,BF];constructor
 . intro h;by_cases hd:y.key.domain=d
   . right;apply Fi;intro hn;exact h y (Ar.2 ⟨hy,by simpa using hd⟩) hn rfl
   . exact .inl hd
 . intro h x hx hxT e;obtain⟨hx1,hx2⟩:=Ar.1 hx;have:y=x:=hk.inj hy hx1 e;subst this;rcases h with h|h
   . exact h (by simpa using hx2)
   . exact hxT h
def aZ (l:List aa) (now:Int):List aa:=l.filter fun x=> !fe x.ab now
def mT (cap:Nat) (l:List aa) (ds:List Bs):List aa:=ds.foldl (fun b d=>jn cap d false b) l
def fX (cap total:Nat) (l:List aa) (now:Int):List aa:=fq total (mT cap (aZ l now) (bj (aZ l now)))
theorem sk (cap:Nat):∀(ds:List Bs) (l:List aa),(mT cap l ds).Sublist l
 |[],l=>EU _
 |d::ds,l=>(sk cap ds _).trans (sK cap d false l)
theorem uA (cap total:Nat) (l:List aa) (now:Int):(fX cap total l now).Sublist l:=(sK _ _ _ _).trans ((sk _ _ _).trans BU)
theorem JA {l l':List aa} (h:l'.Sublist l) (d:Bs):(fb l' d).Sublist (fb l d):=h.filter _
theorem Ks (cap:Nat):∀(ds:List Bs) (l:List aa) (d:Bs),d∈ds->(fb (mT cap l ds) d).length<=cap
 |[],l,d,h=>by cases h
 |e::ds,l,d,h=>by
  rcases Aj.1 h with rfl|h
  . refine Aq (JA (sk cap ds _) d).length_le ?_;have:=Lh cap d false l.length l (Ai _);rw[qy]at this;exact this
  . exact Ks cap ds _ d h
theorem Wz {L:List Bs} {d e:Bs}:e∈fT L d↔e=d\/e∈L:=by
 unfold fT;split
 . rename_i h;have:d∈L:=BD h;constructor
   . exact .inr
   . rintro(rfl|h)
     . exact this
     . exact h
 . rw[A9,Aj];conv=>rhs;rw[<-BV (ef L d) L]
   rw[A9];constructor
   . rintro(h|h|h)
     . exact .inr (.inl h)
     . exact .inl h
     . exact .inr (.inr h)
   . rintro(h|h|h)
     . exact .inr (.inl h)
     . exact .inl h
     . exact .inr (.inr h)
theorem Lq:∀(l:List aa) (a:List Bs) (d:Bs),d∈l.foldl (fun a x=>fT a x.key.domain) a↔d∈a\/ ∃x∈l,x.key.domain=d
 |[],a,d=>by simp
 |x::l,a,d=>by
  rw[Bt,Lq l,Wz];constructor
  . rintro((rfl|h)|⟨y,h1,h2⟩)
    . exact .inr ⟨x,An,rfl⟩
    . exact .inl h
    . exact .inr ⟨y,Ao _ h1,h2⟩
  . rintro(h|⟨y,h1,h2⟩)
    . exact .inl (.inr h)
    . rcases Aj.1 h1 with rfl|h1
      . exact .inl (.inl h2.symm)
      . exact .inr ⟨y,h1,h2⟩
theorem gB {l:List aa} {d:Bs}:d∈bj l↔∃x∈l,x.key.domain=d:=by
 unfold bj;rw[Lq];simp
theorem RK {cap total:Nat} {l:List aa} {now:Int}:(fX cap total l now).length<=total/\ ∀x∈fX cap total l now,fe x.ab now=false/\(fb (fX cap total l now) x.key.domain).length<=cap:=by
 have hs:=sK total [] true (mT cap (aZ l now) (bj (aZ l now)));refine⟨?_,fun x hx=>⟨?_,?_⟩⟩
 . have:=Lh total [] true _ (mT cap (aZ l now) (bj (aZ l now))) (Ai _);rw[qB]at this;exact this
 . have:=(sk cap _ _).subset (hs.subset hx);simpa using(Ar.1 this).2
 . have hx1:=(sk cap _ _).subset (hs.subset hx);exact Aq (JA hs _).length_le (Ks cap _ _ _ (gB.2 ⟨x,hx1,rfl⟩))
theorem Kr (cap:Nat) (l:List aa) (h:∀x∈l,(fb l x.key.domain).length<=cap):∀ds:List Bs,mT cap l ds=l
 |[]=>rfl
 | d::ds=>by
  have hd:(fb l d).length<=cap:=by
   cases he:fb l d with
   |nil=>simp
   |cons x o=>
    have hx:x∈fb l d:=by rw[he];exact An
    obtain⟨h1,h2⟩:=Ar.1 hx;have:=h x h1;rw[show x.key.domain=d by simpa using h2,he]at this;exact this
  show mT cap (jn cap d false l) ds=l
  rw[pD (by rw[qy];exact hd)];exact Kr cap l h ds
theorem Wr {cap total:Nat} {l:List aa} {now:Int} (h1:∀x∈l,fe x.ab now=false) (h2:∀x∈l,(fb l x.key.domain).length<=cap) (h3:l.length<=total):fX cap total l now=l:=by
 have e:aZ l now=l:=Bz.2 fun x hx=>by simp[h1 x hx]
 unfold fX;rw[e,Kr cap l h2,rU h3]
theorem Q9:∀{l l':List aa},l'.Sublist l->l.Nodup->l.filter (fun x=>decide (x∈l'))=l':=by
 intro l l' h;induction h with
 |slnil=>intro _;rfl
 | @cons l1 l2 a h ih=>
  intro hn;obtain⟨h1,h2⟩:=BW.1 hn;rw[BG,if_neg (by simp;exact fun hm=>h1 (h.subset hm))];exact ih h2
 | @cons_cons l1 l2 a h ih=>
  intro hn;obtain⟨h1,h2⟩:=BW.1 hn;rw[BG,if_pos (by simp)];congr 1
  refine Eq.trans (B8 fun x hx=>?_) (ih h2);have:x≠a:=fun e=>h1 (e▸hx)
  simp[this]
def iU (l k:List aa):List aa:=l.filter fun x=>decide (x∉k)
theorem ep:∀{l:List aa},iE l=true↔l.Pairwise (fun a b=>fy a.key b.key=true)
 |[]=>by simp[iE]
 |[x]=>by simp[iE]
 |x::y::l=>by
  simp only[iE,Aa];rw[ep (l:=y::l),BH (a:=x)];constructor
  . rintro⟨h1,h2⟩;refine⟨fun z hz=>?_,h2⟩;rcases Aj.1 hz with rfl|hz
    . exact h1
    . exact pz _ _ _ h1 ((BH.1 h2).1 z hz)
  . rintro⟨h1,h2⟩;exact⟨h1 y An,h2⟩
theorem J0 {l:List aa} (h:iE l=true):KN l:=by
 have h:=ep.1 h;unfold KN;rw[DG,DT];exact h.imp fun hab e=>by rw[e,mK]at hab;cases hab
theorem TI {l l':List aa} (h:iE l=true) (hs:l'.Sublist l):iE l'=true:=ep.2 ((ep.1 h).sublist hs)
theorem Xw {l:List aa} (hk:KN l) (cap:Nat):∀ds:List Bs,ds.foldl (fun b d=>(fb b d).foldl (jN (fq cap (fb b d))) b) l=mT cap l ds:=by
 intro ds;induction ds generalizing l with
 |nil=>rfl
 |cons d ds ih=>
  rw[Bt,Yg hk,ih (hk.sub (sK _ _ _ _))];rfl
section
variable [Inhabited aL]
abbrev aD (c:az):Nat:=c.domain.toNat
abbrev cY (c:az):Nat:=c.total.toNat
def NK:aN:={Y:=List aa×Int,pre:=fun y=>jx y.1/\KN y.1/\0<=y.2,args:=fun y=>[ec y.1,i64 y.2],res:=fun y=>ec (fq y.2.toNat y.1)}
def u4 (l:List aa):Prop:=∀x∈l,x.key.domain.length<=1000000
def Nc:aN:={Y:=List aa,pre:=fun y=>jx y/\u4 y,args:=fun y=>[ec y],res:=fun y=>strs (bj y)}
noncomputable def qR (f:FuncId):Option aN:=bif Nat.beq f Hx then some Nc else bif Nat.beq f Ho then some NK else Gi f
def x6:aN:={Y:=az×List aa×Int,pre:=fun y=>0<=y.1.domain/\0<=y.1.total/\jx y.2.1,args:=fun y=>[.agg y.1.enc,ec y.2.1,i64 y.2.2],res:=fun y=>ec (fX (aD y.1) (cY y.1) y.2.1 y.2.2)}
abbrev jm (cap:Nat) (l:List aa) (i:Nat):List aa:=mT cap l ((bj l).take i)
def uH (y:az×List aa×Int):aI:={α:=Nat,ok:=fun i=>i<=y.2.1.length,μ:=fun i=>y.2.1.length - i,aX:=[2,3,6],aS:=fun i=>[(1,ec y.2.1),(7, .own 1),(8,i64 i)],bw:=fun i=>[(1,om ((y.2.1.take i).filter fun x=> !fe x.ab y.2.2))]}
def FM (y:az×List aa×Int):aI:=let l:=aZ y.2.1 y.2.2;{α:=Nat,ok:=fun i=>i<=(bj l).length,μ:=fun i=>(bj l).length - i,aX:=[3,6],aS:=fun i=>[(7,ec (jm (aD y.1) l i)),(9,strs (bj l)),(10,i64 i)],bw:=fun _=>[],fo:=[7]}
def FN (y:az×List aa×Int):aI:=let l:=aZ y.2.1 y.2.2;{α:=Nat×List aa,ok:=fun x=>∃h:x.1<(bj l).length,x.2.length<=y.2.1.length/\jn (aD y.1) (bj l)[x.1] false x.2=jm (aD y.1) l (x.1+1),μ:=fun x=>x.2.length,aX:=[3,6],aS:=fun x=>[(7,ec x.2),(9,strs (bj l)),(10,i64 x.1)],bw:=fun _=>[],link:=some fun a b=>b.1=a.1}
def FO (y:az×List aa×Int):aI:={α:=List aa,ok:=fun x=>x.length<=y.2.1.length/\fq (cY y.1) x=fX (aD y.1) (cY y.1) y.2.1 y.2.2,μ:=fun x=>x.length,aX:=[3,6],aS:=fun x=>[(7,ec x)],bw:=fun _=>[]}
noncomputable def KW (y:az×List aa×Int):FuncId->Nat->Option aI:=l4 kC 3 (uH y) (l4 kC 9 (FM y) (l4 kC 11 (FN y) (cD kC 13 (FO y))))
noncomputable def vg (f:FuncId):Option aN:=bif Nat.beq f kC then some x6 else qR f
def dL (y:az×List aa×Int):List aa×Int:=if gD y.1≠0 then([],gD y.1)else if iE y.2.1 then(fX (aD y.1) (cY y.1) y.2.1 y.2.2,0)else([],6)
def Gz:aN:={Y:=az×List aa×Int,pre:=fun y=>uJ y.1/\jx y.2.1/\u4 y.2.1,args:=fun y=>[.agg y.1.enc,ec y.2.1,i64 y.2.2],res:=fun y=> .bG [ec (dL y).1,i64 (dL y).2]}
def uT (y:az×List aa×Int):aI:={α:=Nat,ok:=fun i=>i<=y.2.1.length,μ:=fun i=>y.2.1.length - i,aX:=[2,3,6,7],aS:=fun i=>[(25,ec y.2.1),(26,i64 (Int.ofNat y.2.1.length)),(27,i64 i),(9, .own 1)],bw:=fun i=>[(1,om ((y.2.1.take i).filter fun x=> !fe x.ab y.2.2))]}
abbrev gu (cap:Nat) (l:List aa) (i:Nat):List aa:=((bj l).take i).foldl (fun b d=>(fb b d).foldl (jN (fq cap (fb b d))) b) l
def F6 (y:az×List aa×Int):aI:=let l:=aZ y.2.1 y.2.2;{α:=Nat,ok:=fun i=>i<=(bj l).length,μ:=fun i=>(bj l).length - i,aX:=[3,6,7],aS:=fun i=>[(9,ec (gu (aD y.1) l i)),(41,strs (bj l)),(42,i64 (Int.ofNat (bj l).length)),(43,i64 i)],bw:=fun _=>[],fo:=[9]}
abbrev dq (cap:Nat) (l:List aa) (i:Nat):List aa:=fb (gu cap l i) ((bj l)[i]?.getD [])
def uU (y:az×List aa×Int):aI:=let l:=aZ y.2.1 y.2.2;{α:=Nat×Nat,ok:=fun x=>∃_:x.1<(bj l).length,x.2<=(dq (aD y.1) l x.1).length,μ:=fun x=>(dq (aD y.1) l x.1).length - x.2,aX:=[3,6,7],aS:=fun x=>[(9,ec (((dq (aD y.1) l x.1).take x.2).foldl (jN (fq (aD y.1) (dq (aD y.1) l x.1))) (gu (aD y.1) l x.1))),(14,ec (dq (aD y.1) l x.1)),(41,strs (bj l)),(42,i64 (Int.ofNat (bj l).length)),(43,i64 x.1),(50,ec (dq (aD y.1) l x.1)),(51,i64 (Int.ofNat (dq (aD y.1) l x.1).length)),(52,i64 x.2)],bw:=fun _=>[],link:=some fun a b=>b.1=a.1}
noncomputable def Ma (y:az×List aa×Int):FuncId->Nat->Option aI:=l4 lT 8 (uT y) (l4 lT 14 (F6 y) (cD lT 18 (uU y)))
noncomputable def yj (f:FuncId):Option aN:=bif Nat.beq f lT then some Gz else vg f
def iw (y:az×List aa×Int):List aa×Int:=if(dL y).2≠0 then([],(dL y).2)else(iU y.2.1 (dL y).1,0)
def Gx:aN:={Y:=az×List aa×Int,pre:=fun y=>uJ y.1/\jx y.2.1/\u4 y.2.1,args:=fun y=>[.agg y.1.enc,ec y.2.1,i64 y.2.2],res:=fun y=> .bG [ec (iw y).1,i64 (iw y).2]}
def tp (y:az×List aa×Int):aI:={α:=Nat,ok:=fun i=>i<=y.2.1.length,μ:=fun i=>y.2.1.length - i,aX:=[6,7],aS:=fun i=>[(8,ec (dL y).1),(10, .own 1),(23,ec y.2.1),(24,i64 (Int.ofNat y.2.1.length)),(25,i64 i)],bw:=fun i=>[(1,om (iU (y.2.1.take i) (dL y).1))]}
end
theorem XT:(cf (fun(y:aN.Y x6)=>bH qR (KW y)) 800 kC)=(∀(y:az×List aa×Int),0<=y.1.domain/\0<=y.1.total/\y.2.1.length<=10000->(∃(x:Nat),x<=y.2.1.length/\(ak y.2.2 y.2.2/\True/\True/\SV.ar aa y.2.1 aa.enc=SV.ar aa y.2.1 aa.enc/\True/\ak 0 ↑x/\True)/\(SV.ar (View.X {X:=aa,enc:=aa.enc}) [] (View.enc {X:=aa,enc:=aa.enc})=SV.ar aa (List.filter (fun(x:aa)=> !fe x.ab y.2.2) (List.take x y.2.1)) aa.enc/\(ak y.1.aC y.1.aC/\ak y.1.domain y.1.domain/\ak y.1.total y.1.total/\SV.ar Bs y.1.rules aU=SV.ar Bs y.1.rules aU/\True)/\True)/\True)/\ ∀(x:Nat),x<=y.2.1.length->br (bI (↑x) (Int.ofNat y.2.1.length)) (so y.2.1[Int.toNat ↑x]? fun(val:aa)=>∃(w:cU×Int),val.ab.value=w.1.value/\val.ab.aG=w.1.aG/\val.ab.aV=w.1.aV/\val.ab.aH=w.1.aH/\val.ab.persistent=w.1.persistent/\ak val.ab.aQ w.1.aQ/\ak val.ab.aq w.1.aq/\ak val.ab.access w.1.access/\ak y.2.2 w.2/\True/\br (!fe w.1 w.2) (so y.2.1[Int.toNat ↑x]? fun(val:aa)=>∃(z:aa),(aa.enc z)=(aa.enc val)/\ck (Nat.ble ((List.length (List.filter (fun(x:aa)=> !fe x.ab y.2.2) (List.take x y.2.1))+List.length [z])*96) 16777216&&Nat.ble (List.length (List.filter (fun(x:aa)=> !fe x.ab y.2.2) (List.take x y.2.1))+List.length [z]) 16777216) (ck (bq .i64 (↑x+1)) (∃(u:Nat),u<=y.2.1.length/\aI.μ (uH y) u<aI.μ (uH y) x/\(ak y.2.2 y.2.2/\True/\True/\SV.ar aa y.2.1 aa.enc=SV.ar aa y.2.1 aa.enc/\True/\ak (↑x+1) ↑u/\True)/\(SV.ar aa (List.filter (fun(x:aa)=> !fe x.ab y.2.2) (List.take x y.2.1)++[z]) aa.enc=SV.ar aa (List.filter (fun(x:aa)=> !fe x.ab y.2.2) (List.take u y.2.1)) aa.enc/\(ak y.1.aC y.1.aC/\ak y.1.domain y.1.domain/\ak y.1.total y.1.total/\SV.ar Bs y.1.rules aU=SV.ar Bs y.1.rules aU/\True)/\True)/\True))) (ck (bq .i64 (↑x+1)) (∃(u:Nat),u<=y.2.1.length/\aI.μ (uH y) u<aI.μ (uH y) x/\(ak y.2.2 y.2.2/\True/\True/\SV.ar aa y.2.1 aa.enc=SV.ar aa y.2.1 aa.enc/\True/\ak (↑x+1) ↑u/\True)/\(SV.ar aa (List.filter (fun(x:aa)=> !fe x.ab y.2.2) (List.take x y.2.1)) aa.enc=SV.ar aa (List.filter (fun(x:aa)=> !fe x.ab y.2.2) (List.take u y.2.1)) aa.enc/\(ak y.1.aC y.1.aC/\ak y.1.domain y.1.domain/\ak y.1.total y.1.total/\SV.ar Bs y.1.rules aU=SV.ar Bs y.1.rules aU/\True)/\True)/\True))) (∃(w:List aa),SV.ar aa (List.filter (fun(x:aa)=> !fe x.ab y.2.2) (List.take x y.2.1)) aa.enc=SV.ar aa w aa.enc/\w.length<=10000/\(∃(z:Nat),z<=List.length (bj (aZ y.2.1 y.2.2))/\(True/\True/\SV.ar aa (List.filter (fun(x:aa)=> !fe x.ab y.2.2) (List.take x y.2.1)) aa.enc=SV.ar aa (jm (aD y.1) (aZ y.2.1 y.2.2) z) aa.enc/\SV.ar Bs (bj w) aU=SV.ar Bs (bj (aZ y.2.1 y.2.2)) aU/\ak 0 ↑z/\True)/\(True/\(ak y.1.aC y.1.aC/\ak y.1.domain y.1.domain/\ak y.1.total y.1.total/\SV.ar Bs y.1.rules aU=SV.ar Bs y.1.rules aU/\True)/\True)/\True)/\ ∀(x:Nat),x<=List.length (bj (aZ y.2.1 y.2.2))->br (bI (↑x) (Int.ofNat (List.length (bj (aZ y.2.1 y.2.2))))) (∃(x0:Nat×List aa),(∃(z:Nat×List aa),((∃(h:z.1<List.length (bj (aZ y.2.1 y.2.2))),z.2.length<=y.2.1.length/\jn (aD y.1) (bj (aZ y.2.1 y.2.2))[z.1] false z.2=jm (aD y.1) (aZ y.2.1 y.2.2) (z.1+1))/\z.1=x0.1)/\(True/\True/\SV.ar aa (jm (aD y.1) (aZ y.2.1 y.2.2) x) aa.enc=SV.ar aa z.2 aa.enc/\SV.ar Bs (bj (aZ y.2.1 y.2.2)) aU=SV.ar Bs (bj (aZ y.2.1 y.2.2)) aU/\ak ↑x ↑z.1/\True)/\(True/\(ak y.1.aC y.1.aC/\ak y.1.domain y.1.domain/\ak y.1.total y.1.total/\SV.ar Bs y.1.rules aU=SV.ar Bs y.1.rules aU/\True)/\True)/\True)/\ ∀(z:Nat×List aa),(∃(h:z.1<List.length (bj (aZ y.2.1 y.2.2))),z.2.length<=y.2.1.length/\jn (aD y.1) (bj (aZ y.2.1 y.2.2))[z.1] false z.2=jm (aD y.1) (aZ y.2.1 y.2.2) (z.1+1))/\z.1=x0.1->so (bj (aZ y.2.1 y.2.2))[Int.toNat ↑z.1]? fun(val:Bs)=>∃(u:List aa×Bs),SV.ar aa z.2 aa.enc=SV.ar aa u.1 aa.enc/\val=u.2/\u.1.length<=10000/\br (bI y.1.domain (Int.ofNat (List.length (fb u.1 u.2)))) (so (bj (aZ y.2.1 y.2.2))[Int.toNat ↑z.1]? fun(val:Bs)=>∃(v:List aa×Bs×Bool),SV.ar aa z.2 aa.enc=SV.ar aa v.1 aa.enc/\val=v.2.1/\false=v.2.2/\v.1.length<=10000/\ ∃(c:List aa×aA),SV.ar aa z.2 aa.enc=SV.ar aa c.1 aa.enc/\aA.name (fJ v.1 v.2.1 v.2.2)=c.2.name/\aA.domain (fJ v.1 v.2.1 v.2.2)=c.2.domain/\aA.path (fJ v.1 v.2.1 v.2.2)=c.2.path/\c.1.length<=10000/\ ∃(d:Nat×List aa),((∃(h:d.1<List.length (bj (aZ y.2.1 y.2.2))),d.2.length<=y.2.1.length/\jn (aD y.1) (bj (aZ y.2.1 y.2.2))[d.1] false d.2=jm (aD y.1) (aZ y.2.1 y.2.2) (d.1+1))/\d.1=x0.1)/\aI.μ (aI.when (FN y) (fun(a b:Nat×List aa)=>b.1=a.1) x0) d<aI.μ (aI.when (FN y) (fun(a b:Nat×List aa)=>b.1=a.1) x0) z/\(True/\True/\SV.ar aa (eV c.1 c.2) aa.enc=SV.ar aa d.2 aa.enc/\SV.ar Bs (bj (aZ y.2.1 y.2.2)) aU=SV.ar Bs (bj (aZ y.2.1 y.2.2)) aU/\ak ↑z.1 ↑d.1/\True)/\(True/\(ak y.1.aC y.1.aC/\ak y.1.domain y.1.domain/\ak y.1.total y.1.total/\SV.ar Bs y.1.rules aU=SV.ar Bs y.1.rules aU/\True)/\True)/\True) (ck (bq .i64 (↑z.1+1)) (∃(v:Nat),v<=List.length (bj (aZ y.2.1 y.2.2))/\aI.μ (FM y) v<aI.μ (FM y) x/\(True/\True/\SV.ar aa z.2 aa.enc=SV.ar aa (jm (aD y.1) (aZ y.2.1 y.2.2) v) aa.enc/\SV.ar Bs (bj (aZ y.2.1 y.2.2)) aU=SV.ar Bs (bj (aZ y.2.1 y.2.2)) aU/\ak (↑z.1+1) ↑v/\True)/\(True/\(ak y.1.aC y.1.aC/\ak y.1.domain y.1.domain/\ak y.1.total y.1.total/\SV.ar Bs y.1.rules aU=SV.ar Bs y.1.rules aU/\True)/\True)/\True))) ((∃(z:List aa),(z.length<=y.2.1.length/\fq (cY y.1) z=fX (aD y.1) (cY y.1) y.2.1 y.2.2)/\(True/\True/\SV.ar aa (jm (aD y.1) (aZ y.2.1 y.2.2) x) aa.enc=SV.ar aa z aa.enc/\True)/\(True/\(ak y.1.aC y.1.aC/\ak y.1.domain y.1.domain/\ak y.1.total y.1.total/\SV.ar Bs y.1.rules aU=SV.ar Bs y.1.rules aU/\True)/\True)/\True)/\ ∀(x:List aa),x.length<=y.2.1.length/\fq (cY y.1) x=fX (aD y.1) (cY y.1) y.2.1 y.2.2->br (bI y.1.total (Int.ofNat x.length)) (∃(u:List aa×Bs×Bool),SV.ar aa x aa.enc=SV.ar aa u.1 aa.enc/\Array.toList (ByteArray.data {data:=#[]})=u.2.1/\true=u.2.2/\u.1.length<=10000/\ ∃(v:List aa×aA),SV.ar aa x aa.enc=SV.ar aa v.1 aa.enc/\aA.name (fJ u.1 u.2.1 u.2.2)=v.2.name/\aA.domain (fJ u.1 u.2.1 u.2.2)=v.2.domain/\aA.path (fJ u.1 u.2.1 u.2.2)=v.2.path/\v.1.length<=10000/\ ∃(c:List aa),(c.length<=y.2.1.length/\fq (cY y.1) c=fX (aD y.1) (cY y.1) y.2.1 y.2.2)/\aI.μ (FO y) c<aI.μ (FO y) x/\(True/\True/\SV.ar aa (eV v.1 v.2) aa.enc=SV.ar aa c aa.enc/\True)/\(True/\(ak y.1.aC y.1.aC/\ak y.1.domain y.1.domain/\ak y.1.total y.1.total/\SV.ar Bs y.1.rules aU=SV.ar Bs y.1.rules aU/\True)/\True)/\True) (SV.ar aa x aa.enc=SV.ar aa (fX (aD y.1) (cY y.1) y.2.1 y.2.2) aa.enc/\True)))):=by kernel_rfl
theorem OE:(cf (fun(y:aN.Y Gz)=>bH vg (Ma y)) 800 lT)=(∀(y:az×List aa×Int),((y.1.rules.length<=100000/\ ∀(s:Bs),s∈y.1.rules->s.length<=100000)/\y.2.1.length<=10000/\ ∀(x:aa),x∈y.2.1->x.key.domain.length<=1000000)->∃(f:az),ak y.1.aC f.aC/\ak y.1.domain f.domain/\ak y.1.total f.total/\SV.ar Bs y.1.rules aU=SV.ar Bs f.rules aU/\(f.rules.length<=100000/\ ∀(s:Bs),s∈f.rules->s.length<=100000)/\br (!gD f==0) (Prod.fst (dL y)=[]/\ak (gD f) (Prod.snd (dL y))/\True) (∃(g:List aa),SV.ar aa y.2.1 aa.enc=SV.ar aa g aa.enc/\g.length<=10000/\br (!iE g) (Prod.fst (dL y)=[]/\ak 6 (Prod.snd (dL y))/\True) ((∃(x:Nat),x<=y.2.1.length/\(ak y.2.2 y.2.2/\True/\True/\ak 0 0/\SV.ar aa y.2.1 aa.enc=SV.ar aa y.2.1 aa.enc/\ak (Int.ofNat y.2.1.length) (Int.ofNat y.2.1.length)/\ak 0 ↑x/\True/\True)/\((List.filter (fun(x:aa)=> !fe x.ab y.2.2) (List.take x y.2.1)=[]/\ ∀(x:aa),List.length (aa.enc x)=11)/\(ak y.1.aC y.1.aC/\ak y.1.domain y.1.domain/\ak y.1.total y.1.total/\SV.ar Bs y.1.rules aU=SV.ar Bs y.1.rules aU/\True)/\True)/\True)/\ ∀(x:Nat),x<=y.2.1.length->br (bI (↑x) (Int.ofNat y.2.1.length)) (so y.2.1[Int.toNat ↑x]? fun(val:aa)=>∃(w:cU×Int),val.ab.value=w.1.value/\val.ab.aG=w.1.aG/\val.ab.aV=w.1.aV/\val.ab.aH=w.1.aH/\val.ab.persistent=w.1.persistent/\ak val.ab.aQ w.1.aQ/\ak val.ab.aq w.1.aq/\ak val.ab.access w.1.access/\ak y.2.2 w.2/\True/\br (fe w.1 w.2) (ck (bq .i64 (↑x+1)) (∃(u:Nat),u<=y.2.1.length/\aI.μ (uT y) u<aI.μ (uT y) x/\(ak y.2.2 y.2.2/\True/\True/\ak 0 0/\SV.ar aa y.2.1 aa.enc=SV.ar aa y.2.1 aa.enc/\ak (Int.ofNat y.2.1.length) (Int.ofNat y.2.1.length)/\ak (↑x+1) ↑u/\True/\True)/\(SV.ar aa (List.filter (fun(x:aa)=> !fe x.ab y.2.2) (List.take x y.2.1)) aa.enc=SV.ar aa (List.filter (fun(x:aa)=> !fe x.ab y.2.2) (List.take u y.2.1)) aa.enc/\(ak y.1.aC y.1.aC/\ak y.1.domain y.1.domain/\ak y.1.total y.1.total/\SV.ar Bs y.1.rules aU=SV.ar Bs y.1.rules aU/\True)/\True)/\True)) (∃(z:aa),(aa.enc z)=(aa.enc val)/\ck (Nat.ble ((List.length (List.filter (fun(x:aa)=> !fe x.ab y.2.2) (List.take x y.2.1))+List.length [z])*96) 16777216&&Nat.ble (List.length (List.filter (fun(x:aa)=> !fe x.ab y.2.2) (List.take x y.2.1))+List.length [z]) 16777216) (ck (bq .i64 (↑x+1)) (∃(u:Nat),u<=y.2.1.length/\aI.μ (uT y) u<aI.μ (uT y) x/\(ak y.2.2 y.2.2/\True/\True/\ak 0 0/\SV.ar aa y.2.1 aa.enc=SV.ar aa y.2.1 aa.enc/\ak (Int.ofNat y.2.1.length) (Int.ofNat y.2.1.length)/\ak (↑x+1) ↑u/\True/\True)/\(SV.ar aa (List.filter (fun(x:aa)=> !fe x.ab y.2.2) (List.take x y.2.1)++[z]) aa.enc=SV.ar aa (List.filter (fun(x:aa)=> !fe x.ab y.2.2) (List.take u y.2.1)) aa.enc/\(ak y.1.aC y.1.aC/\ak y.1.domain y.1.domain/\ak y.1.total y.1.total/\SV.ar Bs y.1.rules aU=SV.ar Bs y.1.rules aU/\True)/\True)/\True)))) (∃(w:List aa),SV.ar aa (List.filter (fun(x:aa)=> !fe x.ab y.2.2) (List.take x y.2.1)) aa.enc=SV.ar aa w aa.enc/\(w.length<=10000/\ ∀(x:aa),x∈w->x.key.domain.length<=1000000)/\(∃(z:Nat),z<=List.length (bj (aZ y.2.1 y.2.2))/\(True/\True/\ak 0 0/\SV.ar aa (List.filter (fun(x:aa)=> !fe x.ab y.2.2) (List.take x y.2.1)) aa.enc=SV.ar aa (gu (aD y.1) (aZ y.2.1 y.2.2) z) aa.enc/\SV.ar Bs (bj w) aU=SV.ar Bs (bj (aZ y.2.1 y.2.2)) aU/\ak (Int.ofNat (List.length (bj w))) (Int.ofNat (List.length (bj (aZ y.2.1 y.2.2))))/\ak 0 ↑z/\True)/\(True/\(ak y.1.aC y.1.aC/\ak y.1.domain y.1.domain/\ak y.1.total y.1.total/\SV.ar Bs y.1.rules aU=SV.ar Bs y.1.rules aU/\True)/\True)/\True)/\ ∀(x:Nat),x<=List.length (bj (aZ y.2.1 y.2.2))->br (bI (↑x) (Int.ofNat (List.length (bj (aZ y.2.1 y.2.2))))) (so (bj (aZ y.2.1 y.2.2))[Int.toNat ↑x]? fun(val:Bs)=>∃(u:List aa×Bs),SV.ar aa (gu (aD y.1) (aZ y.2.1 y.2.2) x) aa.enc=SV.ar aa u.1 aa.enc/\val=u.2/\u.1.length<=10000/\ ∃(x0:Nat×Nat),(∃(z:Nat×Nat),((∃(x:z.1<List.length (bj (aZ y.2.1 y.2.2))),z.2<=List.length (dq (aD y.1) (aZ y.2.1 y.2.2) z.1))/\z.1=x0.1)/\(True/\True/\ak 0 0/\SV.ar aa (gu (aD y.1) (aZ y.2.1 y.2.2) x) aa.enc=SV.ar aa (List.foldl (jN (fq (aD y.1) (dq (aD y.1) (aZ y.2.1 y.2.2) z.1))) (gu (aD y.1) (aZ y.2.1 y.2.2) z.1) (List.take z.2 (dq (aD y.1) (aZ y.2.1 y.2.2) z.1))) aa.enc/\SV.ar aa (fb u.1 u.2) aa.enc=SV.ar aa (dq (aD y.1) (aZ y.2.1 y.2.2) z.1) aa.enc/\SV.ar Bs (bj (aZ y.2.1 y.2.2)) aU=SV.ar Bs (bj (aZ y.2.1 y.2.2)) aU/\ak (Int.ofNat (List.length (bj (aZ y.2.1 y.2.2)))) (Int.ofNat (List.length (bj (aZ y.2.1 y.2.2))))/\ak ↑x ↑z.1/\SV.ar aa (fb u.1 u.2) aa.enc=SV.ar aa (dq (aD y.1) (aZ y.2.1 y.2.2) z.1) aa.enc/\ak (Int.ofNat (List.length (fb u.1 u.2))) (Int.ofNat (List.length (dq (aD y.1) (aZ y.2.1 y.2.2) z.1)))/\ak 0 ↑z.2/\True)/\(True/\(ak y.1.aC y.1.aC/\ak y.1.domain y.1.domain/\ak y.1.total y.1.total/\SV.ar Bs y.1.rules aU=SV.ar Bs y.1.rules aU/\True)/\True)/\True)/\ ∀(z:Nat×Nat),(∃(x:z.1<List.length (bj (aZ y.2.1 y.2.2))),z.2<=List.length (dq (aD y.1) (aZ y.2.1 y.2.2) z.1))/\z.1=x0.1->br (bI (↑z.2) (Int.ofNat (List.length (dq (aD y.1) (aZ y.2.1 y.2.2) z.1)))) (so (dq (aD y.1) (aZ y.2.1 y.2.2) z.1)[Int.toNat ↑z.2]? fun(val:aa)=>∃(e:List aa×Int),SV.ar aa (dq (aD y.1) (aZ y.2.1 y.2.2) z.1) aa.enc=SV.ar aa e.1 aa.enc/\ak y.1.domain e.2/\(e.1.length<=10000/\List.Pairwise (fun(x1 x2:aA)=>x1≠x2) (List.map (fun(x:aa)=>x.key) e.1)/\0<=e.2)/\ ∃(c:List aa×aa),SV.ar aa (fq e.2.toNat e.1) aa.enc=SV.ar aa c.1 aa.enc/\val.key.name=c.2.key.name/\val.key.domain=c.2.key.domain/\val.key.path=c.2.key.path/\val.ab.value=c.2.ab.value/\val.ab.aG=c.2.ab.aG/\val.ab.aV=c.2.ab.aV/\val.ab.aH=c.2.ab.aH/\val.ab.persistent=c.2.ab.persistent/\ak val.ab.aQ c.2.ab.aQ/\ak val.ab.aq c.2.ab.aq/\ak val.ab.access c.2.ab.access/\c.1.length<=10000/\br (!decide (c.2∈c.1)) (∃(v:List aa×aA),SV.ar aa (List.foldl (jN (fq (aD y.1) (dq (aD y.1) (aZ y.2.1 y.2.2) z.1))) (gu (aD y.1) (aZ y.2.1 y.2.2) z.1) (List.take z.2 (dq (aD y.1) (aZ y.2.1 y.2.2) z.1))) aa.enc=SV.ar aa v.1 aa.enc/\val.key.name=v.2.name/\val.key.domain=v.2.domain/\val.key.path=v.2.path/\v.1.length<=10000/\ck (bq .i64 (↑z.2+1)) (∃(d:Nat×Nat),((∃(x:d.1<List.length (bj (aZ y.2.1 y.2.2))),d.2<=List.length (dq (aD y.1) (aZ y.2.1 y.2.2) d.1))/\d.1=x0.1)/\aI.μ (aI.when (uU y) (fun(a b:Nat×Nat)=>b.1=a.1) x0) d<aI.μ (aI.when (uU y) (fun(a b:Nat×Nat)=>b.1=a.1) x0) z/\(True/\True/\ak 0 0/\SV.ar aa (eV v.1 v.2) aa.enc=SV.ar aa (List.foldl (jN (fq (aD y.1) (dq (aD y.1) (aZ y.2.1 y.2.2) d.1))) (gu (aD y.1) (aZ y.2.1 y.2.2) d.1) (List.take d.2 (dq (aD y.1) (aZ y.2.1 y.2.2) d.1))) aa.enc/\SV.ar aa (dq (aD y.1) (aZ y.2.1 y.2.2) z.1) aa.enc=SV.ar aa (dq (aD y.1) (aZ y.2.1 y.2.2) d.1) aa.enc/\SV.ar Bs (bj (aZ y.2.1 y.2.2)) aU=SV.ar Bs (bj (aZ y.2.1 y.2.2)) aU/\ak (Int.ofNat (List.length (bj (aZ y.2.1 y.2.2)))) (Int.ofNat (List.length (bj (aZ y.2.1 y.2.2))))/\ak ↑z.1 ↑d.1/\SV.ar aa (dq (aD y.1) (aZ y.2.1 y.2.2) z.1) aa.enc=SV.ar aa (dq (aD y.1) (aZ y.2.1 y.2.2) d.1) aa.enc/\ak (Int.ofNat (List.length (dq (aD y.1) (aZ y.2.1 y.2.2) z.1))) (Int.ofNat (List.length (dq (aD y.1) (aZ y.2.1 y.2.2) d.1)))/\ak (↑z.2+1) ↑d.2/\True)/\(True/\(ak y.1.aC y.1.aC/\ak y.1.domain y.1.domain/\ak y.1.total y.1.total/\SV.ar Bs y.1.rules aU=SV.ar Bs y.1.rules aU/\True)/\True)/\True)) (ck (bq .i64 (↑z.2+1)) (∃(v:Nat×Nat),((∃(x:v.1<List.length (bj (aZ y.2.1 y.2.2))),v.2<=List.length (dq (aD y.1) (aZ y.2.1 y.2.2) v.1))/\v.1=x0.1)/\aI.μ (aI.when (uU y) (fun(a b:Nat×Nat)=>b.1=a.1) x0) v<aI.μ (aI.when (uU y) (fun(a b:Nat×Nat)=>b.1=a.1) x0) z/\(True/\True/\ak 0 0/\SV.ar aa (List.foldl (jN (fq (aD y.1) (dq (aD y.1) (aZ y.2.1 y.2.2) z.1))) (gu (aD y.1) (aZ y.2.1 y.2.2) z.1) (List.take z.2 (dq (aD y.1) (aZ y.2.1 y.2.2) z.1))) aa.enc=SV.ar aa (List.foldl (jN (fq (aD y.1) (dq (aD y.1) (aZ y.2.1 y.2.2) v.1))) (gu (aD y.1) (aZ y.2.1 y.2.2) v.1) (List.take v.2 (dq (aD y.1) (aZ y.2.1 y.2.2) v.1))) aa.enc/\SV.ar aa (dq (aD y.1) (aZ y.2.1 y.2.2) z.1) aa.enc=SV.ar aa (dq (aD y.1) (aZ y.2.1 y.2.2) v.1) aa.enc/\SV.ar Bs (bj (aZ y.2.1 y.2.2)) aU=SV.ar Bs (bj (aZ y.2.1 y.2.2)) aU/\ak (Int.ofNat (List.length (bj (aZ y.2.1 y.2.2)))) (Int.ofNat (List.length (bj (aZ y.2.1 y.2.2))))/\ak ↑z.1 ↑v.1/\SV.ar aa (dq (aD y.1) (aZ y.2.1 y.2.2) z.1) aa.enc=SV.ar aa (dq (aD y.1) (aZ y.2.1 y.2.2) v.1) aa.enc/\ak (Int.ofNat (List.length (dq (aD y.1) (aZ y.2.1 y.2.2) z.1))) (Int.ofNat (List.length (dq (aD y.1) (aZ y.2.1 y.2.2) v.1)))/\ak (↑z.2+1) ↑v.2/\True)/\(True/\(ak y.1.aC y.1.aC/\ak y.1.domain y.1.domain/\ak y.1.total y.1.total/\SV.ar Bs y.1.rules aU=SV.ar Bs y.1.rules aU/\True)/\True)/\True))) (ck (bq .i64 (↑z.1+1)) (∃(e:Nat),e<=List.length (bj (aZ y.2.1 y.2.2))/\aI.μ (F6 y) e<aI.μ (F6 y) x/\(True/\True/\ak 0 0/\SV.ar aa (List.foldl (jN (fq (aD y.1) (dq (aD y.1) (aZ y.2.1 y.2.2) z.1))) (gu (aD y.1) (aZ y.2.1 y.2.2) z.1) (List.take z.2 (dq (aD y.1) (aZ y.2.1 y.2.2) z.1))) aa.enc=SV.ar aa (gu (aD y.1) (aZ y.2.1 y.2.2) e) aa.enc/\SV.ar Bs (bj (aZ y.2.1 y.2.2)) aU=SV.ar Bs (bj (aZ y.2.1 y.2.2)) aU/\ak (Int.ofNat (List.length (bj (aZ y.2.1 y.2.2)))) (Int.ofNat (List.length (bj (aZ y.2.1 y.2.2))))/\ak (↑z.1+1) ↑e/\True)/\(True/\(ak y.1.aC y.1.aC/\ak y.1.domain y.1.domain/\ak y.1.total y.1.total/\SV.ar Bs y.1.rules aU=SV.ar Bs y.1.rules aU/\True)/\True)/\True))) (∃(u:List aa×Int),SV.ar aa (gu (aD y.1) (aZ y.2.1 y.2.2) x) aa.enc=SV.ar aa u.1 aa.enc/\ak y.1.total u.2/\(u.1.length<=10000/\List.Pairwise (fun(x1 x2:aA)=>x1≠x2) (List.map (fun(x:aa)=>x.key) u.1)/\0<=u.2)/\SV.ar aa (fq u.2.toNat u.1) aa.enc=SV.ar aa (Prod.fst (dL y)) aa.enc/\ak 0 (Prod.snd (dL y))/\True))))):=by kernel_rfl
theorem OC:(cf (fun(y:aN.Y Gx)=>bH yj (cD nF 6 (tp y))) 800 nF)=(∀(y:az×List aa×Int),((y.1.rules.length<=100000/\ ∀(s:Bs),s∈y.1.rules->s.length<=100000)/\y.2.1.length<=10000/\ ∀(x:aa),x∈y.2.1->x.key.domain.length<=1000000)->∃(u:az×List aa×Int),ak y.1.aC u.1.aC/\ak y.1.domain u.1.domain/\ak y.1.total u.1.total/\SV.ar Bs y.1.rules aU=SV.ar Bs u.1.rules aU/\SV.ar aa y.2.1 aa.enc=SV.ar aa u.2.1 aa.enc/\ak y.2.2 u.2.2/\((u.1.rules.length<=100000/\ ∀(s:Bs),s∈u.1.rules->s.length<=100000)/\u.2.1.length<=10000/\ ∀(x:aa),x∈u.2.1->x.key.domain.length<=1000000)/\br (!Prod.snd (dL u)==0) (Prod.fst (iw y)=[]/\ak (Prod.snd (dL u)) (Prod.snd (iw y))/\True) ((∃(x:Nat),x<=y.2.1.length/\(True/\ak 0 0/\SV.ar aa (Prod.fst (dL u)) aa.enc=SV.ar aa (Prod.fst (dL y)) aa.enc/\True/\SV.ar aa y.2.1 aa.enc=SV.ar aa y.2.1 aa.enc/\ak (Int.ofNat y.2.1.length) (Int.ofNat y.2.1.length)/\ak 0 ↑x/\True)/\((iU (List.take x y.2.1) (Prod.fst (dL y))=[]/\ ∀(x:aa),List.length (aa.enc x)=11)/\(ak y.1.aC y.1.aC/\ak y.1.domain y.1.domain/\ak y.1.total y.1.total/\SV.ar Bs y.1.rules aU=SV.ar Bs y.1.rules aU/\True)/\True)/\True)/\ ∀(x:Nat),x<=y.2.1.length->br (bI (↑x) (Int.ofNat y.2.1.length)) (so y.2.1[Int.toNat ↑x]? fun(val:aa)=>∃(z:List aa×aa),SV.ar aa (Prod.fst (dL y)) aa.enc=SV.ar aa z.1 aa.enc/\val.key.name=z.2.key.name/\val.key.domain=z.2.key.domain/\val.key.path=z.2.key.path/\val.ab.value=z.2.ab.value/\val.ab.aG=z.2.ab.aG/\val.ab.aV=z.2.ab.aV/\val.ab.aH=z.2.ab.aH/\val.ab.persistent=z.2.ab.persistent/\ak val.ab.aQ z.2.ab.aQ/\ak val.ab.aq z.2.ab.aq/\ak val.ab.access z.2.ab.access/\z.1.length<=10000/\br (!decide (z.2∈z.1)) (∃(w:aa),(aa.enc w)=(aa.enc val)/\ck (Nat.ble ((List.length (iU (List.take x y.2.1) (Prod.fst (dL y)))+List.length [w])*96) 16777216&&Nat.ble (List.length (iU (List.take x y.2.1) (Prod.fst (dL y)))+List.length [w]) 16777216) (ck (bq .i64 (↑x+1)) (∃(v:Nat),v<=y.2.1.length/\aI.μ (tp y) v<aI.μ (tp y) x/\(True/\ak 0 0/\SV.ar aa (Prod.fst (dL y)) aa.enc=SV.ar aa (Prod.fst (dL y)) aa.enc/\True/\SV.ar aa y.2.1 aa.enc=SV.ar aa y.2.1 aa.enc/\ak (Int.ofNat y.2.1.length) (Int.ofNat y.2.1.length)/\ak (↑x+1) ↑v/\True)/\(SV.ar aa (iU (List.take x y.2.1) (Prod.fst (dL y))++[w]) aa.enc=SV.ar aa (iU (List.take v y.2.1) (Prod.fst (dL y))) aa.enc/\(ak y.1.aC y.1.aC/\ak y.1.domain y.1.domain/\ak y.1.total y.1.total/\SV.ar Bs y.1.rules aU=SV.ar Bs y.1.rules aU/\True)/\True)/\True))) (ck (bq .i64 (↑x+1)) (∃(v:Nat),v<=y.2.1.length/\aI.μ (tp y) v<aI.μ (tp y) x/\(True/\ak 0 0/\SV.ar aa (Prod.fst (dL y)) aa.enc=SV.ar aa (Prod.fst (dL y)) aa.enc/\True/\SV.ar aa y.2.1 aa.enc=SV.ar aa y.2.1 aa.enc/\ak (Int.ofNat y.2.1.length) (Int.ofNat y.2.1.length)/\ak (↑x+1) ↑v/\True)/\(SV.ar aa (iU (List.take x y.2.1) (Prod.fst (dL y))) aa.enc=SV.ar aa (iU (List.take v y.2.1) (Prod.fst (dL y))) aa.enc/\(ak y.1.aC y.1.aC/\ak y.1.domain y.1.domain/\ak y.1.total y.1.total/\SV.ar Bs y.1.rules aU=SV.ar Bs y.1.rules aU/\True)/\True)/\True))) (SV.ar aa (iU (List.take x y.2.1) (Prod.fst (dL y))) aa.enc=SV.ar aa (Prod.fst (iw y)) aa.enc/\ak 0 (Prod.snd (iw y))/\True))):=by kernel_rfl
section
variable [Inhabited aL]
theorem J5 {m:Int} {n:Nat} (h:bI m (Int.ofNat n)=true) (h0:0<=m):m.toNat<n:=by
 rw[cr,Ad,Ac]at h;omega
theorem J9 {m:Int} {n:Nat} (h:bI m (Int.ofNat n)=false):n<=m.toNat:=by
 rw[cr,Ah,Ac]at h;omega
theorem CV (l:List aa) (now:Int):(aZ l now).length<=l.length:=AL _ _
theorem Kt (cap:Nat) (l:List aa) (i:Nat):(jm cap l i).Sublist l:=sk cap _ l
theorem SP {cap:Nat} {l:List aa} {i:Nat} (h:i<(bj l).length):jm cap l (i+1)=jn cap (bj l)[i] false (jm cap l i):=ln _ _ h
theorem Ul (cap:Nat) (l:List aa) (now:Int) (i:Nat):(jm cap (aZ l now) i).length<=l.length:=Aq (Kt cap _ i).length_le (CV l now)
theorem zC (l:List aa) (k:aA):(eV l k).length<=l.length:=AL _ _
theorem Ms (hG:∀g C,qR g=some C->CO g C):CO kC x6:=bZ (cfg:=fun y=>bH qR (KW y)) bC (fun _=>rfl) (fun _=>hG) (n:=800) (by
 rw[XT];rintro⟨c,l,now⟩ ⟨hd,ht,hl⟩;have hd:0<=c.domain:=hd;have ht:0<=c.total:=ht;have hl:l.length<=10000:=hl;refine⟨⟨0,Aw _,?_⟩,?_⟩
 . (repeat' (first|exact trivial|exact rfl|exact(fun _=>rfl)|apply And.intro))
 intro x hx;refine aK (fun hlt=>?_) fun hge=>?_
 . have hlt':x<l.length:=cB hlt;have hlen:=qm (l:=l) (x:=x) (p:=fun z:aa=> !fe z.ab now);have hf:=lG (p:=fun z:aa=> !fe z.ab now) hlt';have hmu:l.length - (x+1)<l.length - x:=by omega
   refine au.2 ⟨_,cO hlt',(l[x].ab,now),rfl,rfl,rfl,rfl,rfl,rfl,rfl,rfl,rfl,trivial,ah.2 ⟨fun h1=>au.2 ⟨_,cO hlt',l[x],rfl,ag.2 ⟨by simp only[Aa,AG,AA,AK];omega,ag.2 ⟨cu x (by omega),x+1,hlt',hmu,?_⟩⟩⟩,fun h1=>ag.2 ⟨cu x (by omega),x+1,hlt',hmu,?_⟩⟩⟩
   . have h1:(!fe l[x].ab now)=true:=h1;simp only[h1,if_true]at hf
     (repeat' (first|exact trivial|exact rfl|exact(fun _=>rfl)|apply And.intro))
     all_goals (rw[hf])
   . have h1:(!fe l[x].ab now)=false:=h1;simp only[h1,Ak,AB,Bu]at hf
     (repeat' (first|exact trivial|exact rfl|exact(fun _=>rfl)|apply And.intro))
     all_goals (rw[hf])
 have hall:(l.take x).filter (fun z:aa=> !fe z.ab now)=aZ l now:=ql (gQ hge);have hlive:=CV l now;refine⟨aZ l now,by rw[hall],by omega,⟨0,Aw _,?_⟩,?_⟩
 . (repeat' (first|exact trivial|exact rfl|exact(fun _=>rfl)|apply And.intro))
   all_goals (rw[hall];rfl)
 clear hall hge hx x;intro x hx;have hdl:=Ul (aD c) l now;refine aK (fun hlt=>?_) fun hge=>?_
 . have hlt':x<(bj (aZ l now)).length:=cB hlt;refine⟨(x,jm (aD c) (aZ l now) x),⟨(x,jm (aD c) (aZ l now) x),⟨⟨hlt',hdl x,(SP hlt').symm⟩,rfl⟩,?_⟩,?_⟩
   . (repeat' (first|exact trivial|exact rfl|exact(fun _=>rfl)|apply And.intro))
   rintro⟨i,a⟩ ⟨⟨h1,h2,h3⟩,hi⟩;have hi:i=x:=hi;subst hi;have h2:a.length<=l.length:=h2;have h3:jn (aD c) (bj (aZ l now))[i] false a=jm (aD c) (aZ l now) (i+1):=h3;refine au.2 ⟨_,cO hlt',(a,(bj (aZ l now))[i]),rfl,rfl,by show a.length<=10000;omega,ah.2 ⟨fun hgt=>?_,fun hle=>?_⟩⟩
   . have hgt:aD c<(iN a (bj (aZ l now))[i] false).length:=by rw[qy];exact J5 hgt hd
     have hw:=zC a (fJ a (bj (aZ l now))[i] false);refine au.2 ⟨_,cO hlt',(a,(bj (aZ l now))[i],false),rfl,rfl,rfl,by show a.length<=10000;omega,(a,fJ a (bj (aZ l now))[i] false),rfl,rfl,rfl,rfl,by show a.length<=10000;omega,(i,eV a (fJ a (bj (aZ l now))[i] false)),⟨⟨h1,by show(eV a _).length<=l.length;omega,?_⟩,rfl⟩,rZ hgt,?_⟩
     . rw[<-h3];exact(rV hgt).symm
     . (repeat' (first|exact trivial|exact rfl|exact(fun _=>rfl)|apply And.intro))
   . have hle:=J9 hle;have hle:(iN a (bj (aZ l now))[i] false).length<=aD c:=by rw[qy];exact hle
     rw[pD hle]at h3;refine ag.2 ⟨cu i (by have:=vW (aZ l now) [];simp only[bj]at hlt';simp at this;omega),i+1,hlt',by show(bj (aZ l now)).length - (i+1)<(bj (aZ l now)).length - i;omega,?_⟩
     (repeat' (first|exact trivial|exact rfl|exact(fun _=>rfl)|apply And.intro))
     all_goals (rw[<-h3])
 have hfull:jm (aD c) (aZ l now) x=mT (aD c) (aZ l now) (bj (aZ l now)):=by unfold jm;rw[sq (gQ hge)]
 refine⟨⟨jm (aD c) (aZ l now) x,⟨hdl x,by rw[hfull];rfl⟩,?_⟩,?_⟩
 . (repeat' (first|exact trivial|exact rfl|exact(fun _=>rfl)|apply And.intro))
 rintro a ⟨h1,h2⟩;have h1:a.length<=l.length:=h1;have h2:fq (cY c) a=fX (aD c) (cY c) l now:=h2;refine aK (fun hgt=>?_) fun hle=>?_
 . have hgt:cY c<a.length:=J5 hgt ht;have hw:=zC a (fJ a [] true);refine⟨(a,[],true),rfl,rfl,rfl,by show a.length<=10000;omega,(a,fJ a [] true),rfl,rfl,rfl,rfl,by show a.length<=10000;omega,eV a (fJ a [] true),⟨by show(eV a _).length<=l.length;omega,?_⟩,rZ (m:=cY c) (by rw[qB];exact hgt),?_⟩
   . rw[<-Jp hgt];exact h2
   . (repeat' (first|exact trivial|exact rfl|exact(fun _=>rfl)|apply And.intro))
 . have hle:a.length<=cY c:=J9 hle;rw[rU hle]at h2;refine⟨?_,trivial⟩;rw[h2])
theorem KU (hG:∀g C,qR g=some C->CO g C):∀g C,vg g=some C->CO g C:=bR (Ms hG) hG
theorem Ws (cap total:Nat) (l:List aa) (now:Int):(fX cap total l now).length<=l.length:=(uA _ _ _ _).length_le
theorem LV {l:List aa} (hk:KN l) (cap i:Nat):gu cap l i=jm cap l i:=Xw hk cap _
theorem SN {cap:Nat} {l:List aa} {i:Nat} (h:i<(bj l).length):gu cap l (i+1)=(dq cap l i).foldl (jN (fq cap (dq cap l i))) (gu cap l i):=by
 have h1:=ln (fun b d=>(fb b d).foldl (jN (fq cap (fb b d))) b) l h;unfold dq;rw[Af h];exact h1
theorem Zq (hG:∀g C,vg g=some C->CO g C):CO lT Gz:=bZ (cfg:=fun y=>bH vg (Ma y)) bC (fun _=>rfl) (fun _=>hG) (n:=800) (by
 rw[OE];rintro⟨c,l,now⟩ ⟨hr,hl,hsh⟩;have hl:l.length<=10000:=hl;refine⟨c,rfl,rfl,rfl,rfl,hr,ah.2 ⟨fun hc=>?_,fun hc=>?_⟩⟩
 . have hc:gD c≠0:=by simpa using hc
   have he:dL (c,l,now)=([],gD c):=by unfold dL;rw[if_pos hc]
   exact⟨by rw[he],by show gD c=_;rw[he],trivial⟩
 have hc:¬gD c≠0:=by simpa using hc
 refine⟨l,rfl,hl,ah.2 ⟨fun hri=>?_,fun hri=>?_⟩⟩
 . have hri:iE l=false:=by simpa using hri
   have he:dL (c,l,now)=([],6):=by unfold dL;rw[if_neg hc];simp[hri]
   exact⟨by rw[he],by show(6:Int)=_;rw[he],trivial⟩
 have hri:iE l=true:=by simpa using hri
 have he:dL (c,l,now)=(fX (aD c) (cY c) l now,0):=by unfold dL;rw[if_neg hc];simp[hri]
 have hchk:1<=c.domain/\1<=c.total:=by
   have hc:gD c=0:=Fi hc;unfold gD at hc;split at hc
   . cases hc
   . omega
 have hkn:=J0 hri;refine⟨⟨0,Aw _,?_⟩,?_⟩
 . (repeat' (first|exact trivial|exact rfl|exact(fun _=>rfl)|apply And.intro))
 intro x hx;refine aK (fun hlt=>?_) fun hge=>?_
 . have hlt':x<l.length:=cB hlt;have hlen:=qm (l:=l) (x:=x) (p:=fun z:aa=> !fe z.ab now);have hf:=lG (p:=fun z:aa=> !fe z.ab now) hlt';have hmu:l.length - (x+1)<l.length - x:=by omega
   refine au.2 ⟨_,cO hlt',(l[x].ab,now),rfl,rfl,rfl,rfl,rfl,rfl,rfl,rfl,rfl,trivial,ah.2 ⟨fun h1=>ag.2 ⟨cu x (by omega),x+1,hlt',hmu,?_⟩,fun h1=>⟨l[x],rfl,ag.2 ⟨by simp only[Aa,AG,AA,AK];omega,ag.2 ⟨cu x (by omega),x+1,hlt',hmu,?_⟩⟩⟩⟩⟩
   . have h1:fe l[x].ab now=true:=h1;simp only[h1,BN,Ak,AB,Bu]at hf
     (repeat' (first|exact trivial|exact rfl|exact(fun _=>rfl)|apply And.intro))
     all_goals (rw[hf])
   . have h1:fe l[x].ab now=false:=h1;simp only[h1,De,if_true]at hf
     (repeat' (first|exact trivial|exact rfl|exact(fun _=>rfl)|apply And.intro))
     all_goals (rw[hf])
 have hall:(l.take x).filter (fun z:aa=> !fe z.ab now)=aZ l now:=ql (gQ hge);have hlive:=CV l now;have hkl:KN (aZ l now):=hkn.sub BU;refine⟨aZ l now,by rw[hall],⟨by omega,fun z hz=>hsh z (Ar.1 hz).1⟩,⟨0,Aw _,?_⟩,?_⟩
 . (repeat' (first|exact trivial|exact rfl|exact(fun _=>rfl)|apply And.intro))
   all_goals (rw[hall];rfl)
 clear hall hge hx x;have hdl:∀i,(gu (aD c) (aZ l now) i).Sublist (aZ l now):=fun i=>by rw[LV hkl];exact Kt _ _ _
 have hdoms:(bj (aZ l now)).length<=10000:=by
   have:=vW (aZ l now) [];unfold bj;simp at this;omega
 intro x hx;refine aK (fun hlt=>?_) fun hge=>?_
 . have hlt':x<(bj (aZ l now)).length:=cB hlt;have hof:dq (aD c) (aZ l now) x=fb (gu (aD c) (aZ l now) x) (bj (aZ l now))[x]:=by unfold dq;rw[Af hlt'];rfl
   refine au.2 ⟨_,cO hlt',(gu (aD c) (aZ l now) x,(bj (aZ l now))[x]),rfl,rfl,by have:=(hdl x).length_le;show(gu (aD c) (aZ l now) x).length<=10000;omega,(x,0),⟨(x,0),⟨⟨hlt',Aw _⟩,rfl⟩,?_⟩,?_⟩
   . (repeat' (first|exact trivial|exact rfl|exact(fun _=>rfl)|apply And.intro))
     all_goals (simp only[hof])
     all_goals rfl
   rintro⟨i,j⟩ ⟨⟨h1,h2⟩,hi⟩;have hi:i=x:=hi;subst hi;have h2:j<=(dq (aD c) (aZ l now) i).length:=h2;have hofs:(dq (aD c) (aZ l now) i).Sublist (aZ l now):=BU.trans (hdl i);have hofl:=hofs.length_le;have hmu:(bj (aZ l now)).length - (i+1)<(bj (aZ l now)).length - i:=by omega
   have hcur:∀j,(((dq (aD c) (aZ l now) i).take j).foldl (jN (fq (aD c) (dq (aD c) (aZ l now) i))) (gu (aD c) (aZ l now) i)).length<=10000:=by
     intro j;rw[zS];have h3:=AL (fun y=>decide (∀x∈(dq (aD c) (aZ l now) i).take j,x∉fq (aD c) (dq (aD c) (aZ l now) i)->y.key≠x.key)) (gu (aD c) (aZ l now) i);have h4:=(hdl i).length_le;omega
   refine aK (fun hlt2=>?_) fun hge2=>?_
   . have hlt2':j<(dq (aD c) (aZ l now) i).length:=cB hlt2;have hn:=ln (jN (fq (aD c) (dq (aD c) (aZ l now) i))) (gu (aD c) (aZ l now) i) hlt2';have hmu2:(dq (aD c) (aZ l now) i).length - (j+1)<(dq (aD c) (aZ l now) i).length - j:=by omega
     have htl:(fq (aD c) (dq (aD c) (aZ l now) i)).length<=10000:=Aq (sK (aD c) [] true (dq (aD c) (aZ l now) i)).length_le (by omega);refine au.2 ⟨_,cO hlt2',(dq (aD c) (aZ l now) i,c.domain),rfl,rfl,⟨by show(dq (aD c) (aZ l now) i).length<=10000;omega,hkl.sub hofs,by show 0<=c.domain;omega⟩,(fq (aD c) (dq (aD c) (aZ l now) i),(dq (aD c) (aZ l now) i)[j]),rfl,rfl,rfl,rfl,rfl,rfl,rfl,rfl,rfl,rfl,rfl,rfl,htl,ah.2 ⟨fun hin=>?_,fun hin=>?_⟩⟩
     . have hin:(dq (aD c) (aZ l now) i)[j]∉fq (aD c) (dq (aD c) (aZ l now) i):=by simpa using hin
       unfold jN at hn;rw[if_neg hin]at hn;refine⟨(_,(dq (aD c) (aZ l now) i)[j].key),rfl,rfl,rfl,rfl,hcur j,ag.2 ⟨cu j (by omega),(i,j+1),⟨⟨h1,hlt2'⟩,rfl⟩,hmu2,?_⟩⟩
       (repeat' (first|exact trivial|exact rfl|exact(fun _=>rfl)|apply And.intro))
       all_goals (exact Ap (fun a=>SV.ar aa a aa.enc) hn.symm)
     . have hin:(dq (aD c) (aZ l now) i)[j]∈fq (aD c) (dq (aD c) (aZ l now) i):=by simpa using hin
       unfold jN at hn;rw[if_pos hin]at hn;refine ag.2 ⟨cu j (by omega),(i,j+1),⟨⟨h1,hlt2'⟩,rfl⟩,hmu2,?_⟩
       (repeat' (first|exact trivial|exact rfl|exact(fun _=>rfl)|apply And.intro))
       all_goals (exact Ap (fun a=>SV.ar aa a aa.enc) hn.symm)
   . have hn:=SN (cap:=aD c) hlt';refine ag.2 ⟨cu i (by omega),i+1,hlt',hmu,?_⟩
     (repeat' (first|exact trivial|exact rfl|exact(fun _=>rfl)|apply And.intro))
     all_goals (show SV.ar aa (((dq (aD c) (aZ l now) i).take j).foldl (jN (fq (aD c) (dq (aD c) (aZ l now) i))) (gu (aD c) (aZ l now) i)) aa.enc=SV.ar aa (gu (aD c) (aZ l now) (i+1)) aa.enc;rw[sq (gQ hge2),hn])
 have hfull:gu (aD c) (aZ l now) x=mT (aD c) (aZ l now) (bj (aZ l now)):=by
   rw[LV hkl];unfold jm;rw[sq (gQ hge)]
 refine⟨(gu (aD c) (aZ l now) x,c.total),rfl,rfl,⟨by have:=(hdl x).length_le;show(gu (aD c) (aZ l now) x).length<=10000;omega,hkl.sub (hdl x),by show 0<=c.total;omega⟩,?_,?_,trivial⟩
 . rw[he];show SV.ar aa (fq (cY c) (gu (aD c) (aZ l now) x)) aa.enc=_
   rw[hfull];rfl
 . rw[he])
end
section
variable [Inhabited aL]
theorem _root_.Go.Proofs.aj.ext_iff {x y:aj}:x=y↔x.dev=y.dev/\x.inc=y.inc/\x.seq=y.seq:=⟨fun h=>by subst h;exact⟨rfl,rfl,rfl⟩,fun h=>aj.ext' h.1 h.2.1 h.2.2⟩
theorem sO (a b:aj):(a.dev==b.dev&&(a.inc==b.inc&&true)&&(a.seq==b.seq&&true))=decide (a=b):=by
 rw[A2];simp[aj.ext_iff,and_assoc]
structure ae where
 dot:aj
 bp:dN
 kind:Int
 key:aA
 ab:cU
 over:List aj
deriving DecidableEq,Inhabited
def cL (l:List aj):SV:= .ar aj l aj.enc
def ae.enc (x:ae):List SV:=[.int .i64 x.dot.dev, .int .i64 x.dot.inc, .int .i64 x.dot.seq, .int .i64 x.bp.wall, .int .i64 x.bp.count, .int .i64 x.bp.dev, .int .i64 x.kind, .str x.key.name, .str x.key.domain, .str x.key.path,
 .str x.ab.value, .bool x.ab.aG, .bool x.ab.aV, .bool x.ab.aH, .bool x.ab.persistent, .int .i64 x.ab.aQ, .int .i64 x.ab.aq, .int .i64 x.ab.access,cL x.over]
def ae.item (x:ae):aa:=⟨x.key,x.ab⟩
structure aJ where
 ctx:List aj
 kept:List ae
 dead:List aj
def cG (l:List ae):SV:= .ar ae l ae.enc
def aJ.enc (x:aJ):List SV:=[cL x.ctx,cG x.kept,cL x.dead]
noncomputable def Z0:TypeId->Option View:=fun t=>bif Nat.beq t Ty.string then some ⟨Bs,aU⟩else bif Nat.beq t GN then some ⟨aa,aa.enc⟩else bif Nat.beq t Ty.mA then some ⟨aj,aj.enc⟩else bif Nat.beq t Ic then some ⟨aj,aj.enc⟩else bif Nat.beq t yT then some ⟨ae,ae.enc⟩else none
noncomputable def cz (gP:FuncId->Option aN) (mB:FuncId->Nat->Option aI):iL:={tab:=qX,view:=Z0,gP,mB}
section
variable {α:Type} [DecidableEq α] (less:α->α->Bool)
def cV (l:List α) (d:α):Nat:=(l.takeWhile fun x=>less x d).length
def fU (l:List α) (d:α):List α:=if l[cV less l d]? =some d then l else l.take (cV less l d)++d::l.drop (cV less l d)
def cS (l:List α):List α:=l.foldl (fU less) []
variable {less}
omit [DecidableEq α] in
theorem qF (L:List α) (d:α):cV less L d<=L.length:=(DZ _).length_le
omit [DecidableEq α] in
theorem Cc {L:List α} {d:α} {k:Nat} (hk:k<=cV less L d) (h:k<L.length) (hl:less L[k] d=true):k+1<=cV less L d:=by
 apply Bk;intro hn;have e:cV less L d=k:=by omega
 unfold cV at e;have:=yU (p:=fun x=>less x d) (l:=L) (by omega);simp only[e]at this;rw[hl]at this
 cases this
omit [DecidableEq α] in
theorem Cd {L:List α} {d:α} {k:Nat} (hk:k<=cV less L d) (h:k<L.length) (hl:less L[k] d=false):k=cV less L d:=by
 apply Bk;intro hn;obtain⟨h1,h2⟩:=yg (p:=fun x=>less x d) (l:=L) (j:=k) (by show k<cV less L d;omega);rw[hl]at h2
 cases h2
theorem Wm (L:List α) (d:α):(fU less L d).length<=L.length+1:=by
 unfold fU;have:=qF (less:=less) L d;split
 . omega
 . simp;omega
theorem sm:∀(l a:List α),(l.foldl (fU less) a).length<=a.length+l.length
 |[],a=>by simp
 |x::l,a=>by
  have h1:=sm l (fU less a x);have h2:=Wm (less:=less) a x;simp only[Bt,AA];omega
end
def zb (l:List aj):Prop:=l.length<=1000000
def NQ:aN:={Y:=List aj×aj,pre:=fun y=>zb y.1,args:=fun y=>[cL y.1, .agg y.2.enc],res:=fun y=> .bool (decide (y.2∈y.1))}
def Pr (y:List aj×aj):aI:={α:=Nat,ok:=fun i=>i<=y.1.length/\ ∀j (h:j<y.1.length),j<i->y.1[j]≠y.2,μ:=fun i=>y.1.length - i,aX:=[3],aS:=fun i=>[(0,cL y.1),(5,i64 i)],bw:=fun _=>[]}
def Nj:aN:={Y:=List aj,pre:=fun y=>y.length<=300000,args:=fun y=>[cL y],res:=fun y=>cL (cS bS y)}
def YU (y:List aj):aI:={α:=Nat,ok:=fun i=>i<=y.length,μ:=fun i=>y.length - i,aX:=[],aS:=fun i=>[(0,cL y),(3,cL (cS bS (y.take i))),(4,i64 i)],bw:=fun _=>[],fo:=[3]}
def XK (y:List aj):aI:={α:=Nat×Nat,ok:=fun x=>∃h:x.1<y.length,x.2<=cV bS (cS bS (y.take x.1)) y[x.1],μ:=fun x=>(cS bS (y.take x.1)).length - x.2,aX:=[],aS:=fun x=>[(0,cL y),(3,cL (cS bS (y.take x.1))),(4,i64 x.1),(5,i64 x.2)],bw:=fun _=>[],link:=some fun a b=>b.1=a.1}
theorem X4:CO pq Nj:=bZ (cfg:=fun y=>cz pQ (l4 pq 6 (XK y) (cD pq 3 (YU y)))) bC (fun _=>rfl) (fun _=>qp) (n:=600) (by
 intro (l:List aj) hpre;have hpre:l.length<=300000:=hpre
 (conv=>whnf)
 refine⟨⟨(0:Nat),Aw _,?_⟩,?_⟩
 . repeat' (first|exact trivial|exact rfl|((conv=>whnf);first|(apply aK<;>intro)|apply And.intro))
 intro (x:Nat) hx
 (conv=>whnf)
 refine aK (fun hlt=>?_) fun hge=>?_
 . have hlt':x<l.length:=cB hlt
   (conv=>whnf)
   refine⟨((x,0):Nat×Nat),⟨((x,0):Nat×Nat),⟨⟨hlt',Aw _⟩,rfl⟩,?_⟩,?_⟩
   . repeat' (first|exact trivial|exact rfl|((conv=>whnf);first|(apply aK<;>intro)|apply And.intro))
   rintro⟨x1,k⟩ ⟨⟨h1,h2⟩,hx1⟩;have hx1:x1=x:=hx1;subst hx1;have hn:cS bS (l.take (x1+1))=fU bS (cS bS (l.take x1)) l[x1]:=ln (fU bS) ([]:List aj) hlt';have hlen:(cS bS (l.take x1)).length<=x1:=by have:=sm (less:=bS) (l.take x1) [];unfold cS;simp at this⊢;omega
   have hk:k<=cV bS (cS bS (l.take x1)) l[x1]:=h2;have hkp:=qF (less:=bS) (cS bS (l.take x1)) l[x1];have hkl:k<=(cS bS (l.take x1)).length:=by omega
   have hmu:l.length - (x1+1)<l.length - x1:=by omega
   (conv=>whnf)
   refine aK (fun hlt2=>?_) fun hge2=>?_
   . have hlt2':k<(cS bS (l.take x1)).length:=cB hlt2
     (conv=>whnf)
     refine au.2 ⟨_,cO hlt2',?_⟩
     (conv=>whnf)
     refine au.2 ⟨_,cO hlt',?_⟩
     (conv=>whnf)
     refine⟨((cS bS (l.take x1))[k],l[x1]),?_⟩
     repeat ((conv=>whnf);first|refine⟨rfl,?_⟩|refine⟨trivial,?_⟩)
     (conv=>whnf)
     refine aK (fun hl=>?_) fun hl=>?_
     . have hl:bS (cS bS (l.take x1))[k] l[x1]=true:=hl
       (conv=>whnf)
       refine ag.2 ⟨cu k (by omega),?_⟩
       (conv=>whnf)
       refine⟨((x1,k+1):Nat×Nat),⟨⟨hlt',Cc hk hlt2' hl⟩,rfl⟩,by show(cS bS (l.take x1)).length - (k+1)<(cS bS (l.take x1)).length - k;omega,?_⟩
       repeat' (first|exact trivial|exact rfl|((conv=>whnf);first|(apply aK<;>intro)|apply And.intro))
     . have hl:bS (cS bS (l.take x1))[k] l[x1]=false:=hl;have hkk:k=cV bS (cS bS (l.take x1)) l[x1]:=Cd hk hlt2' hl
       (conv=>whnf)
       refine ah.2 ⟨fun he=>absurd he (by simp;omega),fun he=>?_⟩
       (conv=>whnf)
       refine au.2 ⟨_,cO hlt2',?_⟩
       (conv=>whnf)
       refine au.2 ⟨_,cO hlt',?_⟩
       (conv=>whnf)
       refine aK (fun hne=>?_) fun hne=>?_
       . repeat (first|((conv=>whnf);refine⟨fun _=>rfl,?_⟩)|((conv=>whnf);refine⟨fun _=>⟨rfl,rfl⟩,?_⟩)|((conv=>whnf);refine ag.2 ⟨by(simp only[Aa,AG,A5,AA,AK,Bi,Bx];omega),?_⟩)|((conv=>whnf);refine ag.2 ⟨cu _ (by omega),?_⟩)|((conv=>whnf);refine au.2 ⟨_,cO (by assumption),?_⟩)|((conv=>whnf);refine⟨_,rfl,?_⟩))
         refine⟨(x1+1:Nat),hlt',hmu,?_⟩
         repeat' (first|exact trivial|exact rfl|((conv=>whnf);first|(apply aK<;>intro)|apply And.intro))
         all_goals ((conv=>whnf);rw[hn];unfold fU;rw[<-hkk,if_neg (by rw[Af hlt2'];simp only[AS,sO]at hne;simpa using hne)];first|(simp;done)|(simp[cL];done)|(simp;rfl))
       . (conv=>whnf)
         refine ag.2 ⟨cu x1 (by omega),?_⟩
         (conv=>whnf)
         refine⟨(x1+1:Nat),hlt',hmu,?_⟩
         repeat' (first|exact trivial|exact rfl|((conv=>whnf);first|(apply aK<;>intro)|apply And.intro))
         all_goals ((conv=>whnf);rw[hn];unfold fU;rw[<-hkk,if_pos (by rw[Af hlt2'];simp only[AS,sO]at hne;simpa using hne)];try rfl)
   . have hge2':(cS bS (l.take x1)).length<=k:=gr hge2;have hkk:k=cV bS (cS bS (l.take x1)) l[x1]:=by omega
     (conv=>whnf)
     refine ah.2 ⟨fun he=>?_,fun he=>absurd he (by simp;omega)⟩
     repeat (first|((conv=>whnf);refine⟨fun _=>rfl,?_⟩)|((conv=>whnf);refine⟨fun _=>⟨rfl,rfl⟩,?_⟩)|((conv=>whnf);refine ag.2 ⟨by(simp only[Aa,AG,A5,AA,AK,Bi,Bx];omega),?_⟩)|((conv=>whnf);refine ag.2 ⟨cu _ (by omega),?_⟩)|((conv=>whnf);refine au.2 ⟨_,cO (by assumption),?_⟩)|((conv=>whnf);refine⟨_,rfl,?_⟩))
     refine⟨(x1+1:Nat),hlt',hmu,?_⟩
     repeat' (first|exact trivial|exact rfl|((conv=>whnf);first|(apply aK<;>intro)|apply And.intro))
     all_goals ((conv=>whnf);rw[hn];unfold fU;rw[<-hkk,if_neg (by rw[Bq hge2'];simp)];first|(simp;done)|(simp[cL];done)|(simp;rfl))
 . (conv=>whnf)
   refine⟨by rw[sq (gQ hge)],?_⟩
   (conv=>whnf)
   trivial)
theorem Zl:CO G3 NQ:=bZ (cfg:=fun y=>cz pQ (cD G3 2 (Pr y))) bC (fun _=>rfl) (fun _=>qp) (n:=600) (by
 rintro⟨l,d⟩ (hpre:l.length<=1000000)
 (conv=>whnf)
 refine⟨⟨(0:Nat),⟨Aw _,fun _ _ h=>absurd h (Be _)⟩,?_⟩,?_⟩
 . repeat' (first|exact trivial|exact rfl|((conv=>whnf);first|(apply aK<;>intro)|apply And.intro))
 intro (x:Nat) hx;obtain⟨hx,hn⟩:=hx
 (conv=>whnf)
 refine aK (fun hlt=>?_) fun hge=>?_
 . have hlt':x<l.length:=cB hlt
   (conv=>whnf)
   refine au.2 ⟨_,cO hlt',?_⟩
   (conv=>whnf)
   refine aK (fun h=>?_) fun h=>?_
   . have h:decide (l[x]=d)=true:=by rw[<-sO];exact h
     (conv=>whnf)
     refine⟨(Bg (by rw[<-Bo h];exact AJ hlt')).symm,?_⟩
     repeat' (first|exact trivial|exact rfl|((conv=>whnf);first|(apply aK<;>intro)|apply And.intro))
   . have h:decide (l[x]=d)=false:=by rw[<-sO];exact h
     (conv=>whnf)
     refine ag.2 ⟨cu x (by omega),?_⟩
     (conv=>whnf)
     refine⟨(x+1:Nat),⟨hlt',fun j hj hjx=>?_⟩,by show l.length - (x+1)<l.length - x;omega,?_⟩
     . rcases Ef j x with h1|h1
       . exact hn j hj h1
       . have:j=x:=by omega
         subst this;simpa using h
     . repeat' (first|exact trivial|exact rfl|((conv=>whnf);first|(apply aK<;>intro)|apply And.intro))
 . have hge':l.length<=x:=gr hge
   (conv=>whnf)
   refine⟨(Br fun hm=>?_).symm,?_⟩
   . obtain⟨j,hj,he⟩:=Bn hm;exact hn j hj (AY hj hge') he
   . repeat' (first|exact trivial|exact rfl|((conv=>whnf);first|(apply aK<;>intro)|apply And.intro)))
noncomputable def tx (f:FuncId):Option aN:=bif Nat.beq f pq then some Nj else bif Nat.beq f G3 then some NQ else pQ f
theorem uy:∀g C,tx g=some C->CO g C:=bR X4 (bR Zl qp)
end
end Go.Proofs
namespace Go.Proofs
open Go Go.Am Go.RowKit Go.Sy Go.Gm
def eS (a:Int×Int):Value:= .agg #[.int .i64 a.1, .int .i64 a.2]
def bQ (d:aj):Value:= .agg #[.int .i64 d.dev, .int .i64 d.inc, .int .i64 d.seq]
def dx (k:aA):Value:= .agg #[.string ⟨k.name.toArray⟩, .string ⟨k.domain.toArray⟩, .string ⟨k.path.toArray⟩]
def cJ (n:Int):Value:= .int .i64 n
theorem QT (x y:Int×Int) (w:World):(Op.equal vy (eS x) (eS y)).run Tryz.prog w= .ok (decide (x=y)) w:=by
 letI:Inhabited aL:=⟨⟨True,#[]⟩⟩
 have h0:eqT Tryz.tab 8 vy (.agg [.int .i64 x.1, .int .i64 x.2]) (.agg [.int .i64 y.1, .int .i64 y.2])=(if(x.1==y.1)=true then(if(x.2==y.2)=true then .ok true else .ok false)else .ok false:R Bool):=by kernel_rfl
 have h:eqT Tryz.tab 8 vy (.agg [.int .i64 x.1, .int .i64 x.2]) (.agg [.int .i64 y.1, .int .i64 y.2])= .ok (decide (x=y)):=by
  rw[h0];by_cases e1:x.1=y.1<;>by_cases e2:x.2=y.2<;>simp[e1,e2,Prod.ext_iff]
 exact qI Tryz.kB (E:=⟨fun i=>i,fun _=>0⟩) 8 vy _ _ _ h 9992 w
theorem QU (x y:aj) (w:World):(Op.equal Ty.mA (bQ x) (bQ y)).run Tryz.prog w= .ok (decide (x=y)) w:=by
 letI:Inhabited aL:=⟨⟨True,#[]⟩⟩
 have h0:eqT Tryz.tab 8 Ty.mA (.agg [.int .i64 x.dev, .int .i64 x.inc, .int .i64 x.seq]) (.agg [.int .i64 y.dev, .int .i64 y.inc, .int .i64 y.seq])=(do if(<-(if(x.dev==y.dev)=true then(if(x.inc==y.inc)=true then .ok true else .ok false)else .ok false:R Bool))=true then(if(x.seq==y.seq)=true then .ok true else .ok false)else .ok false:R Bool):=by kernel_rfl
 have h:eqT Tryz.tab 8 Ty.mA (.agg [.int .i64 x.dev, .int .i64 x.inc, .int .i64 x.seq]) (.agg [.int .i64 y.dev, .int .i64 y.inc, .int .i64 y.seq])= .ok (decide (x=y)):=by
  rw[h0];by_cases e1:x.dev=y.dev<;>by_cases e2:x.inc=y.inc<;>by_cases e3:x.seq=y.seq
  all_goals first|(rw[Bg (aj.ext_iff.2 ⟨e1,e2,e3⟩)];simp only[e1,e2,e3,Ey,if_true];rfl)|(rw[Br (fun h=>by rw[aj.ext_iff]at h;simp_all)];simp[e1,e2,e3];try rfl)
 exact qI Tryz.kB (E:=⟨fun i=>i,fun _=>0⟩) 8 Ty.mA _ _ _ h 9992 w
theorem Xk (x y:aA):x=y↔x.name=y.name/\x.domain=y.domain/\x.path=y.path:=by
 cases x;cases y;simp
theorem QV (x y:aA) (w:World):(Op.equal vz (dx x) (dx y)).run Tryz.prog w= .ok (decide (x=y)) w:=by
 letI:Inhabited aL:=⟨⟨True,#[]⟩⟩
 have h0:eqT Tryz.tab 8 vz (.agg [.str x.name, .str x.domain, .str x.path]) (.agg [.str y.name, .str y.domain, .str y.path])=(if(x.name==y.name)=true then(if(x.domain==y.domain)=true then(if(x.path==y.path)=true then .ok true else .ok false)else .ok false)else .ok false:R Bool):=by kernel_rfl
 have h:eqT Tryz.tab 8 vz (.agg [.str x.name, .str x.domain, .str x.path]) (.agg [.str y.name, .str y.domain, .str y.path])= .ok (decide (x=y)):=by
  rw[h0];by_cases e1:x.name=y.name<;>by_cases e2:x.domain=y.domain<;>by_cases e3:x.path=y.path<;>simp[e1,e2,e3,Xk]
 exact qI Tryz.kB (E:=⟨fun i=>i,fun _=>0⟩) 8 vz _ _ _ h 9992 w
theorem GM:KeyLaw Tryz.prog vy eS:=⟨fun b k w=>by kernel_rfl,QT,fun k=>by simp[Instr.sameBits,eS],⟨_,Tryz.underlying33⟩⟩
theorem iK:KeyLaw Tryz.prog Ty.mA bQ:=⟨fun b k w=>by kernel_rfl,QU,fun k=>by simp[Instr.sameBits,bQ],⟨_,Tryz.underlying35⟩⟩
theorem C6 (a:ByteArray):(a==a)=true:=by
 rw[beq_toListBytes];simp
theorem yR:KeyLaw Tryz.prog vz dx:=⟨fun b k w=>by kernel_rfl,QV,fun k=>by(simp[Instr.sameBits,dx];exact⟨C6 _,C6 _,C6 _⟩),⟨_,Tryz.underlying24⟩⟩
end Go.Proofs
