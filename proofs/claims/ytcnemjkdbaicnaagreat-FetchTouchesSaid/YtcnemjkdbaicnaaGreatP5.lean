/- Part 5: an evaluator, proved sound, and its use at this seat; no condition. -/
import Derived.KernelRfl
import Derived.Test.YtcnemjkdbaicnaaGreatRows
import Derived.WalkKit
import Derived.ProofKit
import Derived.OpenShut
import Derived.Test.YtcnemjkdbaicnaaGreatP1
import Derived.Test.YtcnemjkdbaicnaaGreatP2
import Derived.Test.YtcnemjkdbaicnaaGreatP4
set_option linter.unusedSimpArgs false
set_option linter.unusedVariables false
set_option linter.unusedSectionVars false
set_option linter.deprecated false
set_option maxRecDepth 100000
set_option maxHeartbeats 4000000
namespace Go.Proofs
open Go Go.Am Go.RowKit
section
variable [Inhabited aF]
theorem Tryz.tR:Tryz.tab.fns.get 198=some Tryz.f198:=by kernel_rfl
theorem QH:Extern.findNext Tryz.f198=none:=by kernel_rfl
theorem Qx:Extern.find Tryz.f198=some (mh 2 Tryz.f198):=by kernel_rfl
theorem Tryz.tS:Tryz.tab.fns.get 199=some Tryz.f199:=by kernel_rfl
theorem QI:Extern.findNext Tryz.f199=none:=by kernel_rfl
theorem Qy:Extern.find Tryz.f199=some (mh 3 Tryz.f199):=by kernel_rfl
theorem Tryz.tT:Tryz.tab.fns.get 252=some Tryz.f252:=by kernel_rfl
theorem QJ:Extern.findNext Tryz.f252=none:=by kernel_rfl
theorem Qz:Extern.find Tryz.f252=some (mh 1 Tryz.f252):=by kernel_rfl
theorem Tryz.tU:Tryz.tab.fns.get 268=some Tryz.f268:=by kernel_rfl
theorem QK:Extern.findNext Tryz.f268=none:=by kernel_rfl
theorem QA:Extern.find Tryz.f268=some (mh 5 Tryz.f268):=by kernel_rfl
theorem PK:gG Tryz.prog Tryz.tab:=Qh [(198,2),(199,3),(252,1),(268,5)] rfl (by
 intro x hx;simp only[Ap,BE,Dq]at hx;rcases hx with rfl|rfl|rfl|rfl
 . exact⟨_,Tryz.tR,QH,Qx⟩
 . exact⟨_,Tryz.tS,QI,Qy⟩
 . exact⟨_,Tryz.tT,QJ,Qz⟩
 . exact⟨_,Tryz.tU,QK,QA⟩)
theorem Tryz.mix:Tryz.prog.follows .mixedOrders=true:=by kernel_rfl
theorem bu:Go.Sy.fU Tryz.prog Tryz.tab:=⟨Tryz.kD,Zw Tryz.kD PK,Tryz.mix⟩
end
end Go.Proofs
namespace Go.Proofs
open Go Go.Am Go.RowKit Go.Sy
section
variable [Inhabited aF]
abbrev CO (f:FuncId) (C:aK):Prop:=Go.Sy.cA  Tryz.prog Tryz.tab f C
theorem gn:∀g C,bU g=some C->CO g C:=fun _ _ h=>by cases h
theorem cW (i:Nat) (h:i<1000000000):bD .i64 ((i:Int)+1)=true:=by rw[hZ];omega
theorem My (b:UInt8):Int.ofNat b.toNat=nB b:=rfl
theorem VW (b:UInt8):0<=nB b/\nB b<=255:=by
 have:=b.toNat_lt;grind [nB]
theorem KO {s:Bs} {c:Int} {i:Nat} (h:i<s.length) (h1:nB s[i]=c) (h2:∀(j:Nat) (h:j<s.length),j<i->nB s[j]=c->False):iK s c=i:=by
 have:dA s c=some i:=fe.2 ⟨h,h1,fun j hj=>h2 j (by omega) hj⟩;grind [iK]
theorem WI {s:Bs} {c:Int} (h2:∀(j:Nat) (h:j<s.length),nB s[j]=c->False):iK s c= -1:=by
 have:dA s c=none:=jv.2 h2;grind [iK]
theorem Jq (s:Bs) (c:Int) (i:Nat) (hall:∀(j:Nat) (h:j<s.length),j<i->nB s[j]=c->False) (hi:i<=s.length) (h:¬(i:Int)<Int.ofNat s.length):iK s c= -1:=
 WI fun j hj=>hall j hj (by grind)
theorem qzp:CO nm tq:=bR (cfg:=fun y=>bC bU (cT nm 3 (yw y))) bu (fun _=>rfl) (fun _=>gn) (n:=400) (by
 rw[ZR];rintro⟨s,c⟩ hpre;simp only at hpre;refine⟨⟨0,⟨by simp,fun j h hj=>by omega⟩,⟨rfl,rfl,rfl,rfl,rfl,trivial⟩,trivial,trivial⟩,?_⟩;rintro i ⟨hi,hall⟩;simp only[ai,az,ah,ch,Aa,Ai,DP]at hi hall⊢;refine⟨fun hlt=>?_,fun hge=>(Jq s c i hall hi hge).symm⟩;have hlt':i<s.length:=by grind
 refine⟨s[i],by grind,fun h1=>(KO hlt' (by grind [nB]) hall).symm,fun h1=>⟨cW i (by omega),i+1,⟨by omega,fun j h hj he=>?_⟩,?_,by grind⟩⟩
 . grind [nB]
 . show s.length - (i+1)<s.length - i
   omega)
theorem XY:CO nr tq:=bR (cfg:=fun y=>bC bU (cT nr 2 (xZ y))) bu (fun _=>rfl) (fun _=>gn) (n:=400) (by
 rw[YT];rintro⟨s,c⟩ hpre;simp only at hpre;refine⟨⟨0,⟨by simp,fun j h hj=>by omega⟩,⟨rfl,rfl,rfl,trivial⟩,trivial,trivial⟩,?_⟩;rintro i ⟨hi,hall⟩;simp only[ai,az,ah,ch,Aa,Ai,DP]at hi hall⊢;refine⟨fun hlt=>?_,fun hge=>(Jq s c i hall hi hge).symm⟩;have hlt':i<s.length:=by grind
 refine⟨s[i],by grind,fun h1=>(KO hlt' (by grind [nB]) hall).symm,fun h1=>⟨cW i (by omega),i+1,⟨by omega,fun j h hj he=>?_⟩,?_,by grind⟩⟩
 . grind [nB]
 . show s.length - (i+1)<s.length - i
   omega)
theorem K8:∀g C,yF g=some C->CO g C:=bM qzp sN
theorem Cj (s:Bs) (c:Int):(∃i,dA s c=some i/\iK s c=(i:Int)/\i<s.length)\/(dA s c=none/\iK s c= -1):=by
 grind [iK,fe]
theorem Pj:CO Gb qm:=bR (cfg:=fun y=>bC yF (cV y)) bu (fun _=>rfl) (fun _=>K8) (n:=400) (by
 rw[Oy];rintro⟨s,c⟩ hpre;refine⟨(s,c),rfl,rfl,hpre,?_⟩;simp only at hpre⊢;rcases Cj s c with⟨i,h1,h2,h3⟩|⟨h1,h2⟩
 all_goals grind [ai,ah,eH,ch,mP,Nat.ble_eq,cW])
theorem K9:∀g C,yG g=some C->CO g C:=bM Pj K8
theorem Zh:CO nh sZ:=bR (cfg:=fun y=>bC yG (cT nh 2 (x8 y))) bu (fun _=>rfl) (fun _=>K9) (n:=400) (by
 rw[Y0];rintro⟨s,c⟩ hpre;simp only at hpre;refine⟨⟨(s,[]),⟨by simp,by simp⟩,⟨rfl,rfl,trivial,trivial⟩,⟨⟨rfl,fun _=>rfl⟩,trivial⟩,trivial⟩,?_⟩;rintro⟨t,l⟩ ⟨h1,h2⟩;simp only at h1 h2;refine⟨(t,c),rfl,rfl,by grind,(eH t c).1,rfl,?_⟩;simp only[ai,ah];refine⟨by simp;omega,fun h=>⟨?_,trivial⟩,fun h=>⟨((eH t c).2.1,l++[(eH t c).1]),⟨?_,?_⟩,?_,by grind⟩⟩
 . have h3:=wJ t c;grind [eH]
 . have h3:=wJ t c;grind [eH]
 . grind [eH,fe]
 . show(eH t c).2.1.length<t.length
   grind [eH,fe])
theorem Pk:CO rM qn:=bR (cfg:=fun y=>bC bU (cV y)) bu (fun _=>rfl) (fun _=>gn) (n:=400) (by
 rw[Oz];grind [ai,ed,dD])
theorem La:∀g C,yH g=some C->CO g C:=bM Zh (bM Pk K9)
theorem qzl:CO mV tp:=bR (cfg:=fun y=>bC yH (cT mV 2 (yO y))) bu (fun _=>rfl) (fun _=>La) (n:=400) (by
 rw[qzZ];intro s hpre;refine⟨⟨0,by simp,⟨rfl,rfl,trivial⟩,trivial,trivial⟩,?_⟩;intro i hi;have hle:=xz s;simp only[ai,az,ah,ch,Aa,Ai,DP];refine⟨fun hlt=>?_,fun hge=>?_⟩
 . have hlt':i<s.length:=by grind
   refine⟨s[i],by grind,s[i],rfl,trivial,fun h=>⟨cW i (by omega),i+1,?_,?_,by grind⟩,fun h=>?_⟩
   . grind [ER]
   . show s.length - (i+1)<s.length - i
     omega
   grind [JO]
 grind)
theorem J8 (n:Int) (h: -9223372036854775808<=n/\n<=9223372036854775807):Go.IntKind.wrap Go.IntKind.i64 n=n:=by rw[IntKind.wrap_i64];omega
theorem L5 {b:UInt8} (h:dD b=true):Go.IntKind.wrap Go.IntKind.i64 (Go.IntKind.wrap Go.IntKind.u8 (Int.ofNat (UInt8.toNat b) - 48))=nB b - 48/\Go.IntKind.wrap Go.IntKind.i64 (Int.ofNat (UInt8.toNat b))=nB b/\0<=nB b - 48/\nB b - 48<=9:=by
 rw[pL]at h;rw[My];have h1:Go.IntKind.wrap Go.IntKind.u8 (nB b - 48)=nB b - 48:=by grind [IntKind.wrap,IntKind.bits]
 rw[h1,J8 _ (by omega),J8 _ (by omega)];omega
theorem fold_succ (s:Bs) (x:Nat) (h:x<s.length):(s.take (x+1)).foldl bZ 0=bZ ((s.take x).foldl bZ 0) s[x]:=by
 rw[Av h,List.foldl_append];rfl
theorem JR (s:Bs) (h:∀b∈s,dD b=true) (x:Nat):0<=(s.take x).foldl bZ 0/\(s.take x).foldl bZ 0<=1099511627776:=
 IJ _ (fun b hb=>h b (EE hb)) 0 (by omega) (by omega)
theorem Fk {y:Bs} (hne:aw y≠[]) (hd:∀b∈aw y,dD b=true):bo y=((if cG y then -1 else 1)*(aw y).foldl bZ 0,true):=by
 have h1:¬dN (aw y)<(aw y).length:=by
  intro h;have h2:=ER h;rw[hd _ (AN h)]at h2
  cases h2
 grind [bo]
theorem tf {y:Bs} (h:aw y=[]\/dN (aw y)<(aw y).length):bo y=(0,false):=by
 grind [bo]
theorem Lq (y t:Bs) (K:Int) (ht:t=aw y) (hK:K=if cG y=true then -1 else 1) (hne:aw y≠[]) (hd:∀b∈aw y,dD b=true) (hl:(aw y).length<=1000000):((∃(x:Nat),
      (x<=List.length (aw y)/\ ∀(b:UInt8),b∈aw y->dD b=Bool.true)/\
      (t=aw y/\
      ax K (if cG y=Bool.true then -1 else 1)/\
      ax 0 (List.foldl bZ 0 (List.take x (aw y)))/\
      ax (Int.ofNat (List.length t)) (Int.ofNat (List.length (aw y)))/\ax 0 ↑x/\True)/\
      True/\True)/\
      ∀(x:Nat),
      (x<=List.length (aw y)/\ ∀(b:UInt8),b∈aw y->dD b=Bool.true)->
      br (bK (↑x) (Int.ofNat (List.length (aw y))))
      (ck (bD Go.IntKind.i64 (List.foldl bZ 0 (List.take x (aw y))*10))
      (so (aw y)[Int.toNat ↑x]? fun(val:UInt8)=>
      ck
      (bD Go.IntKind.i64
      (List.foldl bZ 0 (List.take x (aw y))*10+
      Go.IntKind.wrap Go.IntKind.i64 (Go.IntKind.wrap Go.IntKind.u8 (Int.ofNat (UInt8.toNat val) - 48))))
      (ck (bD Go.IntKind.i64 (↑x+1))
      (∃(y_2:Nat),
      (y_2<=List.length (aw y)/\ ∀(b:UInt8),b∈aw y->dD b=Bool.true)/\
      aL.μ (jg y) y_2<aL.μ (jg y) x/\
      (aw y=aw y/\
      ax (if cG y=Bool.true then -1 else 1) (if cG y=Bool.true then -1 else 1)/\
      ax
      (if
      1099511627776<
      List.foldl bZ 0 (List.take x (aw y))*10+
      Go.IntKind.wrap Go.IntKind.i64 (Go.IntKind.wrap Go.IntKind.u8 (Int.ofNat (UInt8.toNat val) - 48))then
      1099511627776
      else
      List.foldl bZ 0 (List.take x (aw y))*10+
      Go.IntKind.wrap Go.IntKind.i64 (Go.IntKind.wrap Go.IntKind.u8 (Int.ofNat (UInt8.toNat val) - 48)))
      (List.foldl bZ 0 (List.take y_2 (aw y)))/\
      ax (Int.ofNat (List.length (aw y))) (Int.ofNat (List.length (aw y)))/\
      ax (↑x+1) ↑y_2/\True)/\
      True/\True))))
      (ck
      (bD Go.IntKind.i64 ((if cG y=Bool.true then -1 else 1)*List.foldl bZ 0 (List.take x (aw y))))
      (ax ((if cG y=Bool.true then -1 else 1)*List.foldl bZ 0 (List.take x (aw y)))
      (Prod.fst (bo y))/\
      Bool.true=Prod.snd (bo y)/\True))):=by
 refine⟨⟨0,⟨by simp,hd⟩,⟨ht,hK,by grind,by rw[ht],by omega,trivial⟩,trivial,trivial⟩,?_⟩;rintro x ⟨hx,_⟩;obtain⟨r1,r2⟩:=JR _ hd x;simp only[ai,az,ah,ch,Aa,Ai,DP];refine⟨fun hlt=>?_,fun hge=>?_⟩
 . have hlt':x<(aw y).length:=by grind
   obtain⟨d1,_,d3,d4⟩:=L5 (hd _ (AN hlt'));refine⟨by rw[hZ];omega,(aw y)[x],by grind,?_,cW x (by omega),x+1,⟨by omega,hd⟩,?_,?_⟩
   . rw[d1,hZ];omega
   . show(aw y).length - (x+1)<(aw y).length - x
     omega
   grind [fold_succ,bZ]
 grind [Fk,hZ]
theorem Kd (y:Bs) (K:Int) (hK:K=Int.ofNat (bY y)) (hne:aw y≠[]) (hd:∀b∈aw y,dD b=true) (hl:y.length<=1000000):((∃(x:Nat),
     (bY y<=x/\x<=List.length y/\ ∀(b:UInt8),b∈aw y->dD b=Bool.true)/\
     (y=y/\
     ax K (Int.ofNat (bY y))/\
     ax 0 (List.foldl bZ 0 (List.take (x - bY y) (aw y)))/\ax K ↑x/\True)/\
     True/\True)/\
     ∀(x:Nat),
     (bY y<=x/\x<=List.length y/\ ∀(b:UInt8),b∈aw y->dD b=Bool.true)->
     br (bK (↑x) (Int.ofNat (List.length y)))
     (ck (bD Go.IntKind.i64 (List.foldl bZ 0 (List.take (x - bY y) (aw y))*10))
     (so y[Int.toNat ↑x]? fun(val:UInt8)=>
     ck
     (bD Go.IntKind.i64
     (List.foldl bZ 0 (List.take (x - bY y) (aw y))*10+
     Go.IntKind.wrap Go.IntKind.i64 (Int.ofNat (UInt8.toNat val))))
     (ck
     (bD Go.IntKind.i64
     (List.foldl bZ 0 (List.take (x - bY y) (aw y))*10+
     Go.IntKind.wrap Go.IntKind.i64 (Int.ofNat (UInt8.toNat val)) -
     48))
     (br
     (bK 1099511627776
     (List.foldl bZ 0 (List.take (x - bY y) (aw y))*10+
     Go.IntKind.wrap Go.IntKind.i64 (Int.ofNat (UInt8.toNat val)) -
     48))
     (ck (bD Go.IntKind.i64 (↑x+1))
     (∃(y_2:Nat),
     (bY y<=y_2/\y_2<=List.length y/\ ∀(b:UInt8),b∈aw y->dD b=Bool.true)/\
     aL.μ (jA y) y_2<aL.μ (jA y) x/\
     (y=y/\
     ax (Int.ofNat (bY y)) (Int.ofNat (bY y))/\
     ax 1099511627776 (List.foldl bZ 0 (List.take (y_2 - bY y) (aw y)))/\
     ax (↑x+1) ↑y_2/\True)/\
     True/\True))
     (ck (bD Go.IntKind.i64 (↑x+1))
     (∃(y_2:Nat),
     (bY y<=y_2/\y_2<=List.length y/\ ∀(b:UInt8),b∈aw y->dD b=Bool.true)/\
     aL.μ (jA y) y_2<aL.μ (jA y) x/\
     (y=y/\
     ax (Int.ofNat (bY y)) (Int.ofNat (bY y))/\
     ax
     (List.foldl bZ 0 (List.take (x - bY y) (aw y))*10+
     Go.IntKind.wrap Go.IntKind.i64 (Int.ofNat (UInt8.toNat val)) -
     48)
     (List.foldl bZ 0 (List.take (y_2 - bY y) (aw y)))/\
     ax (↑x+1) ↑y_2/\True)/\
     True/\True))))))
     (br (Int.ofNat (bY y)==1)
     (ck (bD Go.IntKind.i64 (0 - List.foldl bZ 0 (List.take (x - bY y) (aw y))))
     (ax (0 - List.foldl bZ 0 (List.take (x - bY y) (aw y))) (Prod.fst (bo y))/\
     Bool.true=Prod.snd (bo y)/\True))
     (ax (List.foldl bZ 0 (List.take (x - bY y) (aw y))) (Prod.fst (bo y))/\
     Bool.true=Prod.snd (bo y)/\True))):=by
 have hlen:(aw y).length=y.length - bY y:=by grind [aw,bY]
 have hpos:0<(aw y).length:=A7.2 hne;have hget:∀x (h:x<y.length),bY y<=x->y[x]=(aw y)[x - bY y]'(by omega):=by
   grind [aw]
 refine⟨⟨bY y,⟨Ad _,by omega,hd⟩,⟨rfl,hK,by grind,by omega,trivial⟩,trivial,trivial⟩,?_⟩;rintro x ⟨hx0,hx,_⟩;obtain⟨r1,r2⟩:=JR _ hd (x - bY y);simp only[ai,az,ah,ch,Aa,Ai,DP];refine⟨fun hlt=>?_,fun hge=>?_⟩
 . have hlt':x<y.length:=by grind
   have hg:=hget x hlt' hx0;have hdx:dD y[x]=true:=by rw[hg];grind
   obtain⟨_,d1,d3,d4⟩:=L5 hdx;have hs:List.foldl bZ 0 (List.take (x+1 - bY y) (aw y))=bZ (List.foldl bZ 0 (List.take (x - bY y) (aw y))) y[x]:=by
    rw[show x+1 - bY y=(x - bY y)+1 by omega,fold_succ _ _ (by omega),hg]
   have hm:aL.μ (jA y) (x+1)<aL.μ (jA y) x:=by
    show y.length - (x+1)<y.length - x
    omega
   refine⟨by rw[hZ];omega,y[x],by grind,?_,?_,fun h1=>⟨cW x (by omega),x+1,⟨by omega,by omega,hd⟩,hm,?_⟩,fun h1=>⟨cW x (by omega),x+1,⟨by omega,by omega,hd⟩,hm,?_⟩⟩
   all_goals grind [hZ,bZ]
 grind [aw,Fk,hZ]
theorem Yr:CO mZ tp:=bR (cfg:=fun y=>bC bU (cT mZ 3 (me y))) bu (fun _=>rfl) (fun _=>gn) (n:=400) (by
 rw[YS];intro s hpre;refine⟨⟨0,by simp,⟨rfl,by grind,rfl,trivial⟩,trivial,trivial⟩,?_⟩;intro i hi;have hle:=xz s;simp only[ai,az,ah,ch,ed,Aa,Ai,DP];refine⟨fun hlt=>?_,fun hge=>?_⟩
 . have hlt':i<s.length:=by grind
   have hm:aL.μ (me s) (i+1)<aL.μ (me s) i:=by
     show s.length - (i+1)<s.length - i
     omega
   have no:dD s[i]=false->dN s<=i:=by
     grind [JO]
   have step:∀(n:Int),n=Int.ofNat (min (i+1) (dN s))->n=Int.ofNat (min (i+1) (dN s)):=fun _ h=>h
   refine⟨fun hq=>⟨s[i],by grind,fun h1=>⟨s[i],by grind,fun h2=>⟨by rw[hZ];grind,cW i (by omega),i+1,by omega,hm,trivial,?_,by omega⟩,fun h2=>⟨cW i (by omega),i+1,by omega,hm,trivial,?_,by omega⟩⟩,fun h1=>⟨cW i (by omega),i+1,by omega,hm,trivial,?_,by omega⟩⟩,fun hq=>⟨cW i (by omega),i+1,by omega,hm,trivial,?_,by omega⟩⟩
   . have hd:dD s[i]=true:=by rw[pL];exact⟨h1,h2⟩
     have:¬dN s<=i:=by
      grind [ER]
     grind
   . have hd:dD s[i]=false:=by rw[Ao];intro h;rw[pL]at h;exact h2 h.2
     have:=no hd;grind
   . have hd:dD s[i]=false:=by rw[Ao];intro h;rw[pL]at h;exact h1 h.1
     have:=no hd;grind
   grind
 grind)
theorem Sn {s:Bs} {c:Int} {a i:Nat} (hai:a<=i) (h:i<s.length) (h1:nB s[i]=c) (h2:∀(j:Nat) (h:j<s.length),a<=j->j<i->nB s[j]=c->False):splitB (s.drop a) c=(s.drop a).take (i - a)::splitB (s.drop (i+1)) c:=by
 have hp:dA (s.drop a) c=some (i - a):=fe.2 ⟨by grind,by rw[BR];grind,fun j hj=>by
  rw[BR];grind⟩
 rw[wJ,hp];grind [List.drop_drop]
theorem Sp {s:Bs} {c:Int} {a:Nat} (h2:∀(j:Nat) (h:j<s.length),a<=j->nB s[j]=c->False):splitB (s.drop a) c=[s.drop a]:=by
 have hp:dA (s.drop a) c=none:=jv.2 (fun j hj=>by
  rw[BR];grind)
 rw[wJ,hp]
theorem XI:CO ni sZ:=bR (cfg:=fun y=>bC bU (cT ni 4 (sR y))) bu (fun _=>rfl) (fun _=>gn) (n:=400) (by
 rw[WM];rintro⟨s,c⟩ hpre;simp only at hpre;refine⟨⟨(0,0,[]),⟨by simp,by simp,by simp,by simp,fun j h _ hj=>by grind⟩,⟨rfl,rfl,trivial,rfl,rfl,trivial⟩,⟨rfl,trivial⟩,trivial⟩,?_⟩;rintro⟨a,i,l⟩ ⟨h1,h2,h3,h4,h5⟩;simp only at h1 h2 h3 h4 h5;simp only[ai,az,ah,ch,Aa,Ai,DP,B6];refine⟨fun hlt=>?_,fun hge=>?_⟩
 . have hlt':i<s.length:=by grind
   refine⟨s[i],by grind,fun hc=>?_,fun hc=>⟨cW i (by omega),(a,i+1,l),⟨by grind,by grind,h3,h4,fun j hj ha hji he=>?_⟩,?_,by grind⟩⟩
   . have hc':nB s[i]=c:=by grind [nB]
     have hs:=Sn h1 hlt' hc' h5;refine⟨by simp_all,_,rfl,by simp;omega,cW i (by omega),cW i (by omega),(i+1,i+1,l++[(s.drop a).take (i - a)]),⟨by simp,by grind,?_,by grind,fun j hj ha hji=>by grind⟩,?_,by grind⟩
     . rw[h3,hs];simp
     . show s.length - (i+1)<s.length - i
       omega
   . grind [nB]
   . show s.length - (i+1)<s.length - i
     omega
 . have he:i=s.length:=by grind
   subst he;refine⟨by simp_all,_,rfl,by simp;omega,?_⟩;rw[h3,Sp (fun j hj ha=>h5 j hj ha hj)])
theorem sI {y:Bs} (h:cG y=true):aw y=y.drop 1:=by grind [aw]
theorem uL {y:Bs} (h:cG y=false):aw y=y:=by grind [aw]
theorem nM {b:UInt8} {y:Bs}:cG (b::y)=(Int.ofNat b.toNat==45):=rfl
theorem wI {y:Bs} (h:¬(↑(dN y):Int)<Int.ofNat y.length):∀b∈y,dD b=true:=xi (by grind)
theorem C4:∀g C,tu g=some C->CO g C:=bM qzl (bM Yr La)
theorem Pm:CO mW lH:=bR (cfg:=fun y=>bC tu (cT mW 8 (jg y))) bu (fun _=>rfl) (fun _=>C4) (n:=400) (by
 rw[OA];intro y hpre
 cases y with
 |nil=>
  have hn:bo []=(0,false):=rfl;grind [ai]
 |cons b s=>
  refine ai.2 ⟨fun _=>az.2 ⟨b,rfl,ai.2 ⟨fun hb=>ah.2 ⟨by simp,ai.2 ⟨fun h=>?_,fun h=>⟨s,rfl,by grind,ai.2 ⟨fun hd=>?_,fun hd=>?_⟩⟩⟩⟩,fun hb=>ai.2 ⟨fun h=>by grind,fun _=>⟨b::s,rfl,hpre,ai.2 ⟨fun hd=>?_,fun hd=>?_⟩⟩⟩⟩⟩,fun h=>by grind⟩
  . have hg:cG (b::s)=true:=by rw[nM];exact hb
    have he:aw (b::s)=[]:=by rw[sI hg];grind
    rw[tf (.inl he)];grind
  . have hg:cG (b::s)=true:=by rw[nM];exact hb
    rw[ch,Aa]at hd;rw[tf (.inr (by rw[sI hg];grind))];grind
  . have hg:cG (b::s)=true:=by rw[nM];exact hb
    rw[ch,Ai]at hd;have ha:=sI hg;exact Lq _ _ _ ha.symm (by rw[Al hg]) (by rw[ha];grind) (by rw[ha];grind [wI]) (by rw[ha];grind)
  . have hg:cG (b::s)=false:=by rw[nM];exact hb
    rw[ch,Aa]at hd;rw[tf (.inr (by rw[uL hg];grind))];grind
  . have hg:cG (b::s)=false:=by rw[nM];exact hb
    rw[ch,Ai]at hd;have ha:=uL hg;exact Lq _ _ _ ha.symm (by rw[An (by grind)]) (by rw[ha];simp) (by rw[ha];grind [wI]) (by rw[ha];omega))
theorem qzz:CO nc lH:=bR (cfg:=fun y=>bC tu (cT nc 8 (jA y))) bu (fun _=>rfl) (fun _=>C4) (n:=400) (by
 rw[ZX];intro y hpre
 cases y with
 |nil=>
  have hn:bo []=(0,false):=rfl;grind [ai,ch]
 |cons b s=>
  have hbig:s.length+1<=1000000:=by omega
  have hln:Int.ofNat (b::s).length=(s.length:Int)+1:=by simp
  rw[hln];refine ai.2 ⟨fun _=>az.2 ⟨b,rfl,ai.2 ⟨fun hb=>ai.2 ⟨fun h=>?_,fun h=>ah.2 ⟨by simp,s,rfl,by omega,ah.2 ⟨by rw[hZ];omega,ai.2 ⟨fun hd=>?_,fun hd=>?_⟩⟩⟩⟩,fun hb=>ai.2 ⟨fun h=>by grind,fun _=>⟨b::s,rfl,hpre,ah.2 ⟨by rw[hZ];omega,ai.2 ⟨fun hd=>?_,fun hd=>?_⟩⟩⟩⟩⟩⟩,fun h=>by rw[ch]at h;simp at h<;>omega⟩
  . have hg:cG (b::s)=true:=by rw[nM];exact hb
    have hs:s=[]:=by simp at h;exact AL (by omega)
    rw[tf (.inl (by rw[sI hg];grind))];grind
  . have hg:cG (b::s)=true:=by rw[nM];exact hb
    rw[ch,Aa]at hd;rw[tf (.inr (by rw[sI hg];grind))];grind
  . have hg:cG (b::s)=true:=by rw[nM];exact hb
    rw[ch,Ai]at hd;have ha:=sI hg;have:=Kd (b::s) 1 (by grind [bY]) (by rw[ha];grind) (by rw[ha];grind [wI]) hpre;rw[hln]at this;omega
  . have hg:cG (b::s)=false:=by rw[nM];exact hb
    rw[ch,Aa]at hd;rw[tf (.inr (by rw[uL hg];grind))];grind
  . have hg:cG (b::s)=false:=by rw[nM];exact hb
    rw[ch,Ai]at hd;have ha:=uL hg;have:=Kd (b::s) 0 (by grind [bY]) (by rw[ha];simp) (by rw[ha];exact wI (by omega)) hpre;rw[hln]at this;omega)
theorem LF (k n:Nat) (h:n<=9):mO (k+1) n=[UInt8.ofNat (48+n)]:=by grind [mO]
theorem Z8:CO nu FK:=bR (cfg:=fun y=>bC bU (cT nu 6 (yy y))) bu (fun _=>rfl) (fun _=>gn) (n:=400) (by
 rw[Z0];intro n hpre;have hpre:n<=1099511627776:=hpre;refine⟨⟨(30,n,[]),⟨by simp,by simp,by simp[kL],by simp,?_,Ad _⟩,⟨rfl,rfl,trivial⟩,trivial,trivial⟩,?_⟩
 . grind
 rintro⟨k,m,s⟩ ⟨h1,h2,h3,h4,h5,h6⟩;simp only at h1 h2 h3 h4 h5 h6;have wr:∀d:Nat,d<=9->[SV.int Go.IntKind.u8 (Go.IntKind.wrap Go.IntKind.u8 (48+(d:Int)))]=qW [UInt8.ofNat (48+d)]:=by
   intro d hd;have:Go.IntKind.wrap Go.IntKind.u8 (48+(d:Int))=Int.ofNat (UInt8.ofNat (48+d)).toNat:=by
    grind [IntKind.wrap,IntKind.bits,UInt8.toNat_ofNat']
   rw[this];rfl
 have hk:9<m->1<=k:=by
   grind
 have tm:Int.tmod (m:Int) 10=((m % 10:Nat):Int):=rfl;have td:Int.tdiv (m:Int) 10=((m / 10:Nat):Int):=rfl;simp only[tm,td];refine ai.2 ⟨fun h=>ah.2 ⟨?_,[UInt8.ofNat (48+m % 10)],wr _ (by omega),ah.2 ⟨by simp;omega,ah.2 ⟨?_,(k - 1,m / 10,UInt8.ofNat (48+m % 10)::s),⟨by omega,?_,?_,?_,?_,?_⟩,?_,⟨rfl,rfl,trivial⟩,trivial,trivial⟩⟩⟩,fun h=>ah.2 ⟨?_,[UInt8.ofNat (48+m)],wr _ ?_,ah.2 ⟨by simp;omega,?_,trivial⟩⟩⟩
 . rw[hZ];omega
 . rw[hZ];omega
 all_goals (simp only[ch,Aa,Ai]at h)
 . have:=hk (by omega);grind
 . have:=hk (by omega);rw[h3,show 10+k=(10+(k - 1))+1 by omega];have hm:¬m<=9:=by omega
   grind [mO]
 . have:=hk (by omega);grind
 . have:=hk (by omega);grind
 . grind
 . show m / 10<m
   omega
 all_goals grind [hZ,LF])
theorem VB:∀g C,Nk g=some C->CO g C:=bM Pm (bM qzz (bM XY (bM XI (bM Z8 C4))))
end
section
variable [Inhabited aF]
def Fy:aK:={Y:=UInt8×Bool,pre:=fun _=>True,args:=fun y=>[.int .u8 (nB y.1), .bool y.2],res:=fun y=> .bool (gF (nB y.1) y.2)}
def FJ:aK:={Y:=UInt8,pre:=fun _=>True,args:=fun y=>[.int .u8 (nB y)],res:=fun y=> .bool (iu y)}
def fS (p:Bs->Bool):aK:={Y:=Bs,pre:=fun y=>y.length<=100000,args:=fun y=>[.str y],res:=fun y=> .bool (p y)}
def pU (y:Bs):aL:={α:=Nat,ok:=fun i=>i<=y.length/\ ∀j (h:j<y.length),j<i->gF (nB y[j]) (j==0||j==y.length - 1)=true,μ:=fun i=>y.length - i,bn:=[],bc:=fun i=>[(0, .str y),(12,i64 (Int.ofNat y.length)),(13,i64 i)],bV:=fun _=>[]}
def p7 (y:Bs):aL:={α:=Nat,ok:=fun i=>i<=(splitB y 46).length/\ ∀j (h:j<(splitB y 46).length),j<i->gU (splitB y 46)[j]=true,μ:=fun i=>(splitB y 46).length - i,bn:=[],bc:=fun i=>[(13,strs (splitB y 46)),(14,i64 (Int.ofNat (splitB y 46).length)),(15,i64 i)],bV:=fun _=>[]}
def ik (y:Bs):aL:=let l:=(y.drop 1).take (y.length - 2);{α:=Nat,ok:=fun i=>i<=l.length/\ ∀j (h:j<l.length),j<i->cS l[j]=true,μ:=fun i=>l.length - i,bn:=[],bc:=fun i=>[(31, .bh UInt8 l cQ),(32,i64 (Int.ofNat l.length)),(33,i64 i)],bV:=fun _=>[]}
def iq (y:Bs):aL:={α:=Nat,ok:=fun i=>1<=i/\i+1<=y.length/\ ∀j (h:j<y.length),1<=j->j<i->cS y[j]=true,μ:=fun i=>y.length - i,bn:=[],bc:=fun i=>[(0, .str y),(3,i64 i)],bV:=fun _=>[]}
def yx (y:Bs):aL:={α:=Nat,ok:=fun i=>i<=(splitB y 46).length/\ ∀j (h:j<(splitB y 46).length),j<i->fa (splitB y 46)[j]=true,μ:=fun i=>(splitB y 46).length - i,bn:=[],bc:=fun i=>[(13,strs (splitB y 46)),(14,i64 (Int.ofNat (splitB y 46).length)),(15,i64 i)],bV:=fun _=>[]}
def E5:aK:={Y:=Bs,pre:=fun y=>y.length<=100000,args:=fun y=>[.str y],res:=fun y=>strs (if dQ y then splitB y 46 else[])}
def sS:aK:={Y:=Bs×Bs,pre:=fun y=>y.1.length<=100000/\y.2.length<=100000,args:=fun y=>[.str y.1, .str y.2],res:=fun y=> .bool (decide (y.1.take y.2.length=y.2))}
def Fw:aK:={Y:=Bs,pre:=fun y=>y.length<=100000,args:=fun y=>[.str y],res:=fun y=> .bA [.agg [.str (gz y).1, .bool (gz y).2.1, .bool (gz y).2.2], .bool (jV y)]}
def oZ (l:List Bs):Int:=if 256<l.length then 3 else if l.all jV then 0 else 1
def E3:aK:={Y:=List Bs,pre:=fun y=>y.length<=100000/\ ∀s∈y,s.length<=100000,args:=fun y=>[strs y],res:=fun y=>i64 (oZ y)}
def xQ (y:List Bs):aL:={α:=Nat,ok:=fun i=>i<=y.length/\ ∀j (h:j<y.length),j<i->jV y[j]=true,μ:=fun i=>y.length - i,bn:=[],bc:=fun i=>[(10,strs y),(11,i64 (Int.ofNat y.length)),(12,i64 i)],bV:=fun _=>[]}
def xR (y:Bs):aL:={α:=Nat,ok:=fun i=>i<=y.length/\ ∀j (h:j<y.length),j<i->iu y[j]=true,μ:=fun i=>y.length - i,bn:=[],bc:=fun i=>[(0, .str y),(3,i64 i)],bV:=fun _=>[]}
def x5 (y:Bs):aL:={α:=Nat,ok:=fun i=>i<=4/\ ∀j (h:j<(splitB y 46).length),j<i->gU (splitB y 46)[j]=true,μ:=fun i=>4 - i,bn:=[],bc:=fun i=>[(3,strs (splitB y 46)),(4,i64 i)],bV:=fun _=>[]}
def x7 (y:Bs):aL:={α:=Nat,ok:=fun i=>i<=(splitB y 46).length/\ ∀j (h:j<(splitB y 46).length),j<i->fa (splitB y 46)[j]=true,μ:=fun i=>(splitB y 46).length - i,bn:=[],bc:=fun i=>[(3,strs (splitB y 46)),(4,i64 i)],bV:=fun _=>[]}
noncomputable def mg (f:FuncId):Option aK:=bif Nat.beq f Gc then some Fy else bif Nat.beq f Gq then some FJ else Nk f
noncomputable def pY (f:FuncId):Option aK:=bif Nat.beq f np then some (fS fa)else bif Nat.beq f nj then some (fS fa)else bif Nat.beq f nA then some (fS fx)else bif Nat.beq f ny then some (fS fx)else bif Nat.beq f mY then some (fS fi)else bif Nat.beq f mU then some (fS fi)else mg f
noncomputable def yp (f:FuncId):Option aK:=bif Nat.beq f rK then some (fS gy)else bif Nat.beq f rH then some (fS gy)else bif Nat.beq f nv then some (fS dQ)else pY f
noncomputable def tz (f:FuncId):Option aK:=bif Nat.beq f nC then some (fS dQ)else bif Nat.beq f Gz then some sS else yp f
noncomputable def yq (f:FuncId):Option aK:=bif Nat.beq f rQ then some E5 else bif Nat.beq f ry then some sS else tz f
noncomputable def yr (f:FuncId):Option aK:=bif Nat.beq f rL then some Fw else yq f
noncomputable def Nn (f:FuncId):Option aK:=bif Nat.beq f nf then some E3 else yr f
end
section
variable [Inhabited aF]
theorem YZ:(cy (fun(y:aK.Y Fy)=>bC bU (cV y)) 400 Gc)=(∀(y:UInt8×Bool),True->br (nB y.1==45) (br y.2 (false=gF (nB y.1) y.2/\True) (true=gF (nB y.1) y.2/\True)) (br (bO 97 (nB y.1)) (br (bO (nB y.1) 122) (true=gF (nB y.1) y.2/\True) (br (bO 48 (nB y.1)) (br (bO (nB y.1) 57) (true=gF (nB y.1) y.2/\True) (br (nB y.1==95) (true=gF (nB y.1) y.2/\True) (false=gF (nB y.1) y.2/\True))) (br (nB y.1==95) (true=gF (nB y.1) y.2/\True) (false=gF (nB y.1) y.2/\True)))) (br (bO 48 (nB y.1)) (br (bO (nB y.1) 57) (true=gF (nB y.1) y.2/\True) (br (nB y.1==95) (true=gF (nB y.1) y.2/\True) (false=gF (nB y.1) y.2/\True))) (br (nB y.1==95) (true=gF (nB y.1) y.2/\True) (false=gF (nB y.1) y.2/\True))))):=by kernel_rfl
theorem ZZ:(cy (fun(y:aK.Y FJ)=>bC bU (cV y)) 400 Gq)=(∀(y:UInt8),True->br (bO 97 (nB y)) (br (bO (nB y) 122) (true=iu y/\True) (br (bO 48 (nB y)) (br (bO (nB y) 57) (true=iu y/\True) (br (nB y==45) (true=iu y/\True) ((nB y==95)=iu y/\True))) (br (nB y==45) (true=iu y/\True) ((nB y==95)=iu y/\True)))) (br (bO 48 (nB y)) (br (bO (nB y) 57) (true=iu y/\True) (br (nB y==45) (true=iu y/\True) ((nB y==95)=iu y/\True))) (br (nB y==45) (true=iu y/\True) ((nB y==95)=iu y/\True)))):=by kernel_rfl
theorem YV:(cy (fun(y:aK.Y (fS fa))=>bC mg (cT np 4 (pU y))) 400 np)=(∀(y:List UInt8),y.length<=100000->br (y==Array.toList (ByteArray.data {data:=#[]})) (false=fa y/\True) (br (bK 63 (Int.ofNat y.length)) (false=fa y/\True) ((∃(x:Nat),(x<=y.length/\ ∀(j:Nat) (h:j<y.length),j<x->gF (nB y[j]) (j==0||j==y.length - 1)=true)/\(y=y/\ax (Int.ofNat y.length) (Int.ofNat y.length)/\ax 0 ↑x/\True)/\True/\True)/\ ∀(x:Nat),(x<=y.length/\ ∀(j:Nat) (h:j<y.length),j<x->gF (nB y[j]) (j==0||j==y.length - 1)=true)->br (bK (↑x) (Int.ofNat y.length)) (so y[Int.toNat ↑x]? fun(val:UInt8)=>br ((↑x:Int)==0) (∃(z:UInt8×Bool),ax (Int.ofNat (UInt8.toNat val)) (nB z.1)/\true=z.2/\True/\br (!gF (nB z.1) z.2) (false=fa y/\True) (ck (bD .i64 (↑x+1)) (∃(u:Nat),(u<=y.length/\ ∀(j:Nat) (h:j<y.length),j<u->gF (nB y[j]) (j==0||j==y.length - 1)=true)/\aL.μ (pU y) u<aL.μ (pU y) x/\(y=y/\ax (Int.ofNat y.length) (Int.ofNat y.length)/\ax (↑x+1) ↑u/\True)/\True/\True))) (ck (bD .i64 (Int.ofNat y.length - 1)) (∃(z:UInt8×Bool),ax (Int.ofNat (UInt8.toNat val)) (nB z.1)/\((↑x:Int)==Int.ofNat y.length - 1)=z.2/\True/\br (!gF (nB z.1) z.2) (false=fa y/\True) (ck (bD .i64 (↑x+1)) (∃(u:Nat),(u<=y.length/\ ∀(j:Nat) (h:j<y.length),j<u->gF (nB y[j]) (j==0||j==y.length - 1)=true)/\aL.μ (pU y) u<aL.μ (pU y) x/\(y=y/\ax (Int.ofNat y.length) (Int.ofNat y.length)/\ax (↑x+1) ↑u/\True)/\True/\True))))) (true=fa y/\True)))):=by kernel_rfl
theorem Xn:(cy (fun(y:aK.Y (fS fa))=>bC mg (cT nj 4 (xR y))) 400 nj)=(∀(y:List UInt8),y.length<=100000->br (bK (Int.ofNat y.length) 1) (false=fa y/\True) (br (bK 63 (Int.ofNat y.length)) (false=fa y/\True) (so y[Int.toNat 0]? fun(val:UInt8)=>br (Int.ofNat (UInt8.toNat val)==45) (false=fa y/\True) (ck (bD .i64 (Int.ofNat y.length - 1)) (ck (nn (Int.ofNat y.length - 1)) (so y[Int.toNat (Int.ofNat y.length - 1)]? fun(val:UInt8)=>br (Int.ofNat (UInt8.toNat val)==45) (false=fa y/\True) ((∃(x:Nat),(x<=y.length/\ ∀(j:Nat) (h:j<y.length),j<x->iu y[j]=true)/\(y=y/\ax 0 ↑x/\True)/\True/\True)/\ ∀(x:Nat),(x<=y.length/\ ∀(j:Nat) (h:j<y.length),j<x->iu y[j]=true)->br (bK (↑x) (Int.ofNat y.length)) (so y[Int.toNat ↑x]? fun(val:UInt8)=>∃(u:UInt8),ax (Int.ofNat (UInt8.toNat val)) (nB u)/\True/\br (!iu u) (false=fa y/\True) (ck (bD .i64 (↑x+1)) (∃(z:Nat),(z<=y.length/\ ∀(j:Nat) (h:j<y.length),j<z->iu y[j]=true)/\aL.μ (xR y) z<aL.μ (xR y) x/\(y=y/\ax (↑x+1) ↑z/\True)/\True/\True))) (true=fa y/\True)))))))):=by kernel_rfl
theorem ZS:(cy (fun(y:aK.Y (fS fx))=>bC mg (cT nA 5 (p7 y))) 400 nA)=(∀(y:List UInt8),y.length<=100000->∃(z:Bs×Int),y=z.1/\ax 46 z.2/\z.1.length<=100000/\br (!Int.ofNat ((splitB z.1 z.2).length)==4) (false=fx y/\True) ((∃(x:Nat),(x<=(splitB y 46).length/\ ∀(j:Nat) (h:j<(splitB y 46).length),j<x->gU (splitB y 46)[j]=true)/\(strs (splitB z.1 z.2)=strs (splitB y 46)/\ax (Int.ofNat ((splitB z.1 z.2).length)) (Int.ofNat ((splitB y 46).length))/\ax 0 ↑x/\True)/\True/\True)/\ ∀(x:Nat),(x<=(splitB y 46).length/\ ∀(j:Nat) (h:j<(splitB y 46).length),j<x->gU (splitB y 46)[j]=true)->br (bK (↑x) (Int.ofNat ((splitB y 46).length))) (so (splitB y 46)[Int.toNat ↑x]? fun(val:Bs)=>∃(w:List UInt8),val=w/\w.length<=1000000/\br (val==Array.toList (ByteArray.data {data:=#[]})) (false=fx y/\True) (∃(v:List UInt8),val=v/\v.length<=1000000/\br (bK (↑(dN v)) (Int.ofNat val.length)) (false=fx y/\True) (br (bK 255 ((bo w).1)) (false=fx y/\True) (br (bK 1 (Int.ofNat val.length)) (so val[Int.toNat 0]? fun(val:UInt8)=>br (Int.ofNat (UInt8.toNat val)==48) (false=fx y/\True) (ck (bD .i64 (↑x+1)) (∃(u:Nat),(u<=(splitB y 46).length/\ ∀(j:Nat) (h:j<(splitB y 46).length),j<u->gU (splitB y 46)[j]=true)/\aL.μ (p7 y) u<aL.μ (p7 y) x/\(strs (splitB y 46)=strs (splitB y 46)/\ax (Int.ofNat ((splitB y 46).length)) (Int.ofNat ((splitB y 46).length))/\ax (↑x+1) ↑u/\True)/\True/\True))) (ck (bD .i64 (↑x+1)) (∃(u:Nat),(u<=(splitB y 46).length/\ ∀(j:Nat) (h:j<(splitB y 46).length),j<u->gU (splitB y 46)[j]=true)/\aL.μ (p7 y) u<aL.μ (p7 y) x/\(strs (splitB y 46)=strs (splitB y 46)/\ax (Int.ofNat ((splitB y 46).length)) (Int.ofNat ((splitB y 46).length))/\ax (↑x+1) ↑u/\True)/\True/\True)))))) (true=fx y/\True))):=by kernel_rfl
theorem YU:(cy (fun(y:aK.Y (fS fx))=>bC mg (cT ny 5 (x5 y))) 400 ny)=(∀(y:List UInt8),y.length<=100000->∃(z:Bs×Int),y=z.1/\ax 46 z.2/\z.1.length<=100000/\br (!Int.ofNat ((splitB z.1 z.2).length)==4) (false=fx y/\True) ((∃(x:Nat),(x<=4/\ ∀(j:Nat) (h:j<(splitB y 46).length),j<x->gU (splitB y 46)[j]=true)/\(strs (splitB z.1 z.2)=strs (splitB y 46)/\ax 0 ↑x/\True)/\True/\True)/\ ∀(x:Nat),(x<=4/\ ∀(j:Nat) (h:j<(splitB y 46).length),j<x->gU (splitB y 46)[j]=true)->br (bK (↑x) 4) (so (splitB y 46)[Int.toNat ↑x]? fun(val:Bs)=>br (bK (Int.ofNat val.length) 1) (false=fx y/\True) (so (splitB y 46)[Int.toNat ↑x]? fun(val:Bs)=>br (bK 3 (Int.ofNat val.length)) (false=fx y/\True) (so (splitB y 46)[Int.toNat ↑x]? fun(val:Bs)=>so (splitB y 46)[Int.toNat ↑x]? fun(b:Bs)=>∃(w:List UInt8),val=w/\w.length<=1000000/\br (!↑(dN w)==Int.ofNat b.length) (false=fx y/\True) (so (splitB y 46)[Int.toNat ↑x]? fun(val:Bs)=>∃(u:List UInt8),val=u/\u.length<=1000000/\br (bK 255 ((bo u).1)) (false=fx y/\True) (so (splitB y 46)[Int.toNat ↑x]? fun(val:Bs)=>∃(a:Nat),ax ((bo u).1) ↑a/\a<=1099511627776/\br (!kL a==val) (false=fx y/\True) (ck (bD .i64 (↑x+1)) (∃(v:Nat),(v<=4/\ ∀(j:Nat) (h:j<(splitB y 46).length),j<v->gU (splitB y 46)[j]=true)/\aL.μ (x5 y) v<aL.μ (x5 y) x/\(strs (splitB y 46)=strs (splitB y 46)/\ax (↑x+1) ↑v/\True)/\True/\True))))))) (true=fx y/\True))):=by kernel_rfl
theorem YR:(cy (fun(y:aK.Y (fS fi))=>bC mg (cT mY 4 (ik y))) 400 mY)=(∀(y:List UInt8),y.length<=100000->br (bK (Int.ofNat y.length) 4) (false=fi y/\True) (br (bK 47 (Int.ofNat y.length)) (false=fi y/\True) (so y[Int.toNat 0]? fun(val:UInt8)=>br (!Int.ofNat (UInt8.toNat val)==91) (false=fi y/\True) (ck (bD .i64 (Int.ofNat y.length - 1)) (ck (nn (Int.ofNat y.length - 1)) (so y[Int.toNat (Int.ofNat y.length - 1)]? fun(val:UInt8)=>br (!Int.ofNat (UInt8.toNat val)==93) (false=fi y/\True) (ck (bD .i64 (Int.ofNat y.length - 1)) (ck (nn (Int.ofNat y.length - 1)) (ck (Nat.ble (Int.toNat 1) (Int.toNat (Int.ofNat y.length - 1))&&Nat.ble (Int.toNat (Int.ofNat y.length - 1)) y.length) ((∃(x:Nat),(x<=((y.drop 1).take (y.length - 2)).length/\ ∀(j:Nat) (h:j<((y.drop 1).take (y.length - 2)).length),j<x->cS ((y.drop 1).take (y.length - 2))[j]=true)/\(SV.bh UInt8 ((y.drop (Int.toNat 1)).take (Int.toNat (Int.ofNat y.length - 1) - Int.toNat 1)) cQ=SV.bh UInt8 ((y.drop 1).take (y.length - 2)) cQ/\ax (Int.ofNat (((y.drop (Int.toNat 1)).take (Int.toNat (Int.ofNat y.length - 1) - Int.toNat 1)).length)) (Int.ofNat (((y.drop 1).take (y.length - 2)).length))/\ax 0 ↑x/\True)/\True/\True)/\ ∀(x:Nat),(x<=((y.drop 1).take (y.length - 2)).length/\ ∀(j:Nat) (h:j<((y.drop 1).take (y.length - 2)).length),j<x->cS ((y.drop 1).take (y.length - 2))[j]=true)->br (bK (↑x) (Int.ofNat (((y.drop 1).take (y.length - 2)).length))) (so ((y.drop 1).take (y.length - 2))[Int.toNat ↑x]? fun(val:UInt8)=>br (bO 48 (Int.ofNat (UInt8.toNat val))) (br (bO (Int.ofNat (UInt8.toNat val)) 57) (ck (bD .i64 (↑x+1)) (∃(z:Nat),(z<=((y.drop 1).take (y.length - 2)).length/\ ∀(j:Nat) (h:j<((y.drop 1).take (y.length - 2)).length),j<z->cS ((y.drop 1).take (y.length - 2))[j]=true)/\aL.μ (ik y) z<aL.μ (ik y) x/\(SV.bh UInt8 ((y.drop 1).take (y.length - 2)) cQ=SV.bh UInt8 ((y.drop 1).take (y.length - 2)) cQ/\ax (Int.ofNat (((y.drop 1).take (y.length - 2)).length)) (Int.ofNat (((y.drop 1).take (y.length - 2)).length))/\ax (↑x+1) ↑z/\True)/\True/\True)) (br (bO 97 (Int.ofNat (UInt8.toNat val))) (br (bO (Int.ofNat (UInt8.toNat val)) 102) (ck (bD .i64 (↑x+1)) (∃(z:Nat),(z<=((y.drop 1).take (y.length - 2)).length/\ ∀(j:Nat) (h:j<((y.drop 1).take (y.length - 2)).length),j<z->cS ((y.drop 1).take (y.length - 2))[j]=true)/\aL.μ (ik y) z<aL.μ (ik y) x/\(SV.bh UInt8 ((y.drop 1).take (y.length - 2)) cQ=SV.bh UInt8 ((y.drop 1).take (y.length - 2)) cQ/\ax (Int.ofNat (((y.drop 1).take (y.length - 2)).length)) (Int.ofNat (((y.drop 1).take (y.length - 2)).length))/\ax (↑x+1) ↑z/\True)/\True/\True)) (br (Int.ofNat (UInt8.toNat val)==58) (ck (bD .i64 (↑x+1)) (∃(z:Nat),(z<=((y.drop 1).take (y.length - 2)).length/\ ∀(j:Nat) (h:j<((y.drop 1).take (y.length - 2)).length),j<z->cS ((y.drop 1).take (y.length - 2))[j]=true)/\aL.μ (ik y) z<aL.μ (ik y) x/\(SV.bh UInt8 ((y.drop 1).take (y.length - 2)) cQ=SV.bh UInt8 ((y.drop 1).take (y.length - 2)) cQ/\ax (Int.ofNat (((y.drop 1).take (y.length - 2)).length)) (Int.ofNat (((y.drop 1).take (y.length - 2)).length))/\ax (↑x+1) ↑z/\True)/\True/\True)) (br (!Int.ofNat (UInt8.toNat val)==46) (false=fi y/\True) (ck (bD .i64 (↑x+1)) (∃(z:Nat),(z<=((y.drop 1).take (y.length - 2)).length/\ ∀(j:Nat) (h:j<((y.drop 1).take (y.length - 2)).length),j<z->cS ((y.drop 1).take (y.length - 2))[j]=true)/\aL.μ (ik y) z<aL.μ (ik y) x/\(SV.bh UInt8 ((y.drop 1).take (y.length - 2)) cQ=SV.bh UInt8 ((y.drop 1).take (y.length - 2)) cQ/\ax (Int.ofNat (((y.drop 1).take (y.length - 2)).length)) (Int.ofNat (((y.drop 1).take (y.length - 2)).length))/\ax (↑x+1) ↑z/\True)/\True/\True))))) (br (Int.ofNat (UInt8.toNat val)==58) (ck (bD .i64 (↑x+1)) (∃(z:Nat),(z<=((y.drop 1).take (y.length - 2)).length/\ ∀(j:Nat) (h:j<((y.drop 1).take (y.length - 2)).length),j<z->cS ((y.drop 1).take (y.length - 2))[j]=true)/\aL.μ (ik y) z<aL.μ (ik y) x/\(SV.bh UInt8 ((y.drop 1).take (y.length - 2)) cQ=SV.bh UInt8 ((y.drop 1).take (y.length - 2)) cQ/\ax (Int.ofNat (((y.drop 1).take (y.length - 2)).length)) (Int.ofNat (((y.drop 1).take (y.length - 2)).length))/\ax (↑x+1) ↑z/\True)/\True/\True)) (br (!Int.ofNat (UInt8.toNat val)==46) (false=fi y/\True) (ck (bD .i64 (↑x+1)) (∃(z:Nat),(z<=((y.drop 1).take (y.length - 2)).length/\ ∀(j:Nat) (h:j<((y.drop 1).take (y.length - 2)).length),j<z->cS ((y.drop 1).take (y.length - 2))[j]=true)/\aL.μ (ik y) z<aL.μ (ik y) x/\(SV.bh UInt8 ((y.drop 1).take (y.length - 2)) cQ=SV.bh UInt8 ((y.drop 1).take (y.length - 2)) cQ/\ax (Int.ofNat (((y.drop 1).take (y.length - 2)).length)) (Int.ofNat (((y.drop 1).take (y.length - 2)).length))/\ax (↑x+1) ↑z/\True)/\True/\True)))))) (br (bO 97 (Int.ofNat (UInt8.toNat val))) (br (bO (Int.ofNat (UInt8.toNat val)) 102) (ck (bD .i64 (↑x+1)) (∃(z:Nat),(z<=((y.drop 1).take (y.length - 2)).length/\ ∀(j:Nat) (h:j<((y.drop 1).take (y.length - 2)).length),j<z->cS ((y.drop 1).take (y.length - 2))[j]=true)/\aL.μ (ik y) z<aL.μ (ik y) x/\(SV.bh UInt8 ((y.drop 1).take (y.length - 2)) cQ=SV.bh UInt8 ((y.drop 1).take (y.length - 2)) cQ/\ax (Int.ofNat (((y.drop 1).take (y.length - 2)).length)) (Int.ofNat (((y.drop 1).take (y.length - 2)).length))/\ax (↑x+1) ↑z/\True)/\True/\True)) (br (Int.ofNat (UInt8.toNat val)==58) (ck (bD .i64 (↑x+1)) (∃(z:Nat),(z<=((y.drop 1).take (y.length - 2)).length/\ ∀(j:Nat) (h:j<((y.drop 1).take (y.length - 2)).length),j<z->cS ((y.drop 1).take (y.length - 2))[j]=true)/\aL.μ (ik y) z<aL.μ (ik y) x/\(SV.bh UInt8 ((y.drop 1).take (y.length - 2)) cQ=SV.bh UInt8 ((y.drop 1).take (y.length - 2)) cQ/\ax (Int.ofNat (((y.drop 1).take (y.length - 2)).length)) (Int.ofNat (((y.drop 1).take (y.length - 2)).length))/\ax (↑x+1) ↑z/\True)/\True/\True)) (br (!Int.ofNat (UInt8.toNat val)==46) (false=fi y/\True) (ck (bD .i64 (↑x+1)) (∃(z:Nat),(z<=((y.drop 1).take (y.length - 2)).length/\ ∀(j:Nat) (h:j<((y.drop 1).take (y.length - 2)).length),j<z->cS ((y.drop 1).take (y.length - 2))[j]=true)/\aL.μ (ik y) z<aL.μ (ik y) x/\(SV.bh UInt8 ((y.drop 1).take (y.length - 2)) cQ=SV.bh UInt8 ((y.drop 1).take (y.length - 2)) cQ/\ax (Int.ofNat (((y.drop 1).take (y.length - 2)).length)) (Int.ofNat (((y.drop 1).take (y.length - 2)).length))/\ax (↑x+1) ↑z/\True)/\True/\True))))) (br (Int.ofNat (UInt8.toNat val)==58) (ck (bD .i64 (↑x+1)) (∃(z:Nat),(z<=((y.drop 1).take (y.length - 2)).length/\ ∀(j:Nat) (h:j<((y.drop 1).take (y.length - 2)).length),j<z->cS ((y.drop 1).take (y.length - 2))[j]=true)/\aL.μ (ik y) z<aL.μ (ik y) x/\(SV.bh UInt8 ((y.drop 1).take (y.length - 2)) cQ=SV.bh UInt8 ((y.drop 1).take (y.length - 2)) cQ/\ax (Int.ofNat (((y.drop 1).take (y.length - 2)).length)) (Int.ofNat (((y.drop 1).take (y.length - 2)).length))/\ax (↑x+1) ↑z/\True)/\True/\True)) (br (!Int.ofNat (UInt8.toNat val)==46) (false=fi y/\True) (ck (bD .i64 (↑x+1)) (∃(z:Nat),(z<=((y.drop 1).take (y.length - 2)).length/\ ∀(j:Nat) (h:j<((y.drop 1).take (y.length - 2)).length),j<z->cS ((y.drop 1).take (y.length - 2))[j]=true)/\aL.μ (ik y) z<aL.μ (ik y) x/\(SV.bh UInt8 ((y.drop 1).take (y.length - 2)) cQ=SV.bh UInt8 ((y.drop 1).take (y.length - 2)) cQ/\ax (Int.ofNat (((y.drop 1).take (y.length - 2)).length)) (Int.ofNat (((y.drop 1).take (y.length - 2)).length))/\ax (↑x+1) ↑z/\True)/\True/\True)))))) (true=fi y/\True))))))))))):=by kernel_rfl
theorem Xj:(cy (fun(y:aK.Y (fS fi))=>bC bU (cT mU 4 (iq y))) 400 mU)=(∀(y:List UInt8),y.length<=100000->br (bK (Int.ofNat y.length) 4) (false=fi y/\True) (br (bK 47 (Int.ofNat y.length)) (false=fi y/\True) (so y[Int.toNat 0]? fun(val:UInt8)=>br (!Int.ofNat (UInt8.toNat val)==91) (false=fi y/\True) (ck (bD .i64 (Int.ofNat y.length - 1)) (ck (nn (Int.ofNat y.length - 1)) (so y[Int.toNat (Int.ofNat y.length - 1)]? fun(val:UInt8)=>br (!Int.ofNat (UInt8.toNat val)==93) (false=fi y/\True) ((∃(x:Nat),(1<=x/\x+1<=y.length/\ ∀(j:Nat) (h:j<y.length),1<=j->j<x->cS y[j]=true)/\(y=y/\ax 1 ↑x/\True)/\True/\True)/\ ∀(x:Nat),(1<=x/\x+1<=y.length/\ ∀(j:Nat) (h:j<y.length),1<=j->j<x->cS y[j]=true)->ck (bD .i64 (Int.ofNat y.length - 1)) (br (bK (↑x) (Int.ofNat y.length - 1)) (so y[Int.toNat ↑x]? fun(val:UInt8)=>br (bO 48 (Int.ofNat (UInt8.toNat val))) (br (bO (Int.ofNat (UInt8.toNat val)) 57) (ck (bD .i64 (↑x+1)) (∃(z:Nat),(1<=z/\z+1<=y.length/\ ∀(j:Nat) (h:j<y.length),1<=j->j<z->cS y[j]=true)/\aL.μ (iq y) z<aL.μ (iq y) x/\(y=y/\ax (↑x+1) ↑z/\True)/\True/\True)) (br (bO 97 (Int.ofNat (UInt8.toNat val))) (br (bO (Int.ofNat (UInt8.toNat val)) 102) (ck (bD .i64 (↑x+1)) (∃(z:Nat),(1<=z/\z+1<=y.length/\ ∀(j:Nat) (h:j<y.length),1<=j->j<z->cS y[j]=true)/\aL.μ (iq y) z<aL.μ (iq y) x/\(y=y/\ax (↑x+1) ↑z/\True)/\True/\True)) (br (Int.ofNat (UInt8.toNat val)==58) (ck (bD .i64 (↑x+1)) (∃(z:Nat),(1<=z/\z+1<=y.length/\ ∀(j:Nat) (h:j<y.length),1<=j->j<z->cS y[j]=true)/\aL.μ (iq y) z<aL.μ (iq y) x/\(y=y/\ax (↑x+1) ↑z/\True)/\True/\True)) (br (!Int.ofNat (UInt8.toNat val)==46) (false=fi y/\True) (ck (bD .i64 (↑x+1)) (∃(z:Nat),(1<=z/\z+1<=y.length/\ ∀(j:Nat) (h:j<y.length),1<=j->j<z->cS y[j]=true)/\aL.μ (iq y) z<aL.μ (iq y) x/\(y=y/\ax (↑x+1) ↑z/\True)/\True/\True))))) (br (Int.ofNat (UInt8.toNat val)==58) (ck (bD .i64 (↑x+1)) (∃(z:Nat),(1<=z/\z+1<=y.length/\ ∀(j:Nat) (h:j<y.length),1<=j->j<z->cS y[j]=true)/\aL.μ (iq y) z<aL.μ (iq y) x/\(y=y/\ax (↑x+1) ↑z/\True)/\True/\True)) (br (!Int.ofNat (UInt8.toNat val)==46) (false=fi y/\True) (ck (bD .i64 (↑x+1)) (∃(z:Nat),(1<=z/\z+1<=y.length/\ ∀(j:Nat) (h:j<y.length),1<=j->j<z->cS y[j]=true)/\aL.μ (iq y) z<aL.μ (iq y) x/\(y=y/\ax (↑x+1) ↑z/\True)/\True/\True)))))) (br (bO 97 (Int.ofNat (UInt8.toNat val))) (br (bO (Int.ofNat (UInt8.toNat val)) 102) (ck (bD .i64 (↑x+1)) (∃(z:Nat),(1<=z/\z+1<=y.length/\ ∀(j:Nat) (h:j<y.length),1<=j->j<z->cS y[j]=true)/\aL.μ (iq y) z<aL.μ (iq y) x/\(y=y/\ax (↑x+1) ↑z/\True)/\True/\True)) (br (Int.ofNat (UInt8.toNat val)==58) (ck (bD .i64 (↑x+1)) (∃(z:Nat),(1<=z/\z+1<=y.length/\ ∀(j:Nat) (h:j<y.length),1<=j->j<z->cS y[j]=true)/\aL.μ (iq y) z<aL.μ (iq y) x/\(y=y/\ax (↑x+1) ↑z/\True)/\True/\True)) (br (!Int.ofNat (UInt8.toNat val)==46) (false=fi y/\True) (ck (bD .i64 (↑x+1)) (∃(z:Nat),(1<=z/\z+1<=y.length/\ ∀(j:Nat) (h:j<y.length),1<=j->j<z->cS y[j]=true)/\aL.μ (iq y) z<aL.μ (iq y) x/\(y=y/\ax (↑x+1) ↑z/\True)/\True/\True))))) (br (Int.ofNat (UInt8.toNat val)==58) (ck (bD .i64 (↑x+1)) (∃(z:Nat),(1<=z/\z+1<=y.length/\ ∀(j:Nat) (h:j<y.length),1<=j->j<z->cS y[j]=true)/\aL.μ (iq y) z<aL.μ (iq y) x/\(y=y/\ax (↑x+1) ↑z/\True)/\True/\True)) (br (!Int.ofNat (UInt8.toNat val)==46) (false=fi y/\True) (ck (bD .i64 (↑x+1)) (∃(z:Nat),(1<=z/\z+1<=y.length/\ ∀(j:Nat) (h:j<y.length),1<=j->j<z->cS y[j]=true)/\aL.μ (iq y) z<aL.μ (iq y) x/\(y=y/\ax (↑x+1) ↑z/\True)/\True/\True)))))) (true=fi y/\True))))))))):=by kernel_rfl
theorem YQ:(cy (fun(y:aK.Y (fS gy))=>bC pY (cV y)) 400 rH)=(∀(y:List UInt8),y.length<=100000->∃(z:List UInt8),y=z/\z.length<=100000/\br (fx z) (true=gy y/\True) (∃(u:List UInt8),y=u/\u.length<=100000/\fi u=gy y/\True)):=by kernel_rfl
theorem qzV:(cy (fun(y:aK.Y (fS gy))=>bC pY (cV y)) 400 rK)=(∀(y:List UInt8),y.length<=100000->∃(z:List UInt8),y=z/\z.length<=100000/\br (fx z) (true=gy y/\True) (∃(u:List UInt8),y=u/\u.length<=100000/\fi u=gy y/\True)):=by kernel_rfl
theorem ZW:(cy (fun(y:aK.Y (fS dQ))=>bC yp (cT nC 4 (yx y))) 400 nC)=(∀(y:List UInt8),y.length<=100000->br (bK 256 (Int.ofNat y.length)) (false=dQ y/\True) (∃(w:List UInt8),y=w/\w.length<=100000/\br (gy w) (false=dQ y/\True) (∃(z:Bs×Int),y=z.1/\ax 46 z.2/\z.1.length<=100000/\(∃(x:Nat),(x<=(splitB y 46).length/\ ∀(j:Nat) (h:j<(splitB y 46).length),j<x->fa (splitB y 46)[j]=true)/\(strs (splitB z.1 z.2)=strs (splitB y 46)/\ax (Int.ofNat ((splitB z.1 z.2).length)) (Int.ofNat ((splitB y 46).length))/\ax 0 ↑x/\True)/\True/\True)/\ ∀(x:Nat),(x<=(splitB y 46).length/\ ∀(j:Nat) (h:j<(splitB y 46).length),j<x->fa (splitB y 46)[j]=true)->br (bK (↑x) (Int.ofNat ((splitB y 46).length))) (so (splitB y 46)[Int.toNat ↑x]? fun(val:Bs)=>∃(v:List UInt8),val=v/\v.length<=100000/\br (!fa v) (false=dQ y/\True) (ck (bD .i64 (↑x+1)) (∃(u:Nat),(u<=(splitB y 46).length/\ ∀(j:Nat) (h:j<(splitB y 46).length),j<u->fa (splitB y 46)[j]=true)/\aL.μ (yx y) u<aL.μ (yx y) x/\(strs (splitB y 46)=strs (splitB y 46)/\ax (Int.ofNat ((splitB y 46).length)) (Int.ofNat ((splitB y 46).length))/\ax (↑x+1) ↑u/\True)/\True/\True))) (true=dQ y/\True)))):=by kernel_rfl
theorem YW:(cy (fun(y:aK.Y (fS dQ))=>bC pY (cT nv 5 (x7 y))) 400 nv)=(∀(y:List UInt8),y.length<=100000->br (bK 256 (Int.ofNat y.length)) (false=dQ y/\True) (∃(w:List UInt8),y=w/\w.length<=100000/\br (fx w) (false=dQ y/\True) (∃(z:Bs×Int),y=z.1/\ax 46 z.2/\z.1.length<=100000/\(∃(x:Nat),(x<=(splitB y 46).length/\ ∀(j:Nat) (h:j<(splitB y 46).length),j<x->fa (splitB y 46)[j]=true)/\(strs (splitB z.1 z.2)=strs (splitB y 46)/\ax 0 ↑x/\True)/\True/\True)/\ ∀(x:Nat),(x<=(splitB y 46).length/\ ∀(j:Nat) (h:j<(splitB y 46).length),j<x->fa (splitB y 46)[j]=true)->br (bK (↑x) (Int.ofNat ((splitB y 46).length))) (so (splitB y 46)[Int.toNat ↑x]? fun(val:Bs)=>∃(v:List UInt8),val=v/\v.length<=100000/\br (!fa v) (false=dQ y/\True) (ck (bD .i64 (↑x+1)) (∃(u:Nat),(u<=(splitB y 46).length/\ ∀(j:Nat) (h:j<(splitB y 46).length),j<u->fa (splitB y 46)[j]=true)/\aL.μ (x7 y) u<aL.μ (x7 y) x/\(strs (splitB y 46)=strs (splitB y 46)/\ax (↑x+1) ↑u/\True)/\True/\True))) (true=dQ y/\True)))):=by kernel_rfl
theorem WK:(cy (fun(y:aK.Y sS)=>bC bU (cV y)) 400 Gz)=(∀(y:Bs×Bs),y.1.length<=100000/\y.2.length<=100000->br (bO (Int.ofNat y.2.length) (Int.ofNat y.1.length)) (ck (Nat.ble (Int.toNat (Int.ofNat y.2.length)) y.1.length) ((y.1.take (Int.toNat (Int.ofNat y.2.length))==y.2)=decide (y.1.take y.2.length=y.2)/\True)) (false=decide (y.1.take y.2.length=y.2)/\True)):=by kernel_rfl
theorem VK:(cy (fun(y:aK.Y sS)=>bC tz (cV y)) 400 ry)=(∀(y:Bs×Bs),y.1.length<=100000/\y.2.length<=100000->∃(z:Bs×Bs),y.1=z.1/\y.2=z.2/\(z.1.length<=100000/\z.2.length<=100000)/\decide (z.1.take z.2.length=z.2)=decide (y.1.take y.2.length=y.2)/\True):=by kernel_rfl
theorem Xo:(cy (fun(y:aK.Y E5)=>bC tz (cV y)) 400 rQ)=(∀(y:List UInt8),y.length<=100000->∃(u:List UInt8),y=u/\u.length<=100000/\br (!dQ u) ((if dQ y=true then splitB y 46 else[])=[]/\True) (∃(z:Bs×Int),y=z.1/\ax 46 z.2/\z.1.length<=100000/\strs (splitB z.1 z.2)=strs (if dQ y=true then splitB y 46 else[])/\True)):=by kernel_rfl
theorem YX:(cy (fun(y:aK.Y Fw)=>bC yq (cV y)) 400 rL)=(∀(y:List UInt8),y.length<=100000->∃(v:Bs×Bs),y=v.1/\Array.toList (ByteArray.data {data:=#[42,46]})=v.2/\(v.1.length<=100000/\v.2.length<=100000)/\br (decide (v.1.take v.2.length=v.2)) (ck (Nat.ble (Int.toNat 2) y.length) (∃(z:List UInt8),y.drop (Int.toNat 2)=z/\z.length<=100000/\br (bK 0 (Int.ofNat ((if dQ z=true then splitB z 46 else[]).length))) (y.drop (Int.toNat 2)=(gz y).1/\true=((gz y).2).1/\false=((gz y).2).2/\true=jV y/\True) (y.drop (Int.toNat 2)=(gz y).1/\true=((gz y).2).1/\false=((gz y).2).2/\false=jV y/\True))) (∃(z:Bs×Bs),y=z.1/\Array.toList (ByteArray.data {data:=#[33]})=z.2/\(z.1.length<=100000/\z.2.length<=100000)/\br (decide (z.1.take z.2.length=z.2)) (ck (Nat.ble (Int.toNat 1) y.length) (∃(u:List UInt8),y.drop (Int.toNat 1)=u/\u.length<=100000/\br (bK 0 (Int.ofNat ((if dQ u=true then splitB u 46 else[]).length))) (y.drop (Int.toNat 1)=(gz y).1/\false=((gz y).2).1/\true=((gz y).2).2/\bK 1 (Int.ofNat ((if dQ u=true then splitB u 46 else[]).length))=jV y/\True) (y.drop (Int.toNat 1)=(gz y).1/\false=((gz y).2).1/\true=((gz y).2).2/\false=jV y/\True))) (∃(u:List UInt8),y=u/\u.length<=100000/\br (bK 0 (Int.ofNat ((if dQ u=true then splitB u 46 else[]).length))) (y=(gz y).1/\false=((gz y).2).1/\false=((gz y).2).2/\true=jV y/\True) (y=(gz y).1/\false=((gz y).2).1/\false=((gz y).2).2/\false=jV y/\True)))):=by kernel_rfl
theorem Xl:(cy (fun(y:aK.Y E3)=>bC yr (cT nf 4 (xQ y))) 400 nf)=(∀(y:List Bs),(y.length<=100000/\ ∀(s:Bs),s∈y->s.length<=100000)->br (bK 256 (Int.ofNat y.length)) (ax 3 (oZ y)/\True) ((∃(x:Nat),(x<=y.length/\ ∀(j:Nat) (h:j<y.length),j<x->jV y[j]=true)/\(strs y=strs y/\ax (Int.ofNat y.length) (Int.ofNat y.length)/\ax 0 ↑x/\True)/\True/\True)/\ ∀(x:Nat),(x<=y.length/\ ∀(j:Nat) (h:j<y.length),j<x->jV y[j]=true)->br (bK (↑x) (Int.ofNat y.length)) (so y[Int.toNat ↑x]? fun(val:Bs)=>∃(u:List UInt8),val=u/\u.length<=100000/\br (!jV u) (ax 1 (oZ y)/\True) (ck (bD .i64 (↑x+1)) (∃(z:Nat),(z<=y.length/\ ∀(j:Nat) (h:j<y.length),j<z->jV y[j]=true)/\aL.μ (xQ y) z<aL.μ (xQ y) x/\(strs y=strs y/\ax (Int.ofNat y.length) (Int.ofNat y.length)/\ax (↑x+1) ↑z/\True)/\True/\True))) (ax 0 (oZ y)/\True))):=by kernel_rfl
end
section
variable [Inhabited aF]
section
variable {α:Type} {l:List α} {p:α->Bool} {x:Nat}
theorem pN (h:∀(j:Nat) (h:j<l.length),j<x->p l[j]=true) (hx:¬(x:Int)<Int.ofNat l.length):l.all p=true:=by
 rw[AB];grind [List.getElem_of_mem]
theorem CY (h:x<l.length) (hp:p l[x]=false):l.all p=false:=by
 rw[Ao];grind
theorem pO (h:∀(j:Nat) (h:j<l.length),j<x->p l[j]=true) (hx:x<l.length) (hp:p l[x]=true):∀(j:Nat) (h:j<l.length),j<x+1->p l[j]=true:=by
 grind
end
theorem cP {x n:Nat} (h:bK (x:Int) (Int.ofNat n)=true):x<n:=by
 rw[ch,Aa,Ah]at h;omega
theorem jK {x n:Nat} (h:bK (x:Int) (Int.ofNat n)=false):¬(x:Int)<Int.ofNat n:=by
 rw[ch,Ai]at h;exact h
theorem eA {α:Type} {l:List α} {x:Nat} (h:x<l.length):l[Int.toNat (x:Int)]? =some l[x]:=by simp[h]
theorem Zc:CO Gc Fy:=bR (cfg:=fun y=>bC bU (cV y)) bu (fun _=>rfl) (fun _=>gn) (n:=400) (by
 rw[YZ];grind [ai,ed,gF])
theorem Z6:CO Gq FJ:=bR (cfg:=fun y=>bC bU (cV y)) bu (fun _=>rfl) (fun _=>gn) (n:=400) (by
 rw[ZZ];grind [ai,ed,iu])
theorem sM:∀g C,mg g=some C->CO g C:=bM Zc (bM Z6 VB)
theorem W9 (b:UInt8) (e:Bool):gF (nB b) e=(iu b&& !(nB b==45&&e)):=by
 grind [gF,iu]
theorem mz (b:UInt8):b=45↔nB b=45:=⟨fun h=>by rw[h];rfl,fun h=>pS (h.trans rfl)⟩
theorem JD (s:Bs) (h0:s≠[]) (h63:s.length<=63):fa s=true↔∀(j:Nat) (h:j<s.length),gF (nB s[j]) (j==0||j==s.length - 1)=true:=by
 have hp:0<s.length:=A7.2 h0;have hhd:s.head? =some s[0]:=by rw[BW];grind
 have htl:s.getLast? =some (s[s.length - 1]'(by omega)):=by rw[DB];grind
 unfold fa;rw[hhd,htl];simp only[Ac,bne_iff_ne,DU,h0,not_false_eq_true,Aa,h63,true_and,AB,Bo];grind [W9,mz,List.getElem_of_mem]
theorem Jl {s:Bs} (h0:s≠[]) (h63:s.length<=63) {x:Nat} (h:x<s.length) (hx:gF (nB s[x]) (x==0||x==s.length - 1)=false):fa s=false:=by
 rw[Ao];grind [JD]
theorem JX {s:Bs} (h:63<s.length):fa s=false:=by
 grind [fa]
theorem X3:CO np (fS fa):=bR (cfg:=fun y=>bC mg (cT np 4 (pU y))) bu (fun _=>rfl) (fun _=>sM) (n:=400) (by
 rw[YV];intro s hpre;have hpre:s.length<=100000:=hpre;refine ai.2 ⟨fun h=>?_,fun h=>ai.2 ⟨fun h2=>?_,fun h2=>⟨⟨0,⟨by simp,fun j h hj=>by omega⟩,⟨rfl,rfl,rfl,trivial⟩,trivial,trivial⟩,?_⟩⟩⟩
 . have:s=[]:=by grind
   subst this;exact⟨rfl,trivial⟩
 . rw[ch,Aa,Ah]at h2;grind [JX]
 have h0:s≠[]:=by grind
 have h63:s.length<=63:=by
   rw[ch,Ai,Ah]at h2;omega
 rintro x ⟨hx,hall⟩;refine ai.2 ⟨fun hlt=>az.2 ⟨_,eA (cP hlt),?_⟩,fun hge=>⟨((JD s h0 h63).2 fun j hj=>hall j hj (by have:=jK hge;grind)).symm,trivial⟩⟩;have hlt':=cP hlt;have next:gF (nB s[x]) (x==0||x==s.length - 1)=true->∃(y_2:Nat),(y_2<=s.length/\ ∀(j:Nat) (h:j<s.length),j<y_2->gF (nB s[j]) (j==0||j==s.length - 1)=true)/\(pU s).μ y_2<(pU s).μ x/\(s=s/\ax (Int.ofNat s.length) (Int.ofNat s.length)/\ax (↑x+1) ↑y_2/\True)/\True/\True:=by
   intro he;refine⟨x+1,⟨by omega,fun j hj hjx=>?_⟩,?_,⟨rfl,rfl,by omega,trivial⟩,trivial,trivial⟩
   . grind
   . show s.length - (x+1)<s.length - x
     omega
 refine ai.2 ⟨fun hx0=>⟨(s[x],true),rfl,rfl,trivial,ai.2 ⟨fun hs=>?_,fun hs=>ah.2 ⟨cW x (by omega),next ?_⟩⟩⟩,fun hx0=>ah.2 ⟨by rw[hZ,Ah];omega,(s[x],(x:Int)==Int.ofNat s.length - 1),rfl,rfl,trivial,ai.2 ⟨fun hs=>?_,fun hs=>ah.2 ⟨cW x (by omega),next ?_⟩⟩⟩⟩
 . have:x=0:=by grind
   grind [Jl]
 . have:x=0:=by grind
   grind
 . have hx1:¬x=0:=by grind
   have e:((x:Int)==Int.ofNat s.length - 1)=(x==0||x==s.length - 1):=by
     rw[AA];grind
   rw[e]at hs;grind [Jl]
 . have hx1:¬x=0:=by grind
   have e:((x:Int)==Int.ofNat s.length - 1)=(x==0||x==s.length - 1):=by
     rw[AA];grind
   rw[e]at hs;grind)
theorem IK {s:Bs} {x:Nat} (h:x<s.length) (hx:iu s[x]=false):fa s=false:=by
 grind [fa]
theorem Xy:CO nj (fS fa):=bR (cfg:=fun y=>bC mg (cT nj 4 (xR y))) bu (fun _=>rfl) (fun _=>sM) (n:=400) (by
 rw[Xn];intro s hpre;have hpre:s.length<=100000:=hpre;refine ai.2 ⟨fun h=>?_,fun h=>ai.2 ⟨fun h2=>?_,fun h2=>?_⟩⟩
 . rw[ch,Aa,Ah]at h;have:s=[]:=AL (by omega);subst this;exact⟨rfl,trivial⟩
 . rw[ch,Aa,Ah]at h2;grind [JX]
 rw[ch,Ai,Ah]at h h2;have hp:0<s.length:=by omega
 have h0:s≠[]:=A7.1 hp;have hhd:s.head? =some s[0]:=by rw[BW];grind
 have htl:s.getLast? =some (s[s.length - 1]'(by omega)):=by rw[DB];grind
 have hlast:s[Int.toNat (Int.ofNat s.length - 1)]? =some (s[s.length - 1]'(by omega)):=by
   rw[show Int.toNat (Int.ofNat s.length - 1)=s.length - 1 by rw[Ah];omega];grind
 refine az.2 ⟨s[0],by grind,ai.2 ⟨fun h3=>?_,fun h3=>ah.2 ⟨by rw[hZ,Ah];omega,ah.2 ⟨by rw[mP,Aa,Ah];omega,az.2 ⟨_,hlast,ai.2 ⟨fun h4=>?_,fun h4=>⟨⟨0,⟨by simp,fun j h hj=>by omega⟩,⟨rfl,rfl,trivial⟩,trivial,trivial⟩,?_⟩⟩⟩⟩⟩⟩⟩
 . have:s[0]=45:=by rw[mz];simp_all[nB]
   simp_all[fa]
 . have:s[s.length - 1]'(by omega)=45:=by rw[mz];simp_all[nB]
   simp_all[fa]
 rintro x ⟨hx,hall⟩;refine ai.2 ⟨fun hlt=>az.2 ⟨_,eA (cP hlt),s[x]'(cP hlt),rfl,trivial,ai.2 ⟨fun hs=>⟨(IK (cP hlt) (by grind)).symm,trivial⟩,fun hs=>ah.2 ⟨cW x (by have:=cP hlt;omega),x+1,⟨cP hlt,pO hall (cP hlt) (by grind)⟩,?_,⟨rfl,by omega,trivial⟩,trivial,trivial⟩⟩⟩,fun hge=>⟨?_,trivial⟩⟩
 . have:=cP hlt;show s.length - (x+1)<s.length - x
   omega
 . have ha:=pN hall (jK hge);have n1:s[0]≠45:=by simp_all[mz,nB]
   have n2:(s[s.length - 1]'(by omega))≠45:=by simp_all[mz,nB]
   unfold fa;rw[ha,hhd,htl];simp[h0,n1,n2];omega)
theorem Ml {p:Bs} (h0:p≠[]) (hd:∀b∈p,dD b=true):bo p=(p.foldl bZ 0,true):=by
 cases p with
 |nil=>grind
 | cons b s=>
  have hb:=(pL b).1 (hd b Aq);have hn:cG (b::s)=false:=by
   show(nB b==45)=false
   rw[De];omega
  have ha:=uL hn;rw[Fk (by rw[ha];simp) (by rw[ha];exact hd),ha,hn];simp
theorem uZ {b:UInt8} {n:Nat} (h:nB b=48+(n:Int)):UInt8.ofNat (48+n)=b:=by
 apply pS;have:=VW b;rw[h];grind [nB,UInt8.toNat_ofNat']
theorem nK {b:UInt8} (h:dD b=true):∃d:Nat,d<=9/\nB b=48+(d:Int):=by
 rw[pL]at h;exact⟨(nB b - 48).toNat,by omega,by omega⟩
theorem nH {n:Int} {b:UInt8} {d:Nat} (hb:nB b=48+(d:Int)) (hd:d<=9) (h0:0<=n) (hn:n<=100000):bZ n b=n*10+d:=by
 grind [bZ]
theorem YH (s:Bs) (hd:∀b∈s,dD b=true):∀n:Int,1000<=n->n<=1099511627776->1000<=s.foldl bZ n:=by
 induction s with
 |nil=>grind
 |cons b s ih=>
  grind [pL,List.mem_cons_self,bZ]
theorem Gk (d:Nat) (h:d<=9):kL d=[UInt8.ofNat (48+d)]:=by grind [kL,LF]
theorem NQ (n:Nat) (h:9<n) (h2:n<=99):kL n=[UInt8.ofNat (48+n / 10),UInt8.ofNat (48+n % 10)]:=by
 grind [kL,mO]
theorem Pq (n:Nat) (h:99<n) (h2:n<=999):kL n=[UInt8.ofNat (48+n / 100),UInt8.ofNat (48+n / 10 % 10),UInt8.ofNat (48+n % 10)]:=by
 grind [kL,mO]
theorem XN {p:Bs} (h1:1<=p.length) (hd:dN p=p.length):0<=(bo p).1/\(bo p).1<=1099511627776:=by
 have hdd:∀b∈p,dD b=true:=xi (by omega);rw[Ml (A7.1 h1) hdd];simp_all[IJ]
theorem Cf {p:Bs} (h1:1<=p.length) (hd:dN p=p.length) (h2:(bo p).1<=255):(decide (1<p.length)&&p.head? ==some 48)=false↔(p.length<=3/\kL (bo p).1.toNat=p):=by
 have hdd:∀b∈p,dD b=true:=xi (by omega);rw[Ml (A7.1 h1) hdd]at h2⊢;simp only at h2⊢;have e48:∀b:UInt8,b=48↔nB b=48:=fun b=>⟨fun h=>by rw[h];rfl,fun h=>pS (h.trans rfl)⟩
 match p,h1 with
 |[a],_=>
  obtain⟨d,d9,hb⟩:=nK (hdd a (by simp));grind [nH,Gk,uZ]
 |[a,b],_=>
  obtain⟨d,d9,hb⟩:=nK (hdd a (by simp));obtain⟨d2,d29,hb2⟩:=nK (hdd b (by simp));simp only[Bb,List.foldl_nil,nH hb d9 (Eg 0) (by omega)];rw[nH hb2 d29 (by omega) (by omega),show(((0:Int)*10+(d:Int))*10+(d2:Int)).toNat=d*10+d2 by omega];grind [Gk,NQ,uZ]
 |[a,b,c],_=>
  obtain⟨d,d9,hb⟩:=nK (hdd a (by simp));obtain⟨d2,d29,hb2⟩:=nK (hdd b (by simp));obtain⟨d3,d39,hb3⟩:=nK (hdd c (by simp));simp only[Bb,List.foldl_nil,nH hb d9 (Eg 0) (by omega)];rw[nH hb2 d29 (by omega) (by omega),nH hb3 d39 (by omega) (by omega),show((((0:Int)*10+(d:Int))*10+(d2:Int))*10+(d3:Int)).toNat=d*100+d2*10+d3 by omega];by_cases hz:d=0
  . grind [Gk,NQ]
  . have:a≠48:=by grind
    rw[Pq _ (by omega) (by omega),show(d*100+d2*10+d3) / 100=d by omega,show(d*100+d2*10+d3) / 10 % 10=d2 by omega,show(d*100+d2*10+d3) % 10=d3 by omega,uZ hb,uZ hb2,uZ hb3];grind
 |a::b::c::e::s,_=>
  obtain⟨d,d9,hb⟩:=nK (hdd a (by simp));obtain⟨d2,d29,hb2⟩:=nK (hdd b (by simp));obtain⟨d3,d39,hb3⟩:=nK (hdd c (by simp));obtain⟨d4,d49,hb4⟩:=nK (hdd e (by simp));have hz:d=0:=by
    apply Decidable.byContradiction;intro hz;simp only[Bb,nH hb d9 (Eg 0) (by omega)]at h2;rw[nH hb2 d29 (by omega) (by omega),nH hb3 d39 (by omega) (by omega),nH hb4 d49 (by omega) (by omega)]at h2;have:=YH s (fun x hx=>hdd x (by grind)) (((((0:Int)*10+(d:Int))*10+(d2:Int))*10+(d3:Int))*10+(d4:Int)) (by omega) (by omega);omega
  grind
theorem JT {s:Bs} {x:Nat} (h:x<(splitB s 46).length) (hp:gU (splitB s 46)[x]=false):fx s=false:=by
 grind [fx]
theorem xl {s:Bs} {x:Nat} (h:x<(splitB s 46).length):((splitB s 46)[x]).length<=s.length:=Sq s 46 _ (AN h)
theorem qzq:CO nA (fS fx):=bR (cfg:=fun y=>bC mg (cT nA 5 (p7 y))) bu (fun _=>rfl) (fun _=>sM) (n:=400) (by
 rw[ZS];intro s hpre;have hpre:s.length<=100000:=hpre;have hsl:=zZ s 46;refine⟨(s,46),rfl,rfl,hpre,ai.2 ⟨fun h=>?_,fun h=>⟨⟨0,⟨by simp,fun j h hj=>by omega⟩,⟨rfl,rfl,rfl,trivial⟩,trivial,trivial⟩,?_⟩⟩⟩
 . grind [fx]
 have h4:(splitB s 46).length=4:=by
   grind
 rintro x ⟨hx,hall⟩;refine ai.2 ⟨fun hlt=>az.2 ⟨_,eA (cP hlt),?_⟩,fun hge=>⟨?_,trivial⟩⟩
 . have hx':=cP hlt;have hpl:=xl hx';have next:gU (splitB s 46)[x]=true->ck (bD Go.IntKind.i64 (↑x+1)) (∃(y_4:Nat),(y_4<=(splitB s 46).length/\ ∀(j:Nat) (h:j<(splitB s 46).length),j<y_4->gU (splitB s 46)[j]=true)/\(p7 s).μ y_4<(p7 s).μ x/\(SV.bh Bs (splitB s 46) kV=SV.bh Bs (splitB s 46) kV/\ax (Int.ofNat (splitB s 46).length) (Int.ofNat (splitB s 46).length)/\ax (↑x+1) ↑y_4/\True)/\True/\True):=by
     intro hp;refine ah.2 ⟨cW x (by omega),x+1,⟨hx',pO hall hx' hp⟩,?_,⟨rfl,rfl,by omega,trivial⟩,trivial,trivial⟩;show(splitB s 46).length - (x+1)<(splitB s 46).length - x
     omega
   generalize hpe:(splitB s 46)[x]=p at*
   have fail:gU p=false->false=fx s:=fun h=>(JT hx' (by rw[hpe];exact h)).symm
   refine⟨p,rfl,by omega,ai.2 ⟨fun h1=>⟨fail ?_,trivial⟩,fun h1=>⟨p,rfl,by omega,ai.2 ⟨fun h2=>⟨fail ?_,trivial⟩,fun h2=>ai.2 ⟨fun h3=>⟨fail ?_,trivial⟩,fun h3=>ai.2 ⟨fun h5=>?_,fun h5=>next ?_⟩⟩⟩⟩⟩⟩
   . have:p=[]:=by grind
     subst this;rfl
   . have:=cP h2;grind [gU]
   . rw[ch,Aa]at h3;grind [gU]
   all_goals (have hp0:p≠[]:=by simpa using h1)
   all_goals (have hd:dN p=p.length:=by have:=jK h2;have:=xz p;simp only[Ah]at*;omega)
   all_goals (have h255:(bo p).1<=255:=by rw[ch,Ai]at h3;omega)
   . rw [ch,Aa,Ah]at h5;have hpl1:1<p.length:=by omega
     refine az.2 ⟨p[0],by grind,ai.2 ⟨fun h6=>⟨fail ?_,trivial⟩,fun h6=>next ?_⟩⟩
     . have:p.head? =some 48:=by
        rw[BW,Ag (by omega)];congr 1
        exact pS (by grind [nB])
       grind [gU]
     . have:¬p.head? =some 48:=by
        rw[BW,Ag (by omega)];intro e;simp_all
       grind [gU]
   grind [ch,gU]
 . unfold fx;rw[pN hall (jK hge)];grind)
theorem X1:CO ny (fS fx):=bR (cfg:=fun y=>bC mg (cT ny 5 (x5 y))) bu (fun _=>rfl) (fun _=>sM) (n:=400) (by
 rw[YU];intro s hpre;have hpre:s.length<=100000:=hpre;refine⟨(s,46),rfl,rfl,hpre,ai.2 ⟨fun h=>?_,fun h=>⟨⟨0,⟨by simp,fun j h hj=>by omega⟩,⟨rfl,rfl,trivial⟩,trivial,trivial⟩,?_⟩⟩⟩
 . grind [fx]
 have h4:(splitB s 46).length=4:=by
   grind
 rintro x ⟨hx,hall⟩;refine ai.2 ⟨fun hlt=>?_,fun hge=>⟨?_,trivial⟩⟩
 . have hx':x<(splitB s 46).length:=by rw[ch,Aa]at hlt;omega
   have hpl:=xl hx';have hget:(splitB s 46)[Int.toNat (x:Int)]? =some (splitB s 46)[x]:=eA hx';have next:=pO hall hx';generalize hpe:(splitB s 46)[x]=p at*
   have fail:gU p=false->false=fx s:=fun h=>(JT hx' (by rw[hpe];exact h)).symm
   refine az.2 ⟨p,hget,ai.2 ⟨fun h1=>⟨fail ?_,trivial⟩,fun h1=>az.2 ⟨p,hget,ai.2 ⟨fun h2=>⟨fail ?_,trivial⟩,fun h2=>az.2 ⟨p,hget,az.2 ⟨p,hget,p,rfl,by omega,ai.2 ⟨fun h3=>⟨fail ?_,trivial⟩,fun h3=>az.2 ⟨p,hget,p,rfl,by omega,ai.2 ⟨fun h5=>⟨fail ?_,trivial⟩,fun h5=>az.2 ⟨p,hget,(bo p).1.toNat,?_,?_,ai.2 ⟨fun h6=>⟨fail ?_,trivial⟩,fun h6=>ah.2 ⟨cW x (by omega),x+1,⟨by omega,next ?_⟩,?_,⟨rfl,by omega,trivial⟩,trivial,trivial⟩⟩⟩⟩⟩⟩⟩⟩⟩⟩⟩⟩
   . rw[ch,Aa,Ah]at h1;have:p=[]:=AL (by omega);subst this;rfl
   all_goals (have hp1:1<=p.length:=by rw[ch,Ai,Ah]at h1;omega)
   . rw[ch,Aa,Ah]at h2;rw[Ao];grind [gU,Cf]
   . have h3':¬dN p=p.length:=by
      grind
     grind [gU]
   all_goals (have hd:dN p=p.length:=by simp only[Bool.not_eq_false',BD,Ah]at h3;omega)
   all_goals (have hnn:=XN hp1 hd)
   . rw[ch,Aa]at h5;grind [gU]
   . omega
   . omega
   all_goals (have h255:(bo p).1<=255:=by rw[ch,Ai]at h5;omega)
   . rw[Ao];grind [gU,Cf]
   . have hl3:p.length<=3:=by rw[ch,Ai,Ah]at h2;omega
     have ht:kL (bo p).1.toNat=p:=by grind
     have:=(Cf hp1 hd h255).2 ⟨hl3,ht⟩;grind [gU]
   . show 4 - (x+1)<4 - x
     omega
 . unfold fx;rw[ch,Ai]at hge;rw[pN hall (by rw[h4,Ah];omega)];grind)
theorem Mu {b:UInt8} {P Q:Prop} (hp:cS b=true->P) (hq:cS b=false->Q):
  br (bO 48 (Int.ofNat (UInt8.toNat b))) (br (bO (Int.ofNat (UInt8.toNat b)) 57) P (br (bO 97 (Int.ofNat (UInt8.toNat b))) (br (bO (Int.ofNat (UInt8.toNat b)) 102) P (br (Int.ofNat (UInt8.toNat b)==58) P (br (!Int.ofNat (UInt8.toNat b)==46) Q P))) (br (Int.ofNat (UInt8.toNat b)==58) P (br (!Int.ofNat (UInt8.toNat b)==46) Q P))))
   (br (bO 97 (Int.ofNat (UInt8.toNat b))) (br (bO (Int.ofNat (UInt8.toNat b)) 102) P (br (Int.ofNat (UInt8.toNat b)==58) P (br (!Int.ofNat (UInt8.toNat b)==46) Q P))) (br (Int.ofNat (UInt8.toNat b)==58) P (br (!Int.ofNat (UInt8.toNat b)==46) Q P))):=by
 rw[My];have e:cS b=((bO 48 (nB b)&&bO (nB b) 57)||(bO 97 (nB b)&&bO (nB b) 102)||(nB b==58)||(nB b==46)):=by
  simp only[ed];rfl
 rw[e]at hp hq;generalize bO 48 (nB b)=a1 at*
 generalize bO (nB b) 57=a2 at*
 generalize bO 97 (nB b)=a3 at*
 generalize bO (nB b) 102=a4 at*
 generalize (nB b==58)=a5 at*
 generalize (nB b==46)=a6 at*
 cases a1<;>cases a2<;>cases a3<;>cases a4<;>cases a5<;>cases a6<;>simp_all[br]
theorem K4 {s:Bs} (h4:4<=s.length):s.head? =some (s[0]'(by omega))/\s.getLast? =some (s[s.length - 1]'(by omega)):=by
 rw[BW,DB];grind
theorem Yh {s:Bs} {j:Nat} (h:j<((s.drop 1).take (s.length - 2)).length):((s.drop 1).take (s.length - 2))[j]=s[j+1]'(by grind):=by
 rw[D7,BR];grind
theorem IW {s:Bs} (h:s.length<4):fi s=false:=by
 grind [fi]
theorem J2 {s:Bs} (h:47<s.length):fi s=false:=by
 grind [fi]
theorem ic {b:UInt8} {n:UInt8}:(Int.ofNat b.toNat==nB n)=true↔b=n:=by
 constructor
 . intro h;exact pS (by grind [nB])
 grind [nB]
theorem IV {s:Bs} (h4:4<=s.length) (h:(!Int.ofNat (UInt8.toNat (s[0]'(by omega)))==91)=true):fi s=false:=by
 have:s[0]'(by omega)≠91:=by
  intro e;rw[A0]at h;rw[show(91:Int)=nB 91 from rfl,ic.2 e]at h
  cases h
 grind [fi,K4]
theorem JB {s:Bs} (h4:4<=s.length) (h:(!Int.ofNat (UInt8.toNat (s[s.length - 1]'(by omega)))==93)=true):fi s=false:=by
 have:s[s.length - 1]'(by omega)≠93:=by
  intro e;rw[A0]at h;rw[show(93:Int)=nB 93 from rfl,ic.2 e]at h
  cases h
 grind [fi]
theorem J3 {s:Bs} (h4:4<=s.length) (h47:s.length<=47) (h1:(!Int.ofNat (UInt8.toNat (s[0]'(by omega)))==91)=false) (h2:(!Int.ofNat (UInt8.toNat (s[s.length - 1]'(by omega)))==93)=false):fi s=((s.drop 1).take (s.length - 2)).all cS:=by
 have e1:s[0]'(by omega)=91:=ic.1 (by grind [nB]);have e2:s[s.length - 1]'(by omega)=93:=ic.1 (by grind [nB]);grind [fi,K4]
theorem Yn:CO mY (fS fi):=bR (cfg:=fun y=>bC mg (cT mY 4 (ik y))) bu (fun _=>rfl) (fun _=>sM) (n:=400) (by
 rw[YR];intro s hpre;have hpre:s.length<=100000:=hpre;refine ai.2 ⟨fun h=>⟨(IW (by rw[ch,Aa,Ah]at h;omega)).symm,trivial⟩,fun h=>ai.2 ⟨fun h2=>⟨(J2 (by rw[ch,Aa,Ah]at h2;omega)).symm,trivial⟩,fun h2=>?_⟩⟩;have h4:4<=s.length:=by rw[ch,Ai,Ah]at h;omega
 have h47:s.length<=47:=by rw[ch,Ai,Ah]at h2;omega
 have hi:Int.toNat (Int.ofNat s.length - 1)=s.length - 1:=by rw[Ah];omega
 have hr:bD Go.IntKind.i64 (Int.ofNat s.length - 1)=true:=by rw[hZ,Ah];omega
 have hn:nn (Int.ofNat s.length - 1)=true:=by rw[mP,Aa,Ah];omega
 rw[hi];refine az.2 ⟨s[0]'(by omega),by grind,ai.2 ⟨fun h5=>⟨(IV h4 h5).symm,trivial⟩,fun h5=>ah.2 ⟨hr,ah.2 ⟨hn,az.2 ⟨s[s.length - 1]'(by omega),by grind,ai.2 ⟨fun h6=>⟨(JB h4 h6).symm,trivial⟩,fun h6=>ah.2 ⟨hr,ah.2 ⟨hn,ah.2 ⟨by simp;omega,⟨0,⟨by simp,fun j h hj=>by omega⟩,⟨?_,?_,rfl,trivial⟩,trivial,trivial⟩,?_⟩⟩⟩⟩⟩⟩⟩⟩⟩
 . rw[show s.length - 1 - Int.toNat 1=s.length - 2 by omega];rfl
 . rw[show s.length - 1 - Int.toNat 1=s.length - 2 by omega];rfl
 have hb:=J3 h4 h47 h5 h6;rintro x ⟨hx,hall⟩;refine ai.2 ⟨fun hlt=>az.2 ⟨_,eA (cP hlt),Mu (fun hh=>ah.2 ⟨cW x (by have:=cP hlt;grind),x+1,⟨cP hlt,pO hall (cP hlt) hh⟩,?_,⟨rfl,rfl,by omega,trivial⟩,trivial,trivial⟩) (fun hh=>⟨?_,trivial⟩)⟩,fun hge=>⟨?_,trivial⟩⟩
 . have:=cP hlt;show((s.drop 1).take (s.length - 2)).length - (x+1)<((s.drop 1).take (s.length - 2)).length - x
   omega
 . rw[hb,CY (cP hlt) hh]
 . rw[hb,pN hall (jK hge)])
theorem Xt:CO mU (fS fi):=bR (cfg:=fun y=>bC bU (cT mU 4 (iq y))) bu (fun _=>rfl) (fun _=>gn) (n:=400) (by
 rw[Xj];intro s hpre;have hpre:s.length<=100000:=hpre;refine ai.2 ⟨fun h=>⟨(IW (by rw[ch,Aa,Ah]at h;omega)).symm,trivial⟩,fun h=>ai.2 ⟨fun h2=>⟨(J2 (by rw[ch,Aa,Ah]at h2;omega)).symm,trivial⟩,fun h2=>?_⟩⟩;have h4:4<=s.length:=by rw[ch,Ai,Ah]at h;omega
 have h47:s.length<=47:=by rw[ch,Ai,Ah]at h2;omega
 have hi:Int.toNat (Int.ofNat s.length - 1)=s.length - 1:=by rw[Ah];omega
 have hr:bD Go.IntKind.i64 (Int.ofNat s.length - 1)=true:=by rw[hZ,Ah];omega
 have hn:nn (Int.ofNat s.length - 1)=true:=by rw[mP,Aa,Ah];omega
 rw[hi];refine az.2 ⟨s[0]'(by omega),by grind,ai.2 ⟨fun h5=>⟨(IV h4 h5).symm,trivial⟩,fun h5=>ah.2 ⟨hr,ah.2 ⟨hn,az.2 ⟨s[s.length - 1]'(by omega),by grind,ai.2 ⟨fun h6=>⟨(JB h4 h6).symm,trivial⟩,fun h6=>⟨⟨1,⟨by omega,by omega,fun j h h1 hj=>by omega⟩,⟨rfl,rfl,trivial⟩,trivial,trivial⟩,?_⟩⟩⟩⟩⟩⟩⟩;have hb:=J3 h4 h47 h5 h6;rintro x ⟨hx1,hx,hall⟩;refine ah.2 ⟨hr,ai.2 ⟨fun hlt=>?_,fun hge=>⟨?_,trivial⟩⟩⟩
 . have hlt':x+1<s.length:=by rw[ch,Aa,Ah]at hlt;omega
   refine az.2 ⟨s[x],eA (by omega),Mu (fun hh=>ah.2 ⟨cW x (by omega),x+1,⟨by omega,by omega,fun j hj h1 hjx=>?_⟩,?_,⟨rfl,by omega,trivial⟩,trivial,trivial⟩) (fun hh=>⟨?_,trivial⟩)⟩
   . grind
   . show s.length - (x+1)<s.length - x
     omega
   . have hl:x - 1<((s.drop 1).take (s.length - 2)).length:=by grind
     rw[hb,CY hl (by rw[Yh hl];grind)]
 grind [ch,List.getElem_of_mem])
theorem xv:∀g C,pY g=some C->CO g C:=bM X3 (bM Xy (bM qzq (bM X1 (bM Yn (bM Xt sM)))))
theorem qze:CO rK (fS gy):=bR (cfg:=fun y=>bC pY (cV y)) bu (fun _=>rfl) (fun _=>xv) (n:=400) (by
 rw[qzV];grind [ai,gy])
theorem Yk:CO rH (fS gy):=bR (cfg:=fun y=>bC pY (cV y)) bu (fun _=>rfl) (fun _=>xv) (n:=400) (by
 rw[YQ];grind [ai,gy])
theorem Lo {s:Bs} (h:256<s.length):dQ s=false:=by
 grind [dQ]
theorem Cr {s:Bs} (h:fx s=true):dQ s=false:=by
 grind [dQ]
theorem Jp {s:Bs} (h:fi s=true):dQ s=false:=by
 unfold fi at h;simp only[Ac,BD]at h;have h1:=h.1.1.2
 cases s with
 |nil=>grind
 | cons b s=>
  simp only[List.head?_cons,Bo]at h1;subst h1;have:(splitB (91::s) 46).all fa=false:=by
   have hs:splitB (91::s) 46=(match splitB s 46 with|h::t=>(91::h)::t|[]=>[[91]]):=by
    rw[splitB];rw[An (by decide)];grind
   rw[hs];have hl:∀h:Bs,fa (91::h)=false:=fun h=>IK (s:=91::h) (x:=0) (by simp) (by simp[iu,nB])
   grind
  grind [dQ]
theorem Kb {s:Bs} {x:Nat} (h:x<(splitB s 46).length) (hp:fa (splitB s 46)[x]=false):dQ s=false:=by
 grind [dQ]
theorem Ka {s:Bs} (h1:s.length<=256) (h2:fx s=false):dQ s=(splitB s 46).all fa:=by
 grind [dQ]
theorem Y3:CO nv (fS dQ):=bR (cfg:=fun y=>bC pY (cT nv 5 (x7 y))) bu (fun _=>rfl) (fun _=>xv) (n:=400) (by
 rw[YW];intro s hpre;have hpre:s.length<=100000:=hpre;have hsl:=zZ s 46;refine ai.2 ⟨fun h=>⟨(Lo (by rw[ch,Aa,Ah]at h;omega)).symm,trivial⟩,fun h=>⟨s,rfl,hpre,ai.2 ⟨fun h2=>⟨(Cr h2).symm,trivial⟩,fun h2=>⟨(s,46),rfl,rfl,hpre,⟨0,⟨by simp,fun j h hj=>by omega⟩,⟨rfl,rfl,trivial⟩,trivial,trivial⟩,?_⟩⟩⟩⟩;have h256:s.length<=256:=by rw[ch,Ai,Ah]at h;omega
 rintro x ⟨hx,hall⟩;refine ai.2 ⟨fun hlt=>az.2 ⟨_,eA (cP hlt),_,rfl,?_,ai.2 ⟨fun hh=>⟨(Kb (cP hlt) (by grind)).symm,trivial⟩,fun hh=>ah.2 ⟨cW x (by have:=cP hlt;omega),x+1,⟨cP hlt,pO hall (cP hlt) (by grind)⟩,?_,⟨rfl,by omega,trivial⟩,trivial,trivial⟩⟩⟩,fun hge=>⟨?_,trivial⟩⟩
 . have:=xl (cP hlt);omega
 . have:=cP hlt;show(splitB s 46).length - (x+1)<(splitB s 46).length - x
   omega
 . rw[Ka h256 h2,pN hall (jK hge)])
theorem Le:∀g C,yp g=some C->CO g C:=bM qze (bM Yk (bM Y3 xv))
theorem qzy:CO nC (fS dQ):=bR (cfg:=fun y=>bC yp (cT nC 4 (yx y))) bu (fun _=>rfl) (fun _=>Le) (n:=400) (by
 rw[ZW];intro s hpre;have hpre:s.length<=100000:=hpre;have hsl:=zZ s 46;refine ai.2 ⟨fun h=>⟨(Lo (by rw[ch,Aa,Ah]at h;omega)).symm,trivial⟩,fun h=>⟨s,rfl,hpre,ai.2 ⟨fun h2=>⟨?_,trivial⟩,fun h2=>⟨(s,46),rfl,rfl,hpre,⟨0,⟨by simp,fun j h hj=>by omega⟩,⟨rfl,rfl,rfl,trivial⟩,trivial,trivial⟩,?_⟩⟩⟩⟩
 . grind [gy,Cr,Jp]
 have h256:s.length<=256:=by rw[ch,Ai,Ah]at h;omega
 have h3:fx s=false:=by grind [gy]
 rintro x ⟨hx,hall⟩;refine ai.2 ⟨fun hlt=>az.2 ⟨_,eA (cP hlt),_,rfl,?_,ai.2 ⟨fun hh=>⟨(Kb (cP hlt) (by grind)).symm,trivial⟩,fun hh=>ah.2 ⟨cW x (by have:=cP hlt;omega),x+1,⟨cP hlt,pO hall (cP hlt) (by grind)⟩,?_,⟨rfl,rfl,by omega,trivial⟩,trivial,trivial⟩⟩⟩,fun hge=>⟨?_,trivial⟩⟩
 . have:=xl (cP hlt);omega
 . have:=cP hlt;show(splitB s 46).length - (x+1)<(splitB s 46).length - x
   omega
 . rw[Ka h256 h3,pN hall (jK hge)])
theorem XD:CO Gz sS:=bR (cfg:=fun y=>bC bU (cV y)) bu (fun _=>rfl) (fun _=>gn) (n:=400) (by
 rw[WK];rintro⟨s,t⟩ _;refine ai.2 ⟨fun h=>ah.2 ⟨?_,?_,trivial⟩,fun h=>⟨?_,trivial⟩⟩
 . rw[ed,Aa]at h;simp_all
 all_goals grind [ed])
theorem C8:∀g C,tz g=some C->CO g C:=bM qzy (bM XD Le)
theorem Vn:CO ry sS:=bR (cfg:=fun y=>bC tz (cV y)) bu (fun _=>rfl) (fun _=>C8) (n:=400) (by
 rw[VK];simp_all)
theorem Xz:CO rQ E5:=bR (cfg:=fun y=>bC tz (cV y)) bu (fun _=>rfl) (fun _=>C8) (n:=400) (by
 rw[Xo];intro s hpre;refine⟨s,rfl,hpre,ai.2 ⟨fun h=>⟨?_,trivial⟩,fun h=>⟨(s,46),rfl,rfl,hpre,?_,trivial⟩⟩⟩
 all_goals grind)
theorem Lf:∀g C,yq g=some C->CO g C:=bM Xz (bM Vn C8)
theorem wP (s:Bs):bK 0 (Int.ofNat (if dQ s=true then splitB s 46 else[]).length)=dQ s:=by
 have:=A7.2 (Kp s 46);rw[ch,Ah];grind
theorem Y6:CO rL Fw:=bR (cfg:=fun y=>bC yq (cV y)) bu (fun _=>rfl) (fun _=>Lf) (n:=400) (by
 rw[YX];intro s hpre;have hpre:s.length<=100000:=hpre;refine⟨(s,[42,46]),rfl,rfl,⟨hpre,by simp⟩,ai.2 ⟨fun h=>?_,fun h=>⟨(s,[33]),rfl,rfl,⟨hpre,by simp⟩,ai.2 ⟨fun h2=>?_,fun h2=>?_⟩⟩⟩⟩
 . have h':s.take 2=[42,46]:=by grind
   have hl:2<=s.length:=by have:=Aj List.length h';grind
   have hr:gz s=(s.drop 2,true,false):=by grind [gz]
   have hi:jV s=dQ (s.drop 2):=by unfold jV;rw[hr];simp
   refine ah.2 ⟨by simp_all,s.drop 2,rfl,by simp;omega,ai.2 ⟨fun h3=>?_,fun h3=>?_⟩⟩
   all_goals grind [wP]
 . have h0:¬s.take 2=[42,46]:=by grind
   have h':s.take 1=[33]:=by simpa using h2
   have hl:1<=s.length:=by have:=Aj List.length h';grind
   have hr:gz s=(s.drop 1,false,true):=by unfold gz;rw[An h0,Al h']
   have hi:jV s=(dQ (s.drop 1)&&decide (1<(splitB (s.drop 1) 46).length)):=by unfold jV;rw[hr];simp
   refine ah.2 ⟨by simp;omega,s.drop 1,rfl,by simp;omega,ai.2 ⟨fun h3=>?_,fun h3=>?_⟩⟩
   . rw[wP]at h3;rw[hr,hi,h3,Al rfl];refine⟨rfl,rfl,rfl,?_,trivial⟩;rw[ch,AA];simp;omega
   . rw[wP]at h3;rw[hr,hi,h3];exact⟨rfl,rfl,rfl,rfl,trivial⟩
 grind [gz,jV,ai,wP])
theorem Lg:∀g C,yr g=some C->CO g C:=bM Y6 Lf
theorem Xv:CO nf E3:=bR (cfg:=fun y=>bC yr (cT nf 4 (xQ y))) bu (fun _=>rfl) (fun _=>Lg) (n:=400) (by
 rw[Xl];rintro l ⟨hpre,hs⟩;refine ai.2 ⟨fun h=>⟨?_,trivial⟩,fun h=>⟨⟨0,⟨by simp,fun j h hj=>by omega⟩,⟨rfl,rfl,rfl,trivial⟩,trivial,trivial⟩,?_⟩⟩
 . rw[ch,Aa,Ah]at h;grind [oZ]
 have h256:¬256<l.length:=by rw[ch,Ai,Ah]at h;omega
 rintro x ⟨hx,hall⟩;refine ai.2 ⟨fun hlt=>az.2 ⟨_,eA (cP hlt),_,rfl,hs _ (AN _),ai.2 ⟨fun hh=>⟨?_,trivial⟩,fun hh=>ah.2 ⟨cW x (by omega),x+1,⟨cP hlt,pO hall (cP hlt) (by grind)⟩,?_,⟨rfl,rfl,by omega,trivial⟩,trivial,trivial⟩⟩⟩,fun hge=>⟨?_,trivial⟩⟩
 . grind [oZ]
 . have:=cP hlt;show l.length - (x+1)<l.length - x
   omega
 . unfold oZ;rw[An h256,pN hall (jK hge)];grind)
theorem Vq:∀g C,Nn g=some C->CO g C:=bM Xv Lg
end
end Go.Proofs
namespace Go.Proofs.YtcnemjkdbaicnaaGreat.fetchTouches
open Go.ChangeShapes Go.WideShapes Go.ChangeAt Go.RowKit
theorem j0:Rows.fetchTouchesRow.wf (OpenSpec.ofChange Rows.fetchTouchesSpec)=true:=by kernel_rfl
theorem j1:laidOutB Tryz.prog=true:=by kernel_rfl
theorem j2:mapsRowed Tryz.prog=true:=by kernel_rfl
theorem j3:Tryz.f6.params.all (Tryz.prog.readableRec ·)=true:=by kernel_rfl
theorem j4:namedTie Tryz.prog Rows.fetchTouchesRow.named Rows.fetchTouchesSpec.vars=true:=by kernel_rfl
theorem j5:(Rows.fetchTouchesRow.stops==[])=true:=by kernel_rfl
theorem j6:(Tryz.prog.stops==[])=true:=by kernel_rfl
theorem j7:(Rows.fetchTouchesRow.knobs==[])=true:=by kernel_rfl
theorem j8:(Tryz.prog.stopKnobs==[])=true:=by kernel_rfl
theorem N0:(Rows.fetchTouchesRow.maps==(Tryz.f6.params.toList++Rows.fetchTouchesSpec.plain.varTypes Tryz.prog).any (Tryz.prog.mapsRec ·))=true:=by kernel_rfl
theorem N1:(Rows.fetchTouchesRow.ifaces==(Tryz.f6.params.toList++Rows.fetchTouchesSpec.plain.varTypes Tryz.prog).any (Tryz.prog.ifacesRec ·))=true:=by kernel_rfl
theorem N2:(Rows.fetchTouchesRow.mapsOut==Tryz.prog.mapsAmong Tryz.f6.resultTypes.toList)=true:=by kernel_rfl
theorem N3:(Rows.fetchTouchesRow.loops==(Tryz.f6.params.toList++Rows.fetchTouchesSpec.plain.varTypes Tryz.prog).any (Tryz.prog.loopsFrom ·))=true:=by kernel_rfl
theorem N4:(Rows.fetchTouchesRow.wideKeys==(Tryz.f6.params.toList++Rows.fetchTouchesSpec.plain.varTypes Tryz.prog++Tryz.f6.resultTypes.toList).any (Tryz.prog.wideKeysFrom ·))=true:=by kernel_rfl
theorem zm:Rows.fetchTouchesSpec.vars.all (Tryz.prog.varReadable ·)=true:=by kernel_rfl
theorem N5:Tryz.f6.resultTypes.all (fun t=>Tryz.prog.readableRec t&&decide (t<Tryz.prog.types.size))=true:=by kernel_rfl
theorem N6:(Rows.fetchTouchesRow.ifacesOut==Tryz.f6.resultTypes.toList.any (Tryz.prog.ifacesRec ·))=true:=by kernel_rfl
theorem N7:(Rows.fetchTouchesRow.loopsOut==Tryz.f6.resultTypes.toList.any (Tryz.prog.loopsFrom ·))=true:=by kernel_rfl
theorem N8:(Rows.fetchTouchesRow.plainKeys==Tryz.prog.plainKeys)=true:=by kernel_rfl
theorem N9:Rows.fetchTouchesRow.shortTexts.isNone=true:=by kernel_rfl
theorem Oa:Tryz.prog.stopsHeard=true:=by kernel_rfl
theorem Ob:Tryz.prog.mayEnter=true:=by kernel_rfl
theorem Oc:(Rows.fetchTouchesRow.lifted==Tryz.prog.liftsFinal)=true:=by kernel_rfl
theorem Od:(Tryz.prog.make==some Rows.fetchTouchesRow.make)=true:=by kernel_rfl
theorem Oe:(Rows.fetchTouchesRow.kinds==(if Rows.fetchTouchesRow.domain.isEmpty then[]else Tryz.f6.params.toList.map fun t=>match Tryz.prog.underlying t with|some (.int k)=>some k|_=>none))=true:=by kernel_rfl
theorem Of:(Rows.fetchTouchesRow.pinned==Rows.fetchTouchesRow.pinnedBy)=true:=by kernel_rfl
theorem Og:(Rows.fetchTouchesRow.veiled==(Tryz.f6.params.toList++Rows.fetchTouchesSpec.plain.varTypes Tryz.prog++Tryz.f6.resultTypes.toList).any (Tryz.prog.veiledRec ·))=true:=by kernel_rfl
theorem Oh:Rows.fetchTouchesRow.veiledFits Tryz.prog Tryz.f6.params.toList (Tryz.f6.params.toList++Rows.fetchTouchesSpec.plain.varTypes Tryz.prog++Tryz.f6.resultTypes.toList)=true:=by kernel_rfl
theorem j9:(Rows.fetchTouchesRow.inPlace==Tryz.prog.inPlace 6)=true:=by kernel_rfl
theorem NX:(Rows.fetchTouchesRow.unfollowed==Tryz.prog.unfollowed 6)=true:=by kernel_rfl
theorem NY:(Rows.fetchTouchesRow.recurses==Tryz.prog.recurses 6)=true:=by kernel_rfl
theorem NZ:(Rows.fetchTouchesRow.named==Tryz.prog.varsNamed 6)=true:=by kernel_rfl
end Go.Proofs.YtcnemjkdbaicnaaGreat.fetchTouches
