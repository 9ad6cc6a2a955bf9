/- Part 5: an evaluator, proved sound, and its use at this seat; no condition. -/
import Derived.KernelRfl
import Derived.Test.YtcnemjkdbaicnaaGreatRows
import Derived.WalkKit
import Derived.ProofKit
import Derived.OpenShut
import Derived.Test.YtcnemjkdbaicnaaGreatP1
import Derived.Test.YtcnemjkdbaicnaaGreatP2
import Derived.Test.YtcnemjkdbaicnaaGreatP4
set_option linter.unusedSimpArgs false
set_option linter.unusedVariables false
set_option linter.unusedSectionVars false
set_option linter.deprecated false
set_option maxRecDepth 100000
set_option maxHeartbeats 4000000
namespace Go.Proofs
open Go Go.Am Go.RowKit
section
variable [Inhabited aK]
theorem Tryz.uw:Tryz.tab.fns.get 198=some Tryz.f198:=by kernel_rfl
theorem Uk:Extern.findNext Tryz.f198=none:=by kernel_rfl
theorem Ub:Extern.find Tryz.f198=some (mK 2 Tryz.f198):=by kernel_rfl
theorem Tryz.ux:Tryz.tab.fns.get 199=some Tryz.f199:=by kernel_rfl
theorem Ul:Extern.findNext Tryz.f199=none:=by kernel_rfl
theorem Uc:Extern.find Tryz.f199=some (mK 3 Tryz.f199):=by kernel_rfl
theorem Tryz.uy:Tryz.tab.fns.get 252=some Tryz.f252:=by kernel_rfl
theorem Um:Extern.findNext Tryz.f252=none:=by kernel_rfl
theorem Ud:Extern.find Tryz.f252=some (mK 1 Tryz.f252):=by kernel_rfl
theorem Tryz.uz:Tryz.tab.fns.get 268=some Tryz.f268:=by kernel_rfl
theorem Un:Extern.findNext Tryz.f268=none:=by kernel_rfl
theorem Ue:Extern.find Tryz.f268=some (mK 5 Tryz.f268):=by kernel_rfl
theorem Uz:gX Tryz.prog Tryz.tab:=Tk [(198,2),(199,3),(252,1),(268,5)] rfl (by
 intro x hx;simp only[Ap,BG,Dm]at hx;rcases hx with rfl|rfl|rfl|rfl
 . exact⟨_,Tryz.uw,Uk,Ub⟩
 . exact⟨_,Tryz.ux,Ul,Uc⟩
 . exact⟨_,Tryz.uy,Um,Ud⟩
 . exact⟨_,Tryz.uz,Un,Ue⟩)
theorem Tryz.mix:Tryz.prog.follows .mixedOrders=true:=by kernel_rfl
theorem bh:Go.Sy.gx Tryz.prog Tryz.tab:=⟨Tryz.kO,Rt Tryz.kO Uz,Tryz.mix⟩
end
end Go.Proofs
namespace Go.Proofs
open Go Go.Am Go.RowKit Go.Sy
section
variable [Inhabited aK]
abbrev CO (f:FuncId) (C:aL):Prop:=Go.Sy.cI  Tryz.prog Tryz.tab f C
theorem eX:∀g C,bu g=some C->CO g C:=fun _ _ h=>by cases h
theorem cj (i:Nat) (h:i<1000000000):bw .i64 ((i:Int)+1)=true:=by rw[fT];omega
theorem PH (b:UInt8):Int.ofNat b.toNat=nB b:=rfl
theorem qvs (b:UInt8):0<=nB b/\nB b<=255:=by
 have:=b.toNat_lt;grind [nB]
theorem NL {s:Bs} {c:Int} {i:Nat} (h:i<s.length) (h1:nB s[i]=c) (h2:∀(j:Nat) (h:j<s.length),j<i->nB s[j]=c->False):gT s c=i:=by
 have:dB s c=some i:=fp.2 ⟨h,h1,fun j hj=>h2 j (by omega) hj⟩;grind [gT]
theorem ZI {s:Bs} {c:Int} (h2:∀(j:Nat) (h:j<s.length),nB s[j]=c->False):gT s c= -1:=by
 have:dB s c=none:=jA.2 h2;grind [gT]
theorem L6 (s:Bs) (c:Int) (i:Nat) (hall:∀(j:Nat) (h:j<s.length),j<i->nB s[j]=c->False) (hi:i<=s.length) (h:¬(i:Int)<Int.ofNat s.length):gT s c= -1:=
 ZI fun j hj=>hall j hj (by grind)
theorem Q4:CO nU tS:=bB (cfg:=fun y=>bI bu (cu nU 3 (zB y))) bh (fun _=>rfl) (fun _=>eX) (n:=400) (by
 rw[RU];rintro⟨s,c⟩ hpre;simp only at hpre;refine⟨⟨0,⟨by simp,fun j h hj=>by omega⟩,⟨rfl,rfl,rfl,rfl,rfl,trivial⟩,trivial,trivial⟩,?_⟩;rintro i ⟨hi,hall⟩;simp only[ah,aj,ae,bM,Aa,Ah,DK]at hi hall⊢;refine⟨fun hlt=>?_,fun hge=>(L6 s c i hall hi hge).symm⟩;have hlt':i<s.length:=by grind
 refine⟨s[i],by grind,fun h1=>(NL hlt' (by grind [nB]) hall).symm,fun h1=>⟨cj i (by omega),i+1,⟨by omega,fun j h hj he=>?_⟩,?_,by grind⟩⟩
 . grind [nB]
 . show s.length - (i+1)<s.length - i
   omega)
theorem qyx:CO nW tS:=bB (cfg:=fun y=>bI bu (cu nW 2 (y5 y))) bh (fun _=>rfl) (fun _=>eX) (n:=400) (by
 rw[qzp];rintro⟨s,c⟩ hpre;simp only at hpre;refine⟨⟨0,⟨by simp,fun j h hj=>by omega⟩,⟨rfl,rfl,rfl,trivial⟩,trivial,trivial⟩,?_⟩;rintro i ⟨hi,hall⟩;simp only[ah,aj,ae,bM,Aa,Ah,DK]at hi hall⊢;refine⟨fun hlt=>?_,fun hge=>(L6 s c i hall hi hge).symm⟩;have hlt':i<s.length:=by grind
 refine⟨s[i],by grind,fun h1=>(NL hlt' (by grind [nB]) hall).symm,fun h1=>⟨cj i (by omega),i+1,⟨by omega,fun j h hj he=>?_⟩,?_,by grind⟩⟩
 . grind [nB]
 . show s.length - (i+1)<s.length - i
   omega)
theorem N0:∀g C,zX g=some C->CO g C:=bg Q4 ti
theorem xO (s:Bs) (c:Int):(∃i,dB s c=some i/\gT s c=(i:Int)/\i<s.length)\/(dB s c=none/\gT s c= -1):=by
 grind [gT,fp]
theorem Sz:CO CM qP:=bB (cfg:=fun y=>bI zX (cR y)) bh (fun _=>rfl) (fun _=>N0) (n:=400) (by
 rw[Se];rintro⟨s,c⟩ hpre;refine⟨(s,c),rfl,rfl,hpre,?_⟩;simp only at hpre⊢;rcases xO s c with⟨i,h1,h2,h3⟩|⟨h1,h2⟩
 all_goals grind [ah,ae,eN,bM,kt,Nat.ble_eq,cj])
theorem N1:∀g C,zY g=some C->CO g C:=bg Sz N0
theorem qy1:CO nP tE:=bB (cfg:=fun y=>bI zY (cu nP 2 (zb y))) bh (fun _=>rfl) (fun _=>N1) (n:=400) (by
 rw[qzB];rintro⟨s,c⟩ hpre;simp only at hpre;refine⟨⟨(s,[]),⟨by simp,by simp⟩,⟨rfl,rfl,trivial,trivial⟩,⟨⟨rfl,fun _=>rfl⟩,trivial⟩,trivial⟩,?_⟩;rintro⟨t,l⟩ ⟨h1,h2⟩;simp only at h1 h2;refine⟨(t,c),rfl,rfl,by grind,(eN t c).1,rfl,?_⟩;simp only[ah,ae];refine⟨by simp;omega,fun h=>⟨?_,trivial⟩,fun h=>⟨((eN t c).2.1,l++[(eN t c).1]),⟨?_,?_⟩,?_,by grind⟩⟩
 . have h3:=vi t c;grind [eN]
 . have h3:=vi t c;grind [eN]
 . grind [eN,fp]
 . show(eN t c).2.1.length<t.length
   grind [eN,fp])
theorem R7:CO Ir qQ:=bB (cfg:=fun y=>bI bu (cR y)) bh (fun _=>rfl) (fun _=>eX) (n:=400) (by
 rw[Sf];grind [ah,fg,dK])
theorem N2:∀g C,zZ g=some C->CO g C:=bg qy1 (bg R7 N1)
theorem QX:CO nG tR:=bB (cfg:=fun y=>bI zZ (cu nG 2 (zJ y))) bh (fun _=>rfl) (fun _=>N2) (n:=400) (by
 rw[RT];intro s hpre;refine⟨⟨0,by simp,⟨rfl,rfl,trivial⟩,trivial,trivial⟩,?_⟩;intro i hi;have hle:=yw s;simp only[ah,aj,ae,bM,Aa,Ah,DK];refine⟨fun hlt=>?_,fun hge=>?_⟩
 . have hlt':i<s.length:=by grind
   refine⟨s[i],by grind,s[i],rfl,trivial,fun h=>⟨cj i (by omega),i+1,?_,?_,by grind⟩,fun h=>?_⟩
   . grind [Gj]
   . show s.length - (i+1)<s.length - i
     omega
   grind [MT]
 grind)
theorem Nd (n:Int) (h: -9223372036854775808<=n/\n<=9223372036854775807):Go.IntKind.wrap Go.IntKind.i64 n=n:=by rw[IntKind.wrap_i64];omega
theorem OK {b:UInt8} (h:dK b=true):Go.IntKind.wrap Go.IntKind.i64 (Go.IntKind.wrap Go.IntKind.u8 (Int.ofNat (UInt8.toNat b) - 48))=nB b - 48/\Go.IntKind.wrap Go.IntKind.i64 (Int.ofNat (UInt8.toNat b))=nB b/\0<=nB b - 48/\nB b - 48<=9:=by
 rw[qk]at h;rw[PH];have h1:Go.IntKind.wrap Go.IntKind.u8 (nB b - 48)=nB b - 48:=by grind [IntKind.wrap,IntKind.bits]
 rw[h1,Nd _ (by omega),Nd _ (by omega)];omega
theorem fold_succ (s:Bs) (x:Nat) (h:x<s.length):(s.take (x+1)).foldl cy 0=cy ((s.take x).foldl cy 0) s[x]:=by
 rw[Aw h,List.foldl_append];rfl
theorem M3 (s:Bs) (h:∀b∈s,dK b=true) (x:Nat):0<=(s.take x).foldl cy 0/\(s.take x).foldl cy 0<=1099511627776:=
 Lo _ (fun b hb=>h b (EG hb)) 0 (by omega) (by omega)
theorem G7 {y:Bs} (hne:az y≠[]) (hd:∀b∈az y,dK b=true):bJ y=((if cQ y then -1 else 1)*(az y).foldl cy 0,true):=by
 have h1:¬dT (az y)<(az y).length:=by
  intro h;have h2:=Gj h;rw[hd _ (AF h)]at h2
  cases h2
 grind [bJ]
theorem tI {y:Bs} (h:az y=[]\/dT (az y)<(az y).length):bJ y=(0,false):=by
 grind [bJ]
theorem On (y t:Bs) (K:Int) (ht:t=az y) (hK:K=if cQ y=true then -1 else 1) (hne:az y≠[]) (hd:∀b∈az y,dK b=true) (hl:(az y).length<=1000000):((∃(x:Nat),
      (x<=List.length (az y)/\ ∀(b:UInt8),b∈az y->dK b=Bool.true)/\
      (t=az y/\
      aq K (if cQ y=Bool.true then -1 else 1)/\
      aq 0 (List.foldl cy 0 (List.take x (az y)))/\
      aq (Int.ofNat (List.length t)) (Int.ofNat (List.length (az y)))/\aq 0 ↑x/\True)/\
      True/\True)/\
      ∀(x:Nat),
      (x<=List.length (az y)/\ ∀(b:UInt8),b∈az y->dK b=Bool.true)->
      br (aZ (↑x) (Int.ofNat (List.length (az y))))
      (ck (bw Go.IntKind.i64 (List.foldl cy 0 (List.take x (az y))*10))
      (so (az y)[Int.toNat ↑x]? fun(val:UInt8)=>
      ck
      (bw Go.IntKind.i64
      (List.foldl cy 0 (List.take x (az y))*10+
      Go.IntKind.wrap Go.IntKind.i64 (Go.IntKind.wrap Go.IntKind.u8 (Int.ofNat (UInt8.toNat val) - 48))))
      (ck (bw Go.IntKind.i64 (↑x+1))
      (∃(y_2:Nat),
      (y_2<=List.length (az y)/\ ∀(b:UInt8),b∈az y->dK b=Bool.true)/\
      aJ.μ (js y) y_2<aJ.μ (js y) x/\
      (az y=az y/\
      aq (if cQ y=Bool.true then -1 else 1) (if cQ y=Bool.true then -1 else 1)/\
      aq
      (if
      1099511627776<
      List.foldl cy 0 (List.take x (az y))*10+
      Go.IntKind.wrap Go.IntKind.i64 (Go.IntKind.wrap Go.IntKind.u8 (Int.ofNat (UInt8.toNat val) - 48))then
      1099511627776
      else
      List.foldl cy 0 (List.take x (az y))*10+
      Go.IntKind.wrap Go.IntKind.i64 (Go.IntKind.wrap Go.IntKind.u8 (Int.ofNat (UInt8.toNat val) - 48)))
      (List.foldl cy 0 (List.take y_2 (az y)))/\
      aq (Int.ofNat (List.length (az y))) (Int.ofNat (List.length (az y)))/\
      aq (↑x+1) ↑y_2/\True)/\
      True/\True))))
      (ck
      (bw Go.IntKind.i64 ((if cQ y=Bool.true then -1 else 1)*List.foldl cy 0 (List.take x (az y))))
      (aq ((if cQ y=Bool.true then -1 else 1)*List.foldl cy 0 (List.take x (az y)))
      (Prod.fst (bJ y))/\
      Bool.true=Prod.snd (bJ y)/\True))):=by
 refine⟨⟨0,⟨by simp,hd⟩,⟨ht,hK,by grind,by rw[ht],by omega,trivial⟩,trivial,trivial⟩,?_⟩;rintro x ⟨hx,_⟩;obtain⟨r1,r2⟩:=M3 _ hd x;simp only[ah,aj,ae,bM,Aa,Ah,DK];refine⟨fun hlt=>?_,fun hge=>?_⟩
 . have hlt':x<(az y).length:=by grind
   obtain⟨d1,_,d3,d4⟩:=OK (hd _ (AF hlt'));refine⟨by rw[fT];omega,(az y)[x],by grind,?_,cj x (by omega),x+1,⟨by omega,hd⟩,?_,?_⟩
   . rw[d1,fT];omega
   . show(az y).length - (x+1)<(az y).length - x
     omega
   grind [fold_succ,cy]
 grind [G7,fT]
theorem Ml (y:Bs) (K:Int) (hK:K=Int.ofNat (cw y)) (hne:az y≠[]) (hd:∀b∈az y,dK b=true) (hl:y.length<=1000000):((∃(x:Nat),
     (cw y<=x/\x<=List.length y/\ ∀(b:UInt8),b∈az y->dK b=Bool.true)/\
     (y=y/\
     aq K (Int.ofNat (cw y))/\
     aq 0 (List.foldl cy 0 (List.take (x - cw y) (az y)))/\aq K ↑x/\True)/\
     True/\True)/\
     ∀(x:Nat),
     (cw y<=x/\x<=List.length y/\ ∀(b:UInt8),b∈az y->dK b=Bool.true)->
     br (aZ (↑x) (Int.ofNat (List.length y)))
     (ck (bw Go.IntKind.i64 (List.foldl cy 0 (List.take (x - cw y) (az y))*10))
     (so y[Int.toNat ↑x]? fun(val:UInt8)=>
     ck
     (bw Go.IntKind.i64
     (List.foldl cy 0 (List.take (x - cw y) (az y))*10+
     Go.IntKind.wrap Go.IntKind.i64 (Int.ofNat (UInt8.toNat val))))
     (ck
     (bw Go.IntKind.i64
     (List.foldl cy 0 (List.take (x - cw y) (az y))*10+
     Go.IntKind.wrap Go.IntKind.i64 (Int.ofNat (UInt8.toNat val)) -
     48))
     (br
     (aZ 1099511627776
     (List.foldl cy 0 (List.take (x - cw y) (az y))*10+
     Go.IntKind.wrap Go.IntKind.i64 (Int.ofNat (UInt8.toNat val)) -
     48))
     (ck (bw Go.IntKind.i64 (↑x+1))
     (∃(y_2:Nat),
     (cw y<=y_2/\y_2<=List.length y/\ ∀(b:UInt8),b∈az y->dK b=Bool.true)/\
     aJ.μ (jH y) y_2<aJ.μ (jH y) x/\
     (y=y/\
     aq (Int.ofNat (cw y)) (Int.ofNat (cw y))/\
     aq 1099511627776 (List.foldl cy 0 (List.take (y_2 - cw y) (az y)))/\
     aq (↑x+1) ↑y_2/\True)/\
     True/\True))
     (ck (bw Go.IntKind.i64 (↑x+1))
     (∃(y_2:Nat),
     (cw y<=y_2/\y_2<=List.length y/\ ∀(b:UInt8),b∈az y->dK b=Bool.true)/\
     aJ.μ (jH y) y_2<aJ.μ (jH y) x/\
     (y=y/\
     aq (Int.ofNat (cw y)) (Int.ofNat (cw y))/\
     aq
     (List.foldl cy 0 (List.take (x - cw y) (az y))*10+
     Go.IntKind.wrap Go.IntKind.i64 (Int.ofNat (UInt8.toNat val)) -
     48)
     (List.foldl cy 0 (List.take (y_2 - cw y) (az y)))/\
     aq (↑x+1) ↑y_2/\True)/\
     True/\True))))))
     (br (Int.ofNat (cw y)==1)
     (ck (bw Go.IntKind.i64 (0 - List.foldl cy 0 (List.take (x - cw y) (az y))))
     (aq (0 - List.foldl cy 0 (List.take (x - cw y) (az y))) (Prod.fst (bJ y))/\
     Bool.true=Prod.snd (bJ y)/\True))
     (aq (List.foldl cy 0 (List.take (x - cw y) (az y))) (Prod.fst (bJ y))/\
     Bool.true=Prod.snd (bJ y)/\True))):=by
 have hlen:(az y).length=y.length - cw y:=by grind [az,cw]
 have hpos:0<(az y).length:=A4.2 hne;have hget:∀x (h:x<y.length),cw y<=x->y[x]=(az y)[x - cw y]'(by omega):=by
   grind [az]
 refine⟨⟨cw y,⟨Ac _,by omega,hd⟩,⟨rfl,hK,by grind,by omega,trivial⟩,trivial,trivial⟩,?_⟩;rintro x ⟨hx0,hx,_⟩;obtain⟨r1,r2⟩:=M3 _ hd (x - cw y);simp only[ah,aj,ae,bM,Aa,Ah,DK];refine⟨fun hlt=>?_,fun hge=>?_⟩
 . have hlt':x<y.length:=by grind
   have hg:=hget x hlt' hx0;have hdx:dK y[x]=true:=by rw[hg];grind
   obtain⟨_,d1,d3,d4⟩:=OK hdx;have hs:List.foldl cy 0 (List.take (x+1 - cw y) (az y))=cy (List.foldl cy 0 (List.take (x - cw y) (az y))) y[x]:=by
    rw[show x+1 - cw y=(x - cw y)+1 by omega,fold_succ _ _ (by omega),hg]
   have hm:aJ.μ (jH y) (x+1)<aJ.μ (jH y) x:=by
    show y.length - (x+1)<y.length - x
    omega
   refine⟨by rw[fT];omega,y[x],by grind,?_,?_,fun h1=>⟨cj x (by omega),x+1,⟨by omega,by omega,hd⟩,hm,?_⟩,fun h1=>⟨cj x (by omega),x+1,⟨by omega,by omega,hd⟩,hm,?_⟩⟩
   all_goals grind [fT,cy]
 grind [az,G7,fT]
theorem qyu:CO nK tR:=bB (cfg:=fun y=>bI bu (cu nK 3 (mF y))) bh (fun _=>rfl) (fun _=>eX) (n:=400) (by
 rw[qzn];intro s hpre;refine⟨⟨0,by simp,⟨rfl,by grind,rfl,trivial⟩,trivial,trivial⟩,?_⟩;intro i hi;have hle:=yw s;simp only[ah,aj,ae,bM,fg,Aa,Ah,DK];refine⟨fun hlt=>?_,fun hge=>?_⟩
 . have hlt':i<s.length:=by grind
   have hm:aJ.μ (mF s) (i+1)<aJ.μ (mF s) i:=by
     show s.length - (i+1)<s.length - i
     omega
   have no:dK s[i]=false->dT s<=i:=by
     grind [MT]
   have step:∀(n:Int),n=Int.ofNat (min (i+1) (dT s))->n=Int.ofNat (min (i+1) (dT s)):=fun _ h=>h
   refine⟨fun hq=>⟨s[i],by grind,fun h1=>⟨s[i],by grind,fun h2=>⟨by rw[fT];grind,cj i (by omega),i+1,by omega,hm,trivial,?_,by omega⟩,fun h2=>⟨cj i (by omega),i+1,by omega,hm,trivial,?_,by omega⟩⟩,fun h1=>⟨cj i (by omega),i+1,by omega,hm,trivial,?_,by omega⟩⟩,fun hq=>⟨cj i (by omega),i+1,by omega,hm,trivial,?_,by omega⟩⟩
   . have hd:dK s[i]=true:=by rw[qk];exact⟨h1,h2⟩
     have:¬dT s<=i:=by
      grind [Gj]
     grind
   . have hd:dK s[i]=false:=by rw[Ar];intro h;rw[qk]at h;exact h2 h.2
     have:=no hd;grind
   . have hd:dK s[i]=false:=by rw[Ar];intro h;rw[qk]at h;exact h1 h.1
     have:=no hd;grind
   grind
 grind)
theorem Wb {s:Bs} {c:Int} {a i:Nat} (hai:a<=i) (h:i<s.length) (h1:nB s[i]=c) (h2:∀(j:Nat) (h:j<s.length),a<=j->j<i->nB s[j]=c->False):splitB (s.drop a) c=(s.drop a).take (i - a)::splitB (s.drop (i+1)) c:=by
 have hp:dB (s.drop a) c=some (i - a):=fp.2 ⟨by grind,by rw[B0];grind,fun j hj=>by
  rw[B0];grind⟩
 rw[vi,hp];grind [List.drop_drop]
theorem Wc {s:Bs} {c:Int} {a:Nat} (h2:∀(j:Nat) (h:j<s.length),a<=j->nB s[j]=c->False):splitB (s.drop a) c=[s.drop a]:=by
 have hp:dB (s.drop a) c=none:=jA.2 (fun j hj=>by
  rw[B0];grind)
 rw[vi,hp]
theorem qvS:CO nR tE:=bB (cfg:=fun y=>bI bu (cu nR 4 (tu y))) bh (fun _=>rfl) (fun _=>eX) (n:=400) (by
 rw[qwt];rintro⟨s,c⟩ hpre;simp only at hpre;refine⟨⟨(0,0,[]),⟨by simp,by simp,by simp,by simp,fun j h _ hj=>by grind⟩,⟨rfl,rfl,trivial,rfl,rfl,trivial⟩,⟨rfl,trivial⟩,trivial⟩,?_⟩;rintro⟨a,i,l⟩ ⟨h1,h2,h3,h4,h5⟩;simp only at h1 h2 h3 h4 h5;simp only[ah,aj,ae,bM,Aa,Ah,DK,Da];refine⟨fun hlt=>?_,fun hge=>?_⟩
 . have hlt':i<s.length:=by grind
   refine⟨s[i],by grind,fun hc=>?_,fun hc=>⟨cj i (by omega),(a,i+1,l),⟨by grind,by grind,h3,h4,fun j hj ha hji he=>?_⟩,?_,by grind⟩⟩
   . have hc':nB s[i]=c:=by grind [nB]
     have hs:=Wb h1 hlt' hc' h5;refine⟨by simp_all,_,rfl,by simp;omega,cj i (by omega),cj i (by omega),(i+1,i+1,l++[(s.drop a).take (i - a)]),⟨by simp,by grind,?_,by grind,fun j hj ha hji=>by grind⟩,?_,by grind⟩
     . rw[h3,hs];simp
     . show s.length - (i+1)<s.length - i
       omega
   . grind [nB]
   . show s.length - (i+1)<s.length - i
     omega
 . have he:i=s.length:=by grind
   subst he;refine⟨by simp_all,_,rfl,by simp;omega,?_⟩;rw[h3,Wc (fun j hj ha=>h5 j hj ha hj)])
theorem sY {y:Bs} (h:cQ y=true):az y=y.drop 1:=by grind [az]
theorem vE {y:Bs} (h:cQ y=false):az y=y:=by grind [az]
theorem oz {b:UInt8} {y:Bs}:cQ (b::y)=(Int.ofNat b.toNat==45):=rfl
theorem xL {y:Bs} (h:¬(↑(dT y):Int)<Int.ofNat y.length):∀b∈y,dK b=true:=xZ (by grind)
theorem F3:∀g C,tV g=some C->CO g C:=bg QX (bg qyu N2)
theorem R9:CO nH lU:=bB (cfg:=fun y=>bI tV (cu nH 8 (js y))) bh (fun _=>rfl) (fun _=>F3) (n:=400) (by
 rw[Sg];intro y hpre
 cases y with
 |nil=>
  have hn:bJ []=(0,false):=rfl;grind [ah]
 |cons b s=>
  refine ah.2 ⟨fun _=>aj.2 ⟨b,rfl,ah.2 ⟨fun hb=>ae.2 ⟨by simp,ah.2 ⟨fun h=>?_,fun h=>⟨s,rfl,by grind,ah.2 ⟨fun hd=>?_,fun hd=>?_⟩⟩⟩⟩,fun hb=>ah.2 ⟨fun h=>by grind,fun _=>⟨b::s,rfl,hpre,ah.2 ⟨fun hd=>?_,fun hd=>?_⟩⟩⟩⟩⟩,fun h=>by grind⟩
  . have hg:cQ (b::s)=true:=by rw[oz];exact hb
    have he:az (b::s)=[]:=by rw[sY hg];grind
    rw[tI (.inl he)];grind
  . have hg:cQ (b::s)=true:=by rw[oz];exact hb
    rw[bM,Aa]at hd;rw[tI (.inr (by rw[sY hg];grind))];grind
  . have hg:cQ (b::s)=true:=by rw[oz];exact hb
    rw[bM,Ah]at hd;have ha:=sY hg;exact On _ _ _ ha.symm (by rw[An hg]) (by rw[ha];grind) (by rw[ha];grind [xL]) (by rw[ha];grind)
  . have hg:cQ (b::s)=false:=by rw[oz];exact hb
    rw[bM,Aa]at hd;rw[tI (.inr (by rw[vE hg];grind))];grind
  . have hg:cQ (b::s)=false:=by rw[oz];exact hb
    rw[bM,Ah]at hd;have ha:=vE hg;exact On _ _ _ ha.symm (by rw[Al (by grind)]) (by rw[ha];simp) (by rw[ha];grind [xL]) (by rw[ha];omega))
theorem Rh:CO nL lU:=bB (cfg:=fun y=>bI tV (cu nL 8 (jH y))) bh (fun _=>rfl) (fun _=>F3) (n:=400) (by
 rw[R0];intro y hpre
 cases y with
 |nil=>
  have hn:bJ []=(0,false):=rfl;grind [ah,bM]
 |cons b s=>
  have hbig:s.length+1<=1000000:=by omega
  have hln:Int.ofNat (b::s).length=(s.length:Int)+1:=by simp
  rw[hln];refine ah.2 ⟨fun _=>aj.2 ⟨b,rfl,ah.2 ⟨fun hb=>ah.2 ⟨fun h=>?_,fun h=>ae.2 ⟨by simp,s,rfl,by omega,ae.2 ⟨by rw[fT];omega,ah.2 ⟨fun hd=>?_,fun hd=>?_⟩⟩⟩⟩,fun hb=>ah.2 ⟨fun h=>by grind,fun _=>⟨b::s,rfl,hpre,ae.2 ⟨by rw[fT];omega,ah.2 ⟨fun hd=>?_,fun hd=>?_⟩⟩⟩⟩⟩⟩,fun h=>by rw[bM]at h;simp at h<;>omega⟩
  . have hg:cQ (b::s)=true:=by rw[oz];exact hb
    have hs:s=[]:=by simp at h;exact Ay (by omega)
    rw[tI (.inl (by rw[sY hg];grind))];grind
  . have hg:cQ (b::s)=true:=by rw[oz];exact hb
    rw[bM,Aa]at hd;rw[tI (.inr (by rw[sY hg];grind))];grind
  . have hg:cQ (b::s)=true:=by rw[oz];exact hb
    rw[bM,Ah]at hd;have ha:=sY hg;have:=Ml (b::s) 1 (by grind [cw]) (by rw[ha];grind) (by rw[ha];grind [xL]) hpre;rw[hln]at this;omega
  . have hg:cQ (b::s)=false:=by rw[oz];exact hb
    rw[bM,Aa]at hd;rw[tI (.inr (by rw[vE hg];grind))];grind
  . have hg:cQ (b::s)=false:=by rw[oz];exact hb
    rw[bM,Ah]at hd;have ha:=vE hg;have:=Ml (b::s) 0 (by grind [cw]) (by rw[ha];simp) (by rw[ha];exact xL (by omega)) hpre;rw[hln]at this;omega)
theorem Od (k n:Nat) (h:n<=9):nv (k+1) n=[UInt8.ofNat (48+n)]:=by grind [nv]
theorem QM:CO nX Hy:=bB (cfg:=fun y=>bI bu (cu nX 6 (zD y))) bh (fun _=>rfl) (fun _=>eX) (n:=400) (by
 rw[RC];intro n hpre;have hpre:n<=1099511627776:=hpre;refine⟨⟨(30,n,[]),⟨by simp,by simp,by simp[kY],by simp,?_,Ac _⟩,⟨rfl,rfl,trivial⟩,trivial,trivial⟩,?_⟩
 . grind
 rintro⟨k,m,s⟩ ⟨h1,h2,h3,h4,h5,h6⟩;simp only at h1 h2 h3 h4 h5 h6;have wr:∀d:Nat,d<=9->[SV.int Go.IntKind.u8 (Go.IntKind.wrap Go.IntKind.u8 (48+(d:Int)))]=rM [UInt8.ofNat (48+d)]:=by
   intro d hd;have:Go.IntKind.wrap Go.IntKind.u8 (48+(d:Int))=Int.ofNat (UInt8.ofNat (48+d)).toNat:=by
    grind [IntKind.wrap,IntKind.bits,UInt8.toNat_ofNat']
   rw[this];rfl
 have hk:9<m->1<=k:=by
   grind
 have tm:Int.tmod (m:Int) 10=((m % 10:Nat):Int):=rfl;have td:Int.tdiv (m:Int) 10=((m / 10:Nat):Int):=rfl;simp only[tm,td];refine ah.2 ⟨fun h=>ae.2 ⟨?_,[UInt8.ofNat (48+m % 10)],wr _ (by omega),ae.2 ⟨by simp;omega,ae.2 ⟨?_,(k - 1,m / 10,UInt8.ofNat (48+m % 10)::s),⟨by omega,?_,?_,?_,?_,?_⟩,?_,⟨rfl,rfl,trivial⟩,trivial,trivial⟩⟩⟩,fun h=>ae.2 ⟨?_,[UInt8.ofNat (48+m)],wr _ ?_,ae.2 ⟨by simp;omega,?_,trivial⟩⟩⟩
 . rw[fT];omega
 . rw[fT];omega
 all_goals (simp only[bM,Aa,Ah]at h)
 . have:=hk (by omega);grind
 . have:=hk (by omega);rw[h3,show 10+k=(10+(k - 1))+1 by omega];have hm:¬m<=9:=by omega
   grind [nv]
 . have:=hk (by omega);grind
 . have:=hk (by omega);grind
 . grind
 . show m / 10<m
   omega
 all_goals grind [fT,Od])
theorem N3:∀g C,HA g=some C->CO g C:=bg R9 (bg Rh (bg qyx (bg qvS (bg QM F3))))
end
section
variable [Inhabited aK]
def Hn:aL:={Y:=UInt8×Bool,pre:=fun _=>True,args:=fun y=>[.int .u8 (nB y.1), .bool y.2],res:=fun y=> .bool (gW (nB y.1) y.2)}
def Ia:aL:={Y:=UInt8,pre:=fun _=>True,args:=fun y=>[.int .u8 (nB y)],res:=fun y=> .bool (iD y)}
def fF (p:Bs->Bool):aL:={Y:=Bs,pre:=fun y=>y.length<=100000,args:=fun y=>[.str y],res:=fun y=> .bool (p y)}
def qv (y:Bs):aJ:={α:=Nat,ok:=fun i=>i<=y.length/\ ∀j (h:j<y.length),j<i->gW (nB y[j]) (j==0||j==y.length - 1)=true,μ:=fun i=>y.length - i,aV:=[],aO:=fun i=>[(0, .str y),(12,i64 (Int.ofNat y.length)),(13,i64 i)],bm:=fun _=>[]}
def qy (y:Bs):aJ:={α:=Nat,ok:=fun i=>i<=(splitB y 46).length/\ ∀j (h:j<(splitB y 46).length),j<i->iw (splitB y 46)[j]=true,μ:=fun i=>(splitB y 46).length - i,aV:=[],aO:=fun i=>[(13,strs (splitB y 46)),(14,i64 (Int.ofNat (splitB y 46).length)),(15,i64 i)],bm:=fun _=>[]}
def iF (y:Bs):aJ:=let l:=(y.drop 1).take (y.length - 2);{α:=Nat,ok:=fun i=>i<=l.length/\ ∀j (h:j<l.length),j<i->dh l[j]=true,μ:=fun i=>l.length - i,aV:=[],aO:=fun i=>[(31, .bn UInt8 l de),(32,i64 (Int.ofNat l.length)),(33,i64 i)],bm:=fun _=>[]}
def iJ (y:Bs):aJ:={α:=Nat,ok:=fun i=>1<=i/\i+1<=y.length/\ ∀j (h:j<y.length),1<=j->j<i->dh y[j]=true,μ:=fun i=>y.length - i,aV:=[],aO:=fun i=>[(0, .str y),(3,i64 i)],bm:=fun _=>[]}
def zC (y:Bs):aJ:={α:=Nat,ok:=fun i=>i<=(splitB y 46).length/\ ∀j (h:j<(splitB y 46).length),j<i->eW (splitB y 46)[j]=true,μ:=fun i=>(splitB y 46).length - i,aV:=[],aO:=fun i=>[(13,strs (splitB y 46)),(14,i64 (Int.ofNat (splitB y 46).length)),(15,i64 i)],bm:=fun _=>[]}
def GM:aL:={Y:=Bs,pre:=fun y=>y.length<=100000,args:=fun y=>[.str y],res:=fun y=>strs (if dq y then splitB y 46 else[])}
def tv:aL:={Y:=Bs×Bs,pre:=fun y=>y.1.length<=100000/\y.2.length<=100000,args:=fun y=>[.str y.1, .str y.2],res:=fun y=> .bool (decide (y.1.take y.2.length=y.2))}
def Hj:aL:={Y:=Bs,pre:=fun y=>y.length<=100000,args:=fun y=>[.str y],res:=fun y=> .bO [.agg [.str (fU y).1, .bool (fU y).2.1, .bool (fU y).2.2], .bool (fu y)]}
def oD (l:List Bs):Int:=if 256<l.length then 3 else if l.all fu then 0 else 1
def GH:aL:={Y:=List Bs,pre:=fun y=>y.length<=100000/\ ∀s∈y,s.length<=100000,args:=fun y=>[strs y],res:=fun y=>i64 (oD y)}
def yI (y:List Bs):aJ:={α:=Nat,ok:=fun i=>i<=y.length/\ ∀j (h:j<y.length),j<i->fu y[j]=true,μ:=fun i=>y.length - i,aV:=[],aO:=fun i=>[(10,strs y),(11,i64 (Int.ofNat y.length)),(12,i64 i)],bm:=fun _=>[]}
def yJ (y:Bs):aJ:={α:=Nat,ok:=fun i=>i<=y.length/\ ∀j (h:j<y.length),j<i->iD y[j]=true,μ:=fun i=>y.length - i,aV:=[],aO:=fun i=>[(0, .str y),(3,i64 i)],bm:=fun _=>[]}
def y6 (y:Bs):aJ:={α:=Nat,ok:=fun i=>i<=4/\ ∀j (h:j<(splitB y 46).length),j<i->iw (splitB y 46)[j]=true,μ:=fun i=>4 - i,aV:=[],aO:=fun i=>[(3,strs (splitB y 46)),(4,i64 i)],bm:=fun _=>[]}
def y8 (y:Bs):aJ:={α:=Nat,ok:=fun i=>i<=(splitB y 46).length/\ ∀j (h:j<(splitB y 46).length),j<i->eW (splitB y 46)[j]=true,μ:=fun i=>(splitB y 46).length - i,aV:=[],aO:=fun i=>[(3,strs (splitB y 46)),(4,i64 i)],bm:=fun _=>[]}
def fH (y:Bs):Int×Bs:=if 2<y.length/\y.take 2=[42,46]then(42,y.drop 2)else if 1<y.length/\y.head? =some 33 then(33,y.drop 1)else(0,y)
def GP:aL:={Y:=Bs,pre:=fun y=>y.length<=100000,args:=fun y=>[.str y],res:=fun y=> .bO [.int .u8 (fH y).1, .str (fH y).2]}
def Hk:aL:={Y:=List Bs,pre:=fun y=>y.length<=100000/\ ∀s∈y,s.length<=100000,args:=fun y=>[strs y],res:=fun y=> .bool (y.all fu)}
def y9 (y:List Bs):aJ:={α:=Nat,ok:=fun i=>i<=y.length/\ ∀j (h:j<y.length),j<i->fu y[j]=true,μ:=fun i=>y.length - i,aV:=[],aO:=fun i=>[(0,strs y),(3,i64 i)],bm:=fun _=>[]}
noncomputable def mJ (f:FuncId):Option aL:=bif Nat.beq f CN then some Hn else bif Nat.beq f IL then some Ia else HA f
noncomputable def qD (f:FuncId):Option aL:=bif Nat.beq f nV then some (fF eW)else bif Nat.beq f nS then some (fF eW)else bif Nat.beq f od then some (fF fK)else bif Nat.beq f nZ then some (fF fK)else bif Nat.beq f nJ then some (fF ft)else bif Nat.beq f nD then some (fF ft)else mJ f
noncomputable def Ca (f:FuncId):Option aL:=bif Nat.beq f sB then some (fF gS)else bif Nat.beq f sq then some (fF gS)else bif Nat.beq f nY then some (fF dq)else qD f
noncomputable def tX (f:FuncId):Option aL:=bif Nat.beq f oe then some (fF dq)else bif Nat.beq f IY then some tv else Ca f
noncomputable def tM (f:FuncId):Option aL:=bif Nat.beq f Iu then some GM else bif Nat.beq f rY then some tv else bif Nat.beq f Iv then some GP else tX f
noncomputable def tN (f:FuncId):Option aL:=bif Nat.beq f sG then some Hj else bif Nat.beq f IM then some (fF fu)else tM f
noncomputable def Jh (f:FuncId):Option aL:=bif Nat.beq f nN then some GH else bif Nat.beq f nT then some Hk else tN f
end
section
variable [Inhabited aK]
theorem qzA:(cg (fun(y:aL.Y Hn)=>bI bu (cR y)) 400 CN)=(∀(y:UInt8×Bool),True->br (nB y.1==45) (br y.2 (false=gW (nB y.1) y.2/\True) (true=gW (nB y.1) y.2/\True)) (br (bT 97 (nB y.1)) (br (bT (nB y.1) 122) (true=gW (nB y.1) y.2/\True) (br (bT 48 (nB y.1)) (br (bT (nB y.1) 57) (true=gW (nB y.1) y.2/\True) (br (nB y.1==95) (true=gW (nB y.1) y.2/\True) (false=gW (nB y.1) y.2/\True))) (br (nB y.1==95) (true=gW (nB y.1) y.2/\True) (false=gW (nB y.1) y.2/\True)))) (br (bT 48 (nB y.1)) (br (bT (nB y.1) 57) (true=gW (nB y.1) y.2/\True) (br (nB y.1==95) (true=gW (nB y.1) y.2/\True) (false=gW (nB y.1) y.2/\True))) (br (nB y.1==95) (true=gW (nB y.1) y.2/\True) (false=gW (nB y.1) y.2/\True))))):=by kernel_rfl
theorem R6:(cg (fun(y:aL.Y Ia)=>bI bu (cR y)) 400 IL)=(∀(y:UInt8),True->br (bT 97 (nB y)) (br (bT (nB y) 122) (true=iD y/\True) (br (bT 48 (nB y)) (br (bT (nB y) 57) (true=iD y/\True) (br (nB y==45) (true=iD y/\True) ((nB y==95)=iD y/\True))) (br (nB y==45) (true=iD y/\True) ((nB y==95)=iD y/\True)))) (br (bT 48 (nB y)) (br (bT (nB y) 57) (true=iD y/\True) (br (nB y==45) (true=iD y/\True) ((nB y==95)=iD y/\True))) (br (nB y==45) (true=iD y/\True) ((nB y==95)=iD y/\True)))):=by kernel_rfl
theorem qzr:(cg (fun(y:aL.Y (fF eW))=>bI mJ (cu nV 4 (qv y))) 400 nV)=(∀(y:List UInt8),y.length<=100000->br (y==Array.toList (ByteArray.data {data:=#[]})) (false=eW y/\True) (br (aZ 63 (Int.ofNat y.length)) (false=eW y/\True) ((∃(x:Nat),(x<=y.length/\ ∀(j:Nat) (h:j<y.length),j<x->gW (nB y[j]) (j==0||j==y.length - 1)=true)/\(y=y/\aq (Int.ofNat y.length) (Int.ofNat y.length)/\aq 0 ↑x/\True)/\True/\True)/\ ∀(x:Nat),(x<=y.length/\ ∀(j:Nat) (h:j<y.length),j<x->gW (nB y[j]) (j==0||j==y.length - 1)=true)->br (aZ (↑x) (Int.ofNat y.length)) (so y[Int.toNat ↑x]? fun(val:UInt8)=>br ((↑x:Int)==0) (∃(z:UInt8×Bool),aq (Int.ofNat (UInt8.toNat val)) (nB z.1)/\true=z.2/\True/\br (!gW (nB z.1) z.2) (false=eW y/\True) (ck (bw .i64 (↑x+1)) (∃(u:Nat),(u<=y.length/\ ∀(j:Nat) (h:j<y.length),j<u->gW (nB y[j]) (j==0||j==y.length - 1)=true)/\aJ.μ (qv y) u<aJ.μ (qv y) x/\(y=y/\aq (Int.ofNat y.length) (Int.ofNat y.length)/\aq (↑x+1) ↑u/\True)/\True/\True))) (ck (bw .i64 (Int.ofNat y.length - 1)) (∃(z:UInt8×Bool),aq (Int.ofNat (UInt8.toNat val)) (nB z.1)/\((↑x:Int)==Int.ofNat y.length - 1)=z.2/\True/\br (!gW (nB z.1) z.2) (false=eW y/\True) (ck (bw .i64 (↑x+1)) (∃(u:Nat),(u<=y.length/\ ∀(j:Nat) (h:j<y.length),j<u->gW (nB y[j]) (j==0||j==y.length - 1)=true)/\aJ.μ (qv y) u<aJ.μ (qv y) x/\(y=y/\aq (Int.ofNat y.length) (Int.ofNat y.length)/\aq (↑x+1) ↑u/\True)/\True/\True))))) (true=eW y/\True)))):=by kernel_rfl
theorem qwo:(cg (fun(y:aL.Y (fF eW))=>bI mJ (cu nS 4 (yJ y))) 400 nS)=(∀(y:List UInt8),y.length<=100000->br (aZ (Int.ofNat y.length) 1) (false=eW y/\True) (br (aZ 63 (Int.ofNat y.length)) (false=eW y/\True) (so y[Int.toNat 0]? fun(val:UInt8)=>br (Int.ofNat (UInt8.toNat val)==45) (false=eW y/\True) (ck (bw .i64 (Int.ofNat y.length - 1)) (ck (nn (Int.ofNat y.length - 1)) (so y[Int.toNat (Int.ofNat y.length - 1)]? fun(val:UInt8)=>br (Int.ofNat (UInt8.toNat val)==45) (false=eW y/\True) ((∃(x:Nat),(x<=y.length/\ ∀(j:Nat) (h:j<y.length),j<x->iD y[j]=true)/\(y=y/\aq 0 ↑x/\True)/\True/\True)/\ ∀(x:Nat),(x<=y.length/\ ∀(j:Nat) (h:j<y.length),j<x->iD y[j]=true)->br (aZ (↑x) (Int.ofNat y.length)) (so y[Int.toNat ↑x]? fun(val:UInt8)=>∃(u:UInt8),aq (Int.ofNat (UInt8.toNat val)) (nB u)/\True/\br (!iD u) (false=eW y/\True) (ck (bw .i64 (↑x+1)) (∃(z:Nat),(z<=y.length/\ ∀(j:Nat) (h:j<y.length),j<z->iD y[j]=true)/\aJ.μ (yJ y) z<aJ.μ (yJ y) x/\(y=y/\aq (↑x+1) ↑z/\True)/\True/\True))) (true=eW y/\True)))))))):=by kernel_rfl
theorem RV:(cg (fun(y:aL.Y (fF fK))=>bI mJ (cu od 5 (qy y))) 400 od)=(∀(y:List UInt8),y.length<=100000->∃(z:Bs×Int),y=z.1/\aq 46 z.2/\z.1.length<=100000/\br (!Int.ofNat ((splitB z.1 z.2).length)==4) (false=fK y/\True) ((∃(x:Nat),(x<=(splitB y 46).length/\ ∀(j:Nat) (h:j<(splitB y 46).length),j<x->iw (splitB y 46)[j]=true)/\(strs (splitB z.1 z.2)=strs (splitB y 46)/\aq (Int.ofNat ((splitB z.1 z.2).length)) (Int.ofNat ((splitB y 46).length))/\aq 0 ↑x/\True)/\True/\True)/\ ∀(x:Nat),(x<=(splitB y 46).length/\ ∀(j:Nat) (h:j<(splitB y 46).length),j<x->iw (splitB y 46)[j]=true)->br (aZ (↑x) (Int.ofNat ((splitB y 46).length))) (so (splitB y 46)[Int.toNat ↑x]? fun(val:Bs)=>∃(w:List UInt8),val=w/\w.length<=1000000/\br (val==Array.toList (ByteArray.data {data:=#[]})) (false=fK y/\True) (∃(v:List UInt8),val=v/\v.length<=1000000/\br (aZ (↑(dT v)) (Int.ofNat val.length)) (false=fK y/\True) (br (aZ 255 ((bJ w).1)) (false=fK y/\True) (br (aZ 1 (Int.ofNat val.length)) (so val[Int.toNat 0]? fun(val:UInt8)=>br (Int.ofNat (UInt8.toNat val)==48) (false=fK y/\True) (ck (bw .i64 (↑x+1)) (∃(u:Nat),(u<=(splitB y 46).length/\ ∀(j:Nat) (h:j<(splitB y 46).length),j<u->iw (splitB y 46)[j]=true)/\aJ.μ (qy y) u<aJ.μ (qy y) x/\(strs (splitB y 46)=strs (splitB y 46)/\aq (Int.ofNat ((splitB y 46).length)) (Int.ofNat ((splitB y 46).length))/\aq (↑x+1) ↑u/\True)/\True/\True))) (ck (bw .i64 (↑x+1)) (∃(u:Nat),(u<=(splitB y 46).length/\ ∀(j:Nat) (h:j<(splitB y 46).length),j<u->iw (splitB y 46)[j]=true)/\aJ.μ (qy y) u<aJ.μ (qy y) x/\(strs (splitB y 46)=strs (splitB y 46)/\aq (Int.ofNat ((splitB y 46).length)) (Int.ofNat ((splitB y 46).length))/\aq (↑x+1) ↑u/\True)/\True/\True)))))) (true=fK y/\True))):=by kernel_rfl
theorem qzq:(cg (fun(y:aL.Y (fF fK))=>bI mJ (cu nZ 5 (y6 y))) 400 nZ)=(∀(y:List UInt8),y.length<=100000->∃(z:Bs×Int),y=z.1/\aq 46 z.2/\z.1.length<=100000/\br (!Int.ofNat ((splitB z.1 z.2).length)==4) (false=fK y/\True) ((∃(x:Nat),(x<=4/\ ∀(j:Nat) (h:j<(splitB y 46).length),j<x->iw (splitB y 46)[j]=true)/\(strs (splitB z.1 z.2)=strs (splitB y 46)/\aq 0 ↑x/\True)/\True/\True)/\ ∀(x:Nat),(x<=4/\ ∀(j:Nat) (h:j<(splitB y 46).length),j<x->iw (splitB y 46)[j]=true)->br (aZ (↑x) 4) (so (splitB y 46)[Int.toNat ↑x]? fun(val:Bs)=>br (aZ (Int.ofNat val.length) 1) (false=fK y/\True) (so (splitB y 46)[Int.toNat ↑x]? fun(val:Bs)=>br (aZ 3 (Int.ofNat val.length)) (false=fK y/\True) (so (splitB y 46)[Int.toNat ↑x]? fun(val:Bs)=>so (splitB y 46)[Int.toNat ↑x]? fun(b:Bs)=>∃(w:List UInt8),val=w/\w.length<=1000000/\br (!↑(dT w)==Int.ofNat b.length) (false=fK y/\True) (so (splitB y 46)[Int.toNat ↑x]? fun(val:Bs)=>∃(u:List UInt8),val=u/\u.length<=1000000/\br (aZ 255 ((bJ u).1)) (false=fK y/\True) (so (splitB y 46)[Int.toNat ↑x]? fun(val:Bs)=>∃(a:Nat),aq ((bJ u).1) ↑a/\a<=1099511627776/\br (!kY a==val) (false=fK y/\True) (ck (bw .i64 (↑x+1)) (∃(v:Nat),(v<=4/\ ∀(j:Nat) (h:j<(splitB y 46).length),j<v->iw (splitB y 46)[j]=true)/\aJ.μ (y6 y) v<aJ.μ (y6 y) x/\(strs (splitB y 46)=strs (splitB y 46)/\aq (↑x+1) ↑v/\True)/\True/\True))))))) (true=fK y/\True))):=by kernel_rfl
theorem qzm:(cg (fun(y:aL.Y (fF ft))=>bI mJ (cu nJ 4 (iF y))) 400 nJ)=(∀(y:List UInt8),y.length<=100000->br (aZ (Int.ofNat y.length) 4) (false=ft y/\True) (br (aZ 47 (Int.ofNat y.length)) (false=ft y/\True) (so y[Int.toNat 0]? fun(val:UInt8)=>br (!Int.ofNat (UInt8.toNat val)==91) (false=ft y/\True) (ck (bw .i64 (Int.ofNat y.length - 1)) (ck (nn (Int.ofNat y.length - 1)) (so y[Int.toNat (Int.ofNat y.length - 1)]? fun(val:UInt8)=>br (!Int.ofNat (UInt8.toNat val)==93) (false=ft y/\True) (ck (bw .i64 (Int.ofNat y.length - 1)) (ck (nn (Int.ofNat y.length - 1)) (ck (Nat.ble (Int.toNat 1) (Int.toNat (Int.ofNat y.length - 1))&&Nat.ble (Int.toNat (Int.ofNat y.length - 1)) y.length) ((∃(x:Nat),(x<=((y.drop 1).take (y.length - 2)).length/\ ∀(j:Nat) (h:j<((y.drop 1).take (y.length - 2)).length),j<x->dh ((y.drop 1).take (y.length - 2))[j]=true)/\(SV.bn UInt8 ((y.drop (Int.toNat 1)).take (Int.toNat (Int.ofNat y.length - 1) - Int.toNat 1)) de=SV.bn UInt8 ((y.drop 1).take (y.length - 2)) de/\aq (Int.ofNat (((y.drop (Int.toNat 1)).take (Int.toNat (Int.ofNat y.length - 1) - Int.toNat 1)).length)) (Int.ofNat (((y.drop 1).take (y.length - 2)).length))/\aq 0 ↑x/\True)/\True/\True)/\ ∀(x:Nat),(x<=((y.drop 1).take (y.length - 2)).length/\ ∀(j:Nat) (h:j<((y.drop 1).take (y.length - 2)).length),j<x->dh ((y.drop 1).take (y.length - 2))[j]=true)->br (aZ (↑x) (Int.ofNat (((y.drop 1).take (y.length - 2)).length))) (so ((y.drop 1).take (y.length - 2))[Int.toNat ↑x]? fun(val:UInt8)=>br (bT 48 (Int.ofNat (UInt8.toNat val))) (br (bT (Int.ofNat (UInt8.toNat val)) 57) (ck (bw .i64 (↑x+1)) (∃(z:Nat),(z<=((y.drop 1).take (y.length - 2)).length/\ ∀(j:Nat) (h:j<((y.drop 1).take (y.length - 2)).length),j<z->dh ((y.drop 1).take (y.length - 2))[j]=true)/\aJ.μ (iF y) z<aJ.μ (iF y) x/\(SV.bn UInt8 ((y.drop 1).take (y.length - 2)) de=SV.bn UInt8 ((y.drop 1).take (y.length - 2)) de/\aq (Int.ofNat (((y.drop 1).take (y.length - 2)).length)) (Int.ofNat (((y.drop 1).take (y.length - 2)).length))/\aq (↑x+1) ↑z/\True)/\True/\True)) (br (bT 97 (Int.ofNat (UInt8.toNat val))) (br (bT (Int.ofNat (UInt8.toNat val)) 102) (ck (bw .i64 (↑x+1)) (∃(z:Nat),(z<=((y.drop 1).take (y.length - 2)).length/\ ∀(j:Nat) (h:j<((y.drop 1).take (y.length - 2)).length),j<z->dh ((y.drop 1).take (y.length - 2))[j]=true)/\aJ.μ (iF y) z<aJ.μ (iF y) x/\(SV.bn UInt8 ((y.drop 1).take (y.length - 2)) de=SV.bn UInt8 ((y.drop 1).take (y.length - 2)) de/\aq (Int.ofNat (((y.drop 1).take (y.length - 2)).length)) (Int.ofNat (((y.drop 1).take (y.length - 2)).length))/\aq (↑x+1) ↑z/\True)/\True/\True)) (br (Int.ofNat (UInt8.toNat val)==58) (ck (bw .i64 (↑x+1)) (∃(z:Nat),(z<=((y.drop 1).take (y.length - 2)).length/\ ∀(j:Nat) (h:j<((y.drop 1).take (y.length - 2)).length),j<z->dh ((y.drop 1).take (y.length - 2))[j]=true)/\aJ.μ (iF y) z<aJ.μ (iF y) x/\(SV.bn UInt8 ((y.drop 1).take (y.length - 2)) de=SV.bn UInt8 ((y.drop 1).take (y.length - 2)) de/\aq (Int.ofNat (((y.drop 1).take (y.length - 2)).length)) (Int.ofNat (((y.drop 1).take (y.length - 2)).length))/\aq (↑x+1) ↑z/\True)/\True/\True)) (br (!Int.ofNat (UInt8.toNat val)==46) (false=ft y/\True) (ck (bw .i64 (↑x+1)) (∃(z:Nat),(z<=((y.drop 1).take (y.length - 2)).length/\ ∀(j:Nat) (h:j<((y.drop 1).take (y.length - 2)).length),j<z->dh ((y.drop 1).take (y.length - 2))[j]=true)/\aJ.μ (iF y) z<aJ.μ (iF y) x/\(SV.bn UInt8 ((y.drop 1).take (y.length - 2)) de=SV.bn UInt8 ((y.drop 1).take (y.length - 2)) de/\aq (Int.ofNat (((y.drop 1).take (y.length - 2)).length)) (Int.ofNat (((y.drop 1).take (y.length - 2)).length))/\aq (↑x+1) ↑z/\True)/\True/\True))))) (br (Int.ofNat (UInt8.toNat val)==58) (ck (bw .i64 (↑x+1)) (∃(z:Nat),(z<=((y.drop 1).take (y.length - 2)).length/\ ∀(j:Nat) (h:j<((y.drop 1).take (y.length - 2)).length),j<z->dh ((y.drop 1).take (y.length - 2))[j]=true)/\aJ.μ (iF y) z<aJ.μ (iF y) x/\(SV.bn UInt8 ((y.drop 1).take (y.length - 2)) de=SV.bn UInt8 ((y.drop 1).take (y.length - 2)) de/\aq (Int.ofNat (((y.drop 1).take (y.length - 2)).length)) (Int.ofNat (((y.drop 1).take (y.length - 2)).length))/\aq (↑x+1) ↑z/\True)/\True/\True)) (br (!Int.ofNat (UInt8.toNat val)==46) (false=ft y/\True) (ck (bw .i64 (↑x+1)) (∃(z:Nat),(z<=((y.drop 1).take (y.length - 2)).length/\ ∀(j:Nat) (h:j<((y.drop 1).take (y.length - 2)).length),j<z->dh ((y.drop 1).take (y.length - 2))[j]=true)/\aJ.μ (iF y) z<aJ.μ (iF y) x/\(SV.bn UInt8 ((y.drop 1).take (y.length - 2)) de=SV.bn UInt8 ((y.drop 1).take (y.length - 2)) de/\aq (Int.ofNat (((y.drop 1).take (y.length - 2)).length)) (Int.ofNat (((y.drop 1).take (y.length - 2)).length))/\aq (↑x+1) ↑z/\True)/\True/\True)))))) (br (bT 97 (Int.ofNat (UInt8.toNat val))) (br (bT (Int.ofNat (UInt8.toNat val)) 102) (ck (bw .i64 (↑x+1)) (∃(z:Nat),(z<=((y.drop 1).take (y.length - 2)).length/\ ∀(j:Nat) (h:j<((y.drop 1).take (y.length - 2)).length),j<z->dh ((y.drop 1).take (y.length - 2))[j]=true)/\aJ.μ (iF y) z<aJ.μ (iF y) x/\(SV.bn UInt8 ((y.drop 1).take (y.length - 2)) de=SV.bn UInt8 ((y.drop 1).take (y.length - 2)) de/\aq (Int.ofNat (((y.drop 1).take (y.length - 2)).length)) (Int.ofNat (((y.drop 1).take (y.length - 2)).length))/\aq (↑x+1) ↑z/\True)/\True/\True)) (br (Int.ofNat (UInt8.toNat val)==58) (ck (bw .i64 (↑x+1)) (∃(z:Nat),(z<=((y.drop 1).take (y.length - 2)).length/\ ∀(j:Nat) (h:j<((y.drop 1).take (y.length - 2)).length),j<z->dh ((y.drop 1).take (y.length - 2))[j]=true)/\aJ.μ (iF y) z<aJ.μ (iF y) x/\(SV.bn UInt8 ((y.drop 1).take (y.length - 2)) de=SV.bn UInt8 ((y.drop 1).take (y.length - 2)) de/\aq (Int.ofNat (((y.drop 1).take (y.length - 2)).length)) (Int.ofNat (((y.drop 1).take (y.length - 2)).length))/\aq (↑x+1) ↑z/\True)/\True/\True)) (br (!Int.ofNat (UInt8.toNat val)==46) (false=ft y/\True) (ck (bw .i64 (↑x+1)) (∃(z:Nat),(z<=((y.drop 1).take (y.length - 2)).length/\ ∀(j:Nat) (h:j<((y.drop 1).take (y.length - 2)).length),j<z->dh ((y.drop 1).take (y.length - 2))[j]=true)/\aJ.μ (iF y) z<aJ.μ (iF y) x/\(SV.bn UInt8 ((y.drop 1).take (y.length - 2)) de=SV.bn UInt8 ((y.drop 1).take (y.length - 2)) de/\aq (Int.ofNat (((y.drop 1).take (y.length - 2)).length)) (Int.ofNat (((y.drop 1).take (y.length - 2)).length))/\aq (↑x+1) ↑z/\True)/\True/\True))))) (br (Int.ofNat (UInt8.toNat val)==58) (ck (bw .i64 (↑x+1)) (∃(z:Nat),(z<=((y.drop 1).take (y.length - 2)).length/\ ∀(j:Nat) (h:j<((y.drop 1).take (y.length - 2)).length),j<z->dh ((y.drop 1).take (y.length - 2))[j]=true)/\aJ.μ (iF y) z<aJ.μ (iF y) x/\(SV.bn UInt8 ((y.drop 1).take (y.length - 2)) de=SV.bn UInt8 ((y.drop 1).take (y.length - 2)) de/\aq (Int.ofNat (((y.drop 1).take (y.length - 2)).length)) (Int.ofNat (((y.drop 1).take (y.length - 2)).length))/\aq (↑x+1) ↑z/\True)/\True/\True)) (br (!Int.ofNat (UInt8.toNat val)==46) (false=ft y/\True) (ck (bw .i64 (↑x+1)) (∃(z:Nat),(z<=((y.drop 1).take (y.length - 2)).length/\ ∀(j:Nat) (h:j<((y.drop 1).take (y.length - 2)).length),j<z->dh ((y.drop 1).take (y.length - 2))[j]=true)/\aJ.μ (iF y) z<aJ.μ (iF y) x/\(SV.bn UInt8 ((y.drop 1).take (y.length - 2)) de=SV.bn UInt8 ((y.drop 1).take (y.length - 2)) de/\aq (Int.ofNat (((y.drop 1).take (y.length - 2)).length)) (Int.ofNat (((y.drop 1).take (y.length - 2)).length))/\aq (↑x+1) ↑z/\True)/\True/\True)))))) (true=ft y/\True))))))))))):=by kernel_rfl
theorem qwk:(cg (fun(y:aL.Y (fF ft))=>bI bu (cu nD 4 (iJ y))) 400 nD)=(∀(y:List UInt8),y.length<=100000->br (aZ (Int.ofNat y.length) 4) (false=ft y/\True) (br (aZ 47 (Int.ofNat y.length)) (false=ft y/\True) (so y[Int.toNat 0]? fun(val:UInt8)=>br (!Int.ofNat (UInt8.toNat val)==91) (false=ft y/\True) (ck (bw .i64 (Int.ofNat y.length - 1)) (ck (nn (Int.ofNat y.length - 1)) (so y[Int.toNat (Int.ofNat y.length - 1)]? fun(val:UInt8)=>br (!Int.ofNat (UInt8.toNat val)==93) (false=ft y/\True) ((∃(x:Nat),(1<=x/\x+1<=y.length/\ ∀(j:Nat) (h:j<y.length),1<=j->j<x->dh y[j]=true)/\(y=y/\aq 1 ↑x/\True)/\True/\True)/\ ∀(x:Nat),(1<=x/\x+1<=y.length/\ ∀(j:Nat) (h:j<y.length),1<=j->j<x->dh y[j]=true)->ck (bw .i64 (Int.ofNat y.length - 1)) (br (aZ (↑x) (Int.ofNat y.length - 1)) (so y[Int.toNat ↑x]? fun(val:UInt8)=>br (bT 48 (Int.ofNat (UInt8.toNat val))) (br (bT (Int.ofNat (UInt8.toNat val)) 57) (ck (bw .i64 (↑x+1)) (∃(z:Nat),(1<=z/\z+1<=y.length/\ ∀(j:Nat) (h:j<y.length),1<=j->j<z->dh y[j]=true)/\aJ.μ (iJ y) z<aJ.μ (iJ y) x/\(y=y/\aq (↑x+1) ↑z/\True)/\True/\True)) (br (bT 97 (Int.ofNat (UInt8.toNat val))) (br (bT (Int.ofNat (UInt8.toNat val)) 102) (ck (bw .i64 (↑x+1)) (∃(z:Nat),(1<=z/\z+1<=y.length/\ ∀(j:Nat) (h:j<y.length),1<=j->j<z->dh y[j]=true)/\aJ.μ (iJ y) z<aJ.μ (iJ y) x/\(y=y/\aq (↑x+1) ↑z/\True)/\True/\True)) (br (Int.ofNat (UInt8.toNat val)==58) (ck (bw .i64 (↑x+1)) (∃(z:Nat),(1<=z/\z+1<=y.length/\ ∀(j:Nat) (h:j<y.length),1<=j->j<z->dh y[j]=true)/\aJ.μ (iJ y) z<aJ.μ (iJ y) x/\(y=y/\aq (↑x+1) ↑z/\True)/\True/\True)) (br (!Int.ofNat (UInt8.toNat val)==46) (false=ft y/\True) (ck (bw .i64 (↑x+1)) (∃(z:Nat),(1<=z/\z+1<=y.length/\ ∀(j:Nat) (h:j<y.length),1<=j->j<z->dh y[j]=true)/\aJ.μ (iJ y) z<aJ.μ (iJ y) x/\(y=y/\aq (↑x+1) ↑z/\True)/\True/\True))))) (br (Int.ofNat (UInt8.toNat val)==58) (ck (bw .i64 (↑x+1)) (∃(z:Nat),(1<=z/\z+1<=y.length/\ ∀(j:Nat) (h:j<y.length),1<=j->j<z->dh y[j]=true)/\aJ.μ (iJ y) z<aJ.μ (iJ y) x/\(y=y/\aq (↑x+1) ↑z/\True)/\True/\True)) (br (!Int.ofNat (UInt8.toNat val)==46) (false=ft y/\True) (ck (bw .i64 (↑x+1)) (∃(z:Nat),(1<=z/\z+1<=y.length/\ ∀(j:Nat) (h:j<y.length),1<=j->j<z->dh y[j]=true)/\aJ.μ (iJ y) z<aJ.μ (iJ y) x/\(y=y/\aq (↑x+1) ↑z/\True)/\True/\True)))))) (br (bT 97 (Int.ofNat (UInt8.toNat val))) (br (bT (Int.ofNat (UInt8.toNat val)) 102) (ck (bw .i64 (↑x+1)) (∃(z:Nat),(1<=z/\z+1<=y.length/\ ∀(j:Nat) (h:j<y.length),1<=j->j<z->dh y[j]=true)/\aJ.μ (iJ y) z<aJ.μ (iJ y) x/\(y=y/\aq (↑x+1) ↑z/\True)/\True/\True)) (br (Int.ofNat (UInt8.toNat val)==58) (ck (bw .i64 (↑x+1)) (∃(z:Nat),(1<=z/\z+1<=y.length/\ ∀(j:Nat) (h:j<y.length),1<=j->j<z->dh y[j]=true)/\aJ.μ (iJ y) z<aJ.μ (iJ y) x/\(y=y/\aq (↑x+1) ↑z/\True)/\True/\True)) (br (!Int.ofNat (UInt8.toNat val)==46) (false=ft y/\True) (ck (bw .i64 (↑x+1)) (∃(z:Nat),(1<=z/\z+1<=y.length/\ ∀(j:Nat) (h:j<y.length),1<=j->j<z->dh y[j]=true)/\aJ.μ (iJ y) z<aJ.μ (iJ y) x/\(y=y/\aq (↑x+1) ↑z/\True)/\True/\True))))) (br (Int.ofNat (UInt8.toNat val)==58) (ck (bw .i64 (↑x+1)) (∃(z:Nat),(1<=z/\z+1<=y.length/\ ∀(j:Nat) (h:j<y.length),1<=j->j<z->dh y[j]=true)/\aJ.μ (iJ y) z<aJ.μ (iJ y) x/\(y=y/\aq (↑x+1) ↑z/\True)/\True/\True)) (br (!Int.ofNat (UInt8.toNat val)==46) (false=ft y/\True) (ck (bw .i64 (↑x+1)) (∃(z:Nat),(1<=z/\z+1<=y.length/\ ∀(j:Nat) (h:j<y.length),1<=j->j<z->dh y[j]=true)/\aJ.μ (iJ y) z<aJ.μ (iJ y) x/\(y=y/\aq (↑x+1) ↑z/\True)/\True/\True)))))) (true=ft y/\True))))))))):=by kernel_rfl
theorem qzl:(cg (fun(y:aL.Y (fF gS))=>bI qD (cR y)) 400 sq)=(∀(y:List UInt8),y.length<=100000->∃(z:List UInt8),y=z/\z.length<=100000/\br (fK z) (true=gS y/\True) (∃(u:List UInt8),y=u/\u.length<=100000/\ft u=gS y/\True)):=by kernel_rfl
theorem RO:(cg (fun(y:aL.Y (fF gS))=>bI qD (cR y)) 400 sB)=(∀(y:List UInt8),y.length<=100000->∃(z:List UInt8),y=z/\z.length<=100000/\br (fK z) (true=gS y/\True) (∃(u:List UInt8),y=u/\u.length<=100000/\ft u=gS y/\True)):=by kernel_rfl
theorem RZ:(cg (fun(y:aL.Y (fF dq))=>bI Ca (cu oe 4 (zC y))) 400 oe)=(∀(y:List UInt8),y.length<=100000->br (aZ 256 (Int.ofNat y.length)) (false=dq y/\True) (∃(w:List UInt8),y=w/\w.length<=100000/\br (gS w) (false=dq y/\True) (∃(z:Bs×Int),y=z.1/\aq 46 z.2/\z.1.length<=100000/\(∃(x:Nat),(x<=(splitB y 46).length/\ ∀(j:Nat) (h:j<(splitB y 46).length),j<x->eW (splitB y 46)[j]=true)/\(strs (splitB z.1 z.2)=strs (splitB y 46)/\aq (Int.ofNat ((splitB z.1 z.2).length)) (Int.ofNat ((splitB y 46).length))/\aq 0 ↑x/\True)/\True/\True)/\ ∀(x:Nat),(x<=(splitB y 46).length/\ ∀(j:Nat) (h:j<(splitB y 46).length),j<x->eW (splitB y 46)[j]=true)->br (aZ (↑x) (Int.ofNat ((splitB y 46).length))) (so (splitB y 46)[Int.toNat ↑x]? fun(val:Bs)=>∃(v:List UInt8),val=v/\v.length<=100000/\br (!eW v) (false=dq y/\True) (ck (bw .i64 (↑x+1)) (∃(u:Nat),(u<=(splitB y 46).length/\ ∀(j:Nat) (h:j<(splitB y 46).length),j<u->eW (splitB y 46)[j]=true)/\aJ.μ (zC y) u<aJ.μ (zC y) x/\(strs (splitB y 46)=strs (splitB y 46)/\aq (Int.ofNat ((splitB y 46).length)) (Int.ofNat ((splitB y 46).length))/\aq (↑x+1) ↑u/\True)/\True/\True))) (true=dq y/\True)))):=by kernel_rfl
theorem qzu:(cg (fun(y:aL.Y (fF dq))=>bI qD (cu nY 5 (y8 y))) 400 nY)=(∀(y:List UInt8),y.length<=100000->br (aZ 256 (Int.ofNat y.length)) (false=dq y/\True) (∃(w:List UInt8),y=w/\w.length<=100000/\br (fK w) (false=dq y/\True) (∃(z:Bs×Int),y=z.1/\aq 46 z.2/\z.1.length<=100000/\(∃(x:Nat),(x<=(splitB y 46).length/\ ∀(j:Nat) (h:j<(splitB y 46).length),j<x->eW (splitB y 46)[j]=true)/\(strs (splitB z.1 z.2)=strs (splitB y 46)/\aq 0 ↑x/\True)/\True/\True)/\ ∀(x:Nat),(x<=(splitB y 46).length/\ ∀(j:Nat) (h:j<(splitB y 46).length),j<x->eW (splitB y 46)[j]=true)->br (aZ (↑x) (Int.ofNat ((splitB y 46).length))) (so (splitB y 46)[Int.toNat ↑x]? fun(val:Bs)=>∃(v:List UInt8),val=v/\v.length<=100000/\br (!eW v) (false=dq y/\True) (ck (bw .i64 (↑x+1)) (∃(u:Nat),(u<=(splitB y 46).length/\ ∀(j:Nat) (h:j<(splitB y 46).length),j<u->eW (splitB y 46)[j]=true)/\aJ.μ (y8 y) u<aJ.μ (y8 y) x/\(strs (splitB y 46)=strs (splitB y 46)/\aq (↑x+1) ↑u/\True)/\True/\True))) (true=dq y/\True)))):=by kernel_rfl
theorem qwq:(cg (fun(y:aL.Y tv)=>bI bu (cR y)) 400 IY)=(∀(y:Bs×Bs),y.1.length<=100000/\y.2.length<=100000->br (bT (Int.ofNat y.2.length) (Int.ofNat y.1.length)) (ck (Nat.ble (Int.toNat (Int.ofNat y.2.length)) y.1.length) ((y.1.take (Int.toNat (Int.ofNat y.2.length))==y.2)=decide (y.1.take y.2.length=y.2)/\True)) (false=decide (y.1.take y.2.length=y.2)/\True)):=by kernel_rfl
theorem YU:(cg (fun(y:aL.Y tv)=>bI tX (cR y)) 400 rY)=(∀(y:Bs×Bs),y.1.length<=100000/\y.2.length<=100000->∃(z:Bs×Bs),y.1=z.1/\y.2=z.2/\(z.1.length<=100000/\z.2.length<=100000)/\decide (z.1.take z.2.length=z.2)=decide (y.1.take y.2.length=y.2)/\True):=by kernel_rfl
theorem qwp:(cg (fun(y:aL.Y GM)=>bI tX (cR y)) 400 Iu)=(∀(y:List UInt8),y.length<=100000->∃(u:List UInt8),y=u/\u.length<=100000/\br (!dq u) ((if dq y=true then splitB y 46 else[])=[]/\True) (∃(z:Bs×Int),y=z.1/\aq 46 z.2/\z.1.length<=100000/\strs (splitB z.1 z.2)=strs (if dq y=true then splitB y 46 else[])/\True)):=by kernel_rfl
theorem qws:(cg (fun(y:aL.Y GP)=>bI bu (cR y)) 400 Iv)=(∀(y:List UInt8),y.length<=100000->br (aZ 2 (Int.ofNat y.length)) (ck (Nat.ble (Int.toNat 2) y.length) (br (y.take (Int.toNat 2)==Array.toList (ByteArray.data {data:=#[42,46]})) (ck (Nat.ble (Int.toNat 2) y.length) (aq 42 ((fH y).1)/\y.drop (Int.toNat 2)=(fH y).2/\True)) (br (aZ 1 (Int.ofNat y.length)) (so y[Int.toNat 0]? fun(val:UInt8)=>br (Int.ofNat (UInt8.toNat val)==33) (ck (Nat.ble (Int.toNat 1) y.length) (aq 33 ((fH y).1)/\y.drop (Int.toNat 1)=(fH y).2/\True)) (aq 0 ((fH y).1)/\y=(fH y).2/\True)) (aq 0 ((fH y).1)/\y=(fH y).2/\True)))) (br (aZ 1 (Int.ofNat y.length)) (so y[Int.toNat 0]? fun(val:UInt8)=>br (Int.ofNat (UInt8.toNat val)==33) (ck (Nat.ble (Int.toNat 1) y.length) (aq 33 ((fH y).1)/\y.drop (Int.toNat 1)=(fH y).2/\True)) (aq 0 ((fH y).1)/\y=(fH y).2/\True)) (aq 0 ((fH y).1)/\y=(fH y).2/\True))):=by kernel_rfl
theorem qzw:(cg (fun(y:aL.Y Hj)=>bI tM (cR y)) 400 sG)=(∀(y:List UInt8),y.length<=100000->∃(v:Bs×Bs),y=v.1/\Array.toList (ByteArray.data {data:=#[42,46]})=v.2/\(v.1.length<=100000/\v.2.length<=100000)/\br (decide (v.1.take v.2.length=v.2)) (ck (Nat.ble (Int.toNat 2) y.length) (∃(z:List UInt8),y.drop (Int.toNat 2)=z/\z.length<=100000/\br (aZ 0 (Int.ofNat ((if dq z=true then splitB z 46 else[]).length))) (y.drop (Int.toNat 2)=(fU y).1/\true=((fU y).2).1/\false=((fU y).2).2/\true=fu y/\True) (y.drop (Int.toNat 2)=(fU y).1/\true=((fU y).2).1/\false=((fU y).2).2/\false=fu y/\True))) (∃(z:Bs×Bs),y=z.1/\Array.toList (ByteArray.data {data:=#[33]})=z.2/\(z.1.length<=100000/\z.2.length<=100000)/\br (decide (z.1.take z.2.length=z.2)) (ck (Nat.ble (Int.toNat 1) y.length) (∃(u:List UInt8),y.drop (Int.toNat 1)=u/\u.length<=100000/\br (aZ 0 (Int.ofNat ((if dq u=true then splitB u 46 else[]).length))) (y.drop (Int.toNat 1)=(fU y).1/\false=((fU y).2).1/\true=((fU y).2).2/\aZ 1 (Int.ofNat ((if dq u=true then splitB u 46 else[]).length))=fu y/\True) (y.drop (Int.toNat 1)=(fU y).1/\false=((fU y).2).1/\true=((fU y).2).2/\false=fu y/\True))) (∃(u:List UInt8),y=u/\u.length<=100000/\br (aZ 0 (Int.ofNat ((if dq u=true then splitB u 46 else[]).length))) (y=(fU y).1/\false=((fU y).2).1/\false=((fU y).2).2/\true=fu y/\True) (y=(fU y).1/\false=((fU y).2).1/\false=((fU y).2).2/\false=fu y/\True)))):=by kernel_rfl
theorem R5:(cg (fun(y:aL.Y (fF fu))=>bI tM (cR y)) 400 IM)=(∀(y:List UInt8),y.length<=100000->∃(u:List UInt8),y=u/\u.length<=100000/\ ∃(v:List UInt8),(fH u).2=v/\v.length<=100000/\br (dq v) (br (!(fH u).1==33) (true=fu y/\True) (∃(z:Bs×Int),(fH u).2=z.1/\aq 46 z.2/\z.1.length<=1000000/\bT 0 (gT z.1 z.2)=fu y/\True)) (false=fu y/\True)):=by kernel_rfl
theorem qwm:(cg (fun(y:aL.Y GH)=>bI tN (cu nN 4 (yI y))) 400 nN)=(∀(y:List Bs),(y.length<=100000/\ ∀(s:Bs),s∈y->s.length<=100000)->br (aZ 256 (Int.ofNat y.length)) (aq 3 (oD y)/\True) ((∃(x:Nat),(x<=y.length/\ ∀(j:Nat) (h:j<y.length),j<x->fu y[j]=true)/\(strs y=strs y/\aq (Int.ofNat y.length) (Int.ofNat y.length)/\aq 0 ↑x/\True)/\True/\True)/\ ∀(x:Nat),(x<=y.length/\ ∀(j:Nat) (h:j<y.length),j<x->fu y[j]=true)->br (aZ (↑x) (Int.ofNat y.length)) (so y[Int.toNat ↑x]? fun(val:Bs)=>∃(u:List UInt8),val=u/\u.length<=100000/\br (!fu u) (aq 1 (oD y)/\True) (ck (bw .i64 (↑x+1)) (∃(z:Nat),(z<=y.length/\ ∀(j:Nat) (h:j<y.length),j<z->fu y[j]=true)/\aJ.μ (yI y) z<aJ.μ (yI y) x/\(strs y=strs y/\aq (Int.ofNat y.length) (Int.ofNat y.length)/\aq (↑x+1) ↑z/\True)/\True/\True))) (aq 0 (oD y)/\True))):=by kernel_rfl
theorem qzx:(cg (fun(y:aL.Y Hk)=>bI tN (cu nT 2 (y9 y))) 400 nT)=(∀(y:List Bs),(y.length<=100000/\ ∀(s:Bs),s∈y->s.length<=100000)->(∃(x:Nat),(x<=y.length/\ ∀(j:Nat) (h:j<y.length),j<x->fu y[j]=true)/\(strs y=strs y/\aq 0 ↑x/\True)/\True/\True)/\ ∀(x:Nat),(x<=y.length/\ ∀(j:Nat) (h:j<y.length),j<x->fu y[j]=true)->br (aZ (↑x) (Int.ofNat y.length)) (so y[Int.toNat ↑x]? fun(val:Bs)=>∃(u:List UInt8),val=u/\u.length<=100000/\br (!fu u) (false=y.all fu/\True) (ck (bw .i64 (↑x+1)) (∃(z:Nat),(z<=y.length/\ ∀(j:Nat) (h:j<y.length),j<z->fu y[j]=true)/\aJ.μ (y9 y) z<aJ.μ (y9 y) x/\(strs y=strs y/\aq (↑x+1) ↑z/\True)/\True/\True))) (true=y.all fu/\True)):=by kernel_rfl
end
section
variable [Inhabited aK]
section
variable {α:Type} {l:List α} {p:α->Bool} {x:Nat}
theorem oq (h:∀(j:Nat) (h:j<l.length),j<x->p l[j]=true) (hx:¬(x:Int)<Int.ofNat l.length):l.all p=true:=by
 rw[AG];grind [List.getElem_of_mem]
theorem sZ (h:x<l.length) (hp:p l[x]=false):l.all p=false:=by
 rw[Ar];grind
theorem ot (h:∀(j:Nat) (h:j<l.length),j<x->p l[j]=true) (hx:x<l.length) (hp:p l[x]=true):∀(j:Nat) (h:j<l.length),j<x+1->p l[j]=true:=by
 grind
end
theorem cm {x n:Nat} (h:aZ (x:Int) (Int.ofNat n)=true):x<n:=by
 rw[bM,Aa,Af]at h;omega
theorem gE {x n:Nat} (h:aZ (x:Int) (Int.ofNat n)=false):¬(x:Int)<Int.ofNat n:=by
 rw[bM,Ah]at h;exact h
theorem cp {α:Type} {l:List α} {x:Nat} (h:x<l.length):l[Int.toNat (x:Int)]? =some l[x]:=by simp[h]
theorem qyV:CO CN Hn:=bB (cfg:=fun y=>bI bu (cR y)) bh (fun _=>rfl) (fun _=>eX) (n:=400) (by
 rw[qzA];grind [ah,fg,gW])
theorem QK:CO IL Ia:=bB (cfg:=fun y=>bI bu (cR y)) bh (fun _=>rfl) (fun _=>eX) (n:=400) (by
 rw[R6];grind [ah,fg,iD])
theorem th:∀g C,mJ g=some C->CO g C:=bg qyV (bg QK N3)
theorem Z4 (b:UInt8) (e:Bool):gW (nB b) e=(iD b&& !(nB b==45&&e)):=by
 grind [gW,iD]
theorem mW (b:UInt8):b=45↔nB b=45:=⟨fun h=>by rw[h];rfl,fun h=>l4 (h.trans rfl)⟩
theorem MB (s:Bs) (h0:s≠[]) (h63:s.length<=63):eW s=true↔∀(j:Nat) (h:j<s.length),gW (nB s[j]) (j==0||j==s.length - 1)=true:=by
 have hp:0<s.length:=A4.2 h0;have hhd:s.head? =some s[0]:=by rw[Bu];grind
 have htl:s.getLast? =some (s[s.length - 1]'(by omega)):=by rw[Dz];grind
 unfold eW;rw[hhd,htl];simp only[Ad,bne_iff_ne,Ec,h0,not_false_eq_true,Aa,h63,true_and,AG,By];grind [Z4,mW,List.getElem_of_mem]
theorem L1 {s:Bs} (h0:s≠[]) (h63:s.length<=63) {x:Nat} (h:x<s.length) (hx:gW (nB s[x]) (x==0||x==s.length - 1)=false):eW s=false:=by
 rw[Ar];grind [MB]
theorem MA {s:Bs} (h:63<s.length):eW s=false:=by
 grind [eW]
theorem qyE:CO nV (fF eW):=bB (cfg:=fun y=>bI mJ (cu nV 4 (qv y))) bh (fun _=>rfl) (fun _=>th) (n:=400) (by
 rw[qzr];intro s hpre;have hpre:s.length<=100000:=hpre;refine ah.2 ⟨fun h=>?_,fun h=>ah.2 ⟨fun h2=>?_,fun h2=>⟨⟨0,⟨by simp,fun j h hj=>by omega⟩,⟨rfl,rfl,rfl,trivial⟩,trivial,trivial⟩,?_⟩⟩⟩
 . have:s=[]:=by grind
   subst this;exact⟨rfl,trivial⟩
 . rw[bM,Aa,Af]at h2;grind [MA]
 have h0:s≠[]:=by grind
 have h63:s.length<=63:=by
   rw[bM,Ah,Af]at h2;omega
 rintro x ⟨hx,hall⟩;refine ah.2 ⟨fun hlt=>aj.2 ⟨_,cp (cm hlt),?_⟩,fun hge=>⟨((MB s h0 h63).2 fun j hj=>hall j hj (by have:=gE hge;grind)).symm,trivial⟩⟩;have hlt':=cm hlt;have next:gW (nB s[x]) (x==0||x==s.length - 1)=true->∃(y_2:Nat),(y_2<=s.length/\ ∀(j:Nat) (h:j<s.length),j<y_2->gW (nB s[j]) (j==0||j==s.length - 1)=true)/\(qv s).μ y_2<(qv s).μ x/\(s=s/\aq (Int.ofNat s.length) (Int.ofNat s.length)/\aq (↑x+1) ↑y_2/\True)/\True/\True:=by
   intro he;refine⟨x+1,⟨by omega,fun j hj hjx=>?_⟩,?_,⟨rfl,rfl,by omega,trivial⟩,trivial,trivial⟩
   . grind
   . show s.length - (x+1)<s.length - x
     omega
 refine ah.2 ⟨fun hx0=>⟨(s[x],true),rfl,rfl,trivial,ah.2 ⟨fun hs=>?_,fun hs=>ae.2 ⟨cj x (by omega),next ?_⟩⟩⟩,fun hx0=>ae.2 ⟨by rw[fT,Af];omega,(s[x],(x:Int)==Int.ofNat s.length - 1),rfl,rfl,trivial,ah.2 ⟨fun hs=>?_,fun hs=>ae.2 ⟨cj x (by omega),next ?_⟩⟩⟩⟩
 . have:x=0:=by grind
   grind [L1]
 . have:x=0:=by grind
   grind
 . have hx1:¬x=0:=by grind
   have e:((x:Int)==Int.ofNat s.length - 1)=(x==0||x==s.length - 1):=by
     rw[Az];grind
   rw[e]at hs;grind [L1]
 . have hx1:¬x=0:=by grind
   have e:((x:Int)==Int.ofNat s.length - 1)=(x==0||x==s.length - 1):=by
     rw[Az];grind
   rw[e]at hs;grind)
theorem EY {s:Bs} {x:Nat} (h:x<s.length) (hx:iD s[x]=false):eW s=false:=by
 grind [eW]
theorem qvG:CO nS (fF eW):=bB (cfg:=fun y=>bI mJ (cu nS 4 (yJ y))) bh (fun _=>rfl) (fun _=>th) (n:=400) (by
 rw[qwo];intro s hpre;have hpre:s.length<=100000:=hpre;refine ah.2 ⟨fun h=>?_,fun h=>ah.2 ⟨fun h2=>?_,fun h2=>?_⟩⟩
 . rw[bM,Aa,Af]at h;have:s=[]:=Ay (by omega);subst this;exact⟨rfl,trivial⟩
 . rw[bM,Aa,Af]at h2;grind [MA]
 rw[bM,Ah,Af]at h h2;have hp:0<s.length:=by omega
 have h0:s≠[]:=A4.1 hp;have hhd:s.head? =some s[0]:=by rw[Bu];grind
 have htl:s.getLast? =some (s[s.length - 1]'(by omega)):=by rw[Dz];grind
 have hlast:s[Int.toNat (Int.ofNat s.length - 1)]? =some (s[s.length - 1]'(by omega)):=by
   rw[show Int.toNat (Int.ofNat s.length - 1)=s.length - 1 by rw[Af];omega];grind
 refine aj.2 ⟨s[0],by grind,ah.2 ⟨fun h3=>?_,fun h3=>ae.2 ⟨by rw[fT,Af];omega,ae.2 ⟨by rw[kt,Aa,Af];omega,aj.2 ⟨_,hlast,ah.2 ⟨fun h4=>?_,fun h4=>⟨⟨0,⟨by simp,fun j h hj=>by omega⟩,⟨rfl,rfl,trivial⟩,trivial,trivial⟩,?_⟩⟩⟩⟩⟩⟩⟩
 . have:s[0]=45:=by rw[mW];simp_all[nB]
   simp_all[eW]
 . have:s[s.length - 1]'(by omega)=45:=by rw[mW];simp_all[nB]
   simp_all[eW]
 rintro x ⟨hx,hall⟩;refine ah.2 ⟨fun hlt=>aj.2 ⟨_,cp (cm hlt),s[x]'(cm hlt),rfl,trivial,ah.2 ⟨fun hs=>⟨(EY (cm hlt) (by grind)).symm,trivial⟩,fun hs=>ae.2 ⟨cj x (by have:=cm hlt;omega),x+1,⟨cm hlt,ot hall (cm hlt) (by grind)⟩,?_,⟨rfl,by omega,trivial⟩,trivial,trivial⟩⟩⟩,fun hge=>⟨?_,trivial⟩⟩
 . have:=cm hlt;show s.length - (x+1)<s.length - x
   omega
 . have ha:=oq hall (gE hge);have n1:s[0]≠45:=by simp_all[mW,nB]
   have n2:(s[s.length - 1]'(by omega))≠45:=by simp_all[mW,nB]
   unfold eW;rw[ha,hhd,htl];simp[h0,n1,n2];omega)
theorem O5 {p:Bs} (h0:p≠[]) (hd:∀b∈p,dK b=true):bJ p=(p.foldl cy 0,true):=by
 cases p with
 |nil=>grind
 | cons b s=>
  have hb:=(qk b).1 (hd b As);have hn:cQ (b::s)=false:=by
   show(nB b==45)=false
   rw[Bp];omega
  have ha:=vE hn;rw[G7 (by rw[ha];simp) (by rw[ha];exact hd),ha,hn];simp
theorem vY {b:UInt8} {n:Nat} (h:nB b=48+(n:Int)):UInt8.ofNat (48+n)=b:=by
 apply l4;have:=qvs b;rw[h];grind [nB,UInt8.toNat_ofNat']
theorem ov {b:UInt8} (h:dK b=true):∃d:Nat,d<=9/\nB b=48+(d:Int):=by
 rw[qk]at h;exact⟨(nB b - 48).toNat,by omega,by omega⟩
theorem oo {n:Int} {b:UInt8} {d:Nat} (hb:nB b=48+(d:Int)) (hd:d<=9) (h0:0<=n) (hn:n<=100000):cy n b=n*10+d:=by
 grind [cy]
theorem qx5 (s:Bs) (hd:∀b∈s,dK b=true):∀n:Int,1000<=n->n<=1099511627776->1000<=s.foldl cy n:=by
 induction s with
 |nil=>grind
 |cons b s ih=>
  grind [qk,List.mem_cons_self,cy]
theorem IS (d:Nat) (h:d<=9):kY d=[UInt8.ofNat (48+d)]:=by grind [kY,Od]
theorem Kf (n:Nat) (h:9<n) (h2:n<=99):kY n=[UInt8.ofNat (48+n / 10),UInt8.ofNat (48+n % 10)]:=by
 grind [kY,nv]
theorem Sd (n:Nat) (h:99<n) (h2:n<=999):kY n=[UInt8.ofNat (48+n / 100),UInt8.ofNat (48+n / 10 % 10),UInt8.ofNat (48+n % 10)]:=by
 grind [kY,nv]
theorem qvX {p:Bs} (h1:1<=p.length) (hd:dT p=p.length):0<=(bJ p).1/\(bJ p).1<=1099511627776:=by
 have hdd:∀b∈p,dK b=true:=xZ (by omega);rw[O5 (A4.1 h1) hdd];simp_all[Lo]
theorem FN {p:Bs} (h1:1<=p.length) (hd:dT p=p.length) (h2:(bJ p).1<=255):(decide (1<p.length)&&p.head? ==some 48)=false↔(p.length<=3/\kY (bJ p).1.toNat=p):=by
 have hdd:∀b∈p,dK b=true:=xZ (by omega);rw[O5 (A4.1 h1) hdd]at h2⊢;simp only at h2⊢;have e48:∀b:UInt8,b=48↔nB b=48:=fun b=>⟨fun h=>by rw[h];rfl,fun h=>l4 (h.trans rfl)⟩
 match p,h1 with
 |[a],_=>
  obtain⟨d,d9,hb⟩:=ov (hdd a (by simp));grind [oo,IS,vY]
 |[a,b],_=>
  obtain⟨d,d9,hb⟩:=ov (hdd a (by simp));obtain⟨d2,d29,hb2⟩:=ov (hdd b (by simp));simp only[Bo,List.foldl_nil,oo hb d9 (EK 0) (by omega)];rw[oo hb2 d29 (by omega) (by omega),show(((0:Int)*10+(d:Int))*10+(d2:Int)).toNat=d*10+d2 by omega];grind [IS,Kf,vY]
 |[a,b,c],_=>
  obtain⟨d,d9,hb⟩:=ov (hdd a (by simp));obtain⟨d2,d29,hb2⟩:=ov (hdd b (by simp));obtain⟨d3,d39,hb3⟩:=ov (hdd c (by simp));simp only[Bo,List.foldl_nil,oo hb d9 (EK 0) (by omega)];rw[oo hb2 d29 (by omega) (by omega),oo hb3 d39 (by omega) (by omega),show((((0:Int)*10+(d:Int))*10+(d2:Int))*10+(d3:Int)).toNat=d*100+d2*10+d3 by omega];by_cases hz:d=0
  . grind [IS,Kf]
  . have:a≠48:=by grind
    rw[Sd _ (by omega) (by omega),show(d*100+d2*10+d3) / 100=d by omega,show(d*100+d2*10+d3) / 10 % 10=d2 by omega,show(d*100+d2*10+d3) % 10=d3 by omega,vY hb,vY hb2,vY hb3];grind
 |a::b::c::e::s,_=>
  obtain⟨d,d9,hb⟩:=ov (hdd a (by simp));obtain⟨d2,d29,hb2⟩:=ov (hdd b (by simp));obtain⟨d3,d39,hb3⟩:=ov (hdd c (by simp));obtain⟨d4,d49,hb4⟩:=ov (hdd e (by simp));have hz:d=0:=by
    apply Decidable.byContradiction;intro hz;simp only[Bo,oo hb d9 (EK 0) (by omega)]at h2;rw[oo hb2 d29 (by omega) (by omega),oo hb3 d39 (by omega) (by omega),oo hb4 d49 (by omega) (by omega)]at h2;have:=qx5 s (fun x hx=>hdd x (by grind)) (((((0:Int)*10+(d:Int))*10+(d2:Int))*10+(d3:Int))*10+(d4:Int)) (by omega) (by omega);omega
  grind
theorem Mv {s:Bs} {x:Nat} (h:x<(splitB s 46).length) (hp:iw (splitB s 46)[x]=false):fK s=false:=by
 grind [fK]
theorem yG {s:Bs} {x:Nat} (h:x<(splitB s 46).length):((splitB s 46)[x]).length<=s.length:=Wd s 46 _ (AF h)
theorem Q5:CO od (fF fK):=bB (cfg:=fun y=>bI mJ (cu od 5 (qy y))) bh (fun _=>rfl) (fun _=>th) (n:=400) (by
 rw[RV];intro s hpre;have hpre:s.length<=100000:=hpre;have hsl:=Fi s 46;refine⟨(s,46),rfl,rfl,hpre,ah.2 ⟨fun h=>?_,fun h=>⟨⟨0,⟨by simp,fun j h hj=>by omega⟩,⟨rfl,rfl,rfl,trivial⟩,trivial,trivial⟩,?_⟩⟩⟩
 . grind [fK]
 have h4:(splitB s 46).length=4:=by
   grind
 rintro x ⟨hx,hall⟩;refine ah.2 ⟨fun hlt=>aj.2 ⟨_,cp (cm hlt),?_⟩,fun hge=>⟨?_,trivial⟩⟩
 . have hx':=cm hlt;have hpl:=yG hx';have next:iw (splitB s 46)[x]=true->ck (bw Go.IntKind.i64 (↑x+1)) (∃(y_4:Nat),(y_4<=(splitB s 46).length/\ ∀(j:Nat) (h:j<(splitB s 46).length),j<y_4->iw (splitB s 46)[j]=true)/\(qy s).μ y_4<(qy s).μ x/\(SV.bn Bs (splitB s 46) fA=SV.bn Bs (splitB s 46) fA/\aq (Int.ofNat (splitB s 46).length) (Int.ofNat (splitB s 46).length)/\aq (↑x+1) ↑y_4/\True)/\True/\True):=by
     intro hp;refine ae.2 ⟨cj x (by omega),x+1,⟨hx',ot hall hx' hp⟩,?_,⟨rfl,rfl,by omega,trivial⟩,trivial,trivial⟩;show(splitB s 46).length - (x+1)<(splitB s 46).length - x
     omega
   generalize hpe:(splitB s 46)[x]=p at*
   have fail:iw p=false->false=fK s:=fun h=>(Mv hx' (by rw[hpe];exact h)).symm
   refine⟨p,rfl,by omega,ah.2 ⟨fun h1=>⟨fail ?_,trivial⟩,fun h1=>⟨p,rfl,by omega,ah.2 ⟨fun h2=>⟨fail ?_,trivial⟩,fun h2=>ah.2 ⟨fun h3=>⟨fail ?_,trivial⟩,fun h3=>ah.2 ⟨fun h5=>?_,fun h5=>next ?_⟩⟩⟩⟩⟩⟩
   . have:p=[]:=by grind
     subst this;rfl
   . have:=cm h2;grind [iw]
   . rw[bM,Aa]at h3;grind [iw]
   all_goals (have hp0:p≠[]:=by simpa using h1)
   all_goals (have hd:dT p=p.length:=by have:=gE h2;have:=yw p;simp only[Af]at*;omega)
   all_goals (have h255:(bJ p).1<=255:=by rw[bM,Ah]at h3;omega)
   . rw [bM,Aa,Af]at h5;have hpl1:1<p.length:=by omega
     refine aj.2 ⟨p[0],by grind,ah.2 ⟨fun h6=>⟨fail ?_,trivial⟩,fun h6=>next ?_⟩⟩
     . have:p.head? =some 48:=by
        rw[Bu,Ai (by omega)];congr 1
        exact l4 (by grind [nB])
       grind [iw]
     . have:¬p.head? =some 48:=by
        rw[Bu,Ai (by omega)];intro e;simp_all
       grind [iw]
   grind [bM,iw]
 . unfold fK;rw[oq hall (gE hge)];grind)
theorem qyC:CO nZ (fF fK):=bB (cfg:=fun y=>bI mJ (cu nZ 5 (y6 y))) bh (fun _=>rfl) (fun _=>th) (n:=400) (by
 rw[qzq];intro s hpre;have hpre:s.length<=100000:=hpre;refine⟨(s,46),rfl,rfl,hpre,ah.2 ⟨fun h=>?_,fun h=>⟨⟨0,⟨by simp,fun j h hj=>by omega⟩,⟨rfl,rfl,trivial⟩,trivial,trivial⟩,?_⟩⟩⟩
 . grind [fK]
 have h4:(splitB s 46).length=4:=by
   grind
 rintro x ⟨hx,hall⟩;refine ah.2 ⟨fun hlt=>?_,fun hge=>⟨?_,trivial⟩⟩
 . have hx':x<(splitB s 46).length:=by rw[bM,Aa]at hlt;omega
   have hpl:=yG hx';have hget:(splitB s 46)[Int.toNat (x:Int)]? =some (splitB s 46)[x]:=cp hx';have next:=ot hall hx';generalize hpe:(splitB s 46)[x]=p at*
   have fail:iw p=false->false=fK s:=fun h=>(Mv hx' (by rw[hpe];exact h)).symm
   refine aj.2 ⟨p,hget,ah.2 ⟨fun h1=>⟨fail ?_,trivial⟩,fun h1=>aj.2 ⟨p,hget,ah.2 ⟨fun h2=>⟨fail ?_,trivial⟩,fun h2=>aj.2 ⟨p,hget,aj.2 ⟨p,hget,p,rfl,by omega,ah.2 ⟨fun h3=>⟨fail ?_,trivial⟩,fun h3=>aj.2 ⟨p,hget,p,rfl,by omega,ah.2 ⟨fun h5=>⟨fail ?_,trivial⟩,fun h5=>aj.2 ⟨p,hget,(bJ p).1.toNat,?_,?_,ah.2 ⟨fun h6=>⟨fail ?_,trivial⟩,fun h6=>ae.2 ⟨cj x (by omega),x+1,⟨by omega,next ?_⟩,?_,⟨rfl,by omega,trivial⟩,trivial,trivial⟩⟩⟩⟩⟩⟩⟩⟩⟩⟩⟩⟩
   . rw[bM,Aa,Af]at h1;have:p=[]:=Ay (by omega);subst this;rfl
   all_goals (have hp1:1<=p.length:=by rw[bM,Ah,Af]at h1;omega)
   . rw[bM,Aa,Af]at h2;rw[Ar];grind [iw,FN]
   . have h3':¬dT p=p.length:=by
      grind
     grind [iw]
   all_goals (have hd:dT p=p.length:=by simp only[DY,Bv,Af]at h3;omega)
   all_goals (have hnn:=qvX hp1 hd)
   . rw[bM,Aa]at h5;grind [iw]
   . omega
   . omega
   all_goals (have h255:(bJ p).1<=255:=by rw[bM,Ah]at h5;omega)
   . rw[Ar];grind [iw,FN]
   . have hl3:p.length<=3:=by rw[bM,Ah,Af]at h2;omega
     have ht:kY (bJ p).1.toNat=p:=by grind
     have:=(FN hp1 hd h255).2 ⟨hl3,ht⟩;grind [iw]
   . show 4 - (x+1)<4 - x
     omega
 . unfold fK;rw[bM,Ah]at hge;rw[oq hall (by rw[h4,Af];omega)];grind)
theorem PD {b:UInt8} {P Q:Prop} (hp:dh b=true->P) (hq:dh b=false->Q):
  br (bT 48 (Int.ofNat (UInt8.toNat b))) (br (bT (Int.ofNat (UInt8.toNat b)) 57) P (br (bT 97 (Int.ofNat (UInt8.toNat b))) (br (bT (Int.ofNat (UInt8.toNat b)) 102) P (br (Int.ofNat (UInt8.toNat b)==58) P (br (!Int.ofNat (UInt8.toNat b)==46) Q P))) (br (Int.ofNat (UInt8.toNat b)==58) P (br (!Int.ofNat (UInt8.toNat b)==46) Q P))))
   (br (bT 97 (Int.ofNat (UInt8.toNat b))) (br (bT (Int.ofNat (UInt8.toNat b)) 102) P (br (Int.ofNat (UInt8.toNat b)==58) P (br (!Int.ofNat (UInt8.toNat b)==46) Q P))) (br (Int.ofNat (UInt8.toNat b)==58) P (br (!Int.ofNat (UInt8.toNat b)==46) Q P))):=by
 rw[PH];have e:dh b=((bT 48 (nB b)&&bT (nB b) 57)||(bT 97 (nB b)&&bT (nB b) 102)||(nB b==58)||(nB b==46)):=by
  simp only[fg];rfl
 rw[e]at hp hq;generalize bT 48 (nB b)=a1 at*
 generalize bT (nB b) 57=a2 at*
 generalize bT 97 (nB b)=a3 at*
 generalize bT (nB b) 102=a4 at*
 generalize (nB b==58)=a5 at*
 generalize (nB b==46)=a6 at*
 cases a1<;>cases a2<;>cases a3<;>cases a4<;>cases a5<;>cases a6<;>simp_all[br]
theorem NV {s:Bs} (h4:4<=s.length):s.head? =some (s[0]'(by omega))/\s.getLast? =some (s[s.length - 1]'(by omega)):=by
 rw[Bu,Dz];grind
theorem qyj {s:Bs} {j:Nat} (h:j<((s.drop 1).take (s.length - 2)).length):((s.drop 1).take (s.length - 2))[j]=s[j+1]'(by grind):=by
 rw[D4,B0];grind
theorem Ls {s:Bs} (h:s.length<4):ft s=false:=by
 grind [ft]
theorem Mj {s:Bs} (h:47<s.length):ft s=false:=by
 grind [ft]
theorem fX {b:UInt8} {n:UInt8}:(Int.ofNat b.toNat==nB n)=true↔b=n:=by
 constructor
 . intro h;exact l4 (by grind [nB])
 grind [nB]
theorem Lr {s:Bs} (h4:4<=s.length) (h:(!Int.ofNat (UInt8.toNat (s[0]'(by omega)))==91)=true):ft s=false:=by
 have:s[0]'(by omega)≠91:=by
  intro e;rw[A2]at h;rw[show(91:Int)=nB 91 from rfl,fX.2 e]at h
  cases h
 grind [ft,NV]
theorem Lz {s:Bs} (h4:4<=s.length) (h:(!Int.ofNat (UInt8.toNat (s[s.length - 1]'(by omega)))==93)=true):ft s=false:=by
 have:s[s.length - 1]'(by omega)≠93:=by
  intro e;rw[A2]at h;rw[show(93:Int)=nB 93 from rfl,fX.2 e]at h
  cases h
 grind [ft]
theorem Md {s:Bs} (h4:4<=s.length) (h47:s.length<=47) (h1:(!Int.ofNat (UInt8.toNat (s[0]'(by omega)))==91)=false) (h2:(!Int.ofNat (UInt8.toNat (s[s.length - 1]'(by omega)))==93)=false):ft s=((s.drop 1).take (s.length - 2)).all dh:=by
 have e1:s[0]'(by omega)=91:=fX.1 (by grind [nB]);have e2:s[s.length - 1]'(by omega)=93:=fX.1 (by grind [nB]);grind [ft,NV]
theorem qyq:CO nJ (fF ft):=bB (cfg:=fun y=>bI mJ (cu nJ 4 (iF y))) bh (fun _=>rfl) (fun _=>th) (n:=400) (by
 rw[qzm];intro s hpre;have hpre:s.length<=100000:=hpre;refine ah.2 ⟨fun h=>⟨(Ls (by rw[bM,Aa,Af]at h;omega)).symm,trivial⟩,fun h=>ah.2 ⟨fun h2=>⟨(Mj (by rw[bM,Aa,Af]at h2;omega)).symm,trivial⟩,fun h2=>?_⟩⟩;have h4:4<=s.length:=by rw[bM,Ah,Af]at h;omega
 have h47:s.length<=47:=by rw[bM,Ah,Af]at h2;omega
 have hi:Int.toNat (Int.ofNat s.length - 1)=s.length - 1:=by rw[Af];omega
 have hr:bw Go.IntKind.i64 (Int.ofNat s.length - 1)=true:=by rw[fT,Af];omega
 have hn:nn (Int.ofNat s.length - 1)=true:=by rw[kt,Aa,Af];omega
 rw[hi];refine aj.2 ⟨s[0]'(by omega),by grind,ah.2 ⟨fun h5=>⟨(Lr h4 h5).symm,trivial⟩,fun h5=>ae.2 ⟨hr,ae.2 ⟨hn,aj.2 ⟨s[s.length - 1]'(by omega),by grind,ah.2 ⟨fun h6=>⟨(Lz h4 h6).symm,trivial⟩,fun h6=>ae.2 ⟨hr,ae.2 ⟨hn,ae.2 ⟨by simp;omega,⟨0,⟨by simp,fun j h hj=>by omega⟩,⟨?_,?_,rfl,trivial⟩,trivial,trivial⟩,?_⟩⟩⟩⟩⟩⟩⟩⟩⟩
 . rw[show s.length - 1 - Int.toNat 1=s.length - 2 by omega];rfl
 . rw[show s.length - 1 - Int.toNat 1=s.length - 2 by omega];rfl
 have hb:=Md h4 h47 h5 h6;rintro x ⟨hx,hall⟩;refine ah.2 ⟨fun hlt=>aj.2 ⟨_,cp (cm hlt),PD (fun hh=>ae.2 ⟨cj x (by have:=cm hlt;grind),x+1,⟨cm hlt,ot hall (cm hlt) hh⟩,?_,⟨rfl,rfl,by omega,trivial⟩,trivial,trivial⟩) (fun hh=>⟨?_,trivial⟩)⟩,fun hge=>⟨?_,trivial⟩⟩
 . have:=cm hlt;show((s.drop 1).take (s.length - 2)).length - (x+1)<((s.drop 1).take (s.length - 2)).length - x
   omega
 . rw[hb,sZ (cm hlt) hh]
 . rw[hb,oq hall (gE hge)])
theorem Z5:CO nD (fF ft):=bB (cfg:=fun y=>bI bu (cu nD 4 (iJ y))) bh (fun _=>rfl) (fun _=>eX) (n:=400) (by
 rw[qwk];intro s hpre;have hpre:s.length<=100000:=hpre;refine ah.2 ⟨fun h=>⟨(Ls (by rw[bM,Aa,Af]at h;omega)).symm,trivial⟩,fun h=>ah.2 ⟨fun h2=>⟨(Mj (by rw[bM,Aa,Af]at h2;omega)).symm,trivial⟩,fun h2=>?_⟩⟩;have h4:4<=s.length:=by rw[bM,Ah,Af]at h;omega
 have h47:s.length<=47:=by rw[bM,Ah,Af]at h2;omega
 have hi:Int.toNat (Int.ofNat s.length - 1)=s.length - 1:=by rw[Af];omega
 have hr:bw Go.IntKind.i64 (Int.ofNat s.length - 1)=true:=by rw[fT,Af];omega
 have hn:nn (Int.ofNat s.length - 1)=true:=by rw[kt,Aa,Af];omega
 rw[hi];refine aj.2 ⟨s[0]'(by omega),by grind,ah.2 ⟨fun h5=>⟨(Lr h4 h5).symm,trivial⟩,fun h5=>ae.2 ⟨hr,ae.2 ⟨hn,aj.2 ⟨s[s.length - 1]'(by omega),by grind,ah.2 ⟨fun h6=>⟨(Lz h4 h6).symm,trivial⟩,fun h6=>⟨⟨1,⟨by omega,by omega,fun j h h1 hj=>by omega⟩,⟨rfl,rfl,trivial⟩,trivial,trivial⟩,?_⟩⟩⟩⟩⟩⟩⟩;have hb:=Md h4 h47 h5 h6;rintro x ⟨hx1,hx,hall⟩;refine ae.2 ⟨hr,ah.2 ⟨fun hlt=>?_,fun hge=>⟨?_,trivial⟩⟩⟩
 . have hlt':x+1<s.length:=by rw[bM,Aa,Af]at hlt;omega
   refine aj.2 ⟨s[x],cp (by omega),PD (fun hh=>ae.2 ⟨cj x (by omega),x+1,⟨by omega,by omega,fun j hj h1 hjx=>?_⟩,?_,⟨rfl,by omega,trivial⟩,trivial,trivial⟩) (fun hh=>⟨?_,trivial⟩)⟩
   . grind
   . show s.length - (x+1)<s.length - x
     omega
   . have hl:x - 1<((s.drop 1).take (s.length - 2)).length:=by grind
     rw[hb,sZ hl (by rw[qyj hl];grind)]
 grind [bM,List.getElem_of_mem])
theorem yr:∀g C,qD g=some C->CO g C:=bg qyE (bg qvG (bg Q5 (bg qyC (bg qyq (bg Z5 th)))))
theorem RA:CO sB (fF gS):=bB (cfg:=fun y=>bI qD (cR y)) bh (fun _=>rfl) (fun _=>yr) (n:=400) (by
 rw[RO];grind [ah,gS])
theorem qyn:CO sq (fF gS):=bB (cfg:=fun y=>bI qD (cR y)) bh (fun _=>rfl) (fun _=>yr) (n:=400) (by
 rw[qzl];grind [ah,gS])
theorem Oj {s:Bs} (h:256<s.length):dq s=false:=by
 grind [dq]
theorem FK {s:Bs} (h:fK s=true):dq s=false:=by
 grind [dq]
theorem L5 {s:Bs} (h:ft s=true):dq s=false:=by
 unfold ft at h;simp only[Ad,Bv]at h;have h1:=h.1.1.2
 cases s with
 |nil=>grind
 | cons b s=>
  simp only[List.head?_cons,By]at h1;subst h1;have:(splitB (91::s) 46).all eW=false:=by
   have hs:splitB (91::s) 46=(match splitB s 46 with|h::t=>(91::h)::t|[]=>[[91]]):=by
    rw[splitB];rw[Al (by decide)];grind
   rw[hs];have hl:∀h:Bs,eW (91::h)=false:=fun h=>EY (s:=91::h) (x:=0) (by simp) (by simp[iD,nB])
   grind
  grind [dq]
theorem MH {s:Bs} {x:Nat} (h:x<(splitB s 46).length) (hp:eW (splitB s 46)[x]=false):dq s=false:=by
 grind [dq]
theorem MG {s:Bs} (h1:s.length<=256) (h2:fK s=false):dq s=(splitB s 46).all eW:=by
 grind [dq]
theorem qyI:CO nY (fF dq):=bB (cfg:=fun y=>bI qD (cu nY 5 (y8 y))) bh (fun _=>rfl) (fun _=>yr) (n:=400) (by
 rw[qzu];intro s hpre;have hpre:s.length<=100000:=hpre;have hsl:=Fi s 46;refine ah.2 ⟨fun h=>⟨(Oj (by rw[bM,Aa,Af]at h;omega)).symm,trivial⟩,fun h=>⟨s,rfl,hpre,ah.2 ⟨fun h2=>⟨(FK h2).symm,trivial⟩,fun h2=>⟨(s,46),rfl,rfl,hpre,⟨0,⟨by simp,fun j h hj=>by omega⟩,⟨rfl,rfl,trivial⟩,trivial,trivial⟩,?_⟩⟩⟩⟩;have h256:s.length<=256:=by rw[bM,Ah,Af]at h;omega
 rintro x ⟨hx,hall⟩;refine ah.2 ⟨fun hlt=>aj.2 ⟨_,cp (cm hlt),_,rfl,?_,ah.2 ⟨fun hh=>⟨(MH (cm hlt) (by grind)).symm,trivial⟩,fun hh=>ae.2 ⟨cj x (by have:=cm hlt;omega),x+1,⟨cm hlt,ot hall (cm hlt) (by grind)⟩,?_,⟨rfl,by omega,trivial⟩,trivial,trivial⟩⟩⟩,fun hge=>⟨?_,trivial⟩⟩
 . have:=yG (cm hlt);omega
 . have:=cm hlt;show(splitB s 46).length - (x+1)<(splitB s 46).length - x
   omega
 . rw[MG h256 h2,oq hall (gE hge)])
theorem N7:∀g C,Ca g=some C->CO g C:=bg RA (bg qyn (bg qyI yr))
theorem Rg:CO oe (fF dq):=bB (cfg:=fun y=>bI Ca (cu oe 4 (zC y))) bh (fun _=>rfl) (fun _=>N7) (n:=400) (by
 rw[RZ];intro s hpre;have hpre:s.length<=100000:=hpre;have hsl:=Fi s 46;refine ah.2 ⟨fun h=>⟨(Oj (by rw[bM,Aa,Af]at h;omega)).symm,trivial⟩,fun h=>⟨s,rfl,hpre,ah.2 ⟨fun h2=>⟨?_,trivial⟩,fun h2=>⟨(s,46),rfl,rfl,hpre,⟨0,⟨by simp,fun j h hj=>by omega⟩,⟨rfl,rfl,rfl,trivial⟩,trivial,trivial⟩,?_⟩⟩⟩⟩
 . grind [gS,FK,L5]
 have h256:s.length<=256:=by rw[bM,Ah,Af]at h;omega
 have h3:fK s=false:=by grind [gS]
 rintro x ⟨hx,hall⟩;refine ah.2 ⟨fun hlt=>aj.2 ⟨_,cp (cm hlt),_,rfl,?_,ah.2 ⟨fun hh=>⟨(MH (cm hlt) (by grind)).symm,trivial⟩,fun hh=>ae.2 ⟨cj x (by have:=cm hlt;omega),x+1,⟨cm hlt,ot hall (cm hlt) (by grind)⟩,?_,⟨rfl,rfl,by omega,trivial⟩,trivial,trivial⟩⟩⟩,fun hge=>⟨?_,trivial⟩⟩
 . have:=yG (cm hlt);omega
 . have:=cm hlt;show(splitB s 46).length - (x+1)<(splitB s 46).length - x
   omega
 . rw[MG h256 h3,oq hall (gE hge)])
theorem qvM:CO IY tv:=bB (cfg:=fun y=>bI bu (cR y)) bh (fun _=>rfl) (fun _=>eX) (n:=400) (by
 rw[qwq];rintro⟨s,t⟩ _;refine ah.2 ⟨fun h=>ae.2 ⟨?_,?_,trivial⟩,fun h=>⟨?_,trivial⟩⟩
 . rw[fg,Aa]at h;simp_all
 all_goals grind [fg])
theorem F8:∀g C,tX g=some C->CO g C:=bg Rg (bg qvM N7)
theorem Yl:CO rY tv:=bB (cfg:=fun y=>bI tX (cR y)) bh (fun _=>rfl) (fun _=>F8) (n:=400) (by
 rw[YU];simp_all)
theorem qvH:CO Iu GM:=bB (cfg:=fun y=>bI tX (cR y)) bh (fun _=>rfl) (fun _=>F8) (n:=400) (by
 rw[qwp];intro s hpre;refine⟨s,rfl,hpre,ah.2 ⟨fun h=>⟨?_,trivial⟩,fun h=>⟨(s,46),rfl,rfl,hpre,?_,trivial⟩⟩⟩
 all_goals grind)
theorem qvR:CO Iv GP:=bB (cfg:=fun y=>bI bu (cR y)) bh (fun _=>rfl) (fun _=>eX) (n:=400) (by
 rw [qws];intro s hpre;have bang:∀(_:1<s.length) (_:¬(2<s.length/\s.take 2=[42,46])),so s[Int.toNat 0]? fun(val:UInt8)=>br (Int.ofNat (UInt8.toNat val)==33) (ck (Nat.ble (Int.toNat 1) s.length) (aq 33 (fH s).1/\List.drop (Int.toNat 1) s=(fH s).2/\True)) (aq 0 (fH s).1/\s=(fH s).2/\True):=by
  intro h hn;have hhd:s.head? =some s[0]:=by rw[Bu];grind
  refine aj.2 ⟨s[0],by grind,ah.2 ⟨fun hb=>ae.2 ⟨by simp;omega,?_⟩,fun hb=>?_⟩⟩
  . have:s[0]=33:=fX.1 hb;grind [fH]
  . have:s[0]≠33:=fun e=>by rw[show(33:Int)=nB 33 from rfl,fX.2 e]at hb;cases hb
    grind [fH]
 have none1:¬(1<s.length)->¬(2<s.length/\s.take 2=[42,46])->aq 0 (fH s).1/\s=(fH s).2/\True:=by
  grind [fH]
 have c2:aZ 2 (Int.ofNat s.length)=true↔2<s.length:=by rw[bM,Aa,Af];omega
 have c1:aZ 1 (Int.ofNat s.length)=true↔1<s.length:=by rw[bM,Aa,Af];omega
 have n1:aZ 1 (Int.ofNat s.length)=false->¬1<s.length:=fun h h2=>by rw[c1.2 h2]at h;cases h
 refine ah.2 ⟨fun h=>ae.2 ⟨by have:=c2.1 h;simp;omega,ah.2 ⟨fun h2=>ae.2 ⟨by have:=c2.1 h;simp;omega,?_⟩,fun h2=>?_⟩⟩,fun h=>?_⟩
 all_goals grind [fH,ah])
theorem F9:∀g C,tM g=some C->CO g C:=bg qvH (bg Yl (bg qvR F8))
theorem xI (s:Bs):aZ 0 (Int.ofNat (if dq s=true then splitB s 46 else[]).length)=dq s:=by
 have:=A4.2 (FD s 46);rw[bM,Af];grind
theorem qyL:CO sG Hj:=bB (cfg:=fun y=>bI tM (cR y)) bh (fun _=>rfl) (fun _=>F9) (n:=400) (by
 rw[qzw];intro s hpre;have hpre:s.length<=100000:=hpre;refine⟨(s,[42,46]),rfl,rfl,⟨hpre,by simp⟩,ah.2 ⟨fun h=>?_,fun h=>⟨(s,[33]),rfl,rfl,⟨hpre,by simp⟩,ah.2 ⟨fun h2=>?_,fun h2=>?_⟩⟩⟩⟩
 . have h':s.take 2=[42,46]:=by grind
   have hl:2<=s.length:=by have:=Aj List.length h';grind
   have hr:fU s=(s.drop 2,true,false):=by grind [fU]
   have hi:fu s=dq (s.drop 2):=by unfold fu;rw[hr];simp
   refine ae.2 ⟨by simp_all,s.drop 2,rfl,by simp;omega,ah.2 ⟨fun h3=>?_,fun h3=>?_⟩⟩
   all_goals grind [xI]
 . have h0:¬s.take 2=[42,46]:=by grind
   have h':s.take 1=[33]:=by simpa using h2
   have hl:1<=s.length:=by have:=Aj List.length h';grind
   have hr:fU s=(s.drop 1,false,true):=by unfold fU;rw[Al h0,An h']
   have hi:fu s=(dq (s.drop 1)&&decide (1<(splitB (s.drop 1) 46).length)):=by unfold fu;rw[hr];simp
   refine ae.2 ⟨by simp;omega,s.drop 1,rfl,by simp;omega,ah.2 ⟨fun h3=>?_,fun h3=>?_⟩⟩
   . rw[xI]at h3;rw[hr,hi,h3,An rfl];refine⟨rfl,rfl,rfl,?_,trivial⟩;rw[bM,Az];simp;omega
   . rw[xI]at h3;rw[hr,hi,h3];exact⟨rfl,rfl,rfl,rfl,trivial⟩
 grind [fU,fu,ah,xI])
theorem Wl (s:Bs):bT 0 (gT s 46)=decide (1<(splitB s 46).length):=by
 rw[vi,fg];grind [xO,List.length_pos_iff,FD]
theorem MI {b:UInt8} {s:Bs} (h:iD b=false) (h2:nB b≠46):dq (b::s)=false:=by
 have hs:splitB (b::s) 46=(match splitB s 46 with|h::t=>(b::h)::t|[]=>[[b]]):=by
  rw[splitB];rw[Al h2];grind
 have hl:∀h':Bs,eW (b::h')=false:=fun h'=>EY (s:=b::h') (x:=0) (by simp) (by grind)
 have:(splitB (b::s) 46).all eW=false:=by
  rw[hs];grind
 grind [dq]
theorem Ol:dq []=false:=by rfl
theorem qze (s:Bs):fu s=(dq (fH s).2&&((fH s).1 !=33||decide (1<(splitB (fH s).2 46).length))):=by
 unfold fH;by_cases h1:s.take 2=[42,46]
 . have hr:fU s=(s.drop 2,true,false):=by grind [fU]
   have hi:fu s=dq (s.drop 2):=by grind [fu]
   by_cases h2:2<s.length
   . rw[An ⟨h2,h1⟩,hi];simp
   . have hs:s=[42,46]:=by
      rw[<-h1];grind [List.take_of_length_le]
     subst hs;rw[hi];rw[Al (fun e=>h2 e.1),Al (by grind)];simp only;rw[MI (by rfl) (by decide)];simp[Ol]
 . rw [Al (fun e=>h1 e.2)];by_cases h3:s.take 1=[33]
   . have hr:fU s=(s.drop 1,false,true):=by grind [fU]
     have hi:fu s=(dq (s.drop 1)&&decide (1<(splitB (s.drop 1) 46).length)):=by grind [fu]
     cases s with
     |nil=>grind
     |cons b s=>
      have hb:b=33:=by grind
      subst hb;by_cases h4:1<(33::s).length
      . rw[An ⟨h4,rfl⟩,hi];simp
      . have:s=[]:=by grind
        subst this;rw[Al (fun e=>h4 e.1),hi,MI (by rfl) (by decide)];simp[Ol]
   . have hr:fU s=(s,false,false):=by grind [fU]
     have hi:fu s=dq s:=by grind [fu]
     rw[Al (by
      rintro⟨e1,e2⟩;apply h3
      cases s with
      |nil=>grind
      |cons b s=>grind),hi]
     simp
theorem Xc (s:Bs):(fH s).2.length<=s.length:=by
 grind [fH]
theorem Rk:CO IM (fF fu):=bB (cfg:=fun y=>bI tM (cR y)) bh (fun _=>rfl) (fun _=>F9) (n:=400) (by
 rw[R5];intro s hpre;have hpre:s.length<=100000:=hpre;have hl:=Xc s;refine⟨s,rfl,hpre,(fH s).2,rfl,by omega,ah.2 ⟨fun h=>ah.2 ⟨fun h2=>⟨?_,trivial⟩,fun h2=>⟨((fH s).2,46),rfl,rfl,by grind,?_,trivial⟩⟩,fun h=>⟨?_,trivial⟩⟩⟩
 all_goals grind [qze,Wl])
theorem FT:∀g C,tN g=some C->CO g C:=bg qyL (bg Rk F9)
theorem Z7:CO nN GH:=bB (cfg:=fun y=>bI tN (cu nN 4 (yI y))) bh (fun _=>rfl) (fun _=>FT) (n:=400) (by
 rw[qwm];rintro l ⟨hpre,hs⟩;refine ah.2 ⟨fun h=>⟨?_,trivial⟩,fun h=>⟨⟨0,⟨by simp,fun j h hj=>by omega⟩,⟨rfl,rfl,rfl,trivial⟩,trivial,trivial⟩,?_⟩⟩
 . rw[bM,Aa,Af]at h;grind [oD]
 have h256:¬256<l.length:=by rw[bM,Ah,Af]at h;omega
 rintro x ⟨hx,hall⟩;refine ah.2 ⟨fun hlt=>aj.2 ⟨_,cp (cm hlt),_,rfl,hs _ (AF _),ah.2 ⟨fun hh=>⟨?_,trivial⟩,fun hh=>ae.2 ⟨cj x (by omega),x+1,⟨cm hlt,ot hall (cm hlt) (by grind)⟩,?_,⟨rfl,rfl,by omega,trivial⟩,trivial,trivial⟩⟩⟩,fun hge=>⟨?_,trivial⟩⟩
 . grind [oD]
 . have:=cm hlt;show l.length - (x+1)<l.length - x
   omega
 . unfold oD;rw[Al h256,oq hall (gE hge)];grind)
theorem qyQ:CO nT Hk:=bB (cfg:=fun y=>bI tN (cu nT 2 (y9 y))) bh (fun _=>rfl) (fun _=>FT) (n:=400) (by
 rw[qzx];rintro l ⟨hpre,hs⟩;refine⟨⟨0,⟨by simp,fun j h hj=>by omega⟩,⟨rfl,rfl,trivial⟩,trivial,trivial⟩,?_⟩;rintro x ⟨hx,hall⟩;refine ah.2 ⟨fun hlt=>aj.2 ⟨_,cp (cm hlt),_,rfl,hs _ (AF _),ah.2 ⟨fun hh=>⟨?_,trivial⟩,fun hh=>ae.2 ⟨cj x (by omega),x+1,⟨cm hlt,ot hall (cm hlt) (by grind)⟩,?_,⟨rfl,by omega,trivial⟩,trivial,trivial⟩⟩⟩,fun hge=>⟨?_,trivial⟩⟩
 . rw[sZ (cm hlt) (by grind)]
 . have:=cm hlt;show l.length - (x+1)<l.length - x
   omega
 . rw[oq hall (gE hge)])
theorem ZS:∀g C,Jh g=some C->CO g C:=bg Z7 (bg qyQ FT)
end
end Go.Proofs
namespace Go.Proofs.YtcnemjkdbaicnaaGreat.fetchItems
open Go.ChangeShapes Go.WideShapes Go.ChangeAt Go.RowKit
theorem j0:Rows.fetchItemsRow.wf (OpenSpec.ofChange Rows.fetchItemsSpec)=true:=by kernel_rfl
theorem j1:laidOutB Tryz.prog=true:=by kernel_rfl
theorem j2:mapsRowed Tryz.prog=true:=by kernel_rfl
theorem j3:Tryz.f3.params.all (Tryz.prog.readableRec ·)=true:=by kernel_rfl
theorem j4:namedTie Tryz.prog Rows.fetchItemsRow.named Rows.fetchItemsSpec.vars=true:=by kernel_rfl
theorem j5:(Rows.fetchItemsRow.stops==[])=true:=by kernel_rfl
theorem j6:(Tryz.prog.stops==[])=true:=by kernel_rfl
theorem j7:(Rows.fetchItemsRow.knobs==[])=true:=by kernel_rfl
theorem j8:(Tryz.prog.stopKnobs==[])=true:=by kernel_rfl
theorem uE:(Rows.fetchItemsRow.maps==(Tryz.f3.params.toList++Rows.fetchItemsSpec.plain.varTypes Tryz.prog).any (Tryz.prog.mapsRec ·))=true:=by kernel_rfl
theorem uF:(Rows.fetchItemsRow.ifaces==(Tryz.f3.params.toList++Rows.fetchItemsSpec.plain.varTypes Tryz.prog).any (Tryz.prog.ifacesRec ·))=true:=by kernel_rfl
theorem uG:(Rows.fetchItemsRow.mapsOut==Tryz.prog.mapsAmong Tryz.f3.resultTypes.toList)=true:=by kernel_rfl
theorem uH:(Rows.fetchItemsRow.loops==(Tryz.f3.params.toList++Rows.fetchItemsSpec.plain.varTypes Tryz.prog).any (Tryz.prog.loopsFrom ·))=true:=by kernel_rfl
theorem uI:(Rows.fetchItemsRow.wideKeys==(Tryz.f3.params.toList++Rows.fetchItemsSpec.plain.varTypes Tryz.prog++Tryz.f3.resultTypes.toList).any (Tryz.prog.wideKeysFrom ·))=true:=by kernel_rfl
theorem qX:Rows.fetchItemsSpec.vars.all (Tryz.prog.varReadable ·)=true:=by kernel_rfl
theorem uJ:Tryz.f3.resultTypes.all (fun t=>Tryz.prog.readableRec t&&decide (t<Tryz.prog.types.size))=true:=by kernel_rfl
theorem uK:(Rows.fetchItemsRow.ifacesOut==Tryz.f3.resultTypes.toList.any (Tryz.prog.ifacesRec ·))=true:=by kernel_rfl
theorem uL:(Rows.fetchItemsRow.loopsOut==Tryz.f3.resultTypes.toList.any (Tryz.prog.loopsFrom ·))=true:=by kernel_rfl
theorem uM:(Rows.fetchItemsRow.plainKeys==Tryz.prog.plainKeys)=true:=by kernel_rfl
theorem uN:Rows.fetchItemsRow.shortTexts.isNone=true:=by kernel_rfl
theorem uO:Tryz.prog.stopsHeard=true:=by kernel_rfl
theorem uP:Tryz.prog.mayEnter=true:=by kernel_rfl
theorem uQ:(Rows.fetchItemsRow.lifted==Tryz.prog.liftsFinal)=true:=by kernel_rfl
theorem uR:(Tryz.prog.make==some Rows.fetchItemsRow.make)=true:=by kernel_rfl
theorem uS:(Rows.fetchItemsRow.kinds==(if Rows.fetchItemsRow.domain.isEmpty then[]else Tryz.f3.params.toList.map fun t=>match Tryz.prog.underlying t with|some (.int k)=>some k|_=>none))=true:=by kernel_rfl
theorem uT:(Rows.fetchItemsRow.pinned==Rows.fetchItemsRow.pinnedBy)=true:=by kernel_rfl
theorem uU:(Rows.fetchItemsRow.veiled==(Tryz.f3.params.toList++Rows.fetchItemsSpec.plain.varTypes Tryz.prog++Tryz.f3.resultTypes.toList).any (Tryz.prog.veiledRec ·))=true:=by kernel_rfl
theorem uV:Rows.fetchItemsRow.veiledFits Tryz.prog Tryz.f3.params.toList (Tryz.f3.params.toList++Rows.fetchItemsSpec.plain.varTypes Tryz.prog++Tryz.f3.resultTypes.toList)=true:=by kernel_rfl
theorem j9:(Rows.fetchItemsRow.inPlace==Tryz.prog.inPlace 3)=true:=by kernel_rfl
theorem uB:(Rows.fetchItemsRow.unfollowed==Tryz.prog.unfollowed 3)=true:=by kernel_rfl
theorem uC:(Rows.fetchItemsRow.recurses==Tryz.prog.recurses 3)=true:=by kernel_rfl
theorem uD:(Rows.fetchItemsRow.named==Tryz.prog.varsNamed 3)=true:=by kernel_rfl
end Go.Proofs.YtcnemjkdbaicnaaGreat.fetchItems
namespace Go.Proofs.YtcnemjkdbaicnaaGreat.fetchPlans
open Go.ChangeShapes Go.WideShapes Go.ChangeAt Go.RowKit
theorem j0:Rows.fetchPlansRow.wf (OpenSpec.ofChange Rows.fetchPlansSpec)=true:=by kernel_rfl
theorem j1:laidOutB Tryz.prog=true:=by kernel_rfl
theorem j2:mapsRowed Tryz.prog=true:=by kernel_rfl
theorem j3:Tryz.f4.params.all (Tryz.prog.readableRec ·)=true:=by kernel_rfl
theorem j4:namedTie Tryz.prog Rows.fetchPlansRow.named Rows.fetchPlansSpec.vars=true:=by kernel_rfl
theorem j5:(Rows.fetchPlansRow.stops==[])=true:=by kernel_rfl
theorem j6:(Tryz.prog.stops==[])=true:=by kernel_rfl
theorem j7:(Rows.fetchPlansRow.knobs==[])=true:=by kernel_rfl
theorem j8:(Tryz.prog.stopKnobs==[])=true:=by kernel_rfl
theorem uE:(Rows.fetchPlansRow.maps==(Tryz.f4.params.toList++Rows.fetchPlansSpec.plain.varTypes Tryz.prog).any (Tryz.prog.mapsRec ·))=true:=by kernel_rfl
theorem uF:(Rows.fetchPlansRow.ifaces==(Tryz.f4.params.toList++Rows.fetchPlansSpec.plain.varTypes Tryz.prog).any (Tryz.prog.ifacesRec ·))=true:=by kernel_rfl
theorem uG:(Rows.fetchPlansRow.mapsOut==Tryz.prog.mapsAmong Tryz.f4.resultTypes.toList)=true:=by kernel_rfl
theorem uH:(Rows.fetchPlansRow.loops==(Tryz.f4.params.toList++Rows.fetchPlansSpec.plain.varTypes Tryz.prog).any (Tryz.prog.loopsFrom ·))=true:=by kernel_rfl
theorem uI:(Rows.fetchPlansRow.wideKeys==(Tryz.f4.params.toList++Rows.fetchPlansSpec.plain.varTypes Tryz.prog++Tryz.f4.resultTypes.toList).any (Tryz.prog.wideKeysFrom ·))=true:=by kernel_rfl
theorem qX:Rows.fetchPlansSpec.vars.all (Tryz.prog.varReadable ·)=true:=by kernel_rfl
theorem uJ:Tryz.f4.resultTypes.all (fun t=>Tryz.prog.readableRec t&&decide (t<Tryz.prog.types.size))=true:=by kernel_rfl
theorem uK:(Rows.fetchPlansRow.ifacesOut==Tryz.f4.resultTypes.toList.any (Tryz.prog.ifacesRec ·))=true:=by kernel_rfl
theorem uL:(Rows.fetchPlansRow.loopsOut==Tryz.f4.resultTypes.toList.any (Tryz.prog.loopsFrom ·))=true:=by kernel_rfl
theorem uM:(Rows.fetchPlansRow.plainKeys==Tryz.prog.plainKeys)=true:=by kernel_rfl
theorem uN:Rows.fetchPlansRow.shortTexts.isNone=true:=by kernel_rfl
theorem uO:Tryz.prog.stopsHeard=true:=by kernel_rfl
theorem uP:Tryz.prog.mayEnter=true:=by kernel_rfl
theorem uQ:(Rows.fetchPlansRow.lifted==Tryz.prog.liftsFinal)=true:=by kernel_rfl
theorem uR:(Tryz.prog.make==some Rows.fetchPlansRow.make)=true:=by kernel_rfl
theorem uS:(Rows.fetchPlansRow.kinds==(if Rows.fetchPlansRow.domain.isEmpty then[]else Tryz.f4.params.toList.map fun t=>match Tryz.prog.underlying t with|some (.int k)=>some k|_=>none))=true:=by kernel_rfl
theorem uT:(Rows.fetchPlansRow.pinned==Rows.fetchPlansRow.pinnedBy)=true:=by kernel_rfl
theorem uU:(Rows.fetchPlansRow.veiled==(Tryz.f4.params.toList++Rows.fetchPlansSpec.plain.varTypes Tryz.prog++Tryz.f4.resultTypes.toList).any (Tryz.prog.veiledRec ·))=true:=by kernel_rfl
theorem uV:Rows.fetchPlansRow.veiledFits Tryz.prog Tryz.f4.params.toList (Tryz.f4.params.toList++Rows.fetchPlansSpec.plain.varTypes Tryz.prog++Tryz.f4.resultTypes.toList)=true:=by kernel_rfl
theorem j9:(Rows.fetchPlansRow.inPlace==Tryz.prog.inPlace 4)=true:=by kernel_rfl
theorem uB:(Rows.fetchPlansRow.unfollowed==Tryz.prog.unfollowed 4)=true:=by kernel_rfl
theorem uC:(Rows.fetchPlansRow.recurses==Tryz.prog.recurses 4)=true:=by kernel_rfl
theorem uD:(Rows.fetchPlansRow.named==Tryz.prog.varsNamed 4)=true:=by kernel_rfl
end Go.Proofs.YtcnemjkdbaicnaaGreat.fetchPlans
namespace Go.Proofs.YtcnemjkdbaicnaaGreat.fetchFits
open Go.ChangeShapes Go.WideShapes Go.ChangeAt Go.RowKit
theorem j0:Rows.fetchFitsRow.wf (OpenSpec.ofChange Rows.fetchFitsSpec)=true:=by kernel_rfl
theorem j1:laidOutB Tryz.prog=true:=by kernel_rfl
theorem j2:mapsRowed Tryz.prog=true:=by kernel_rfl
theorem j3:Tryz.f5.params.all (Tryz.prog.readableRec ·)=true:=by kernel_rfl
theorem j4:namedTie Tryz.prog Rows.fetchFitsRow.named Rows.fetchFitsSpec.vars=true:=by kernel_rfl
theorem j5:(Rows.fetchFitsRow.stops==[])=true:=by kernel_rfl
theorem j6:(Tryz.prog.stops==[])=true:=by kernel_rfl
theorem j7:(Rows.fetchFitsRow.knobs==[])=true:=by kernel_rfl
theorem j8:(Tryz.prog.stopKnobs==[])=true:=by kernel_rfl
theorem uE:(Rows.fetchFitsRow.maps==(Tryz.f5.params.toList++Rows.fetchFitsSpec.plain.varTypes Tryz.prog).any (Tryz.prog.mapsRec ·))=true:=by kernel_rfl
theorem uF:(Rows.fetchFitsRow.ifaces==(Tryz.f5.params.toList++Rows.fetchFitsSpec.plain.varTypes Tryz.prog).any (Tryz.prog.ifacesRec ·))=true:=by kernel_rfl
theorem uG:(Rows.fetchFitsRow.mapsOut==Tryz.prog.mapsAmong Tryz.f5.resultTypes.toList)=true:=by kernel_rfl
theorem uH:(Rows.fetchFitsRow.loops==(Tryz.f5.params.toList++Rows.fetchFitsSpec.plain.varTypes Tryz.prog).any (Tryz.prog.loopsFrom ·))=true:=by kernel_rfl
theorem uI:(Rows.fetchFitsRow.wideKeys==(Tryz.f5.params.toList++Rows.fetchFitsSpec.plain.varTypes Tryz.prog++Tryz.f5.resultTypes.toList).any (Tryz.prog.wideKeysFrom ·))=true:=by kernel_rfl
theorem qX:Rows.fetchFitsSpec.vars.all (Tryz.prog.varReadable ·)=true:=by kernel_rfl
theorem uJ:Tryz.f5.resultTypes.all (fun t=>Tryz.prog.readableRec t&&decide (t<Tryz.prog.types.size))=true:=by kernel_rfl
theorem uK:(Rows.fetchFitsRow.ifacesOut==Tryz.f5.resultTypes.toList.any (Tryz.prog.ifacesRec ·))=true:=by kernel_rfl
theorem uL:(Rows.fetchFitsRow.loopsOut==Tryz.f5.resultTypes.toList.any (Tryz.prog.loopsFrom ·))=true:=by kernel_rfl
theorem uM:(Rows.fetchFitsRow.plainKeys==Tryz.prog.plainKeys)=true:=by kernel_rfl
theorem uN:Rows.fetchFitsRow.shortTexts.isNone=true:=by kernel_rfl
theorem uO:Tryz.prog.stopsHeard=true:=by kernel_rfl
theorem uP:Tryz.prog.mayEnter=true:=by kernel_rfl
theorem uQ:(Rows.fetchFitsRow.lifted==Tryz.prog.liftsFinal)=true:=by kernel_rfl
theorem uR:(Tryz.prog.make==some Rows.fetchFitsRow.make)=true:=by kernel_rfl
theorem uS:(Rows.fetchFitsRow.kinds==(if Rows.fetchFitsRow.domain.isEmpty then[]else Tryz.f5.params.toList.map fun t=>match Tryz.prog.underlying t with|some (.int k)=>some k|_=>none))=true:=by kernel_rfl
theorem uT:(Rows.fetchFitsRow.pinned==Rows.fetchFitsRow.pinnedBy)=true:=by kernel_rfl
theorem uU:(Rows.fetchFitsRow.veiled==(Tryz.f5.params.toList++Rows.fetchFitsSpec.plain.varTypes Tryz.prog++Tryz.f5.resultTypes.toList).any (Tryz.prog.veiledRec ·))=true:=by kernel_rfl
theorem uV:Rows.fetchFitsRow.veiledFits Tryz.prog Tryz.f5.params.toList (Tryz.f5.params.toList++Rows.fetchFitsSpec.plain.varTypes Tryz.prog++Tryz.f5.resultTypes.toList)=true:=by kernel_rfl
theorem j9:(Rows.fetchFitsRow.inPlace==Tryz.prog.inPlace 5)=true:=by kernel_rfl
theorem uB:(Rows.fetchFitsRow.unfollowed==Tryz.prog.unfollowed 5)=true:=by kernel_rfl
theorem uC:(Rows.fetchFitsRow.recurses==Tryz.prog.recurses 5)=true:=by kernel_rfl
theorem uD:(Rows.fetchFitsRow.named==Tryz.prog.varsNamed 5)=true:=by kernel_rfl
end Go.Proofs.YtcnemjkdbaicnaaGreat.fetchFits
