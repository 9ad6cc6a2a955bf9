/- Part 6: an evaluator, proved sound, and its use at this seat; no condition. -/
import Derived.Lib.Bytealg
import Derived.KernelRfl
import Derived.WalkKit
import Derived.Laws.IdiomStrings
import Derived.Deep.MidRow
import Derived.Laws.AppendOwn
import Derived.Maps.Own
import Derived.Maps.OwnOps
import Derived.Sort.KeysCollected
import Derived.Sort.EncStr
import Derived.Test.YtggljmdeadplkaaGreatP0
import Derived.Test.YtggljmdeadplkaaGreatP1
import Derived.Test.YtggljmdeadplkaaGreatP2
import Derived.Test.YtggljmdeadplkaaGreatP3
import Derived.Test.YtggljmdeadplkaaGreatP4
import Derived.Test.YtggljmdeadplkaaGreatP5
set_option linter.unusedSimpArgs false
set_option linter.unusedVariables false
set_option linter.unusedSectionVars false
set_option linter.deprecated false
set_option maxRecDepth 100000
set_option maxHeartbeats 40000000
namespace Go.Proofs
open Go Go.Am Go.RowKit Go.Sy Go.Lib
structure bh where
 name:Bs
 domain:Bs
 path:Bs
deriving DecidableEq,Inhabited
structure cr where
 value:Bs
 ay:Bool
 aT:Bool
 aD:Bool
 persistent:Bool
 aM:Int
 aq:Int
 access:Int
deriving DecidableEq,Inhabited
structure aa where
 key:bh
 ab:cr
deriving DecidableEq,Inhabited
structure aw where
 bW:Int
 domain:Int
 total:Int
 rules:List Bs
def bh.enc (x:bh):List SV:=[.str x.name, .str x.domain, .str x.path]
def cr.enc (x:cr):List SV:=[.str x.value, .bool x.ay, .bool x.aT, .bool x.aD, .bool x.persistent, .int .i64 x.aM, .int .i64 x.aq, .int .i64 x.access]
def aa.enc (x:aa):List SV:=[.str x.key.name, .str x.key.domain, .str x.key.path, .str x.ab.value, .bool x.ab.ay, .bool x.ab.aT, .bool x.ab.aD, .bool x.ab.persistent, .int .i64 x.ab.aM, .int .i64 x.ab.aq, .int .i64 x.ab.access]
def aw.enc (x:aw):List SV:=[.int .i64 x.bW, .int .i64 x.domain, .int .i64 x.total, .ax Bs x.rules cI]
abbrev lt (a b:Bs):Bool:=Op.bytesLess a b
theorem lt_irrefl:∀a,lt a a=false
 |[]=>rfl
 |a::l=>by simp[lt,Op.bytesLess];exact lt_irrefl l
theorem lt_trans:∀a b c,lt a b=true->lt b c=true->lt a c=true:=by
 intro a;induction a with
 |nil=>intro b c h1 h2;cases c with
  |nil=>cases b<;>simp[lt,Op.bytesLess]at h1 h2
  |cons=>rfl
 | cons x a ih=>
  intro b c h1 h2
  cases b with
  |nil=>simp[lt,Op.bytesLess]at h1
  | cons y b=>cases c with
   |nil=>simp[lt,Op.bytesLess]at h2
   |cons z c=>
    simp only[lt,Op.bytesLess,A4,Ac,Ad,AK]at*;rcases h1 with h1|⟨rfl,h1⟩<;>rcases h2 with h2|⟨rfl,h2⟩
    . exact .inl (UInt8.lt_trans h1 h2)
    . exact .inl h1
    . exact .inl h2
    . exact .inr ⟨rfl,ih b c h1 h2⟩
theorem vR:∀a b,lt a b=true\/a=b\/lt b a=true:=by
 intro a;induction a with
 |nil=>intro b;cases b<;>simp[lt,Op.bytesLess]
 | cons x a ih=>
  intro b
  cases b with
  |nil=>simp[lt,Op.bytesLess]
  |cons y b=>
   simp only[lt,Op.bytesLess,A4,Ac,Ad,AK,BL];rcases Nat.lt_trichotomy x.toNat y.toNat with h|h|h
   . exact .inl (.inl (D2.2 h))
   . have h:x=y:=Dl.1 h;subst h;rcases ih b with h|h|h
     . exact .inl (.inr ⟨rfl,h⟩)
     . exact .inr (.inl ⟨rfl,h⟩)
     . exact .inr (.inr (.inr ⟨rfl,h⟩))
   . exact .inr (.inr (.inl (D2.2 h)))
def cR (a b:Bs):Int:=if lt a b then -1 else if a=b then 0 else 1
theorem Fx:∀(a b:Bs),compareBytes a b=cR a b:=by
 intro a;induction a with
 |nil=>intro b;cases b<;>simp[compareBytes,cR,lt,Op.bytesLess]
 | cons x a ih=>
  intro b
  cases b with
  |nil=>simp[compareBytes,cR,lt,Op.bytesLess]
  |cons y b=>
   simp only[compareBytes,ih b,cR,lt,Op.bytesLess,A4,Ac,Ad,AK,BL];by_cases h1:x<y
   . simp[h1]
   . by_cases h2:y<x
     . have:x≠y:=by rintro rfl;exact h1 h2
       simp[h1,h2,this]
     . have:x=y:=Dl.1 (by have:=UInt8.not_lt.1 h1;have:=UInt8.not_lt.1 h2;simp[UInt8.le_iff_toNat_le]at*;omega);subst this;simp
theorem GV (a b:Bs):Extern.BytealgCompare.cmp ⟨a.toArray⟩ ⟨b.toArray⟩=cR a b:=by
 rw[cmp_eq,Fx]
theorem qR (a b:Bs):cR a b=0↔a=b:=by
 unfold cR;by_cases h:a=b
 . subst h;simp[lt_irrefl]
 . by_cases h1:lt a b=true<;>simp[h,h1]
theorem uF (a b:Bs):cR a b<0↔lt a b=true:=by
 unfold cR;by_cases h1:lt a b=true
 . simp[h1]
 . by_cases h:a=b<;>simp[h,h1]<;>simp_all[lt_irrefl]
def cj (a b:Int):Int:=if a<b then -1 else if b<a then 1 else 0
theorem x8 (a b:Int):cj a b=0↔a=b:=by
 unfold cj;by_cases h:a<b
 . rw[Ai h];omega
 . rw[Ah h];by_cases h2:b<a
   . rw[Ai h2];omega
   . rw[Ah h2];omega
theorem y5 (a b:Int):cj a b<0↔a<b:=by
 unfold cj;by_cases h:a<b
 . rw[Ai h];omega
 . rw[Ah h];by_cases h2:b<a
   . rw[Ai h2];omega
   . rw[Ah h2];omega
def kM (a b:bh):Int:=let n:=cR a.name b.name;if n≠0 then n else let d:=cR a.domain b.domain;if d≠0 then d else cR a.path b.path
def bL (a b:bh):Bool:=decide (kM a b<0)
theorem qF (a b:bh):bL a b=if a.name≠b.name then lt a.name b.name else if a.domain≠b.domain then lt a.domain b.domain else lt a.path b.path:=by
 rw[Aw];unfold bL kM;by_cases h1:a.name=b.name
 . have e1:=(qR a.name b.name).2 h1;by_cases h2:a.domain=b.domain
   . have e2:=(qR a.domain b.domain).2 h2;have:=uF a.path b.path;simp_all
   . have e2:=fun h=>h2 ((qR a.domain b.domain).1 h)
     have:=uF a.domain b.domain;simp_all
 . have e1:=fun h=>h1 ((qR a.name b.name).1 h)
   have:=uF a.name b.name;simp_all
theorem nG (a:bh):bL a a=false:=by simp[qF,lt_irrefl]
theorem wW (a b c:bh) (h1:bL a b=true) (h2:bL b c=true):bL a c=true:=by
 rw[qF]at*;by_cases n1:a.name=b.name
 . by_cases n2:b.name=c.name
   . have n3:a.name=c.name:=n1.trans n2;simp only[n1,n2,n3,BG,BN,AE]at h1 h2⊢;by_cases d1:a.domain=b.domain
     . by_cases d2:b.domain=c.domain
       . have d3:a.domain=c.domain:=d1.trans d2;simp only[d1,d2,d3,BG,BN,AE]at h1 h2⊢;exact lt_trans _ _ _ h1 h2
       . simp only[d1,d2,BG,BN,AP,AE,AY]at h1 h2⊢;exact h2
     . simp only[d1,BG,AP,AY]at h1;by_cases d2:b.domain=c.domain
       . rw[<-d2];simp only[d1,BG,AP,AY];exact h1
       . simp only[d2,BG,AP,AY]at h2;have h3:=lt_trans _ _ _ h1 h2;have d3:a.domain≠c.domain:=fun e=>by rw[e,lt_irrefl]at h3;cases h3
         simp only[d3,BG,AP,AY];exact h3
   . simp only[n1,n2,BG,AP,AY]at h2⊢;exact h2
 . simp only[n1,BG,AP,AY]at h1;by_cases n2:b.name=c.name
   . rw[<-n2];simp only[n1,BG,AP,AY];exact h1
   . simp only[n2,BG,AP,AY]at h2;have h3:=lt_trans _ _ _ h1 h2;have n3:a.name≠c.name:=fun e=>by rw[e,lt_irrefl]at h3;cases h3
     simp only[n3,BG,AP,AY];exact h3
theorem F3 (a b:bh):bL a b=true\/a=b\/bL b a=true:=by
 simp only[qF];by_cases h1:a.name=b.name
 . by_cases h2:a.domain=b.domain
   . simp only[h1,h2,BG,BN,AE];rcases vR a.path b.path with h|h|h
     . exact .inl h
     . exact .inr (.inl (by cases a;cases b;simp_all))
     . exact .inr (.inr h)
   . have h2':=Ne.symm h2;simp only[h1,h2,h2',BG,BN,AP,AE,AY];rcases vR a.domain b.domain with h|h|h
     . exact .inl h
     . exact absurd h h2
     . exact .inr (.inr h)
 . have h1':=Ne.symm h1;simp only[h1,h1',BG,AP,AY];rcases vR a.name b.name with h|h|h
   . exact .inl h
   . exact absurd h h1
   . exact .inr (.inr h)
theorem FA (a b:bh) (h:bL a b=true):bL b a=false:=by
 cases hb:bL b a
 . rfl
 . have:=wW a b a h hb;rw[nG]at this
   cases this
end Go.Proofs
namespace Go.Proofs
open Go Go.Am Go.RowKit Go.Sy
section
variable [Inhabited aL]
theorem Tryz.pe:Tryz.tab.fns.get sT=some Tryz.f128:=by kernel_rfl
theorem MB (a b:List UInt8):run Tryz.tab 200 {fr:=ae.enter Tryz.f128 sT (Tryz.f128.body.getD .skip) [.str a, .str b] .normal,cs:=[],h:=cG}= .ok [(.int .i64 (Extern.BytealgCompare.cmp ⟨a.toArray⟩ ⟨b.toArray⟩),cG)]:=by kernel_rfl
def rW:aH:={Y:=Unit,pre:=fun _=>True,args:=fun _=>[],res:=fun _=> .bool true}
theorem Ik {f:FuncId} {fn0:Func} (hfn0:Tryz.tab.fns.get f=some fn0) (hrun:u3 (run Tryz.tab 200000 {fr:=ae.enter fn0 f (fn0.body.getD .skip) [] .normal,cs:=[],h:=cG})=true):CO f rW:=by
 refine bX.shut bD fun fn body hfn hb y _ avs Fz hav=>?_
 rw[hfn0]at hfn
 cases hfn;have hl:avs=[]:=by
   have:=hav.1
   cases avs with
   |nil=>rfl
   |cons=>simp[rW]at this
 subst hl;refine⟨fun _ _=>rfl,fun v _=>v= .bool true,?_,?_⟩
 . obtain⟨outs,ho,ht⟩:=GM hrun;rw[hb]at ho;exact(dm.run bD ho).mono fun v h' hm=>ht v h' hm
 . rintro v h' rfl;exact⟨fun _ _=>rfl, .bool true⟩
noncomputable def lK:aH:={Y:=Bs×Bs,pre:=fun _=>True,args:=fun y=>[.str y.1, .str y.2],res:=fun y=> .int .i64 (cR y.1 y.2)}
theorem Lh:CO sT lK:=by
 refine bX.shut bD fun fn body hfn hb y _ avs Fz hav=>?_
 rw[Tryz.pe]at hfn
 cases hfn;obtain⟨a,b⟩:=y;have hl:avs=[.str a, .str b]:=by
   obtain⟨h1,h2⟩:=hav
   cases avs with
   |nil=>simp[lK]at h1
   | cons u avs=>cases avs with
    |nil=>simp[lK]at h1
    | cons w avs=>cases avs with
     |cons=>simp[lK]at h1
     |nil=>
      have e1:=h2 0 _ u rfl rfl;have e2:=h2 1 _ w rfl rfl;simp only at e1 e2
      cases e1
      cases e2;rfl
 subst hl;refine⟨fun _ _=>rfl,fun v _=>v= .int .i64 (cR a b),?_,?_⟩
 . have ho:=MB a b;rw[hb]at ho;refine(dm.run bD ho).mono fun v h' hm=>?_
   simp only[As,BV,De,DQ]at hm;rw[hm.1,GV]
 . rintro v h' rfl;exact⟨fun _ _=>rfl, .int _ _⟩
end
section
theorem GX (s:Bs):((s.count 46:Nat):Int)+1=(aN s).length:=by
 induction s with
 |nil=>rfl
 |cons b s ih=>
  simp only[aN]at ih⊢;simp only[aB];by_cases hb:nB b=46
  . have e:b=46:=lI (by rw[hb,mB]);simp only[hb,AY,AN];rw[e];simp;omega
  . have e:b≠46:=fun e=>hb (by rw[e,mB])
    simp only[hb,AE]
    cases h:aB s 46 with
    |nil=>exact absurd h (lv _ _)
    |cons x y=>
     rw[h]at ih;simp[e]at*;omega
theorem Jt (s:Bs):Go.Lib.indexByte s 46=eG s 46:=by
 induction s with
 |nil=>rfl
 |cons b s ih=>
  unfold eG bP at*;rw[Go.Lib.indexByte,B7,ih];by_cases hb:nB b=46
  . have e:b=46:=lI (by rw[hb,mB]);subst e;rfl
  . have e:b≠46:=fun e=>hb (by rw[e,mB])
    simp only[AK,e,AE,hb]
    cases h:List.findIdx? (fun b=>nB b==46) s with
    |none=>rfl
    |some i=>
     simp only[Bj];rw[Ah (by omega)];simp
theorem JO (s:Bs):ou ⟨s.toArray⟩ 46=eG s 46:=by
 rw[<-Jt];exact Go.Lib.firstIdx_eq ⟨s.toArray⟩ 46
theorem Tryz.pf:Tryz.tab.fns.get kV=some Tryz.f176:=by kernel_rfl
theorem MC (s:List UInt8):run Tryz.tab 200 {fr:=ae.enter Tryz.f176 kV (Tryz.f176.body.getD .skip) [.str s, .str [46]] .normal,cs:=[],h:=cG}= .ok [(.int .i64 (s.count 46:Nat),cG)]:=by kernel_rfl
theorem Tryz.pg:Tryz.tab.fns.get sU=some Tryz.f283:=by kernel_rfl
theorem ME (s:List UInt8):run Tryz.tab 200 {fr:=ae.enter Tryz.f283 sU (Tryz.f283.body.getD .skip) [.str s, .int .u8 46] .normal,cs:=[],h:=cG}= .ok [(.int .i64 (ou ⟨s.toArray⟩ 46),cG)]:=by kernel_rfl
section
variable [Inhabited aL]
theorem Co {f:FuncId} {fn0:Func} {x:SV} {u:AV} {n:Bs->Int} (hfn0:Tryz.tab.fns.get f=some fn0) (hx:∀Fz v,aG Fz x v->v=u) (hu:∀E E',ad E u=ad E' u)
   (hrun:∀s,∃h,run Tryz.tab 200 {fr:=ae.enter fn0 f (fn0.body.getD .skip) [.str s,u] .normal,cs:=[],h:=cG}= .ok [(.int .i64 (n s),h)]):
   CO f {Y:=Bs,pre:=fun _=>True,args:=fun s=>[.str s,x],res:=fun s=>i64 (n s)}:=by
 refine bX.shut bD fun fn body hfn hb s _ avs Fz hav=>?_
 rw[hfn0]at hfn
 cases hfn;have hl:avs=[.str s,u]:=by
   obtain⟨h1,h2⟩:=hav;match avs,h1 with
   |[a,b],_=>
    have e1:=h2 0 _ a rfl rfl;have e2:=h2 1 _ b rfl rfl
    cases e1;rw[hx _ _ e2]
 subst hl;refine⟨fun E E'=>by simp only[bo,cd,hu E E'];rfl,fun v _=>v= .int .i64 (n s),?_,?_⟩
 . obtain⟨h0,ho⟩:=hrun s;rw[hb]at ho;refine(dm.run bD ho).mono fun v h' hm=>?_
   simp only[As,BV,De,DQ]at hm;exact hm.1
 . rintro v h' rfl;exact⟨fun _ _=>rfl, .int _ _⟩
def CE:aH:={Y:=Bs,pre:=fun _=>True,args:=fun s=>[.str s, .str [46]],res:=fun s=>i64 (s.count 46:Nat)}
theorem KM:CO kV CE:=Co Tryz.pf (fun _ _ h=>by cases h;rfl) (fun _ _=>rfl) fun s=>⟨_,MC s⟩
def oW:aH:={Y:=Bs,pre:=fun _=>True,args:=fun s=>[.str s, .int .u8 46],res:=fun s=>i64 (ou ⟨s.toArray⟩ 46)}
theorem M5:CO sU oW:=Co Tryz.pg (fun _ _ h=>by cases h;rfl) (fun _ _=>rfl) fun s=>⟨_,ME s⟩
noncomputable def sd (f:FuncId):Option aH:=bif Nat.beq f kV then some CE else bif Nat.beq f sU then some oW else wk f
theorem uP:∀f C,sd f=some C->CO f C:=bM KM (bM M5 zd)
def oV:aH:={Y:=Bs,pre:=fun _=>True,args:=fun s=>[.str s, .str [46]],res:=fun s=>i64 (eG s 46)}
theorem M4:CO qj oV:=bO (cfg:=fun(_:Bs)=>aQ sd (fun _ _=>none)) bD (fun _=>rfl) (fun _=>uP) (n:=800) (by
 intro (s:Bs) _;by_cases hs:s=[46]
 . subst hs
   repeat' (first|exact trivial|exact rfl|((conv=>whnf);first|(apply aP<;>intro)|apply And.intro))
 have hb:(bif false then true else[46]==s)=false:=by
   show([46]==s)=false
   exact AJ.2 fun e=>hs e.symm
 (conv=>whnf)
 rw[hb]
 (conv=>whnf)
 refine⟨s,?_⟩
 repeat ((conv=>whnf);first|refine⟨rfl,?_⟩|refine⟨trivial,?_⟩)
 (conv=>whnf)
 refine⟨?_,trivial⟩;exact JO s)
def sx:aH:={Y:=Bs,pre:=fun s=>s.length<=1000000,args:=fun s=>[.str s, .str [46]],res:=fun s=> .bg [.str (bV s 46).1, .str (bV s 46).2.1, .bool (bV s 46).2.2]}
noncomputable def CX (f:FuncId):Option aH:=bif Nat.beq f qj then some oV else sd f
theorem Ia:∀f C,CX f=some C->CO f C:=bM M4 uP
theorem Lk:CO qk sx:=bO (cfg:=fun(_:Bs)=>aQ CX (fun _ _=>none)) bD (fun _=>rfl) (fun _=>Ia) (n:=600) (by
 intro (s:Bs) (hs:s.length<=1000000)
 (conv=>whnf)
 refine⟨s,?_⟩
 repeat ((conv=>whnf);first|refine⟨rfl,?_⟩|refine⟨trivial,?_⟩)
 (conv=>whnf)
 rcases pB s 46 with⟨i,h1,h2,h3⟩|⟨h1,h2⟩
 . have hc:bV s 46=(s.take i,s.drop (i+1),true):=by unfold bV;rw[h1]
   rw[h2]
   (conv=>whnf)
   refine ag.2 ⟨by rw[AI];omega,?_⟩
   repeat' (first|exact trivial|exact rfl|((conv=>whnf);refine ag.2 ⟨?_,?_⟩)|((conv=>whnf);apply And.intro))
   . exact cB i (by omega)
   . show Nat.ble ((i:Int)+1).toNat s.length=true;rw[AI];omega
   . rw[hc];rfl
   . rw[hc];show s.drop ((i:Int)+1).toNat=s.drop (i+1);rw[show((i:Int)+1).toNat=i+1 by omega]
   . rw[hc]
 . have hc:bV s 46=(s,[],false):=by unfold bV;rw[h1]
   rw[h2]
   (conv=>whnf)
   refine⟨?_,?_⟩
   . rw[hc]
   (conv=>whnf)
   refine⟨?_,?_⟩
   . rw[hc]
   (conv=>whnf)
   refine⟨?_,trivial⟩;rw[hc])
def kq:aH:={Y:=Bs×Bs,pre:=fun y=>y.1.length<=1000000/\y.2.length<=1000000,args:=fun y=>[.str y.1, .str y.2],res:=fun y=> .bool (y.2.isSuffixOf y.1)}
theorem LU:CO EJ kq:=bO (cfg:=fun(_:Bs×Bs)=>aQ bI (fun _ _=>none)) bD (fun _=>rfl) (fun _=>fb) (n:=600) (by
 rintro⟨s,t⟩ ⟨hs,ht⟩;have hs:s.length<=1000000:=hs;have ht:t.length<=1000000:=ht
 (conv=>whnf)
 refine aP (fun h=>?_) fun h=>?_
 . (conv=>whnf)
   repeat' (first|exact trivial|exact rfl|((conv=>whnf);refine ag.2 ⟨?_,?_⟩)|((conv=>whnf);apply And.intro))
   all_goals (have h:bA (Int.ofNat t.length) (Int.ofNat s.length)=true:=h;rw[dN,Ac]at h;simp only[Aa]at h⊢)
   . rw[dQ];omega
   . rw[iX,Ac];omega
   . rw[AI];omega
   . show(s.drop ((s.length:Int) - (t.length:Int)).toNat==t)=t.isSuffixOf s
     rw[show((s.length:Int) - (t.length:Int)).toNat=s.length - t.length by omega,Aw,Be,DT,AK];exact eq_comm
 . (conv=>whnf)
   refine⟨?_,trivial⟩;have h:bA (Int.ofNat t.length) (Int.ofNat s.length)=false:=h;rw[dN,Ae]at h;symm;rw[Ap,BG];intro e;have e:t.isSuffixOf s=true:=e;have:=(Be.1 e).length_le;simp only[Aa]at h;omega)
theorem M9:CO qm kq:=bO (cfg:=fun(_:Bs×Bs)=>aQ (fun f=>bif Nat.beq f EJ then some kq else bI f) (fun _ _=>none)) bD (fun _=>rfl) (fun _=>bM LU fb) (n:=600) (by
 rintro⟨s,t⟩ h
 (conv=>whnf)
 refine⟨(s,t),?_⟩
 repeat ((conv=>whnf);first|refine⟨rfl,?_⟩|refine⟨trivial,?_⟩)
 refine⟨h,?_⟩
 repeat' (first|exact trivial|exact rfl|((conv=>whnf);first|(apply aP<;>intro)|apply And.intro)))
theorem Ll:CO Ep sx:=bO (cfg:=fun(_:Bs)=>aQ (fun f=>bif Nat.beq f qk then some sx else bI f) (fun _ _=>none)) bD (fun _=>rfl) (fun _=>bM Lk fb) (n:=600) (by
 intro (s:Bs) h
 (conv=>whnf)
 refine⟨s,?_⟩
 repeat ((conv=>whnf);first|refine⟨rfl,?_⟩|refine⟨trivial,?_⟩)
 refine⟨h,?_⟩
 repeat' (first|exact trivial|exact rfl|((conv=>whnf);first|(apply aP<;>intro)|apply And.intro)))
noncomputable def se (f:FuncId):Option aH:=bif Nat.beq f qm then some kq else bif Nat.beq f Ep then some sx else sd f
theorem uQ:∀f C,se f=some C->CO f C:=bM M9 (bM Ll uP)
def Eg:aH:={Y:=Bs,pre:=fun s=>s.length<=1000000,args:=fun s=>[.str s],res:=fun s=>i64 (aN s).length}
theorem K0:CO Es Eg:=bO (cfg:=fun(_:Bs)=>aQ se (fun _ _=>none)) bD (fun _=>rfl) (fun _=>uQ) (n:=600) (by
 intro (s:Bs) (hs:s.length<=1000000);have hc:=GX s;have hl:(aN s).length<=s.length+1:=kI s 46
 (conv=>whnf)
 refine⟨s,?_⟩
 repeat ((conv=>whnf);first|refine⟨rfl,?_⟩|refine⟨trivial,?_⟩)
 (conv=>whnf)
 refine ag.2 ⟨by show aX .i64 (1+((s.count 46:Nat):Int))=true;rw[dQ];omega,?_⟩
 (conv=>whnf)
 refine⟨?_,trivial⟩;show(1+((s.count 46:Nat):Int))=((aN s).length:Int)
 omega)
def Ee:aH:={Y:=Bs×Bs,pre:=fun y=>y.1.length<=100000/\y.2.length<=100000,args:=fun y=>[.str y.1, .str y.2],res:=fun y=> .bool (dD y.1 y.2)}
theorem Cj (s t:Bs):dD s t=(s==t||(46::t).isSuffixOf s):=by
 rw[Aw,gM,A4,AK,Be]
theorem Lo:CO Er Ee:=bO (cfg:=fun(_:Bs×Bs)=>aQ se (fun _ _=>none)) bD (fun _=>rfl) (fun _=>uQ) (n:=600) (by
 rintro⟨s,t⟩ ⟨hs,ht⟩;have hs:s.length<=100000:=hs;have ht:t.length<=100000:=ht
 (conv=>whnf)
 refine aP (fun h=>?_) fun h=>?_
 . have h:(s==t)=true:=h
   (conv=>whnf)
   refine⟨?_,trivial⟩;show true=dD s t
   rw[Cj,h,BR]
 . have h:(s==t)=false:=h
   (conv=>whnf)
   refine ag.2 ⟨by show Nat.ble (1+t.length) 1048576=true;rw[AI];omega,?_⟩
   (conv=>whnf)
   refine⟨(s,46::t),?_⟩
   repeat ((conv=>whnf);first|refine⟨rfl,?_⟩|refine⟨trivial,?_⟩)
   refine⟨⟨by show s.length<=1000000;omega,by show(46::t).length<=1000000;simp;omega⟩,?_⟩
   (conv=>whnf)
   refine⟨?_,trivial⟩;show(46::t).isSuffixOf s=dD s t
   rw[Cj,h,Dt])
noncomputable def wo (f:FuncId):Option aH:=bif Nat.beq f Es then some Eg else bif Nat.beq f Er then some Ee else se f
theorem yM:∀f C,wo f=some C->CO f C:=bM K0 (bM Lo uQ)
def CV:aH:={Y:=Bs×Nat,pre:=fun y=>y.1.length<=100000/\1<=y.2/\y.2<=1000000,args:=fun y=>[.str y.1,i64 y.2],res:=fun y=> .str (dy y.1 y.2)}
def LG (y:Bs×Nat):aE:={α:=Nat,ok:=fun k=>1<=k/\k<=(aN y.1).length/\(y.2<=k\/k=(aN y.1).length),μ:=fun k=>k,bu:=[1],aV:=fun k=>[(0, .str (dy y.1 k)),(5,i64 k)],bK:=fun _=>[]}
theorem zg (d:Bs) (n:Nat) (h:1<=n):(dy d n).length<=d.length:=by
 have he:dD d (dy d n)=true:=by rw[dc,nS h];exact List.drop_suffix _ _
 rcases gM.1 he with h|h
 . exact Nat.le_of_eq (Az List.length h.symm)
 . have:=h.length_le;simp at this;omega
theorem Iv {d:Bs} {k:Nat} (h:1<=k) (hk:k+1<=(aN d).length):(bV (dy d (k+1)) 46).2.1=dy d k:=by
 have e1:=nS (d:=d) (n:=k+1) (by omega);have hl:1<(aN (dy d (k+1))).length:=by rw[e1];simp;omega
 obtain⟨_,h2⟩:=KA hl;apply rB;rw[h2,e1,nS h,Dq];congr 1;omega
theorem LV:CO nf CV:=bO (cfg:=fun(y:Bs×Nat)=>aQ wo (cq nf 2 (LG y))) bD (fun _=>rfl) (fun _=>yM) (n:=600) (by
 rintro⟨d,n⟩ ⟨hd,h1,h2⟩;have hd:d.length<=100000:=hd;have h1:1<=n:=h1;have h2:n<=1000000:=h2;have hp:=jO d;have hl:(aN d).length<=d.length+1:=kI d 46
 (conv=>whnf)
 refine⟨d,?_⟩
 repeat ((conv=>whnf);first|refine⟨rfl,?_⟩|refine⟨trivial,?_⟩)
 refine⟨by show d.length<=1000000;omega,?_⟩
 (conv=>whnf)
 refine⟨⟨((aN d).length:Nat),⟨hp,An _, .inr rfl⟩,?_⟩,?_⟩
 . repeat' (first|exact trivial|exact rfl|((conv=>whnf);apply And.intro))
   exact(pR (An _)).symm
 intro (k:Nat) hk0;have k1:1<=k:=hk0.1;have k2:k<=(aN d).length:=hk0.2.1;have k3:n<=k\/k=(aN d).length:=hk0.2.2;have ht:=zg d k k1
 (conv=>whnf)
 refine aP (fun hlt=>?_) fun hge=>?_
 . have hlt:bj (n:Int) (k:Int)=true:=hlt;rw[bF,Ac]at hlt;obtain⟨j,rfl⟩:∃j,k=j+1:=⟨k - 1,by omega⟩
   (conv=>whnf)
   refine⟨dy d (j+1),?_⟩
   repeat ((conv=>whnf);first|refine⟨rfl,?_⟩|refine⟨trivial,?_⟩)
   refine⟨by show(dy d (j+1)).length<=1000000;omega,?_⟩
   (conv=>whnf)
   refine ag.2 ⟨?_,?_⟩
   . show aX .i64 (((j+1:Nat):Int) - 1)=true
     rw[dQ];omega
   rw[show(((j+1:Nat):Int) - 1)=(j:Int) by omega]
   (conv=>whnf)
   refine⟨(j:Nat),⟨by omega,by show j<=(aN d).length;omega,by omega⟩,by show j<j+1;omega,?_⟩
   repeat' (first|exact trivial|exact rfl|((conv=>whnf);apply And.intro))
   (conv=>whnf)
   exact Iv (by omega) k2
 . have hge:bj (n:Int) (k:Int)=false:=hge;rw[bF,Ae]at hge
   (conv=>whnf)
   refine⟨?_,trivial⟩;show dy d k=dy d n
   rcases k3 with h|h
   . rw[show k=n by omega]
   . rw[pR (by omega),pR (by omega)])
noncomputable def wq (f:FuncId):Option aH:=bif Nat.beq f nf then some CV else wo f
theorem yN:∀f C,wq f=some C->CO f C:=bM LV yM
end
end
section
variable [Inhabited aL]
def gk (l:List Bs):Prop:=l.length<=256/\(∀s∈l,s.length<=100000)/\l.all cX=true
def wN:aH:={Y:=List Bs×Bs,pre:=fun y=>gk y.1/\y.2.length<=100000,args:=fun y=>[strs y.1, .str y.2],res:=fun y=> .bg [.str (if bU y.2 then gu y.1 y.2 else[]),i64 (if bU y.2 then 0 else 1)]}
def EN (y:List Bs×Bs):aE:={α:=Nat,ok:=fun i=>i<=y.1.length,μ:=fun i=>y.1.length - i,bu:=[3,7,8,9],aV:=fun i=>[(24,strs y.1),(25,i64 (Int.ofNat y.1.length)),(26,i64 i)],bK:=fun i=>[(1, .cells [i64 (dE (cD y.2) 1 (y.1.take i))] Ty.int),(2, .cells [i64 (dE (cl y.2) 0 (y.1.take i))] Ty.int)]}
theorem Je (s:Bs):(bG s).1.length<=s.length:=by
 unfold bG;split
 . simp
 . split<;>simp
theorem zO {s:Bs} (h:(bG s).2.1=true):(bG s).2.2=false:=by
 unfold bG at*;split at h
 . rename_i h2;rw[Ai h2]
 . split at h<;>cases h
theorem zk {d s:Bs} (h:cX s=true):cl d s=0\/2<=cl d s:=by
 unfold cl;split
 . exact .inl rfl
 . split
   . rename_i h2;unfold cX at h;rw[h2.1]at h;simp at h;exact .inr h.2
   . exact .inl rfl
theorem zu {f:Bs->Nat}:∀(l:List Bs) (n:Nat),(n=0\/2<=n)->(∀s∈l,f s=0\/2<=f s)->dE f n l=0\/2<=dE f n l
 |[],_,h,_=>h
 |x::l,n,h,h2=>zu l (max n (f x)) (by have:=h2 x Aj;omega) fun s hs=>h2 s (Au _ hs)
theorem tI :CO nA wN:=bO (cfg:=fun(y:List Bs×Bs)=>aQ wq (cq nA 9 (EN y))) bD (fun _=>rfl) (fun _=>yN) (n:=900) (by
 rintro⟨l,d⟩ ⟨⟨h1,h2,h3⟩,h4⟩;have h1:l.length<=256:=h1;have h2:∀s∈l,s.length<=100000:=h2;have h3:l.all cX=true:=h3;have h4:d.length<=100000:=h4;have hck:gR l=0:=by unfold gR;rw[Ah (by omega),Ai h3]
 have hp:=jO d;have hld:(aN d).length<=d.length+1:=kI d 46
 (conv=>whnf)
 refine⟨l,?_⟩
 repeat ((conv=>whnf);first|refine⟨rfl,?_⟩|refine⟨trivial,?_⟩)
 refine⟨⟨by show l.length<=100000;omega,h2⟩,?_⟩
 (conv=>whnf)
 refine aP (fun h=>?_) fun _=>?_
 . have h:(!(gR l==0))=true:=h;rw[hck]at h;cases h
 (conv=>whnf)
 refine⟨d,?_⟩
 repeat ((conv=>whnf);first|refine⟨rfl,?_⟩|refine⟨trivial,?_⟩)
 refine⟨h4,?_⟩
 (conv=>whnf)
 by_cases hn:bU d=true
 rotate_left
 . refine aP (fun _=>?_) fun h=>?_
   . have hn:bU d=false:=by simpa using hn
     (conv=>whnf)
     refine⟨?_,?_⟩
     . show([]:Bs)=if bU d then gu l d else[]
       rw[hn];rfl
     (conv=>whnf)
     refine⟨?_,trivial⟩;show aj 1 (if bU d then 0 else 1)
     rw[hn];rfl
   . have h:(Int.ofNat (if bU d=true then aB d 46 else[]).length==0)=false:=h;rw[Ah hn]at h;cases h
 . refine aP (fun h=>?_) fun _=>?_
   . have h:(Int.ofNat (if bU d=true then aB d 46 else[]).length==0)=true:=h;rw[Ai hn,AK,Aa]at h;have hp:1<=(aB d 46).length:=hp;omega
   (conv=>whnf)
   refine⟨⟨(0:Nat),A7 _,?_⟩,?_⟩
   . repeat' (first|exact trivial|exact rfl|((conv=>whnf);first|(apply aP<;>intro)|apply And.intro))
   intro (i:Nat) hi;have hi:i<=l.length:=hi
   (conv=>whnf)
   refine aP (fun hlt=>?_) fun hge=>?_
   . have hlt':i<l.length:=cp hlt;have hsl:=h2 l[i] (Av hlt');have hrl:=Je l[i];have hb1:=x5 (f:=cD d) (n:=1) hlt';have he1:=x5 (f:=cl d) (n:=0) hlt';have hB:=u7 (l.take i) d;have hE:=CL (l.take i) d;have hll:(aN (bG l[i]).1).length<=(bG l[i]).1.length+1:=kI _ 46
     (conv=>whnf)
     refine au.2 ⟨_,dH hlt',?_⟩
     (conv=>whnf)
     refine⟨l[i],?_⟩
     repeat ((conv=>whnf);first|refine⟨rfl,?_⟩|refine⟨trivial,?_⟩)
     refine⟨hsl,?_⟩
     (conv=>whnf)
     have han:=zO (s:=l[i]);have vB:cD d l[i]=if(bG l[i]).2.1 then(if dD d (bG l[i]).1=true/\(aN (bG l[i]).1).length<(aN d).length then(aN (bG l[i]).1).length+1 else 0)else if(bG l[i]).2.2 then 0 else if dD d (bG l[i]).1 then(aN (bG l[i]).1).length else 0:=rfl
     have vE:cl d l[i]=if(bG l[i]).2.1 then 0 else if(bG l[i]).2.2=true/\dD d (bG l[i]).1=true then(aN (bG l[i]).1).length else 0:=rfl
     generalize bG l[i]=r at*
     obtain⟨nm,an,nt⟩:=r;have hrl:nm.length<=l[i].length:=hrl;have hll:(aN nm).length<=nm.length+1:=hll;refine⟨nm,?_⟩
     repeat ((conv=>whnf);first|refine⟨rfl,?_⟩|refine⟨trivial,?_⟩)
     refine⟨by show nm.length<=1000000;omega,?_⟩
     cases an with
     | true=>
       have hnt:nt=false:=han rfl;subst hnt
       (conv=>whnf)
       refine ag.2 ⟨by show Nat.ble (1+nm.length) 1048576=true;rw[AI];omega,?_⟩
       (conv=>whnf)
       refine⟨(d,46::nm),?_⟩
       repeat ((conv=>whnf);first|refine⟨rfl,?_⟩|refine⟨trivial,?_⟩)
       refine⟨⟨by show d.length<=1000000;omega,by show(46::nm).length<=1000000;simp;omega⟩,?_⟩
       (conv=>whnf)
       have mu:l.length - (i+1)<l.length - i:=by omega
       refine aP (fun hs=>?_) fun hs=>?_
       . have hs:(46::nm).isSuffixOf d=true:=hs;rw[Be,vx]at hs;have vB:cD d l[i]=(aN nm).length+1:=by rw[vB];simp[hs.1,hs.2]
         have vE:cl d l[i]=0:=by rw[vE];simp
         rw[vB]at hb1;rw[vE]at he1
         (conv=>whnf)
         refine ag.2 ⟨by show aX .i64 (((aN nm).length:Int)+1)=true;rw[dQ];simp only at hll hrl;omega,?_⟩
         (conv=>whnf)
         refine ag.2 ⟨cB i (by omega),?_⟩
         (conv=>whnf)
         refine⟨(i+1:Nat),hlt',mu,?_⟩
         repeat' (first|exact trivial|exact rfl|((conv=>whnf);apply And.intro))
         all_goals (try ((conv=>whnf)))
         all_goals (simp only[hb1,he1];(first|omega|(split<;>omega)))
       . have hs:¬(46::nm).isSuffixOf d=true:=by
           have hs:(46::nm).isSuffixOf d=false:=hs;rw[hs];simp
         rw[Be,vx]at hs;have vB:cD d l[i]=0:=by rw[vB];simp only[AY];rw[Ah hs]
         have vE:cl d l[i]=0:=by rw[vE];simp
         rw[vB]at hb1;rw[vE]at he1
         (conv=>whnf)
         refine ag.2 ⟨cB i (by omega),?_⟩
         (conv=>whnf)
         refine⟨(i+1:Nat),hlt',mu,?_⟩
         repeat' (first|exact trivial|exact rfl|((conv=>whnf);apply And.intro))
         all_goals (try ((conv=>whnf)))
         all_goals (simp only[hb1,he1];(first|omega|(split<;>omega)))
     | false=>
       have mu:l.length - (i+1)<l.length - i:=by omega
       cases nt with
       | true=>
         (conv=>whnf)
         refine⟨(d,nm),?_⟩
         repeat ((conv=>whnf);first|refine⟨rfl,?_⟩|refine⟨trivial,?_⟩)
         refine⟨⟨by show d.length<=100000;omega,by show nm.length<=100000;omega⟩,?_⟩
         (conv=>whnf)
         refine aP (fun hs=>?_) fun hs=>?_
         . have hs:dD d nm=true:=hs;have vB:cD d l[i]=0:=by rw[vB];simp[hs]
           have vE:cl d l[i]=(aN nm).length:=by rw[vE];simp[hs]
           rw[vB]at hb1;rw[vE]at he1
           (conv=>whnf)
           refine ag.2 ⟨cB i (by omega),?_⟩
           (conv=>whnf)
           refine⟨(i+1:Nat),hlt',mu,?_⟩
           repeat' (first|exact trivial|exact rfl|((conv=>whnf);apply And.intro))
           all_goals (try ((conv=>whnf)))
           all_goals (simp only[hb1,he1];(first|omega|(split<;>omega)))
         . have hs:dD d nm=false:=hs;have vB:cD d l[i]=0:=by rw[vB];simp[hs]
           have vE:cl d l[i]=0:=by rw[vE];simp[hs]
           rw[vB]at hb1;rw[vE]at he1
           (conv=>whnf)
           refine ag.2 ⟨cB i (by omega),?_⟩
           (conv=>whnf)
           refine⟨(i+1:Nat),hlt',mu,?_⟩
           repeat' (first|exact trivial|exact rfl|((conv=>whnf);apply And.intro))
           all_goals (try ((conv=>whnf)))
           all_goals (simp only[hb1,he1];(first|omega|(split<;>omega)))
       | false=>
         (conv=>whnf)
         refine⟨(d,nm),?_⟩
         repeat ((conv=>whnf);first|refine⟨rfl,?_⟩|refine⟨trivial,?_⟩)
         refine⟨⟨by show d.length<=100000;omega,by show nm.length<=100000;omega⟩,?_⟩
         (conv=>whnf)
         refine aP (fun hs=>?_) fun hs=>?_
         . have hs:dD d nm=true:=hs;have vB:cD d l[i]=(aN nm).length:=by rw[vB];simp[hs]
           have vE:cl d l[i]=0:=by rw[vE];simp[hs]
           rw[vB]at hb1;rw[vE]at he1
           (conv=>whnf)
           refine ag.2 ⟨cB i (by omega),?_⟩
           (conv=>whnf)
           refine⟨(i+1:Nat),hlt',mu,?_⟩
           repeat' (first|exact trivial|exact rfl|((conv=>whnf);apply And.intro))
           all_goals (try ((conv=>whnf)))
           all_goals (simp only[hb1,he1];(first|omega|(split<;>omega)))
         . have hs:dD d nm=false:=hs;have vB:cD d l[i]=0:=by rw[vB];simp[hs]
           have vE:cl d l[i]=0:=by rw[vE];simp[hs]
           rw[vB]at hb1;rw[vE]at he1
           (conv=>whnf)
           refine ag.2 ⟨cB i (by omega),?_⟩
           (conv=>whnf)
           refine⟨(i+1:Nat),hlt',mu,?_⟩
           repeat' (first|exact trivial|exact rfl|((conv=>whnf);apply And.intro))
           all_goals (try ((conv=>whnf)))
           all_goals (simp only[hb1,he1];(first|omega|(split<;>omega)))
   . have hge':=ff hge;have hil:l.take i=l:=Ax (by have hge':¬(i:Int)<(l.length:Int):=hge';omega);have hB:=u7 l d;have hE:=CL l d;have h2:=zu (f:=cl d) l 0 (.inl rfl) fun s hs=>zk (Aq.1 h3 s hs)
     have eB:dE (cD d) 1 l=oF l d:=rfl;have eE:dE (cl d) 0 l=fI l d:=rfl;rw[eE]at h2
     (conv=>whnf)
     refine aP (fun hx=>?_) fun hx=>?_
     . have hx:bj 0 ((dE (cl d) 0 (l.take i):Nat):Int)=true:=hx;rw[hil,eE,bF,Ac]at hx;have hN:fa l d=fI l d - 1:=by unfold fa;rw[Ai (by omega)]
       (conv=>whnf)
       refine ag.2 ⟨by show aX .i64 (((dE (cl d) 0 (l.take i):Nat):Int) - 1)=true;rw[hil,eE,dQ];omega,?_⟩
       (conv=>whnf)
       refine⟨(d,fa l d),?_⟩
       (conv=>whnf)
       refine⟨rfl,?_⟩
       (conv=>whnf)
       refine⟨by show((dE (cl d) 0 (l.take i):Nat):Int) - 1=((fa l d:Nat):Int);rw[hil,eE,hN];omega,?_⟩
       (conv=>whnf)
       refine⟨⟨by show d.length<=100000;omega,by show 1<=fa l d;omega,by show fa l d<=1000000;omega⟩,?_⟩
       (conv=>whnf)
       refine⟨?_,?_⟩
       . show dy d (fa l d)=if bU d then gu l d else[]
         rw[Ai hn];rfl
       (conv=>whnf)
       refine⟨?_,trivial⟩;show aj 0 (if bU d then 0 else 1)
       rw[Ai hn]
     . have hx:bj 0 ((dE (cl d) 0 (l.take i):Nat):Int)=false:=hx;rw[hil,eE,bF,Ae]at hx;have hN:fa l d=oF l d:=by unfold fa;rw[Ah (by omega)]
       (conv=>whnf)
       refine⟨(d,fa l d),?_⟩
       (conv=>whnf)
       refine⟨rfl,?_⟩
       (conv=>whnf)
       refine⟨by show((dE (cD d) 1 (l.take i):Nat):Int)=((fa l d:Nat):Int);rw[hil,eB,hN],?_⟩
       (conv=>whnf)
       refine⟨⟨by show d.length<=100000;omega,by show 1<=fa l d;omega,by show fa l d<=1000000;omega⟩,?_⟩
       (conv=>whnf)
       refine⟨?_,?_⟩
       . show dy d (fa l d)=if bU d then gu l d else[]
         rw[Ai hn];rfl
       (conv=>whnf)
       refine⟨?_,trivial⟩;show aj 0 (if bU d then 0 else 1)
       rw[Ai hn])
noncomputable def wu (f:FuncId):Option aH:=bif Nat.beq f nA then some wN else wq f
theorem yO:∀f C,wu f=some C->CO f C:=bM tI yN
def oY:aH:={Y:=List Bs×Bs,pre:=fun y=>gk y.1/\y.2.length<=100000,args:=fun y=>[strs y.1, .str y.2],res:=fun y=> .bool (eo y.1 y.2)}
theorem M8:CO qt oY:=bO (cfg:=fun(_:List Bs×Bs)=>aQ wu (fun _ _=>none)) bD (fun _=>rfl) (fun _=>yO) (n:=600) (by
 rintro⟨l,d⟩ h
 (conv=>whnf)
 refine⟨(l,d),?_⟩
 repeat ((conv=>whnf);first|refine⟨rfl,?_⟩|refine⟨trivial,?_⟩)
 refine⟨h,?_⟩
 (conv=>whnf)
 by_cases hn:bU d=true
 . refine aP (fun _=>?_) fun h=>?_
   . (conv=>whnf)
     refine⟨?_,trivial⟩;show((if bU d then gu l d else[])==d)=eo l d
     unfold eo;rw[Ai hn,hn,Ba,Aw,AK,Ac]
   . have h:((if bU d then(0:Int)else 1)==0)=false:=h;rw[Ai hn]at h;cases h
 . refine aP (fun h=>?_) fun _=>?_
   . have h:((if bU d then(0:Int)else 1)==0)=true:=h;rw[Ah hn]at h;cases h
   . (conv=>whnf)
     refine⟨?_,trivial⟩;show false=eo l d
     unfold eo;simp[hn])
end
section
def full (d:Bs):Prop:=∀p∈aN d,p≠[]
theorem HC {d:Bs} (h:bU d=true):full d:=by
 intro p hp e;unfold bU at h;simp only[Ad]at h;have:=Aq.1 h.2 p hp;rw[e]at this;simp[di]at this
theorem ye {L:List Bs} {k:Nat} (h:k<L.length):L.drop (L.length - (k+1))=L[L.length - (k+1)]'(by omega)::L.drop (L.length - k):=by
 rw[Db (by omega)];congr 2;omega
theorem Jj {d:Bs}:dy d 1=(aN d)[(aN d).length - 1]'(by have:=jO d;omega):=by
 unfold dy;rw[ye (k:=0) (jO d)];simp[ja]
theorem Iu {d:Bs} {k:Nat} (h1:1<=k) (h:k<(aN d).length):dy d (k+1)=(aN d)[(aN d).length - (k+1)]'(by omega)++46::dy d k:=by
 unfold dy;rw[ye h]
 cases e:(aN d).drop ((aN d).length - k)with
 |nil=>have:=Az List.length e;simp at this;omega
 |cons x y=>rfl
theorem Ks {d:Bs} (hf:full d) {k:Nat} (h1:1<=k):dy d k≠[]:=by
 intro e;have h2:=nS (d:=d) h1;rw[e]at h2;have h3:([]:Bs)∈(aN d).drop ((aN d).length - k):=by rw[<-h2];simp[aN,aB]
 exact hf [] (D8 h3) rfl
theorem Kp {s:Bs} (h:cX s=true):(bG s).1≠[]:=by
 intro e;unfold cX at h;rw[e]at h;simp[bU,aB,di]at h
theorem xT {s:Bs} (h:cX s=true):cN s=(if(bG s).2.1 then 42 else if(bG s).2.2 then 33 else 0,(bG s).1):=by
 have hne:=Kp h;unfold cN;unfold bG at hne⊢;by_cases h1:s.take 2=[42,46]
 . rw[Ai h1]at hne⊢;have h2:2<s.length:=by
     rcases Nat.lt_or_ge 2 s.length with h|h
     . exact h
     . exact absurd (Dk h) hne
   rw[Ai ⟨h2,h1⟩];rfl
 . rw[Ah h1,Ah (fun h=>h1 h.2)];rw[Ah h1]at hne;by_cases h3:s.take 1=[33]
   . rw[Ai h3]at hne⊢;have h4:1<s.length:=by
       rcases Nat.lt_or_ge 1 s.length with h|h
       . exact h
       . exact absurd (Dk h) hne
     have h5:s.head? =some 33:=by
       cases s with
       |nil=>cases h3
       |cons b s=>simp at h3;simp[h3]
     rw[Ai ⟨h4,h5⟩];rfl
   . rw[Ah h3,Ah (fun h=>h3 (by
       cases s with
       |nil=>cases h.2
       |cons b s=>simp at h;simp[h.2]))];rfl
theorem IG {d s:Bs} {n:Nat} (h1:1<=n) (h2:n<=(aN d).length):cl d s=n↔((bG s).2.1=false/\(bG s).2.2=true)/\(bG s).1=dy d n:=by
 rw[uU h1 h2];unfold cl
 cases(bG s).2.1
 . simp only[Ar,AE,DK];split
   . rename_i h;simp[h.1,h.2]
   . rename_i h;constructor
     . intro e;omega
     . intro e;exact absurd ⟨e.1,e.2.1⟩ h
 . simp;omega
theorem IF {d s:Bs} {n:Nat} (h1:1<=n) (h2:n<=(aN d).length) (hx:(bG s).2.1=true->(bG s).2.2=false):cD d s=n↔((bG s).2.1=false/\(bG s).2.2=false/\(bG s).1=dy d n)\/((bG s).2.1=true/\2<=n/\(bG s).1=dy d (n - 1)):=by
 have hl:=jO (bG s).1;unfold cD
 cases ha:(bG s).2.1
 . simp only[Ar,AE,DK,false_and,De];rw[uU h1 h2]
   cases(bG s).2.2
   . simp only[Ar,AE,DK];split
     . rename_i h;simp[h]
     . rename_i h;constructor
       . intro e;omega
       . intro e;exact absurd e.1 h
   . simp;omega
 . simp only[AY,Bool.true_eq_false,false_and,false_or,DK];by_cases h3:2<=n
   . rw[uU (d:=d) (r:=(bG s).1) (n:=n - 1) (by omega) (by omega)];split
     . rename_i h;constructor
       . intro e;exact⟨h3,h.1,by omega⟩
       . intro e;omega
     . rename_i h;constructor
       . intro e;omega
       . intro e;exact absurd ⟨e.2.1,by omega⟩ h
   . split
     . constructor
       . intro e;omega
       . intro e;exact absurd e.1 h3
     . constructor
       . intro e;omega
       . intro e;exact absurd e.1 h3
variable [Inhabited aL]
def C7:aH:={Y:=Bs,pre:=fun s=>s.length<=100000,args:=fun s=>[.str s],res:=fun s=>i64 (aN s).length}
theorem Li:CO Em C7:=bO (cfg:=fun(_:Bs)=>aQ sD (fun _ _=>none)) bD (fun _=>rfl) (fun _=>uH) (n:=600) (by
 intro (s:Bs) (hs:s.length<=100000)
 (conv=>whnf)
 refine⟨(s,(46:Int)),?_⟩
 repeat ((conv=>whnf);first|refine⟨rfl,?_⟩|refine⟨trivial,?_⟩)
 refine⟨hs,?_⟩
 repeat' (first|exact trivial|exact rfl|((conv=>whnf);first|(apply aP<;>intro)|apply And.intro)))
def CH:aH:={Y:=Bs×Nat,pre:=fun y=>y.1.length<=100000/\full y.1/\1<=y.2/\y.2<=1000000,args:=fun y=>[.str y.1,i64 y.2],res:=fun y=> .str (dy y.1 y.2)}
def gH (d:Bs) (j:Nat):Bs:=if j=0 then[]else dy d j
def Lt (y:Bs×Nat):aE:={α:=Int,ok:=fun i=> -1<=i/\i<(aN y.1).length/\(aN y.1).length - 1 - i<=y.2,μ:=fun i=>(i+1).toNat,bu:=[1,5],aV:=fun i=>[(6, .str (gH y.1 ((aN y.1).length - 1 - i).toNat)),(7,i64 i)],bK:=fun _=>[]}
theorem Ki:CO nr CH:=bO (cfg:=fun(y:Bs×Nat)=>aQ sD (cq nr 4 (Lt y))) bD (fun _=>rfl) (fun _=>uH) (n:=600) (by
 rintro⟨d,n⟩ ⟨hd,hf,h1,h2⟩;have hd:d.length<=100000:=hd;have hf:full d:=hf;have h1:1<=n:=h1;have h2:n<=1000000:=h2;have hp:=jO d;have hl:(aN d).length<=d.length+1:=kI d 46
 (conv=>whnf)
 refine⟨(d,(46:Int)),?_⟩
 repeat ((conv=>whnf);first|refine⟨rfl,?_⟩|refine⟨trivial,?_⟩)
 refine⟨hd,?_⟩
 (conv=>whnf)
 refine ag.2 ⟨by show aX .i64 (((aN d).length:Int) - 1)=true;rw[dQ];omega,?_⟩
 (conv=>whnf)
 refine⟨⟨(((aN d).length:Int) - 1),⟨by omega,by show((aN d).length:Int) - 1<(aN d).length;omega,by show((aN d).length:Int) - 1 - (((aN d).length:Int) - 1)<=(n:Int);omega⟩,?_⟩,?_⟩
 . repeat' (first|exact trivial|exact rfl|((conv=>whnf);apply And.intro))
   (conv=>whnf)
   show([]:Bs)=gH d (((aN d).length:Int) - 1 - (((aN d).length:Int) - 1)).toNat
   rw[show(((aN d).length:Int) - 1 - (((aN d).length:Int) - 1)).toNat=0 by omega];rfl
 intro (i:Int) hi;have i1: -1<=i:=hi.1;have i2:i<(aN d).length:=hi.2.1;have i3:((aN d).length:Int) - 1 - i<=n:=hi.2.2
 (conv=>whnf)
 refine aP (fun h=>?_) fun h=>?_
 . have h:bA 0 i=true:=h;rw[dN,Ac]at h;obtain⟨q,rfl⟩:∃q:Nat,i=q:=⟨i.toNat,by omega⟩;have hj:(((aN d).length:Int) - 1 - (q:Int)).toNat=(aN d).length - 1 - q:=by omega
   (conv=>whnf)
   refine ag.2 ⟨by show aX .i64 (((aN d).length:Int) - (n:Int))=true;rw[dQ];omega,?_⟩
   (conv=>whnf)
   refine aP (fun h3=>?_) fun h3=>?_
   . have h3:bA (((aN d).length:Int) - (n:Int)) (q:Int)=true:=h3;rw[dN,Ac]at h3
     (conv=>whnf)
     refine aP (fun h4=>?_) fun h4=>?_
     . (conv=>whnf)
       refine au.2 ⟨_,dH (show q<(aN d).length by omega),?_⟩
       (conv=>whnf)
       have h4:(gH d (((aN d).length:Int) - 1 - (q:Int)).toNat==([]:Bs))=true:=h4;rw[hj,AK]at h4;have hq:(aN d).length - 1 - q=0:=by
        by_cases e:(aN d).length - 1 - q=0
        . exact e
        . unfold gH at h4;rw[Ah e]at h4;exact absurd h4 (Ks hf (by omega))
       refine ag.2 ⟨by show aX .i64 ((q:Int) - 1)=true;rw[dQ];omega,?_⟩
       (conv=>whnf)
       refine⟨((q:Int) - 1),⟨by omega,by show(q:Int) - 1<(aN d).length;omega,by show((aN d).length:Int) - 1 - ((q:Int) - 1)<=n;omega⟩,by show((q:Int) - 1+1).toNat<((q:Int)+1).toNat;omega,?_⟩
       repeat' (first|exact trivial|exact rfl|((conv=>whnf);apply And.intro))
       (conv=>whnf)
       show(aN d)[q]=gH d (((aN d).length:Int) - 1 - ((q:Int) - 1)).toNat
       rw[show(((aN d).length:Int) - 1 - ((q:Int) - 1)).toNat=1 by omega];show(aN d)[q]=dy d 1
       rw[Jj];congr 1;omega
     . have h4:(gH d (((aN d).length:Int) - 1 - (q:Int)).toNat==([]:Bs))=false:=h4;rw[hj]at h4;have hq:(aN d).length - 1 - q≠0:=by
        intro e;rw[e]at h4;cases h4
       have hst:gH d ((aN d).length - 1 - q)=dy d ((aN d).length - 1 - q):=by unfold gH;rw[Ah hq]
       have hpl:=xq d 46 (aN d)[q] (Av _);have htl:=zg d ((aN d).length - 1 - q) (by omega)
       (conv=>whnf)
       refine au.2 ⟨_,dH (show q<(aN d).length by omega),?_⟩
       (conv=>whnf)
       refine ag.2 ⟨by show Nat.ble ((aN d)[q].length+1) 1048576=true;rw[AI];omega,?_⟩
       (conv=>whnf)
       refine ag.2 ⟨by show Nat.ble (((aN d)[q]++[46]).length+(gH d (((aN d).length:Int) - 1 - (q:Int)).toNat).length) 1048576=true;rw[hj,hst,AI,AR,D6];omega,?_⟩
       (conv=>whnf)
       refine ag.2 ⟨by show aX .i64 ((q:Int) - 1)=true;rw[dQ];omega,?_⟩
       (conv=>whnf)
       refine⟨((q:Int) - 1),⟨by omega,by show(q:Int) - 1<(aN d).length;omega,by show((aN d).length:Int) - 1 - ((q:Int) - 1)<=n;omega⟩,by show((q:Int) - 1+1).toNat<((q:Int)+1).toNat;omega,?_⟩
       repeat' (first|exact trivial|exact rfl|((conv=>whnf);apply And.intro))
       (conv=>whnf)
       show((aN d)[q]++[46])++gH d (((aN d).length:Int) - 1 - (q:Int)).toNat=gH d (((aN d).length:Int) - 1 - ((q:Int) - 1)).toNat
       rw[hj,hst,show(((aN d).length:Int) - 1 - ((q:Int) - 1)).toNat=(aN d).length - 1 - q+1 by omega];show _=dy d ((aN d).length - 1 - q+1)
       rw[Iu (by omega) (by omega)];have e:(aN d)[(aN d).length - ((aN d).length - 1 - q+1)]'(by omega)=(aN d)[q]:=by congr 1;omega
       rw[e];simp
   . have h3:bA (((aN d).length:Int) - (n:Int)) (q:Int)=false:=h3;rw[dN,Ae]at h3
     (conv=>whnf)
     refine⟨?_,trivial⟩;show gH d (((aN d).length:Int) - 1 - (q:Int)).toNat=dy d n
     rw[hj,show(aN d).length - 1 - q=n by omega];unfold gH;rw[Ah (by omega)]
 . have h:bA 0 i=false:=h;rw[dN,Ae]at h;have hi:i= -1:=by omega
   subst hi
   (conv=>whnf)
   refine⟨?_,trivial⟩;show gH d (((aN d).length:Int) - 1 - (-1:Int)).toNat=dy d n
   rw[show(((aN d).length:Int) - 1 - (-1:Int)).toNat=(aN d).length by omega];unfold gH;rw[Ah (by omega),pR (An _),pR (by omega)])
noncomputable def wv (f:FuncId):Option aH:=bif Nat.beq f Em then some C7 else bif Nat.beq f nr then some CH else wu f
theorem yP:∀f C,wv f=some C->CO f C:=bM Li (bM Ki yO)
def tJ (y:List Bs×Bs):Prop:=gk y.1/\y.2.length<=100000/\bU y.2=true
def oX:aH:={Y:=List Bs×Bs,pre:=tJ,args:=fun y=>[strs y.1, .str y.2],res:=fun y=> .str (gu y.1 y.2)}
def th (y:List Bs×Bs):aE:={α:=Nat,ok:=fun n=>n<=(aN y.2).length/\ ∀s∈y.1,cl y.2 s<=n,μ:=fun n=>n,bu:=[0,1,5],aV:=fun n=>[(6,i64 n)],bK:=fun _=>[]}
def LD (y:List Bs×Bs):aE:={α:=Nat×Nat,ok:=fun x=>1<=x.1/\x.1<=(aN y.2).length/\(∀s∈y.1,cl y.2 s<=x.1)/\x.2<=y.1.length/\ ∀s∈y.1.take x.2,cl y.2 s≠x.1,μ:=fun x=>y.1.length - x.2,bu:=[0,1,5],aV:=fun x=>[(6,i64 x.1),(7,i64 x.2)],bK:=fun _=>[],link:=some fun a b=>b.1=a.1}
def ti (y:List Bs×Bs):aE:={α:=Nat,ok:=fun n=>fI y.1 y.2=0/\n<=(aN y.2).length/\ ∀s∈y.1,cD y.2 s<=n,μ:=fun n=>n,bu:=[0,1],aV:=fun n=>[(10,i64 n)],bK:=fun _=>[]}
def LF (y:List Bs×Bs):aE:={α:=Nat×Nat,ok:=fun x=>fI y.1 y.2=0/\1<=x.1/\x.1<=(aN y.2).length/\(∀s∈y.1,cD y.2 s<=x.1)/\x.2<=y.1.length/\ ∀s∈y.1.take x.2,cD y.2 s≠x.1,μ:=fun x=>y.1.length - x.2,bu:=[0,1],aV:=fun x=>[(10,i64 x.1),(11,i64 x.2)],bK:=fun _=>[],link:=some fun a b=>b.1=a.1}
def iI (f r:Nat) (A:aE) (R:FuncId->Nat->Option aE):FuncId->Nat->Option aE:=fun g s=>bif Nat.beq g f&&Nat.beq s r then some A else R g s
noncomputable def Ly (y:List Bs×Bs):FuncId->Nat->Option aE:=iI iu 3 (th y) (iI iu 6 (LD y) (iI iu 12 (ti y) (cq iu 15 (LF y))))
theorem vp {f:Bs->Nat} {l:List Bs} {n m:Nat} (hm:m<=n) (h:∀s∈l,f s<=n) {s:Bs} (hs:s∈l) (e:f s=n):dE f m l=n:=
 DG (om f l m hm h) (by rw[<-e];exact(vo f l m).2 s hs)
theorem M7 : CO iu oX:=bO (cfg:=fun(y:List Bs×Bs)=>aQ wv (Ly y)) bD (fun _=>rfl) (fun _=>yP) (n:=1200) (by
 rintro⟨l,d⟩ ⟨⟨h1,h2,h3⟩,h4,hn⟩;have h1:l.length<=256:=h1;have h2:∀s∈l,s.length<=100000:=h2;have h3:l.all cX=true:=h3;have h4:d.length<=100000:=h4;have hn:bU d=true:=hn;have hf:=HC hn;have hp:=jO d;have hl:(aN d).length<=d.length+1:=kI d 46
 (conv=>whnf)
 refine⟨d,?_⟩
 repeat ((conv=>whnf);first|refine⟨rfl,?_⟩|refine⟨trivial,?_⟩)
 refine⟨h4,?_⟩
 (conv=>whnf)
 refine⟨⟨((aN d).length:Nat),⟨An _,fun s _=>Cr d s⟩,?_⟩,?_⟩
 . repeat' (first|exact trivial|exact rfl|((conv=>whnf);first|(apply aP<;>intro)|apply And.intro))
 intro (n:Nat) hn0;have n1:n<=(aN d).length:=hn0.1;have n2:∀s∈l,cl d s<=n:=hn0.2
 (conv=>whnf)
 refine aP (fun h=>?_) fun h=>?_
 . have h:bA 1 (n:Int)=true:=h;rw[dN,Ac]at h;obtain⟨m,rfl⟩:∃m,n=m+1:=⟨n - 1,by omega⟩
   (conv=>whnf)
   refine⟨((m+1,0):Nat×Nat),?_⟩
   (conv=>whnf)
   refine⟨⟨((m+1,0):Nat×Nat),⟨⟨by show 1<=m+1;omega,n1,n2,A7 _,by simp⟩,rfl⟩,?_⟩,?_⟩
   . repeat' (first|exact trivial|exact rfl|((conv=>whnf);first|(apply aP<;>intro)|apply And.intro))
   rintro⟨n',i⟩ ⟨⟨_,_,_,hi,hne⟩,hlk⟩;have hlk:n'=m+1:=hlk;subst hlk;have hi:i<=l.length:=hi;have hne:∀s∈l.take i,cl d s≠m+1:=hne
   (conv=>whnf)
   refine aP (fun hlt=>?_) fun hge=>?_
   . have hlt':i<l.length:=cp hlt;have hr:=Aq.1 h3 l[i] (Av hlt');have hsp:=xT hr;have hvi:=IG (d:=d) (s:=l[i]) (n:=m+1) (by omega) n1;have hv2:=zk (d:=d) hr;have mu:l.length - (i+1)<l.length - i:=by omega
     (conv=>whnf)
     refine au.2 ⟨_,dH hlt',?_⟩
     (conv=>whnf)
     refine⟨l[i],?_⟩
     repeat ((conv=>whnf);first|refine⟨rfl,?_⟩|refine⟨trivial,?_⟩)
     refine⟨h2 _ (Av hlt'),?_⟩
     (conv=>whnf)
     refine aP (fun h5=>?_) fun h5=>?_
     . have h5:((cN l[i]).1==33)=true:=h5;rw[AK,hsp]at h5;have h6:(bG l[i]).2.1=false/\(bG l[i]).2.2=true:=by
         cases e1:(bG l[i]).2.1<;>cases e2:(bG l[i]).2.2<;>simp[e1,e2]at h5⊢
       (conv=>whnf)
       refine⟨(d,m+1),?_⟩
       (conv=>whnf)
       refine⟨rfl,?_⟩
       (conv=>whnf)
       refine⟨rfl,?_⟩
       (conv=>whnf)
       refine⟨⟨h4,hf,by show 1<=m+1;omega,by show m+1<=1000000;omega⟩,?_⟩
       (conv=>whnf)
       refine aP (fun h7=>?_) fun h7=>?_
       . have h7:((cN l[i]).2==dy d (m+1))=true:=h7;rw[hsp,AK]at h7;have hvE:=hvi.2 ⟨h6,h7⟩;have hx:fI l d=m+1:=vp (A7 _) n2 (Av hlt') hvE;have hN:fa l d=m:=by unfold fa;rw[Ai (by omega),hx];rfl
         (conv=>whnf)
         refine ag.2 ⟨by show aX .i64 (((m+1:Nat):Int) - 1)=true;rw[dQ];omega,?_⟩
         (conv=>whnf)
         refine⟨(d,m),?_⟩
         (conv=>whnf)
         refine⟨rfl,?_⟩
         (conv=>whnf)
         refine⟨by show((m+1:Nat):Int) - 1=(m:Int);omega,?_⟩
         (conv=>whnf)
         refine⟨⟨h4,hf,by show 1<=m;omega,by show m<=1000000;omega⟩,?_⟩
         (conv=>whnf)
         refine⟨?_,trivial⟩;show dy d m=gu l d
         unfold gu;rw[hN]
       . have h7:((cN l[i]).2==dy d (m+1))=false:=h7;rw[hsp,AJ]at h7;have hni:cl d l[i]≠m+1:=fun e=>h7 (hvi.1 e).2
         have hne':∀s∈l.take (i+1),cl d s≠m+1:=fun s hs=>by
           rw[Al hlt']at hs;rcases AU.1 hs with hs|hs
           . exact hne s hs
           . rw[AQ.1 hs];exact hni
         (conv=>whnf)
         refine ag.2 ⟨cB i (by omega),?_⟩
         (conv=>whnf)
         refine⟨((m+1,i+1):Nat×Nat),⟨⟨by show 1<=m+1;omega,n1,n2,hlt',hne'⟩,rfl⟩,mu,?_⟩
         repeat' (first|exact trivial|exact rfl|((conv=>whnf);first|(apply aP<;>intro)|apply And.intro))
     . have h5:((cN l[i]).1==33)=false:=h5;rw[hsp,AJ]at h5;have hni:cl d l[i]≠m+1:=fun e=>by
         have h6:=(hvi.1 e).1;rw[h6.1,h6.2]at h5;exact h5 rfl
       have hne':∀s∈l.take (i+1),cl d s≠m+1:=fun s hs=>by
         rw[Al hlt']at hs;rcases AU.1 hs with hs|hs
         . exact hne s hs
         . rw[AQ.1 hs];exact hni
       (conv=>whnf)
       refine ag.2 ⟨cB i (by omega),?_⟩
       (conv=>whnf)
       refine⟨((m+1,i+1):Nat×Nat),⟨⟨by show 1<=m+1;omega,n1,n2,hlt',hne'⟩,rfl⟩,mu,?_⟩
       repeat' (first|exact trivial|exact rfl|((conv=>whnf);first|(apply aP<;>intro)|apply And.intro))
   . have hge':=ff hge;have hil:l.take i=l:=Ax (by have hge':¬(i:Int)<(l.length:Int):=hge';omega);rw[hil]at hne
     (conv=>whnf)
     refine ag.2 ⟨by show aX .i64 (((m+1:Nat):Int) - 1)=true;rw[dQ];omega,?_⟩;rw[show(((m+1:Nat):Int) - 1)=(m:Int) by omega]
     (conv=>whnf)
     refine⟨(m:Nat),⟨by show m<=(aN d).length;omega,fun s hs=>by have h8:=n2 s hs;have h9:=hne s hs;show cl d s<=m;omega⟩,by show m<m+1;omega,?_⟩
     repeat' (first|exact trivial|exact rfl|((conv=>whnf);first|(apply aP<;>intro)|apply And.intro))
 . have h : bA 1 (n:Int)=false:=h;rw[dN,Ae]at h;have hE0:fI l d=0:=Nat.le_zero.1 (om _ _ _ (An _) fun s hs=>by have:=n2 s hs;omega)
   (conv=>whnf)
   refine⟨⟨((aN d).length:Nat),⟨hE0,An _,fun s _=>Cq d s⟩,?_⟩,?_⟩
   . repeat' (first|exact trivial|exact rfl|((conv=>whnf);first|(apply aP<;>intro)|apply And.intro))
   intro (n:Nat) hn0;have n1:n<=(aN d).length:=hn0.2.1;have n2:∀s∈l,cD d s<=n:=hn0.2.2
   (conv=>whnf)
   refine aP (fun h=>?_) fun h=>?_
   . have h : bA 1 (n:Int)=true:=h;rw[dN,Ac]at h;obtain⟨m,rfl⟩:∃m,n=m+1:=⟨n - 1,by omega⟩
     (conv=>whnf)
     refine⟨((m+1,0):Nat×Nat),?_⟩
     (conv=>whnf)
     refine⟨⟨((m+1,0):Nat×Nat),⟨⟨hE0,by show 1<=m+1;omega,n1,n2,A7 _,by simp⟩,rfl⟩,?_⟩,?_⟩
     . repeat' (first|exact trivial|exact rfl|((conv=>whnf);first|(apply aP<;>intro)|apply And.intro))
     rintro⟨n',i⟩ ⟨⟨_,_,_,_,hi,hne⟩,hlk⟩;have hlk:n'=m+1:=hlk;subst hlk;have hi:i<=l.length:=hi;have hne:∀s∈l.take i,cD d s≠m+1:=hne
     (conv=>whnf)
     refine aP (fun hlt=>?_) fun hge=>?_
     . have hlt' :i<l.length:=cp hlt;have hr:=Aq.1 h3 l[i] (Av hlt');have hsp:=xT hr;have hvi:=IF (d:=d) (s:=l[i]) (n:=m+1) (by omega) n1 zO;have mu:l.length - (i+1)<l.length - i:=by omega
       (conv=>whnf)
       refine au.2 ⟨_,dH hlt',?_⟩
       (conv=>whnf)
       refine⟨l[i],?_⟩
       repeat ((conv=>whnf);first|refine⟨rfl,?_⟩|refine⟨trivial,?_⟩)
       refine⟨h2 _ (Av hlt'),?_⟩
       (conv=>whnf)
       refine aP (fun h5=>?_) fun h5=>?_
       . have h5:((cN l[i]).1==0)=true:=h5;rw[AK,hsp]at h5;have h6:(bG l[i]).2.1=false/\(bG l[i]).2.2=false:=by
           cases e1:(bG l[i]).2.1<;>cases e2:(bG l[i]).2.2<;>simp[e1,e2]at h5⊢
         (conv=>whnf)
         refine⟨(d,m+1),?_⟩
         (conv=>whnf)
         refine⟨rfl,?_⟩
         (conv=>whnf)
         refine⟨rfl,?_⟩
         (conv=>whnf)
         refine⟨⟨h4,hf,by show 1<=m+1;omega,by show m+1<=1000000;omega⟩,?_⟩
         (conv=>whnf)
         refine aP (fun h7=>?_) fun h7=>?_
         . have h7:((cN l[i]).2==dy d (m+1))=true:=h7;rw[hsp,AK]at h7;have hvB:=hvi.2 (.inl ⟨h6.1,h6.2,h7⟩)
           (conv=>whnf)
           refine⟨(d,m+1),?_⟩
           (conv=>whnf)
           refine⟨rfl,?_⟩
           (conv=>whnf)
           refine⟨rfl,?_⟩
           (conv=>whnf)
           refine⟨⟨h4,hf,by show 1<=m+1;omega,by show m+1<=1000000;omega⟩,?_⟩
           (conv=>whnf)
           refine⟨?_,trivial⟩;show dy d (m+1)=gu l d
           unfold gu;rw[show fa l d=m+1 by unfold fa;rw[Ah (by omega)];exact vp (by omega) n2 (Av hlt') hvB]
         . have h7:((cN l[i]).2==dy d (m+1))=false:=h7;rw[hsp,AJ]at h7;have hni:cD d l[i]≠m+1:=fun e=>by
             rcases hvi.1 e with h8|h8
             . exact h7 h8.2.2
             . rw[h6.1]at h8;cases h8.1
           (conv=>whnf)
           refine aP (fun h8=>?_) fun h8=>?_
           . have h8:((cN l[i]).1==42)=true:=h8;rw[hsp,h6.1,h6.2]at h8
             cases h8
           . have hne':∀s∈l.take (i+1),cD d s≠m+1:=fun s hs=>by
               rw[Al hlt']at hs;rcases AU.1 hs with hs|hs
               . exact hne s hs
               . rw[AQ.1 hs];exact hni
             (conv=>whnf)
             refine ag.2 ⟨cB i (by omega),?_⟩
             (conv=>whnf)
             refine⟨((m+1,i+1):Nat×Nat),⟨⟨hE0,by show 1<=m+1;omega,n1,n2,hlt',hne'⟩,rfl⟩,mu,?_⟩
             repeat' (first|exact trivial|exact rfl|((conv=>whnf);first|(apply aP<;>intro)|apply And.intro))
       . have h5 :((cN l[i]).1==0)=false:=h5;rw[hsp,AJ]at h5
         (conv=>whnf)
         refine aP (fun h8=>?_) fun h8=>?_
         . have h8:((cN l[i]).1==42)=true:=h8;rw[AK,hsp]at h8;have h6:(bG l[i]).2.1=true:=by
             cases e1:(bG l[i]).2.1<;>cases e2:(bG l[i]).2.2<;>simp[e1,e2]at h8⊢
           (conv=>whnf)
           refine aP (fun h9=>?_) fun h9=>?_
           . have h9:bA 2 ((m+1:Nat):Int)=true:=h9;rw[dN,Ac]at h9
             (conv=>whnf)
             refine ag.2 ⟨by show aX .i64 (((m+1:Nat):Int) - 1)=true;rw[dQ];omega,?_⟩
             (conv=>whnf)
             refine⟨(d,m),?_⟩
             (conv=>whnf)
             refine⟨rfl,?_⟩
             (conv=>whnf)
             refine⟨by show((m+1:Nat):Int) - 1=(m:Int);omega,?_⟩
             (conv=>whnf)
             refine⟨⟨h4,hf,by show 1<=m;omega,by show m<=1000000;omega⟩,?_⟩
             (conv=>whnf)
             refine aP (fun h7=>?_) fun h7=>?_
             . have h7:((cN l[i]).2==dy d m)=true:=h7;rw[hsp,AK]at h7;have hvB:=hvi.2 (.inr ⟨h6,by omega,h7⟩)
               (conv=>whnf)
               refine⟨(d,m+1),?_⟩
               (conv=>whnf)
               refine⟨rfl,?_⟩
               (conv=>whnf)
               refine⟨rfl,?_⟩
               (conv=>whnf)
               refine⟨⟨h4,hf,by show 1<=m+1;omega,by show m+1<=1000000;omega⟩,?_⟩
               (conv=>whnf)
               refine⟨?_,trivial⟩;show dy d (m+1)=gu l d
               unfold gu;rw[show fa l d=m+1 by unfold fa;rw[Ah (by omega)];exact vp (by omega) n2 (Av hlt') hvB]
             . have h7:((cN l[i]).2==dy d m)=false:=h7;rw[hsp,AJ]at h7;have hni:cD d l[i]≠m+1:=fun e=>by
                 rcases hvi.1 e with h8|h8
                 . rw[h6]at h8;cases h8.1
                 . exact h7 h8.2.2
               have hne':∀s∈l.take (i+1),cD d s≠m+1:=fun s hs=>by
                 rw[Al hlt']at hs;rcases AU.1 hs with hs|hs
                 . exact hne s hs
                 . rw[AQ.1 hs];exact hni
               (conv=>whnf)
               refine ag.2 ⟨cB i (by omega),?_⟩
               (conv=>whnf)
               refine⟨((m+1,i+1):Nat×Nat),⟨⟨hE0,by show 1<=m+1;omega,n1,n2,hlt',hne'⟩,rfl⟩,mu,?_⟩
               repeat' (first|exact trivial|exact rfl|((conv=>whnf);first|(apply aP<;>intro)|apply And.intro))
           . have h9:bA 2 ((m+1:Nat):Int)=false:=h9;rw[dN,Ae]at h9;have hni:cD d l[i]≠m+1:=fun e=>by
               rcases hvi.1 e with h8|h8
               . rw[h6]at h8;cases h8.1
               . omega
             have hne':∀s∈l.take (i+1),cD d s≠m+1:=fun s hs=>by
               rw[Al hlt']at hs;rcases AU.1 hs with hs|hs
               . exact hne s hs
               . rw[AQ.1 hs];exact hni
             (conv=>whnf)
             refine ag.2 ⟨cB i (by omega),?_⟩
             (conv=>whnf)
             refine⟨((m+1,i+1):Nat×Nat),⟨⟨hE0,by show 1<=m+1;omega,n1,n2,hlt',hne'⟩,rfl⟩,mu,?_⟩
             repeat' (first|exact trivial|exact rfl|((conv=>whnf);first|(apply aP<;>intro)|apply And.intro))
         . have h8:((cN l[i]).1==42)=false:=h8;rw[hsp,AJ]at h8;have hni:cD d l[i]≠m+1:=fun e=>by
             rcases hvi.1 e with h9|h9
             . rw[h9.1,h9.2.1]at h5;exact h5 rfl
             . rw[h9.1]at h8;exact h8 rfl
           have hne':∀s∈l.take (i+1),cD d s≠m+1:=fun s hs=>by
             rw[Al hlt']at hs;rcases AU.1 hs with hs|hs
             . exact hne s hs
             . rw[AQ.1 hs];exact hni
           (conv=>whnf)
           refine ag.2 ⟨cB i (by omega),?_⟩
           (conv=>whnf)
           refine⟨((m+1,i+1):Nat×Nat),⟨⟨hE0,by show 1<=m+1;omega,n1,n2,hlt',hne'⟩,rfl⟩,mu,?_⟩
           repeat' (first|exact trivial|exact rfl|((conv=>whnf);first|(apply aP<;>intro)|apply And.intro))
     . have hge':=ff hge;have hil:l.take i=l:=Ax (by have hge':¬(i:Int)<(l.length:Int):=hge';omega);rw[hil]at hne
       (conv=>whnf)
       refine ag.2 ⟨by show aX .i64 (((m+1:Nat):Int) - 1)=true;rw[dQ];omega,?_⟩;rw[show(((m+1:Nat):Int) - 1)=(m:Int) by omega]
       (conv=>whnf)
       refine⟨(m:Nat),⟨hE0,by show m<=(aN d).length;omega,fun s hs=>by have h8:=n2 s hs;have h9:=hne s hs;show cD d s<=m;omega⟩,by show m<m+1;omega,?_⟩
       repeat' (first|exact trivial|exact rfl|((conv=>whnf);first|(apply aP<;>intro)|apply And.intro))
   . have h:bA 1 (n:Int)=false:=h;rw[dN,Ae]at h;have hB0:oF l d=1:=DG (om _ _ _ (An _) fun s hs=>by have:=n2 s hs;omega) (u7 l d).1
     (conv=>whnf)
     refine⟨(d,1),?_⟩
     (conv=>whnf)
     refine⟨rfl,?_⟩
     (conv=>whnf)
     refine⟨rfl,?_⟩
     (conv=>whnf)
     refine⟨⟨h4,hf,by show 1<=1;omega,by show 1<=1000000;omega⟩,?_⟩
     (conv=>whnf)
     refine⟨?_,trivial⟩;show dy d 1=gu l d
     unfold gu;rw[show fa l d=1 by unfold fa;rw[Ah (by omega)];exact hB0])
def CU:aH:={Y:=List Bs×Bs,pre:=fun y=>gk y.1/\y.2.length<=100000,args:=fun y=>[strs y.1, .str y.2],res:=fun y=> .bool (eo y.1 y.2)}
noncomputable def CY (f:FuncId):Option aH:=bif Nat.beq f iu then some oX else wv f
theorem Ib:∀f C,CY f=some C->CO f C:=bM M7 yP
theorem K4:CO qw CU:=bO (cfg:=fun(_:List Bs×Bs)=>aQ CY (fun _ _=>none)) bD (fun _=>rfl) (fun _=>Ib) (n:=600) (by
 rintro⟨l,d⟩ ⟨h1,h2⟩;have h2:d.length<=100000:=h2
 (conv=>whnf)
 refine⟨d,?_⟩
 repeat ((conv=>whnf);first|refine⟨rfl,?_⟩|refine⟨trivial,?_⟩)
 refine⟨h2,?_⟩
 (conv=>whnf)
 refine aP (fun hn=>?_) fun hn=>?_
 . have hn:bU d=true:=hn
   (conv=>whnf)
   refine⟨(l,d),?_⟩
   repeat ((conv=>whnf);first|refine⟨rfl,?_⟩|refine⟨trivial,?_⟩)
   refine⟨⟨h1,h2,hn⟩,?_⟩
   (conv=>whnf)
   refine⟨?_,trivial⟩;show(gu l d==d)=eo l d
   unfold eo;rw[hn,Ba,Aw,AK,Ac]
 . have hn:bU d=false:=hn
   (conv=>whnf)
   refine⟨?_,trivial⟩;show false=eo l d
   unfold eo;rw[hn,Bf])
end
section
variable [Inhabited aL]
def gI (x:cr) (now:Int):Bool:=x.persistent&&decide (x.aM<=now)
def gG (a b:aa):Int:=
 let n:=if cj a.ab.access b.ab.access≠0 then cj a.ab.access b.ab.access else cj a.ab.aq b.ab.aq
 if n≠0\/a.key=b.key then n else if bL a.key b.key then -1 else 1
def fe (a b:aa):Bool:=decide (gG a b<0)
def fC:List aa->Bool
 |x::y::l=>bL x.key y.key&&fC (y::l)
 |_=>true
def nV (l:List aa) (k:bh):List aa:=l.filter fun x=>decide (x.key≠k)
def fc (l:List aa) (d:Bs):List aa:=l.filter fun x=>decide (x.key.domain=d)
def vy:bh:=⟨[],[],[]⟩
def J0:aa:=⟨vy,⟨[],false,false,false,false,0,0,0⟩⟩
def mg (l:List Bs) (d:Bs):Nat:=(l.takeWhile fun x=>lt x d).length
def tx (l:List Bs) (d:Bs):List Bs:=if l[mg l d]? =some d then l else l.take (mg l d)++d::l.drop (mg l d)
def Ie (l:List aa):List Bs:=l.foldl (fun a x=>tx a x.key.domain) []
def eD (l:List aa) (x:aa):List aa:=l.filter (fun y=>bL y.key x.key)++x::l.filter (fun y=>bL x.key y.key)
def fP (l:List aa):List aa:=l.foldl eD []
def sn (l:List aa) (d:Bs) (all:Bool):Option aa:=l.foldl (fun b x=>if all||decide (x.key.domain=d)then(match b with|none=>some x|some y=>if fe x y then some x else some y)else b) none
def rm (l:List aa) (d:Bs) (all:Bool):bh:=match sn l d all with|some x=>x.key|none=>vy
def dG (c:aw):Int:=if c.bW<1\/c.bW>64\/c.domain<1\/c.domain>2048\/c.total<1\/c.total>2048 then 4 else gR c.rules
noncomputable def Nt:TypeId->Option View:=fun t=>bif Nat.beq t Ty.string then some ⟨Bs,cI⟩else bif Nat.beq t wE then some ⟨aa,aa.enc⟩else none
noncomputable def bJ (fH:FuncId->Option aH) (lk:FuncId->Nat->Option aE):fy:={tab:=mI,view:=Nt,fH,lk}
def items (l:List aa):SV:= .ax aa l aa.enc
def r8 (l:List aa):SO:= .arr aa l aa.enc wE
def zN (f r:Nat) (A:aE) (a:FuncId->Nat->Option aE):FuncId->Nat->Option aE:=fun g s=>bif Nat.beq g f&&Nat.beq s r then some A else a g s
def oI:aH:={Y:=cr×Int,pre:=fun _=>True,args:=fun y=>[.agg y.1.enc,i64 y.2],res:=fun y=> .bool (gI y.1 y.2)}
def vY:aH:={Y:=Int×Int,pre:=fun _=>True,args:=fun y=>[i64 y.1,i64 y.2],res:=fun y=>i64 (cj y.1 y.2)}
def vZ:aH:={Y:=bh×bh,pre:=fun _=>True,args:=fun y=>[.agg y.1.enc, .agg y.2.enc],res:=fun y=>i64 (kM y.1 y.2)}
def mE:aH:={Y:=bh×bh,pre:=fun _=>True,args:=fun y=>[.agg y.1.enc, .agg y.2.enc],res:=fun y=> .bool (bL y.1 y.2)}
def vI:aH:={Y:=aa×aa,pre:=fun _=>True,args:=fun y=>[.agg y.1.enc, .agg y.2.enc],res:=fun y=>i64 (gG y.1 y.2)}
def nE (l:List aa):Prop:=l.length<=10000
def od:aH:={Y:=List aa,pre:=nE,args:=fun y=>[items y],res:=fun y=> .bool (fC y)}
def lA (y:List aa):aE:={α:=Nat,ok:=fun i=>1<=i/\i<=y.length+1/\ ∀j (h:j+1<y.length),j+1<i->bL (y[j]'(by omega)).key y[j+1].key=true,μ:=fun i=>y.length+1 - i,bu:=[],aV:=fun i=>[(0,items y),(3,i64 i)],bK:=fun _=>[]}
def kD:aH:={Y:=List aa×bh,pre:=fun y=>nE y.1,args:=fun y=>[items y.1, .agg y.2.enc],res:=fun y=>items (nV y.1 y.2)}
def iy:aH:={Y:=List aa×Bs,pre:=fun y=>nE y.1,args:=fun y=>[items y.1, .str y.2],res:=fun y=>items (fc y.1 y.2)}
def iE (l:List aa) (p:aa->Bool):aE:={α:=Nat,ok:=fun i=>i<=l.length,μ:=fun i=>l.length - i,bu:=[1],aV:=fun i=>[(8,items l),(9,i64 (Int.ofNat l.length)),(10,i64 i),(5, .own 1)],bK:=fun i=>[(1,r8 ((l.take i).filter p))]}
def nL (y:List aa×Bs):aE:={α:=Nat,ok:=fun i=>i<=y.1.length,μ:=fun i=>y.1.length - i,bu:=[],aV:=fun i=>[(0,items y.1),(1, .str y.2),(5, .own 0),(6,i64 i)],bK:=fun i=>[(0,r8 ((y.1.take i).filter fun x=>decide (x.key.domain=y.2)))]}
def ur:aH:={Y:=List aa×aa,pre:=fun y=>nE y.1,args:=fun y=>[items y.1, .agg y.2.enc],res:=fun y=> .bool (decide (y.2∈y.1))}
def rR (y:List aa×aa):aE:={α:=Nat,ok:=fun i=>i<=y.1.length/\ ∀j (h:j<y.1.length),j<i->y.1[j]≠y.2,μ:=fun i=>y.1.length - i,bu:=[3],aV:=fun i=>[(0,items y.1),(7,i64 (Int.ofNat y.1.length)),(8,i64 i)],bK:=fun _=>[]}
def v7:aH:={Y:=List aa×aa,pre:=fun y=>nE y.1,args:=fun y=>[items y.1, .agg y.2.enc],res:=fun y=>items (eD y.1 y.2)}
def jW (y:List aa×aa):aE:={α:=Nat,ok:=fun i=>i<=y.1.length,μ:=fun i=>y.1.length - i,bu:=[3],aV:=fun i=>[(0,items y.1),(5, .own 1),(6, .own 2),(7,i64 i)],bK:=fun i=>[(1,r8 ((y.1.take i).filter fun x=>bL x.key y.2.key)),(2,r8 ((y.1.take i).filter fun x=>bL y.2.key x.key))]}
def u9:aH:={Y:=List aa,pre:=fun y=>y.length<=1000,args:=fun y=>[items y],res:=fun y=>items (fP y)}
def rD (y:List aa):aE:={α:=Nat,ok:=fun i=>i<=y.length,μ:=fun i=>y.length - i,bu:=[],aV:=fun i=>[(0,items y),(3,items (fP (y.take i))),(4,i64 i)],bK:=fun _=>[],dM:=[3]}
def mz (c:aw):Prop:=c.rules.length<=100000/\ ∀s∈c.rules,s.length<=100000
def n4:aH:={Y:=aw,pre:=mz,args:=fun y=>[.agg y.enc],res:=fun y=>i64 (dG y)}
noncomputable def sI (f:FuncId):Option aH:=bif Nat.beq f sT then some lK else wk f
noncomputable def sJ (f:FuncId):Option aH:=bif Nat.beq f mX then some oI else bif Nat.beq f nu then some oI else bif Nat.beq f mN then some vY else bif Nat.beq f mO then some lK else sI f
noncomputable def sK (f:FuncId):Option aH:=bif Nat.beq f nj then some vZ else sJ f
noncomputable def jX (f:FuncId):Option aH:=bif Nat.beq f ni then some mE else bif Nat.beq f nv then some mE else sK f
noncomputable def oP (f:FuncId):Option aH:=bif Nat.beq f mZ then some vI else jX f
noncomputable def sL (f:FuncId):Option aH:=bif Nat.beq f jg then some od else bif Nat.beq f jn then some od else bif Nat.beq f mV then some kD else bif Nat.beq f ng then some iy else bif Nat.beq f jm then some iy else bif Nat.beq f mL then some ur else bif Nat.beq f jD then some v7 else bif Nat.beq f mY then some n4 else bif Nat.beq f nc then some n4 else oP f
noncomputable def sM (f:FuncId):Option aH:=bif Nat.beq f jl then some u9 else sL f
end
section
variable [Inhabited aL]
theorem Mg:(bx (fun(y:aH.Y oI)=>bJ bI (cF y)) 400 mX)=(∀(y:cr×Int),
 True->
 br y.1.persistent (bA y.1.aM y.2=gI y.1 y.2/\True)
 (false=gI y.1 y.2/\True)):=by kernel_rfl
theorem J4:(bx (fun(y:aH.Y oI)=>bJ bI (cF y)) 400 nu)=(∀(y:cr×Int),
 True->
 br y.1.persistent (bA y.1.aM y.2=gI y.1 y.2/\True)
 (false=gI y.1 y.2/\True)):=by kernel_rfl
theorem L7:(bx (fun(y:aH.Y vY)=>bJ bI (cF y)) 400 mN)=(∀(y:Int×Int),
 True->
 br (!y.1==y.1)
 (br (!y.2==y.2) (aj 0 (cj y.1 y.2)/\True) (aj (-1) (cj y.1 y.2)/\True))
 (br (!y.2==y.2) (aj 1 (cj y.1 y.2)/\True)
 (br (bj y.1 y.2) (aj (-1) (cj y.1 y.2)/\True)
 (br (bj y.2 y.1) (aj 1 (cj y.1 y.2)/\True)
 (aj 0 (cj y.1 y.2)/\True))))):=by kernel_rfl
theorem L8:(bx (fun(y:aH.Y lK)=>bJ sI (cF y)) 400 mO)=(∀(y:Bs×Bs),
 True->
 ∃(y_1:Bs×Bs),
 y.1=y_1.1/\y.2=y_1.2/\True/\aj (cR y_1.1 y_1.2) (cR y.1 y.2)/\True):=by kernel_rfl
theorem Mc:(bx (fun(y:aH.Y vZ)=>bJ sJ (cF y)) 600 nj)=(∀(y:bh×bh),
 True->
 ∃(y_1:Bs×Bs),
 y.1.name=y_1.1/\
 y.2.name=y_1.2/\
 True/\
 ∃(y_2:Bs×Bs),
 y.1.domain=y_2.1/\
 y.2.domain=y_2.2/\
 True/\
 ∃(y_3:Bs×Bs),
 y.1.path=y_3.1/\
 y.2.path=y_3.2/\
 True/\
 br (!cR y_1.1 y_1.2==0)
 (aj (cR y_1.1 y_1.2) (kM y.1 y.2)/\True)
 (br (!cR y_2.1 y_2.2==0)
 (aj (cR y_2.1 y_2.2) (kM y.1 y.2)/\True)
 (br (!cR y_3.1 y_3.2==0)
 (aj (cR y_3.1 y_3.2) (kM y.1 y.2)/\True)
 (aj 0 (kM y.1 y.2)/\True)))):=by kernel_rfl
theorem Md:(bx (fun(y:aH.Y mE)=>bJ sK (cF y)) 400 ni)=(∀(y:bh×bh),
 True->
 ∃(y_1:bh×bh),
 y.1.name=y_1.1.name/\
 y.1.domain=y_1.1.domain/\
 y.1.path=y_1.1.path/\
 y.2.name=y_1.2.name/\
 y.2.domain=y_1.2.domain/\
 y.2.path=y_1.2.path/\
 True/\bj (kM y_1.1 y_1.2) 0=bL y.1 y.2/\True):=by kernel_rfl
theorem J2:(bx (fun(y:aH.Y mE)=>bJ bI (cF y)) 400 nv)=(∀(y:bh×bh),
 True->
 br (!y.1.name==y.2.name)
 (Go.Op.bytesLess y.1.name y.2.name=bL y.1 y.2/\True)
 (br (!y.1.domain==y.2.domain)
 (Go.Op.bytesLess y.1.domain y.2.domain=bL y.1 y.2/\True)
 (Go.Op.bytesLess y.1.path y.2.path=bL y.1 y.2/\True))):=by kernel_rfl
theorem J9:(bx (fun(y:aH.Y vI)=>bJ jX (cF y)) 600 mZ)=(∀(y:aa×aa),
 True->
 ∃(y_1:Int×Int),
 aj y.1.ab.access y_1.1/\
 aj y.2.ab.access y_1.2/\
 True/\
 ∃(y_2:Int×Int),
 aj y.1.ab.aq y_2.1/\
 aj y.2.ab.aq y_2.2/\
 True/\
 br (!cj y_1.1 y_1.2==0)
 (br (!cj y_1.1 y_1.2==0)
 (aj (cj y_1.1 y_1.2) (gG y.1 y.2)/\True)
 (br
 (y.1.key.name==y.2.key.name&&
 (y.1.key.domain==y.2.key.domain&&
 (y.1.key.path==y.2.key.path&&true)))
 (aj (cj y_1.1 y_1.2) (gG y.1 y.2)/\True)
 (∃(y_3:bh×bh),
 y.1.key.name=y_3.1.name/\
 y.1.key.domain=y_3.1.domain/\
 y.1.key.path=y_3.1.path/\
 y.2.key.name=y_3.2.name/\
 y.2.key.domain=y_3.2.domain/\
 y.2.key.path=y_3.2.path/\
 True/\
 br (bL y_3.1 y_3.2) (aj (-1) (gG y.1 y.2)/\True)
 (aj 1 (gG y.1 y.2)/\True))))
 (br (!cj y_2.1 y_2.2==0)
 (br (!cj y_2.1 y_2.2==0)
 (aj (cj y_2.1 y_2.2) (gG y.1 y.2)/\True)
 (br
 (y.1.key.name==y.2.key.name&&
 (y.1.key.domain==y.2.key.domain&&
 (y.1.key.path==y.2.key.path&&true)))
 (aj (cj y_2.1 y_2.2) (gG y.1 y.2)/\True)
 (∃(y_3:bh×bh),
 y.1.key.name=y_3.1.name/\
 y.1.key.domain=y_3.1.domain/\
 y.1.key.path=y_3.1.path/\
 y.2.key.name=y_3.2.name/\
 y.2.key.domain=y_3.2.domain/\
 y.2.key.path=y_3.2.path/\
 True/\
 br (bL y_3.1 y_3.2) (aj (-1) (gG y.1 y.2)/\True)
 (aj 1 (gG y.1 y.2)/\True))))
 (br
 (y.1.key.name==y.2.key.name&&
 (y.1.key.domain==y.2.key.domain&&
 (y.1.key.path==y.2.key.path&&true)))
 (aj 0 (gG y.1 y.2)/\True)
 (∃(y_3:bh×bh),
 y.1.key.name=y_3.1.name/\
 y.1.key.domain=y_3.1.domain/\
 y.1.key.path=y_3.1.path/\
 y.2.key.name=y_3.2.name/\
 y.2.key.domain=y_3.2.domain/\
 y.2.key.path=y_3.2.path/\
 True/\
 br (bL y_3.1 y_3.2) (aj (-1) (gG y.1 y.2)/\True)
 (aj 1 (gG y.1 y.2)/\True))))):=by kernel_rfl
theorem JV:(bx (fun(y:aH.Y od)=>bJ jX (cq jg 2 (lA y))) 400 jg)=(∀(y:List aa),
 y.length<=10000->
 (∃(x:Nat),
 (1<=x/\
 x<=y.length+1/\ ∀(j:Nat) (h:j+1<y.length),j+1<x->bL (aa.key y[j]) (aa.key y[j+1])=true)/\
 (SV.ax aa y aa.enc=SV.ax aa y aa.enc/\aj 1 ↑x/\True)/\True/\True)/\
 ∀(x:Nat),
 (1<=x/\
 x<=y.length+1/\ ∀(j:Nat) (h:j+1<y.length),j+1<x->bL (aa.key y[j]) (aa.key y[j+1])=true)->
 br (bj (↑x) (Int.ofNat y.length))
 (ck (aX .i64 (↑x - 1))
 (ck (nn (↑x - 1))
 (so y[Int.toNat (↑x - 1)]? fun(val:aa)=>
 so y[Int.toNat ↑x]? fun(val_1:aa)=>
 ∃(y_1:bh×bh),
 val.key.name=y_1.1.name/\
 val.key.domain=y_1.1.domain/\
 val.key.path=y_1.1.path/\
 val_1.key.name=y_1.2.name/\
 val_1.key.domain=y_1.2.domain/\
 val_1.key.path=y_1.2.path/\
 True/\
 br (!bL y_1.1 y_1.2) (false=fC y/\True)
 (ck (aX .i64 (↑x+1))
 (∃(y_2:Nat),
 (1<=y_2/\
 y_2<=y.length+1/\
 ∀(j:Nat) (h:j+1<y.length),
 j+1<y_2->bL (aa.key y[j]) (aa.key y[j+1])=true)/\
 aE.μ (lA y) y_2<aE.μ (lA y) x/\
 (SV.ax aa y aa.enc=SV.ax aa y aa.enc/\
 aj (↑x+1) ↑y_2/\True)/\
 True/\True)))))
 (true=fC y/\True)):=by kernel_rfl
theorem IC:(bx (fun(y:aH.Y od)=>bJ jX (cq jn 2 (lA y))) 400 jn)=(∀(y:List aa),
 y.length<=10000->
 (∃(x:Nat),
 (1<=x/\
 x<=y.length+1/\ ∀(j:Nat) (h:j+1<y.length),j+1<x->bL (aa.key y[j]) (aa.key y[j+1])=true)/\
 (SV.ax aa y aa.enc=SV.ax aa y aa.enc/\aj 1 ↑x/\True)/\True/\True)/\
 ∀(x:Nat),
 (1<=x/\
 x<=y.length+1/\ ∀(j:Nat) (h:j+1<y.length),j+1<x->bL (aa.key y[j]) (aa.key y[j+1])=true)->
 br (bj (↑x) (Int.ofNat y.length))
 (ck (aX .i64 (↑x - 1))
 (ck (nn (↑x - 1))
 (so y[Int.toNat (↑x - 1)]? fun(val:aa)=>
 so y[Int.toNat ↑x]? fun(val_1:aa)=>
 ∃(y_1:bh×bh),
 val.key.name=y_1.1.name/\
 val.key.domain=y_1.1.domain/\
 val.key.path=y_1.1.path/\
 val_1.key.name=y_1.2.name/\
 val_1.key.domain=y_1.2.domain/\
 val_1.key.path=y_1.2.path/\
 True/\
 br (!bL y_1.1 y_1.2) (false=fC y/\True)
 (ck (aX .i64 (↑x+1))
 (∃(y_2:Nat),
 (1<=y_2/\
 y_2<=y.length+1/\
 ∀(j:Nat) (h:j+1<y.length),
 j+1<y_2->bL (aa.key y[j]) (aa.key y[j+1])=true)/\
 aE.μ (lA y) y_2<aE.μ (lA y) x/\
 (SV.ax aa y aa.enc=SV.ax aa y aa.enc/\
 aj (↑x+1) ↑y_2/\True)/\
 True/\True)))))
 (true=fC y/\True)):=by kernel_rfl
theorem ID:(bx (fun(y:aH.Y kD)=>bJ bI (cq kU 3 (iE y.1 fun(x:aa)=>Decidable.decide (x.key≠y.2)))) 600 mV)=(∀(y:List aa×bh),
 y.1.length<=10000->
 (∃(x:Nat),
 x<=y.1.length/\
 (SV.fn 272 [] [SV.ptr (SH.next (St.h {ts:=Fr.of (aH.args kD y) 0,h:={next:=0,os:=[]},log:=[]})) 0]=
 SV.fn 272 []
 [SV.ptr (SH.next (St.h {ts:=Fr.of (aH.args kD y) 0,h:={next:=0,os:=[]},log:=[]})) 0]/\
 SV.ax aa y.1 aa.enc=SV.ax aa y.1 aa.enc/\
 aj (Int.ofNat y.1.length) (Int.ofNat y.1.length)/\aj 0 ↑x/\True/\True)/\
 ((List.filter (fun(x:aa)=>Decidable.decide (x.key≠y.2)) (List.take x y.1)=[]/\
 ∀(x:aa),List.length (aa.enc x)=11)/\
 (y.2.name=y.2.name/\
 y.2.domain=y.2.domain/\y.2.path=y.2.path/\True)/\
 True)/\
 True)/\
 ∀(x:Nat),
 x<=y.1.length->
 br (bj (↑x) (Int.ofNat y.1.length))
 (so y.1[Int.toNat ↑x]? fun(val:aa)=>
 br
 (!(val.key.name==y.2.name&&
 (val.key.domain==y.2.domain&&
 (val.key.path==y.2.path&&true))))
 (∃(x_1:aa),
 (aa.enc x_1)=
 (aa.enc val)/\
 ck
 (Nat.ble
 ((List.length (List.filter (fun(x:aa)=>Decidable.decide (x.key≠y.2)) (List.take x y.1))+
 List.length [x_1])*
 96)
 16777216&&
 Nat.ble
 (List.length (List.filter (fun(x:aa)=>Decidable.decide (x.key≠y.2)) (List.take x y.1))+
 List.length [x_1])
 16777216)
 (ck (aX .i64 (↑x+1))
 (∃(y_1:Nat),
 y_1<=y.1.length/\
 aE.μ (iE y.1 fun(x:aa)=>Decidable.decide (x.key≠y.2)) y_1<
 aE.μ (iE y.1 fun(x:aa)=>Decidable.decide (x.key≠y.2)) x/\
 (SV.fn 272 []
 [SV.ptr
 (SH.next (St.h {ts:=Fr.of (aH.args kD y) 0,h:={next:=0,os:=[]},log:=[]})) 0]=
 SV.fn 272 []
 [SV.ptr
 (SH.next (St.h {ts:=Fr.of (aH.args kD y) 0,h:={next:=0,os:=[]},log:=[]})) 0]/\
 SV.ax aa y.1 aa.enc=SV.ax aa y.1 aa.enc/\
 aj (Int.ofNat y.1.length) (Int.ofNat y.1.length)/\aj (↑x+1) ↑y_1/\True/\True)/\
 (SV.ax aa
 (List.filter (fun(x:aa)=>Decidable.decide (x.key≠y.2)) (List.take x y.1)++[x_1])
 aa.enc=
 SV.ax aa
 (List.filter (fun(x:aa)=>Decidable.decide (x.key≠y.2)) (List.take y_1 y.1))
 aa.enc/\
 (y.2.name=y.2.name/\
 y.2.domain=y.2.domain/\
 y.2.path=y.2.path/\True)/\
 True)/\
 True)))
 (ck (aX .i64 (↑x+1))
 (∃(y_1:Nat),
 y_1<=y.1.length/\
 aE.μ (iE y.1 fun(x:aa)=>Decidable.decide (x.key≠y.2)) y_1<
 aE.μ (iE y.1 fun(x:aa)=>Decidable.decide (x.key≠y.2)) x/\
 (SV.fn 272 []
 [SV.ptr (SH.next (St.h {ts:=Fr.of (aH.args kD y) 0,h:={next:=0,os:=[]},log:=[]}))
 0]=
 SV.fn 272 []
 [SV.ptr (SH.next (St.h {ts:=Fr.of (aH.args kD y) 0,h:={next:=0,os:=[]},log:=[]}))
 0]/\
 SV.ax aa y.1 aa.enc=SV.ax aa y.1 aa.enc/\
 aj (Int.ofNat y.1.length) (Int.ofNat y.1.length)/\aj (↑x+1) ↑y_1/\True/\True)/\
 (SV.ax aa
 (List.filter (fun(x:aa)=>Decidable.decide (x.key≠y.2)) (List.take x y.1))
 aa.enc=
 SV.ax aa
 (List.filter (fun(x:aa)=>Decidable.decide (x.key≠y.2)) (List.take y_1 y.1))
 aa.enc/\
 (y.2.name=y.2.name/\
 y.2.domain=y.2.domain/\
 y.2.path=y.2.path/\True)/\
 True)/\
 True)))
 (SV.ax aa (List.filter (fun(x:aa)=>Decidable.decide (x.key≠y.2)) (List.take x y.1))
 aa.enc=
 SV.ax aa (nV y.1 y.2) aa.enc/\
 True)):=by kernel_rfl
theorem IL:(bx (fun(y:aH.Y iy)=>bJ bI (cq kU 3 (iE y.1 fun(x:aa)=>Decidable.decide (x.key.domain=y.2)))) 600 ng)=(∀(y:List aa×Bs),
 y.1.length<=10000->
 (∃(x:Nat),
 x<=y.1.length/\
 (SV.fn 266 [] [SV.ptr (SH.next (St.h {ts:=Fr.of (aH.args iy y) 0,h:={next:=0,os:=[]},log:=[]})) 0]=
 SV.fn 266 []
 [SV.ptr (SH.next (St.h {ts:=Fr.of (aH.args iy y) 0,h:={next:=0,os:=[]},log:=[]})) 0]/\
 SV.ax aa y.1 aa.enc=SV.ax aa y.1 aa.enc/\
 aj (Int.ofNat y.1.length) (Int.ofNat y.1.length)/\aj 0 ↑x/\True/\True)/\
 ((List.filter (fun(x:aa)=>Decidable.decide (x.key.domain=y.2)) (List.take x y.1)=[]/\
 ∀(x:aa),List.length (aa.enc x)=11)/\
 (y.2=y.2/\True)/\True)/\
 True)/\
 ∀(x:Nat),
 x<=y.1.length->
 br (bj (↑x) (Int.ofNat y.1.length))
 (so y.1[Int.toNat ↑x]? fun(val:aa)=>
 br (val.key.domain==y.2)
 (∃(x_1:aa),
 (aa.enc x_1)=
 (aa.enc val)/\
 ck
 (Nat.ble
 ((List.length
 (List.filter (fun(x:aa)=>Decidable.decide (x.key.domain=y.2))
 (List.take x y.1))+
 List.length [x_1])*
 96)
 16777216&&
 Nat.ble
 (List.length
 (List.filter (fun(x:aa)=>Decidable.decide (x.key.domain=y.2))
 (List.take x y.1))+
 List.length [x_1])
 16777216)
 (ck (aX .i64 (↑x+1))
 (∃(y_1:Nat),
 y_1<=y.1.length/\
 aE.μ (iE y.1 fun(x:aa)=>Decidable.decide (x.key.domain=y.2))
 y_1<
 aE.μ
 (iE y.1 fun(x:aa)=>Decidable.decide (x.key.domain=y.2)) x/\
 (SV.fn 266 []
 [SV.ptr
 (SH.next (St.h {ts:=Fr.of (aH.args iy y) 0,h:={next:=0,os:=[]},log:=[]})) 0]=
 SV.fn 266 []
 [SV.ptr
 (SH.next (St.h {ts:=Fr.of (aH.args iy y) 0,h:={next:=0,os:=[]},log:=[]})) 0]/\
 SV.ax aa y.1 aa.enc=SV.ax aa y.1 aa.enc/\
 aj (Int.ofNat y.1.length) (Int.ofNat y.1.length)/\aj (↑x+1) ↑y_1/\True/\True)/\
 (SV.ax aa
 (List.filter (fun(x:aa)=>Decidable.decide (x.key.domain=y.2))
 (List.take x y.1)++
 [x_1])
 aa.enc=
 SV.ax aa
 (List.filter (fun(x:aa)=>Decidable.decide (x.key.domain=y.2))
 (List.take y_1 y.1))
 aa.enc/\
 (y.2=y.2/\True)/\True)/\
 True)))
 (ck (aX .i64 (↑x+1))
 (∃(y_1:Nat),
 y_1<=y.1.length/\
 aE.μ (iE y.1 fun(x:aa)=>Decidable.decide (x.key.domain=y.2)) y_1<
 aE.μ (iE y.1 fun(x:aa)=>Decidable.decide (x.key.domain=y.2)) x/\
 (SV.fn 266 []
 [SV.ptr (SH.next (St.h {ts:=Fr.of (aH.args iy y) 0,h:={next:=0,os:=[]},log:=[]}))
 0]=
 SV.fn 266 []
 [SV.ptr (SH.next (St.h {ts:=Fr.of (aH.args iy y) 0,h:={next:=0,os:=[]},log:=[]}))
 0]/\
 SV.ax aa y.1 aa.enc=SV.ax aa y.1 aa.enc/\
 aj (Int.ofNat y.1.length) (Int.ofNat y.1.length)/\aj (↑x+1) ↑y_1/\True/\True)/\
 (SV.ax aa
 (List.filter (fun(x:aa)=>Decidable.decide (x.key.domain=y.2))
 (List.take x y.1))
 aa.enc=
 SV.ax aa
 (List.filter (fun(x:aa)=>Decidable.decide (x.key.domain=y.2))
 (List.take y_1 y.1))
 aa.enc/\
 (y.2=y.2/\True)/\True)/\
 True)))
 (SV.ax aa
 (List.filter (fun(x:aa)=>Decidable.decide (x.key.domain=y.2)) (List.take x y.1))
 aa.enc=
 SV.ax aa (fc y.1 y.2) aa.enc/\
 True)):=by kernel_rfl
theorem IA:(bx (fun(y:aH.Y iy)=>bJ bI (cq jm 3 (nL y))) 400 jm)=(∀(y:List aa×Bs),
 y.1.length<=10000->
 (∃(x:Nat),
 x<=y.1.length/\
 (SV.ax aa y.1 aa.enc=SV.ax aa y.1 aa.enc/\
 y.2=y.2/\True/\aj 0 ↑x/\True)/\
 (SV.ax (View.X {X:=aa,enc:=aa.enc}) [] (View.enc {X:=aa,enc:=aa.enc})=
 SV.ax aa
 (List.filter (fun(x:aa)=>Decidable.decide (x.key.domain=y.2)) (List.take x y.1))
 aa.enc/\
 True)/\
 True)/\
 ∀(x:Nat),
 x<=y.1.length->
 br (bj (↑x) (Int.ofNat y.1.length))
 (so y.1[Int.toNat ↑x]? fun(val:aa)=>
 br (val.key.domain==y.2)
 (so y.1[Int.toNat ↑x]? fun(val:aa)=>
 ∃(x_1:aa),
 (aa.enc x_1)=
 (aa.enc val)/\
 ck
 (Nat.ble
 ((List.length
 (List.filter (fun(x:aa)=>Decidable.decide (x.key.domain=y.2))
 (List.take x y.1))+
 List.length [x_1])*
 96)
 16777216&&
 Nat.ble
 (List.length
 (List.filter (fun(x:aa)=>Decidable.decide (x.key.domain=y.2))
 (List.take x y.1))+
 List.length [x_1])
 16777216)
 (ck (aX .i64 (↑x+1))
 (∃(y_1:Nat),
 y_1<=y.1.length/\
 aE.μ (nL y) y_1<aE.μ (nL y) x/\
 (SV.ax aa y.1 aa.enc=SV.ax aa y.1 aa.enc/\
 y.2=y.2/\True/\aj (↑x+1) ↑y_1/\True)/\
 (SV.ax aa
 (List.filter (fun(x:aa)=>Decidable.decide (x.key.domain=y.2))
 (List.take x y.1)++
 [x_1])
 aa.enc=
 SV.ax aa
 (List.filter (fun(x:aa)=>Decidable.decide (x.key.domain=y.2))
 (List.take y_1 y.1))
 aa.enc/\
 True)/\
 True)))
 (ck (aX .i64 (↑x+1))
 (∃(y_1:Nat),
 y_1<=y.1.length/\
 aE.μ (nL y) y_1<aE.μ (nL y) x/\
 (SV.ax aa y.1 aa.enc=SV.ax aa y.1 aa.enc/\
 y.2=y.2/\True/\aj (↑x+1) ↑y_1/\True)/\
 (SV.ax aa
 (List.filter (fun(x:aa)=>Decidable.decide (x.key.domain=y.2))
 (List.take x y.1))
 aa.enc=
 SV.ax aa
 (List.filter (fun(x:aa)=>Decidable.decide (x.key.domain=y.2))
 (List.take y_1 y.1))
 aa.enc/\
 True)/\
 True)))
 (SV.ax aa
 (List.filter (fun(x:aa)=>Decidable.decide (x.key.domain=y.2)) (List.take x y.1))
 aa.enc=
 SV.ax aa (fc y.1 y.2) aa.enc/\
 True)):=by kernel_rfl
theorem Ht:(bx (fun(y:aH.Y ur)=>bJ bI (cq ql 2 (rR y))) 400 mL)=(∀(y:List aa×aa),
 y.1.length<=10000->
 (∃(x:Nat),
 (x<=y.1.length/\ ∀(j:Nat) (h:j<y.1.length),j<x->y.1[j]=y.2->False)/\
 (True/\
 SV.ax aa y.1 aa.enc=SV.ax aa y.1 aa.enc/\
 aj (Int.ofNat y.1.length) (Int.ofNat y.1.length)/\aj 0 ↑x/\True)/\
 ((y.2.key.name=y.2.key.name/\
 y.2.key.domain=y.2.key.domain/\
 y.2.key.path=y.2.key.path/\
 y.2.ab.value=y.2.ab.value/\
 y.2.ab.ay=y.2.ab.ay/\
 y.2.ab.aT=y.2.ab.aT/\
 y.2.ab.aD=y.2.ab.aD/\
 y.2.ab.persistent=y.2.ab.persistent/\
 aj y.2.ab.aM y.2.ab.aM/\
 aj y.2.ab.aq y.2.ab.aq/\
 aj y.2.ab.access y.2.ab.access/\
 True)/\
 (y.2.key.name=y.2.key.name/\
 y.2.key.domain=y.2.key.domain/\
 y.2.key.path=y.2.key.path/\
 y.2.ab.value=y.2.ab.value/\
 y.2.ab.ay=y.2.ab.ay/\
 y.2.ab.aT=y.2.ab.aT/\
 y.2.ab.aD=y.2.ab.aD/\
 y.2.ab.persistent=y.2.ab.persistent/\
 aj y.2.ab.aM y.2.ab.aM/\
 aj y.2.ab.aq
 y.2.ab.aq/\
 aj y.2.ab.access y.2.ab.access/\
 True)/\
 True)/\
 True)/\
 ∀(x:Nat),
 (x<=y.1.length/\ ∀(j:Nat) (h:j<y.1.length),j<x->y.1[j]=y.2->False)->
 br (bj (↑x) (Int.ofNat y.1.length))
 (so y.1[Int.toNat ↑x]? fun(val:aa)=>
 br
 (y.2.key.name==val.key.name&&
 (y.2.key.domain==val.key.domain&&
 (y.2.key.path==val.key.path&&true))&&
 (y.2.ab.value==val.ab.value&&
 (y.2.ab.ay==val.ab.ay&&
 (y.2.ab.aT==val.ab.aT&&
 (y.2.ab.aD==val.ab.aD&&
 (y.2.ab.persistent==val.ab.persistent&&
 (y.2.ab.aM==val.ab.aM&&
 (y.2.ab.aq==val.ab.aq&&
 (y.2.ab.access==val.ab.access&&true)))))))&&
 true))
 (bA 0 ↑x=Decidable.decide (y.2∈y.1)/\True)
 (ck (aX .i64 (↑x+1))
 (∃(y_1:Nat),
 (y_1<=y.1.length/\ ∀(j:Nat) (h:j<y.1.length),j<y_1->y.1[j]=y.2->False)/\
 aE.μ (rR y) y_1<aE.μ (rR y) x/\
 (True/\
 SV.ax aa y.1 aa.enc=SV.ax aa y.1 aa.enc/\
 aj (Int.ofNat y.1.length) (Int.ofNat y.1.length)/\aj (↑x+1) ↑y_1/\True)/\
 ((y.2.key.name=y.2.key.name/\
 y.2.key.domain=y.2.key.domain/\
 y.2.key.path=y.2.key.path/\
 y.2.ab.value=y.2.ab.value/\
 y.2.ab.ay=y.2.ab.ay/\
 y.2.ab.aT=y.2.ab.aT/\
 y.2.ab.aD=y.2.ab.aD/\
 y.2.ab.persistent=
 y.2.ab.persistent/\
 aj y.2.ab.aM
 y.2.ab.aM/\
 aj y.2.ab.aq
 y.2.ab.aq/\
 aj y.2.ab.access
 y.2.ab.access/\
 True)/\
 (y.2.key.name=y.2.key.name/\
 y.2.key.domain=y.2.key.domain/\
 y.2.key.path=y.2.key.path/\
 y.2.ab.value=y.2.ab.value/\
 y.2.ab.ay=y.2.ab.ay/\
 y.2.ab.aT=y.2.ab.aT/\
 y.2.ab.aD=y.2.ab.aD/\
 y.2.ab.persistent=
 y.2.ab.persistent/\
 aj y.2.ab.aM
 y.2.ab.aM/\
 aj y.2.ab.aq
 y.2.ab.aq/\
 aj y.2.ab.access
 y.2.ab.access/\
 True)/\
 True)/\
 True)))
 (bA 0 (-1)=Decidable.decide (y.2∈y.1)/\True)):=by kernel_rfl
theorem LO:(bx (fun(y:aH.Y v7)=>bJ jX (cq jD 4 (jW y))) 600 jD)=(∀(y:List aa×aa),
 y.1.length<=10000->
 (∃(x:Nat),
 x<=y.1.length/\
 (True/\
 SV.ax aa y.1 aa.enc=SV.ax aa y.1 aa.enc/\True/\True/\aj 0 ↑x/\True)/\
 (SV.ax (View.X {X:=aa,enc:=aa.enc}) [] (View.enc {X:=aa,enc:=aa.enc})=
 SV.ax aa
 (List.filter (fun(x:aa)=>bL y.2.key x.key) (List.take x y.1))
 aa.enc/\
 SV.ax (View.X {X:=aa,enc:=aa.enc}) [] (View.enc {X:=aa,enc:=aa.enc})=
 SV.ax aa
 (List.filter (fun(x:aa)=>bL x.key y.2.key) (List.take x y.1))
 aa.enc/\
 (y.2.key.name=y.2.key.name/\
 y.2.key.domain=y.2.key.domain/\
 y.2.key.path=y.2.key.path/\
 y.2.ab.value=y.2.ab.value/\
 y.2.ab.ay=y.2.ab.ay/\
 y.2.ab.aT=y.2.ab.aT/\
 y.2.ab.aD=y.2.ab.aD/\
 y.2.ab.persistent=y.2.ab.persistent/\
 aj y.2.ab.aM y.2.ab.aM/\
 aj y.2.ab.aq
 y.2.ab.aq/\
 aj y.2.ab.access
 y.2.ab.access/\
 True)/\
 True)/\
 True)/\
 ∀(x:Nat),
 x<=y.1.length->
 br (bj (↑x) (Int.ofNat y.1.length))
 (so y.1[Int.toNat ↑x]? fun(val:aa)=>
 ∃(y_1:bh×bh),
 val.key.name=y_1.1.name/\
 val.key.domain=y_1.1.domain/\
 val.key.path=y_1.1.path/\
 y.2.key.name=y_1.2.name/\
 y.2.key.domain=y_1.2.domain/\
 y.2.key.path=y_1.2.path/\
 True/\
 br (bL y_1.1 y_1.2)
 (so y.1[Int.toNat ↑x]? fun(val:aa)=>
 ∃(x_1:aa),
 (aa.enc x_1)=
 (aa.enc val)/\
 ck
 (Nat.ble
 ((List.length
 (List.filter (fun(x:aa)=>bL x.key y.2.key)
 (List.take x y.1))+
 List.length [x_1])*
 96)
 16777216&&
 Nat.ble
 (List.length
 (List.filter (fun(x:aa)=>bL x.key y.2.key)
 (List.take x y.1))+
 List.length [x_1])
 16777216)
 (so y.1[Int.toNat ↑x]? fun(val:aa)=>
 ∃(y_2:bh×bh),
 y.2.key.name=y_2.1.name/\
 y.2.key.domain=y_2.1.domain/\
 y.2.key.path=y_2.1.path/\
 val.key.name=y_2.2.name/\
 val.key.domain=y_2.2.domain/\
 val.key.path=y_2.2.path/\
 True/\
 br (bL y_2.1 y_2.2)
 (so y.1[Int.toNat ↑x]? fun(val:aa)=>
 ∃(x_2:aa),
 (aa.enc x_2)=
 (aa.enc val)/\
 ck
 (Nat.ble
 ((List.length
 (List.filter
 (fun(x:aa)=>
 bL y.2.key x.key)
 (List.take x y.1))+
 List.length [x_2])*
 96)
 16777216&&
 Nat.ble
 (List.length
 (List.filter
 (fun(x:aa)=>
 bL y.2.key x.key)
 (List.take x y.1))+
 List.length [x_2])
 16777216)
 (ck (aX .i64 (↑x+1))
 (∃(y_3:Nat),
 y_3<=y.1.length/\
 aE.μ (jW y) y_3<aE.μ (jW y) x/\
 (True/\
 SV.ax aa y.1 aa.enc=
 SV.ax aa y.1 aa.enc/\
 True/\True/\aj (↑x+1) ↑y_3/\True)/\
 (SV.ax aa
 (List.filter
 (fun(x:aa)=>
 bL y.2.key x.key)
 (List.take x y.1)++
 [x_2])
 aa.enc=
 SV.ax aa
 (List.filter
 (fun(x:aa)=>
 bL y.2.key x.key)
 (List.take y_3 y.1))
 aa.enc/\
 SV.ax aa
 (List.filter
 (fun(x:aa)=>
 bL x.key y.2.key)
 (List.take x y.1)++
 [x_1])
 aa.enc=
 SV.ax aa
 (List.filter
 (fun(x:aa)=>
 bL x.key y.2.key)
 (List.take y_3 y.1))
 aa.enc/\
 (y.2.key.name=
 y.2.key.name/\
 y.2.key.domain=
 y.2.key.domain/\
 y.2.key.path=
 y.2.key.path/\
 y.2.ab.value=
 y.2.ab.value/\
 y.2.ab.ay=
 y.2.ab.ay/\
 y.2.ab.aT=
 y.2.ab.aT/\
 y.2.ab.aD=
 y.2.ab.aD/\
 y.2.ab.persistent=
 y.2.ab.persistent/\
 aj y.2.ab.aM
 y.2.ab.aM/\
 aj y.2.ab.aq
 y.2.ab.aq/\
 aj y.2.ab.access
 y.2.ab.access/\
 True)/\
 True)/\
 True)))
 (ck (aX .i64 (↑x+1))
 (∃(y_3:Nat),
 y_3<=y.1.length/\
 aE.μ (jW y) y_3<aE.μ (jW y) x/\
 (True/\
 SV.ax aa y.1 aa.enc=
 SV.ax aa y.1 aa.enc/\
 True/\True/\aj (↑x+1) ↑y_3/\True)/\
 (SV.ax aa
 (List.filter
 (fun(x:aa)=>
 bL y.2.key x.key)
 (List.take x y.1))
 aa.enc=
 SV.ax aa
 (List.filter
 (fun(x:aa)=>
 bL y.2.key x.key)
 (List.take y_3 y.1))
 aa.enc/\
 SV.ax aa
 (List.filter
 (fun(x:aa)=>
 bL x.key y.2.key)
 (List.take x y.1)++
 [x_1])
 aa.enc=
 SV.ax aa
 (List.filter
 (fun(x:aa)=>
 bL x.key y.2.key)
 (List.take y_3 y.1))
 aa.enc/\
 (y.2.key.name=
 y.2.key.name/\
 y.2.key.domain=
 y.2.key.domain/\
 y.2.key.path=
 y.2.key.path/\
 y.2.ab.value=
 y.2.ab.value/\
 y.2.ab.ay=
 y.2.ab.ay/\
 y.2.ab.aT=
 y.2.ab.aT/\
 y.2.ab.aD=
 y.2.ab.aD/\
 y.2.ab.persistent=
 y.2.ab.persistent/\
 aj y.2.ab.aM
 y.2.ab.aM/\
 aj y.2.ab.aq
 y.2.ab.aq/\
 aj y.2.ab.access
 y.2.ab.access/\
 True)/\
 True)/\
 True))))
 (so y.1[Int.toNat ↑x]? fun(val:aa)=>
 ∃(y_2:bh×bh),
 y.2.key.name=y_2.1.name/\
 y.2.key.domain=y_2.1.domain/\
 y.2.key.path=y_2.1.path/\
 val.key.name=y_2.2.name/\
 val.key.domain=y_2.2.domain/\
 val.key.path=y_2.2.path/\
 True/\
 br (bL y_2.1 y_2.2)
 (so y.1[Int.toNat ↑x]? fun(val:aa)=>
 ∃(x_1:aa),
 (aa.enc x_1)=
 (aa.enc val)/\
 ck
 (Nat.ble
 ((List.length
 (List.filter
 (fun(x:aa)=>bL y.2.key x.key)
 (List.take x y.1))+
 List.length [x_1])*
 96)
 16777216&&
 Nat.ble
 (List.length
 (List.filter
 (fun(x:aa)=>bL y.2.key x.key)
 (List.take x y.1))+
 List.length [x_1])
 16777216)
 (ck (aX .i64 (↑x+1))
 (∃(y_3:Nat),
 y_3<=y.1.length/\
 aE.μ (jW y) y_3<aE.μ (jW y) x/\
 (True/\
 SV.ax aa y.1 aa.enc=
 SV.ax aa y.1 aa.enc/\
 True/\True/\aj (↑x+1) ↑y_3/\True)/\
 (SV.ax aa
 (List.filter
 (fun(x:aa)=>
 bL y.2.key x.key)
 (List.take x y.1)++
 [x_1])
 aa.enc=
 SV.ax aa
 (List.filter
 (fun(x:aa)=>
 bL y.2.key x.key)
 (List.take y_3 y.1))
 aa.enc/\
 SV.ax aa
 (List.filter
 (fun(x:aa)=>
 bL x.key y.2.key)
 (List.take x y.1))
 aa.enc=
 SV.ax aa
 (List.filter
 (fun(x:aa)=>
 bL x.key y.2.key)
 (List.take y_3 y.1))
 aa.enc/\
 (y.2.key.name=
 y.2.key.name/\
 y.2.key.domain=
 y.2.key.domain/\
 y.2.key.path=
 y.2.key.path/\
 y.2.ab.value=
 y.2.ab.value/\
 y.2.ab.ay=
 y.2.ab.ay/\
 y.2.ab.aT=
 y.2.ab.aT/\
 y.2.ab.aD=
 y.2.ab.aD/\
 y.2.ab.persistent=
 y.2.ab.persistent/\
 aj y.2.ab.aM
 y.2.ab.aM/\
 aj y.2.ab.aq
 y.2.ab.aq/\
 aj y.2.ab.access
 y.2.ab.access/\
 True)/\
 True)/\
 True)))
 (ck (aX .i64 (↑x+1))
 (∃(y_3:Nat),
 y_3<=y.1.length/\
 aE.μ (jW y) y_3<aE.μ (jW y) x/\
 (True/\
 SV.ax aa y.1 aa.enc=
 SV.ax aa y.1 aa.enc/\
 True/\True/\aj (↑x+1) ↑y_3/\True)/\
 (SV.ax aa
 (List.filter
 (fun(x:aa)=>bL y.2.key x.key)
 (List.take x y.1))
 aa.enc=
 SV.ax aa
 (List.filter
 (fun(x:aa)=>bL y.2.key x.key)
 (List.take y_3 y.1))
 aa.enc/\
 SV.ax aa
 (List.filter
 (fun(x:aa)=>
 bL x.key y.2.key)
 (List.take x y.1))
 aa.enc=
 SV.ax aa
 (List.filter
 (fun(x:aa)=>
 bL x.key y.2.key)
 (List.take y_3 y.1))
 aa.enc/\
 (y.2.key.name=
 y.2.key.name/\
 y.2.key.domain=
 y.2.key.domain/\
 y.2.key.path=
 y.2.key.path/\
 y.2.ab.value=
 y.2.ab.value/\
 y.2.ab.ay=
 y.2.ab.ay/\
 y.2.ab.aT=
 y.2.ab.aT/\
 y.2.ab.aD=
 y.2.ab.aD/\
 y.2.ab.persistent=
 y.2.ab.persistent/\
 aj y.2.ab.aM
 y.2.ab.aM/\
 aj y.2.ab.aq
 y.2.ab.aq/\
 aj y.2.ab.access
 y.2.ab.access/\
 True)/\
 True)/\
 True))))
 (∃(x_1:aa),
 (aa.enc x_1)=
 (aa.enc y.2)/\
 ck
 (Nat.ble
 ((List.length
 (List.filter (fun(x:aa)=>bL x.key y.2.key) (List.take x y.1))+
 List.length [x_1])*
 96)
 16777216&&
 Nat.ble
 (List.length
 (List.filter (fun(x:aa)=>bL x.key y.2.key) (List.take x y.1))+
 List.length [x_1])
 16777216)
 ((∀(x:aa),List.length (aa.enc x)=11/\List.all (aa.enc x) iW=true)/\
 ∃(M':List aa),
 SV.ax aa
 (List.filter (fun(x:aa)=>bL y.2.key x.key) (List.take x y.1))
 aa.enc=
 SV.ax aa M' aa.enc/\
 ck
 (Nat.ble
 ((List.length
 (List.filter (fun(x:aa)=>bL x.key y.2.key)
 (List.take x y.1)++
 [x_1])+
 M'.length)*
 96)
 16777216&&
 Nat.ble
 (List.length
 (List.filter (fun(x:aa)=>bL x.key y.2.key)
 (List.take x y.1)++
 [x_1])+
 M'.length)
 16777216)
 (SV.ax aa
 (List.filter (fun(x:aa)=>bL x.key y.2.key)
 (List.take x y.1)++
 [x_1]++
 M')
 aa.enc=
 SV.ax aa (eD y.1 y.2) aa.enc/\
 True)))):=by kernel_rfl
theorem IJ:(bx (fun(y:aH.Y n4)=>bJ oP (cF y)) 600 mY)=(∀(y:aw),
 (y.rules.length<=100000/\ ∀(s:Bs),s∈y.rules->s.length<=100000)->
 br (bA 1 y.bW)
 (br (!bA y.bW 64) (aj 4 (dG y)/\True)
 (br (bA 1 y.domain)
 (br (!bA y.domain 2048) (aj 4 (dG y)/\True)
 (br (bA 1 y.total)
 (br (!bA y.total 2048) (aj 4 (dG y)/\True)
 (∃(y_1:List Bs),
 SV.ax Bs y.rules cI=SV.ax Bs y_1 cI/\
 (y_1.length<=100000/\ ∀(s:Bs),s∈y_1->s.length<=100000)/\aj (gR y_1) (dG y)/\True))
 (aj 4 (dG y)/\True)))
 (aj 4 (dG y)/\True)))
 (aj 4 (dG y)/\True)):=by kernel_rfl
theorem Iz:(bx (fun(y:aH.Y n4)=>bJ oP (cF y)) 600 nc)=(∀(y:aw),
 (y.rules.length<=100000/\ ∀(s:Bs),s∈y.rules->s.length<=100000)->
 br (bj y.bW 1) (aj 4 (dG y)/\True)
 (br (bj 64 y.bW) (aj 4 (dG y)/\True)
 (br (bj y.domain 1) (aj 4 (dG y)/\True)
 (br (bj 2048 y.domain) (aj 4 (dG y)/\True)
 (br (bj y.total 1) (aj 4 (dG y)/\True)
 (br (bj 2048 y.total) (aj 4 (dG y)/\True)
 (br (bj 256 (Int.ofNat y.rules.length)) (aj 3 (dG y)/\True)
 (∃(y_1:List Bs),
 SV.ax Bs y.rules cI=SV.ax Bs y_1 cI/\
 (y_1.length<=100000/\ ∀(s:Bs),s∈y_1->s.length<=100000)/\
 br (!List.all y_1 cX) (aj 1 (dG y)/\True) (aj 0 (dG y)/\True))))))))):=by kernel_rfl
theorem II:(bx (fun(y:aH.Y u9)=>bJ sL (cq jl 3 (rD y))) 400 jl)=(∀(y:List aa),
 y.length<=1000->
 (∃(x:Nat),
 x<=y.length/\
 (SV.ax aa y aa.enc=SV.ax aa y aa.enc/\
 SV.ax (View.X {X:=aa,enc:=aa.enc}) [] (View.enc {X:=aa,enc:=aa.enc})=
 SV.ax aa (fP (List.take x y)) aa.enc/\
 aj 0 ↑x/\True)/\
 (True/\True)/\True)/\
 ∀(x:Nat),
 x<=y.length->
 br (bj (↑x) (Int.ofNat y.length))
 (so y[Int.toNat ↑x]? fun(val:aa)=>
 ∃(y_1:List aa×aa),
 SV.ax aa (fP (List.take x y)) aa.enc=SV.ax aa y_1.1 aa.enc/\
 val.key.name=y_1.2.key.name/\
 val.key.domain=y_1.2.key.domain/\
 val.key.path=y_1.2.key.path/\
 val.ab.value=y_1.2.ab.value/\
 val.ab.ay=y_1.2.ab.ay/\
 val.ab.aT=y_1.2.ab.aT/\
 val.ab.aD=y_1.2.ab.aD/\
 val.ab.persistent=y_1.2.ab.persistent/\
 aj val.ab.aM y_1.2.ab.aM/\
 aj val.ab.aq y_1.2.ab.aq/\
 aj val.ab.access y_1.2.ab.access/\
 y_1.1.length<=10000/\
 ck (aX .i64 (↑x+1))
 (∃(y_2:Nat),
 y_2<=y.length/\
 aE.μ (rD y) y_2<aE.μ (rD y) x/\
 (SV.ax aa y aa.enc=SV.ax aa y aa.enc/\
 SV.ax aa (eD y_1.1 y_1.2) aa.enc=
 SV.ax aa (fP (List.take y_2 y)) aa.enc/\
 aj (↑x+1) ↑y_2/\True)/\
 (True/\True)/\True))
 (SV.ax aa (fP (List.take x y)) aa.enc=SV.ax aa (fP y) aa.enc/\True)):=by kernel_rfl
end
section
variable [Inhabited aL]
theorem ze:∀g C,sI g=some C->CO g C:=bM Lh zd
theorem uY (a b:bh):(a.name==b.name&&(a.domain==b.domain&&(a.path==b.path&&true)))=decide (a=b):=by
 rw[Aw]
 cases a;cases b;simp
section
variable {l:List aa} {p:aa->Bool} {x:Nat}
theorem lx (h:x<l.length):(l.take (x+1)).filter p=(l.take x).filter p++if p l[x]then[l[x]]else[]:=by
 rw[Al h,Dw];by_cases hp:p l[x]=true<;>simp[hp]
theorem pF:((l.take x).filter p).length<=x:=Bb (BU _ _) (by simp;omega)
theorem filter_all (h:¬(x:Int)<Int.ofNat l.length):(l.take x).filter p=l.filter p:=by
 rw[Ax (by simp only[Aa]at h;omega)]
end
theorem K3:CO mX oI:=bO (cfg:=fun y=>bJ bI (cF y)) bD (fun _=>rfl) (fun _=>fb) (n:=400) (by
 rw[Mg];rintro⟨c,now⟩ _;refine af.2 ⟨fun h=>⟨?_,trivial⟩,fun h=>⟨?_,trivial⟩⟩
 . have h:c.persistent=true:=h;unfold gI;rw[h,dN,Ba]
 . have h:c.persistent=false:=h;unfold gI;rw[h,Bf])
theorem Kb:CO nu oI:=bO (cfg:=fun y=>bJ bI (cF y)) bD (fun _=>rfl) (fun _=>fb) (n:=400) (by
 rw[J4];rintro⟨c,now⟩ _;refine af.2 ⟨fun h=>⟨?_,trivial⟩,fun h=>⟨?_,trivial⟩⟩
 . have h:c.persistent=true:=h;unfold gI;rw[h,dN,Ba]
 . have h:c.persistent=false:=h;unfold gI;rw[h,Bf])
theorem Lg:CO mN vY:=bO (cfg:=fun y=>bJ bI (cF y)) bD (fun _=>rfl) (fun _=>fb) (n:=400) (by
 rw[L7];rintro⟨a,b⟩ -;simp[af,bF,cj];refine⟨fun h1 h2=>by omega,fun h1=>⟨fun h2=>?_,fun h2=>?_⟩⟩
 . rw[Ah (by omega),Ai h2]
 . rw[Ah (by omega),Ah (by omega)])
theorem KL:CO mO lK:=bO (cfg:=fun y=>bJ sI (cF y)) bD (fun _=>rfl) (fun _=>ze) (n:=400) (by
 rw[L8];rintro⟨a,b⟩ -;exact⟨(a,b),rfl,rfl,trivial,rfl,trivial⟩)
theorem zf:∀g C,sJ g=some C->CO g C:=bM K3 (bM Kb (bM Lg (bM KL ze)))
theorem KZ:CO nj vZ:=bO (cfg:=fun y=>bJ sJ (cF y)) bD (fun _=>rfl) (fun _=>zf) (n:=600) (by
 rw[Mc];rintro⟨a,b⟩ -;refine⟨(_,_),rfl,rfl,trivial,⟨(_,_),rfl,rfl,trivial,⟨(_,_),rfl,rfl,trivial,?_⟩⟩⟩;simp only[af,kM,BH];generalize cR a.name b.name=n
 generalize cR a.domain b.domain=d
 generalize cR a.path b.path=p
 refine⟨fun h=>?_,fun h=>⟨fun h2=>?_,fun h2=>⟨fun h3=>?_,fun h3=>?_⟩⟩⟩<;>simp_all)
theorem yJ:∀g C,sK g=some C->CO g C:=bM KZ zf
theorem CS:CO ni mE:=bO (cfg:=fun y=>bJ sK (cF y)) bD (fun _=>rfl) (fun _=>yJ) (n:=400) (by
 rw[Md];rintro⟨a,b⟩ -;refine⟨(a,b),rfl,rfl,rfl,rfl,rfl,rfl,trivial,?_,trivial⟩;simp only[bF,bL])
theorem KU:CO nv mE:=bO (cfg:=fun y=>bJ bI (cF y)) bD (fun _=>rfl) (fun _=>fb) (n:=400) (by
 rw[J2];rintro⟨a,b⟩ -;simp only[af,qF];refine⟨fun h=>?_,fun h=>⟨fun h2=>?_,fun h2=>?_⟩⟩<;>simp_all)
theorem pO:∀g C,jX g=some C->CO g C:=bM CS (bM KU yJ)
theorem Kh:CO mZ vI:=bO (cfg:=fun y=>bJ jX (cF y)) bD (fun _=>rfl) (fun _=>pO) (n:=600) (by
 rw[J9];rintro⟨a,b⟩ -;refine⟨(_,_),rfl,rfl,trivial,⟨(_,_),rfl,rfl,trivial,?_⟩⟩;simp only[uY,af,gG];generalize cj a.ab.access b.ab.access=n
 generalize cj a.ab.aq b.ab.aq=m
 refine⟨fun hn=>⟨fun _=>?_,fun hn2=>?_⟩,fun hn=>⟨fun hm=>⟨fun _=>?_,fun hm2=>?_⟩,fun hm=>⟨fun hkk=>?_,fun hkk=>⟨(a.key,b.key),rfl,rfl,rfl,rfl,rfl,rfl,trivial,fun hl=>?_,fun hl=>?_⟩⟩⟩⟩
 all_goals simp_all)
theorem uN:∀g C,oP g=some C->CO g C:=bM Kh pO
theorem ml:∀l:List aa,fC l=true↔∀(j:Nat) (h:j+1<l.length),bL (l[j]'(by omega)).key l[j+1].key=true
 |[]=>by simp[fC]
 |[x]=>by simp[fC]
 |x::y::l=>by
  rw[fC,Ad,ml (y::l)];constructor
  . rintro⟨h1,h2⟩ j hj
    cases j with
    |zero=>exact h1
    |succ j=>exact h2 j (by simpa using hj)
  . intro h;exact⟨h 0 (by simp),fun j hj=>h (j+1) (by simpa using hj)⟩
theorem I3:CO jg od:=bO (cfg:=fun y=>bJ jX (cq jg 2 (lA y))) bD (fun _=>rfl) (fun _=>pO) (n:=400) (by
 rw[JV];intro l hpre;have hpre:l.length<=10000:=hpre;refine⟨⟨1,⟨by omega,by omega,fun j h hj=>by omega⟩,⟨rfl,rfl,trivial⟩,trivial,trivial⟩,?_⟩;rintro x ⟨h1,hx,hall⟩;refine af.2 ⟨fun hlt=>?_,fun hge=>⟨?_,trivial⟩⟩
 . have hlt':=cp hlt;have e:Int.toNat ((x:Int) - 1)=x - 1:=by omega
   refine ag.2 ⟨by rw[dQ];omega,ag.2 ⟨by rw[iX,Ac];omega,au.2 ⟨l[x - 1],by rw[e];exact Af (by omega),au.2 ⟨l[x],dH hlt',((l[x - 1]).key,(l[x]).key),rfl,rfl,rfl,rfl,rfl,rfl,trivial,af.2 ⟨fun h=>⟨?_,trivial⟩,fun h=>ag.2 ⟨cB x (by omega),x+1,⟨by omega,by omega,fun j hj hjx=>?_⟩,?_,⟨rfl,rfl,trivial⟩,trivial,trivial⟩⟩⟩⟩⟩⟩
   . symm;rw[Ap];intro hr;have:=(ml l).1 hr (x - 1) (by omega);simp only[show x - 1+1=x by omega]at this;simp[this]at h
   . by_cases e2:j+1=x
     . subst e2;simpa using h
     . exact hall j hj (by omega)
   . show l.length+1 - (x+1)<l.length+1 - x
     omega
 . symm;rw[ml];intro j hj;have:=ff hge;simp only[Aa]at this;exact hall j hj (by omega))
theorem HI:CO jn od:=bO (cfg:=fun y=>bJ jX (cq jn 2 (lA y))) bD (fun _=>rfl) (fun _=>pO) (n:=400) (by
 rw[IC];intro l hpre;have hpre:l.length<=10000:=hpre;refine⟨⟨1,⟨by omega,by omega,fun j h hj=>by omega⟩,⟨rfl,rfl,trivial⟩,trivial,trivial⟩,?_⟩;rintro x ⟨h1,hx,hall⟩;refine af.2 ⟨fun hlt=>?_,fun hge=>⟨?_,trivial⟩⟩
 . have hlt':=cp hlt;have e:Int.toNat ((x:Int) - 1)=x - 1:=by omega
   refine ag.2 ⟨by rw[dQ];omega,ag.2 ⟨by rw[iX,Ac];omega,au.2 ⟨l[x - 1],by rw[e];exact Af (by omega),au.2 ⟨l[x],dH hlt',((l[x - 1]).key,(l[x]).key),rfl,rfl,rfl,rfl,rfl,rfl,trivial,af.2 ⟨fun h=>⟨?_,trivial⟩,fun h=>ag.2 ⟨cB x (by omega),x+1,⟨by omega,by omega,fun j hj hjx=>?_⟩,?_,⟨rfl,rfl,trivial⟩,trivial,trivial⟩⟩⟩⟩⟩⟩
   . symm;rw[Ap];intro hr;have:=(ml l).1 hr (x - 1) (by omega);simp only[show x - 1+1=x by omega]at this;simp[this]at h
   . by_cases e2:j+1=x
     . subst e2;simpa using h
     . exact hall j hj (by omega)
   . show l.length+1 - (x+1)<l.length+1 - x
     omega
 . symm;rw[ml];intro j hj;have:=ff hge;simp only[Aa]at this;exact hall j hj (by omega))
theorem HK:CO mV kD:=bO (cfg:=fun y=>bJ bI (cq kU 3 (iE (y:List aa×bh).1 fun x=>decide (x.key≠(y:List aa×bh).2)))) bD (fun _=>rfl) (fun _=>fb) (n:=600) (by
 rw[ID];rintro⟨l,k⟩ hpre;have hpre:l.length<=10000:=hpre;refine⟨⟨0,by simp,?_⟩,?_⟩
 . (repeat' (first|exact trivial|exact rfl|exact(fun _=>rfl)|apply And.intro))
 intro x hx;refine af.2 ⟨fun hlt=>au.2 ⟨_,dH (cp hlt),?_⟩,fun hge=>⟨by rw[filter_all (ff hge)];rfl,trivial⟩⟩;have hlt':x<l.length:=cp hlt;have hlen:=pF (l:=l) (x:=x) (p:=fun z:aa=>decide (z.key≠k));refine af.2 ⟨fun h=>⟨l[x],rfl,ag.2 ⟨by simp only[Ad,AI,AN,A3];omega,ag.2 ⟨cB x (by omega),x+1,hlt',?_,?_⟩⟩⟩,fun h=>ag.2 ⟨cB x (by omega),x+1,hlt',?_,?_⟩⟩
 . show l.length - (x+1)<l.length - x
   omega
 . have hp:(fun z:aa=>decide (z.key≠k)) l[x]=true:=by rw[uY]at h;simpa using h
   have hf:=lx (p:=fun z:aa=>decide (z.key≠k)) hlt';rw[Ai hp]at hf
   (repeat' (first|exact trivial|exact rfl|exact(fun _=>rfl)|apply And.intro))
   all_goals (first|(rw[hf])|(simp[aj]))
 . show l.length - (x+1)<l.length - x
   omega
 . have hp:(fun z:aa=>decide (z.key≠k)) l[x]=false:=by rw[uY]at h;simpa using h
   have hf:=lx (p:=fun z:aa=>decide (z.key≠k)) hlt';rw[Ah (by simp only[hp];simp),A9]at hf
   (repeat' (first|exact trivial|exact rfl|exact(fun _=>rfl)|apply And.intro))
   all_goals (first|(rw[hf])|(simp[aj])))
theorem IQ:CO ng iy:=bO (cfg:=fun y=>bJ bI (cq kU 3 (iE (y:List aa×Bs).1 fun x=>decide (x.key.domain=(y:List aa×Bs).2)))) bD (fun _=>rfl) (fun _=>fb) (n:=600) (by
 rw[IL];rintro⟨l,k⟩ hpre;have hpre:l.length<=10000:=hpre;refine⟨⟨0,by simp,?_⟩,?_⟩
 . (repeat' (first|exact trivial|exact rfl|exact(fun _=>rfl)|apply And.intro))
 intro x hx;refine af.2 ⟨fun hlt=>au.2 ⟨_,dH (cp hlt),?_⟩,fun hge=>⟨by rw[filter_all (ff hge)];rfl,trivial⟩⟩;have hlt':x<l.length:=cp hlt;have hlen:=pF (l:=l) (x:=x) (p:=fun z:aa=>decide (z.key.domain=k));refine af.2 ⟨fun h=>⟨l[x],rfl,ag.2 ⟨by simp only[Ad,AI,AN,A3];omega,ag.2 ⟨cB x (by omega),x+1,hlt',?_,?_⟩⟩⟩,fun h=>ag.2 ⟨cB x (by omega),x+1,hlt',?_,?_⟩⟩
 . show l.length - (x+1)<l.length - x
   omega
 . have hp:(fun z:aa=>decide (z.key.domain=k)) l[x]=true:=by simpa using h
   have hf:=lx (p:=fun z:aa=>decide (z.key.domain=k)) hlt';rw[Ai hp]at hf
   (repeat' (first|exact trivial|exact rfl|exact(fun _=>rfl)|apply And.intro))
   all_goals (first|(rw[hf])|(simp[aj]))
 . show l.length - (x+1)<l.length - x
   omega
 . have hp:(fun z:aa=>decide (z.key.domain=k)) l[x]=false:=by simpa using h
   have hf:=lx (p:=fun z:aa=>decide (z.key.domain=k)) hlt';rw[Ah (by simp only[hp];simp),A9]at hf
   (repeat' (first|exact trivial|exact rfl|exact(fun _=>rfl)|apply And.intro))
   all_goals (first|(rw[hf])|(simp[aj])))
theorem HF:CO jm iy:=bO (cfg:=fun y=>bJ bI (cq jm 3 (nL y))) bD (fun _=>rfl) (fun _=>fb) (n:=400) (by
 rw[IA];rintro⟨l,k⟩ hpre;have hpre:l.length<=10000:=hpre;refine⟨⟨0,by simp,?_⟩,?_⟩
 . (repeat' (first|exact trivial|exact rfl|exact(fun _=>rfl)|apply And.intro))
 intro x hx;refine af.2 ⟨fun hlt=>au.2 ⟨_,dH (cp hlt),?_⟩,fun hge=>⟨by rw[filter_all (ff hge)];rfl,trivial⟩⟩;have hlt':x<l.length:=cp hlt;have hlen:=pF (l:=l) (x:=x) (p:=fun z:aa=>decide (z.key.domain=k));refine af.2 ⟨fun h=>au.2 ⟨l[x],dH hlt',⟨l[x],rfl,ag.2 ⟨by simp only[Ad,AI,AN,A3];omega,ag.2 ⟨cB x (by omega),x+1,hlt',?_,?_⟩⟩⟩⟩,fun h=>ag.2 ⟨cB x (by omega),x+1,hlt',?_,?_⟩⟩
 . show l.length - (x+1)<l.length - x
   omega
 . have hp:(fun z:aa=>decide (z.key.domain=k)) l[x]=true:=by simpa using h
   have hf:=lx (p:=fun z:aa=>decide (z.key.domain=k)) hlt';rw[Ai hp]at hf
   (repeat' (first|exact trivial|exact rfl|exact(fun _=>rfl)|apply And.intro))
   all_goals (first|(rw[hf])|(simp[aj]))
 . show l.length - (x+1)<l.length - x
   omega
 . have hp:(fun z:aa=>decide (z.key.domain=k)) l[x]=false:=by simpa using h
   have hf:=lx (p:=fun z:aa=>decide (z.key.domain=k)) hlt';rw[Ah (by simp only[hp];simp),A9]at hf
   (repeat' (first|exact trivial|exact rfl|exact(fun _=>rfl)|apply And.intro))
   all_goals (first|(rw[hf])|(simp[aj])))
theorem ot {x n:Nat} (h:bj (x:Int) (Int.ofNat n)=false):n<=x:=by
 have:=ff h;simp only[Aa]at this;omega
theorem zq (a b:aa):(a.key.name==b.key.name&&(a.key.domain==b.key.domain&&(a.key.path==b.key.path&&true))&&(a.ab.value==b.ab.value&&(a.ab.ay==b.ab.ay&&(a.ab.aT==b.ab.aT&&(a.ab.aD==b.ab.aD&&(a.ab.persistent==b.ab.persistent&&(a.ab.aM==b.ab.aM&&(a.ab.aq==b.ab.aq&&(a.ab.access==b.ab.access&&true)))))))&&true))=decide (a=b):=by
 rw[Aw];obtain⟨⟨a1,a2,a3⟩,⟨a4,a5,a6,a7,a8,a9,a10,a11⟩⟩:=a;obtain⟨⟨b1,b2,b3⟩,⟨b4,b5,b6,b7,b8,b9,b10,b11⟩⟩:=b;simp only[Ad,AK,Ac,aa.mk.injEq,bh.mk.injEq,cr.mk.injEq,BH]
theorem Hi:CO mL ur:=bO (cfg:=fun y=>bJ bI (cq ql 2 (rR y))) bD (fun _=>rfl) (fun _=>fb) (n:=400) (by
 rw[Ht];rintro⟨l,k⟩ hpre;have hpre:l.length<=10000:=hpre;refine⟨⟨0,⟨by simp,fun j h hj=>by omega⟩,?_⟩,?_⟩
 . (repeat' (first|exact trivial|exact rfl|exact(fun _=>rfl)|apply And.intro))
 rintro x ⟨hx,hall⟩;refine af.2 ⟨fun hlt=>au.2 ⟨_,dH (cp hlt),?_⟩,fun hge=>⟨?_,trivial⟩⟩
 . have hlt':x<l.length:=cp hlt;refine af.2 ⟨fun h=>⟨?_,trivial⟩,fun h=>ag.2 ⟨cB x (by omega),x+1,⟨hlt',fun j hj hjx he=>?_⟩,?_,?_⟩⟩
   . rw[zq]at h;have h:k=l[x]:=by simpa using h
     rw[dN,Aw];have hm:k∈l:=by rw[h];exact Av hlt'
     simp[hm]
   . rw[zq]at h;have h:¬k=l[x]:=by simpa using h
     by_cases hji:j=x
     . subst hji;exact h he.symm
     . exact hall j hj (by omega) he
   . show l.length - (x+1)<l.length - x
     omega
   . (repeat' (first|exact trivial|exact rfl|exact(fun _=>rfl)|apply And.intro))
 . rw[dN];symm;have hm:¬k∈l:=by
     intro hm;obtain⟨j,hj,he⟩:=By hm;exact hall j hj (by have:l.length<=x:=ot hge;omega) he
   simp[hm])
theorem zB:CO mY n4:=bO (cfg:=fun y=>bJ oP (cF y)) bD (fun _=>rfl) (fun _=>uN) (n:=600) (by
 rw[IJ];intro c hpre;have four:(c.bW<1\/c.bW>64\/c.domain<1\/c.domain>2048\/c.total<1\/c.total>2048)->aj 4 (dG c)/\True:=by
   intro h;unfold dG;rw[Ai h];exact⟨rfl,trivial⟩
 simp only[dN];refine af.2 ⟨fun h1=>af.2 ⟨fun h2=>four ?_,fun h2=>af.2 ⟨fun h3=>af.2 ⟨fun h4=>four ?_,fun h4=>af.2 ⟨fun h5=>af.2 ⟨fun h6=>four ?_,fun h6=>⟨c.rules,rfl,hpre,?_,trivial⟩⟩,fun h5=>four ?_⟩⟩,fun h3=>four ?_⟩⟩,fun h1=>four ?_⟩
 all_goals (simp at*)
 . omega
 . omega
 . omega
 . unfold dG;rw[Ah (by omega)]
 . omega
 . omega
 . omega)
theorem HE:CO nc n4:=bO (cfg:=fun y=>bJ oP (cF y)) bD (fun _=>rfl) (fun _=>uN) (n:=600) (by
 rw[Iz];intro c hpre;have four:(c.bW<1\/c.bW>64\/c.domain<1\/c.domain>2048\/c.total<1\/c.total>2048)->aj 4 (dG c)/\True:=by
   intro h;unfold dG;rw[Ai h];exact⟨rfl,trivial⟩
 simp only[bF];refine af.2 ⟨fun h1=>four ?_,fun h1=>af.2 ⟨fun h2=>four ?_,fun h2=>af.2 ⟨fun h3=>four ?_,fun h3=>af.2 ⟨fun h4=>four ?_,fun h4=>af.2 ⟨fun h5=>four ?_,fun h5=>af.2 ⟨fun h6=>four ?_,fun h6=>af.2 ⟨fun h7=>⟨?_,trivial⟩,fun h7=>⟨c.rules,rfl,hpre,af.2 ⟨fun h8=>⟨?_,trivial⟩,fun h8=>⟨?_,trivial⟩⟩⟩⟩⟩⟩⟩⟩⟩⟩
 all_goals (simp only[Ac,Ae,Aa]at*)
 . omega
 . omega
 . omega
 . omega
 . omega
 . omega
 all_goals (unfold dG;rw[Ah (by omega)];unfold gR)
 . rw[Ai (by omega)]
 . rw[Ah (by omega),Ah (by simpa using h8)]
 . rw[Ah (by omega),Ai (by simpa using h8)])
theorem I9 (l:List aa) (x:aa):(eD l x).length<=l.length+1:=by
 have h:∀l:List aa,(l.filter fun y=>bL y.key x.key).length+(l.filter fun y=>bL x.key y.key).length<=l.length:=by
  intro l;induction l with
  |nil=>simp
  |cons y l ih=>
   simp only[Dj];by_cases h1:bL y.key x.key=true
   . rw[Ai h1,Ah (by rw[FA _ _ h1];simp)];simp;omega
   . rw[Ah h1];by_cases h2:bL x.key y.key=true
     . rw[Ai h2];simp;omega
     . rw[Ah h2];simp;omega
 have:=h l;unfold eD;simp;omega
theorem ua:∀(l a:List aa),(l.foldl eD a).length<=a.length+l.length
 |[],a=>by simp
 |x::l,a=>by
  have h1:=ua l (eD a x);have h2:=I9 a x;simp only[BJ,AN];omega
theorem HU {α β:Type} (f:β->α->β) (b:β) {l:List α} {x:Nat} (h:x<l.length):(l.take (x+1)).foldl f b=f ((l.take x).foldl f b) l[x]:=by
 rw[Al h,Dy];rfl
theorem Iw {α:Type} {l:List α} {x:Nat} (h:¬(x:Int)<Int.ofNat l.length):l.take x=l:=Ax (by simp only[Aa]at h;omega)
theorem K5:CO jD v7:=bO (cfg:=fun y=>bJ jX (cq jD 4 (jW y))) bD (fun _=>rfl) (fun _=>pO) (n:=600) (by
 rw[LO];rintro⟨l,k⟩ hpre;have hpre:l.length<=10000:=hpre;refine⟨⟨0,by simp,?_⟩,?_⟩
 . (repeat' (first|exact trivial|exact rfl|exact(fun _=>rfl)|apply And.intro))
 intro x hx;have n1:=pF (l:=l) (x:=x) (p:=fun z=>bL z.key k.key);have n2:=pF (l:=l) (x:=x) (p:=fun z=>bL k.key z.key);have hx':x<=l.length:=hx;refine aP (fun hlt=>?_) fun hge=>?_
 . have hlt':x<l.length:=cp hlt;have hmu:l.length - (x+1)<l.length - x:=by omega
   have f1:=lx (p:=fun z=>bL z.key k.key) hlt';have f2:=lx (p:=fun z=>bL k.key z.key) hlt';refine au.2 ⟨_,dH hlt',(l[x].key,k.key),rfl,rfl,rfl,rfl,rfl,rfl,trivial,af.2 ⟨fun h1=>au.2 ⟨_,dH hlt',l[x],rfl,ag.2 ⟨by simp only[Ad,AI,AR,AN,A3];omega,au.2 ⟨_,dH hlt',(k.key,l[x].key),rfl,rfl,rfl,rfl,rfl,rfl,trivial,af.2 ⟨fun h2=>au.2 ⟨_,dH hlt',l[x],rfl,ag.2 ⟨by simp only[Ad,AI,AR,AN,A3];omega,?_⟩⟩,fun h2=>?_⟩⟩⟩⟩,fun h1=>au.2 ⟨_,dH hlt',(k.key,l[x].key),rfl,rfl,rfl,rfl,rfl,rfl,trivial,af.2 ⟨fun h2=>au.2 ⟨_,dH hlt',l[x],rfl,ag.2 ⟨by simp only[Ad,AI,AR,AN,A3];omega,?_⟩⟩,fun h2=>?_⟩⟩⟩⟩
   . have g1:bL l[x].key k.key=true:=h1;have g2:bL k.key l[x].key=true:=h2;refine ag.2 ⟨cB x (by omega),x+1,hlt',hmu,?_⟩
     (repeat' (first|exact trivial|exact rfl|exact(fun _=>rfl)|apply And.intro))
     all_goals (first|(rw[f1,Ai g1])|(rw[f2,Ai g2]))
   . have g1:bL l[x].key k.key=true:=h1;have g2:bL k.key l[x].key=false:=h2;refine ag.2 ⟨cB x (by omega),x+1,hlt',hmu,?_⟩
     (repeat' (first|exact trivial|exact rfl|exact(fun _=>rfl)|apply And.intro))
     all_goals (first|(rw[f1,Ai g1])|(rw[f2,Ah (by simp[g2]),A9]))
   . have g1:bL l[x].key k.key=false:=h1;have g2:bL k.key l[x].key=true:=h2;refine ag.2 ⟨cB x (by omega),x+1,hlt',hmu,?_⟩
     (repeat' (first|exact trivial|exact rfl|exact(fun _=>rfl)|apply And.intro))
     all_goals (first|(rw[f1,Ah (by simp[g1]),A9])|(rw[f2,Ai g2]))
   . have g1:bL l[x].key k.key=false:=h1;have g2:bL k.key l[x].key=false:=h2;refine ag.2 ⟨cB x (by omega),x+1,hlt',hmu,?_⟩
     (repeat' (first|exact trivial|exact rfl|exact(fun _=>rfl)|apply And.intro))
     all_goals (first|(rw[f1,Ah (by simp[g1]),A9])|(rw[f2,Ah (by simp[g2]),A9]))
 . have hge':l.length<=x:=ot hge;refine⟨k,rfl,ag.2 ⟨by simp only[Ad,AI,AR,AN,A3];omega,fun _=>⟨rfl,rfl⟩,_,rfl,ag.2 ⟨by simp only[Ad,AI,AR,AN,A3];omega,?_,trivial⟩⟩⟩;show SV.ax aa ((l.take x).filter (fun z=>bL z.key k.key)++[k]++(l.take x).filter (fun z=>bL k.key z.key)) aa.enc=SV.ax aa (eD l k) aa.enc
   rw[Ax hge'];unfold eD;simp)
theorem yK:∀g C,sL g=some C->CO g C:=bM I3 (bM HI (bM HK (bM IQ (bM HF (bM Hi (bM K5 (bM zB (bM HE uN))))))))
theorem JE:CO jl u9:=bO (cfg:=fun y=>bJ sL (cq jl 3 (rD y))) bD (fun _=>rfl) (fun _=>yK) (n:=400) (by
 rw[II];intro l hpre;have hpre:l.length<=1000:=hpre;refine⟨⟨0,by simp,?_⟩,?_⟩
 . (repeat' (first|exact trivial|exact rfl|exact(fun _=>rfl)|apply And.intro))
 intro x hx;refine af.2 ⟨fun hlt=>?_,fun hge=>⟨by rw[Iw (ff hge)],trivial⟩⟩;have hlt':x<l.length:=cp hlt;have hn:=HU eD ([]:List aa) hlt';refine au.2 ⟨_,dH hlt',(fP (l.take x),l[x]),rfl,rfl,rfl,rfl,rfl,rfl,rfl,rfl,rfl,rfl,rfl,rfl,?_,ag.2 ⟨cB x (by omega),x+1,hlt',?_,?_⟩⟩
 . have:=ua (l.take x) [];unfold fP;simp at this⊢;omega
 . show l.length - (x+1)<l.length - x
   omega
 . (repeat' (first|exact trivial|exact rfl|exact(fun _=>rfl)|apply And.intro))
   all_goals (simp only[fP,hn]))
theorem uO:∀g C,sM g=some C->CO g C:=bM JE yK
end
section
variable [Inhabited aL]
structure bp where
 dev:Int
 inc:Int
 seq:Int
deriving DecidableEq,Inhabited
structure cP where
 wall:Int
 count:Int
 dev:Int
deriving DecidableEq,Inhabited
def bp.enc (x:bp):List SV:=[.int .i64 x.dev, .int .i64 x.inc, .int .i64 x.seq]
def cP.enc (x:cP):List SV:=[.int .i64 x.wall, .int .i64 x.count, .int .i64 x.dev]
def vW (d i:Int):Bool:=bA 0 d&&bA d 63&&bA 1 i&&bA i 1048576
def oC (x:bp):Bool:=vW x.dev x.inc&&bA 1 x.seq&&bA x.seq 4294967296
def within (a b c:Int):Bool:=bA b a&&bA a c
def vw (x:cP):Bool:=within x.wall 0 4398046511104&&within x.count 0 65535&&within x.dev 0 63
def ln (a b:Int):Int:=if a=0 then b else a
def vA (x y:bp):Int:=ln (cj x.dev y.dev) (cj x.inc y.inc)
def vz (x y:bp):Int:=ln (vA x y) (cj x.seq y.seq)
def og (x y:bp):Bool:=decide (vz x y<0)
def vQ (x y:cP):Int:=ln (cj x.wall y.wall) (cj x.count y.count)
def um (x y:cP):Bool:=decide (ln (vQ x y) (cj x.dev y.dev)<0)
def oU:aH:={Y:=Int×Int,pre:=fun _=>True,args:=fun y=>[.agg [i64 y.1,i64 y.2]],res:=fun y=> .bool (vW y.1 y.2)}
def C8 (p:bp->Bool):aH:={Y:=bp,pre:=fun _=>True,args:=fun y=>[.agg y.enc],res:=fun y=> .bool (p y)}
def zT (p:cP->Bool):aH:={Y:=cP,pre:=fun _=>True,args:=fun y=>[.agg y.enc],res:=fun y=> .bool (p y)}
def rH:aH:={Y:=Int×Int×Int,pre:=fun _=>True,args:=fun y=>[i64 y.1,i64 y.2.1,i64 y.2.2],res:=fun y=> .bool (within y.1 y.2.1 y.2.2)}
def C6:aH:={Y:=bp×bp,pre:=fun _=>True,args:=fun y=>[.agg [i64 y.1.dev,i64 y.1.inc], .agg [i64 y.2.dev,i64 y.2.inc]],res:=fun y=>i64 (vA y.1 y.2)}
def C9:aH:={Y:=bp×bp,pre:=fun _=>True,args:=fun y=>[.agg y.1.enc, .agg y.2.enc],res:=fun y=>i64 (vz y.1 y.2)}
def Ed:aH:={Y:=bp×bp,pre:=fun _=>True,args:=fun y=>[.agg y.1.enc, .agg y.2.enc],res:=fun y=> .bool (og y.1 y.2)}
def CF:aH:={Y:=cP×cP,pre:=fun _=>True,args:=fun y=>[.agg y.1.enc, .agg y.2.enc],res:=fun y=>i64 (vQ y.1 y.2)}
def zU:aH:={Y:=cP×cP,pre:=fun _=>True,args:=fun y=>[.agg y.1.enc, .agg y.2.enc],res:=fun y=> .bool (um y.1 y.2)}
noncomputable def oL (f:FuncId):Option aH:=bif Nat.beq f Ey then some oU else bif Nat.beq f qq then some rH else bif Nat.beq f qv then some rH else sM f
noncomputable def sG (f:FuncId):Option aH:=bif Nat.beq f Ez then some (C8 oC)else bif Nat.beq f Ej then some (zT vw)else bif Nat.beq f El then some C6 else bif Nat.beq f Ek then some CF else oL f
noncomputable def wj (f:FuncId):Option aH:=bif Nat.beq f EA then some C9 else bif Nat.beq f Et then some zU else sG f
noncomputable def CW (f:FuncId):Option aH:=bif Nat.beq f EC then some Ed else wj f
theorem tE (a:Int):bj a 64=bA a 63:=by
 rw[bF,dN,Aw,Ac,Ac];omega
theorem bp.ext' {x y:bp} (h1:x.dev=y.dev) (h2:x.inc=y.inc) (h3:x.seq=y.seq):x=y:=by cases x;cases y;simp_all
theorem KF:CO Ey oU:=bO (cfg:=fun y=>bJ bI (cF y)) bD (fun _=>rfl) (fun _=>q8) (n:=400) (by
 rintro⟨a,b⟩ -
 repeat' (first|exact trivial|exact rfl|((conv=>whnf);first|(apply aP<;>intro)|apply And.intro))
 all_goals (simp_all[vW,tE]))
theorem I7:CO qq rH:=bO (cfg:=fun y=>bJ bI (cF y)) bD (fun _=>rfl) (fun _=>q8) (n:=400) (by
 rintro⟨a,b⟩ -
 repeat' (first|exact trivial|exact rfl|((conv=>whnf);first|(apply aP<;>intro)|apply And.intro))
 all_goals (simp_all[within]))
theorem HJ:CO qv rH:=bO (cfg:=fun y=>bJ bI (cF y)) bD (fun _=>rfl) (fun _=>q8) (n:=400) (by
 rintro⟨a,b⟩ -
 repeat' (first|exact trivial|exact rfl|((conv=>whnf);first|(apply aP<;>intro)|apply And.intro))
 all_goals (simp_all[within]))
theorem pN:∀g C,oL g=some C->CO g C:=bM KF (bM I7 (bM HJ uO))
theorem M3:CO Ez (C8 oC):=bO (cfg:=fun y=>bJ oL (cF y)) bD (fun _=>rfl) (fun _=>pN) (n:=400) (by
 rintro⟨a,b,c⟩ -
 (conv=>whnf)
 refine⟨(a,b),?_⟩
 repeat' (first|exact trivial|exact rfl|((conv=>whnf);first|(apply aP<;>intro)|apply And.intro))
 all_goals (simp_all[oC]))
theorem KK:CO Ej (zT vw):=bO (cfg:=fun y=>bJ oL (cF y)) bD (fun _=>rfl) (fun _=>pN) (n:=400) (by
 rintro⟨a,b,c⟩ -
 repeat' (first|exact trivial|exact rfl|((conv=>whnf);first|(apply aP<;>intro)|apply And.intro))
 all_goals (simp_all[vw,within]))
theorem Le:CO El C6:=bO (cfg:=fun y=>bJ oL (cF y)) bD (fun _=>rfl) (fun _=>pN) (n:=400) (by
 rintro⟨⟨a,b,c⟩,d,e,f⟩ -
 (conv=>whnf)
 refine⟨(a,d),?_⟩
 repeat ((conv=>whnf);first|refine⟨rfl,?_⟩|refine⟨trivial,?_⟩)
 (conv=>whnf)
 refine⟨(b,e),?_⟩
 repeat' (first|exact trivial|exact rfl|((conv=>whnf);first|(apply aP<;>intro)|apply And.intro))
 all_goals (simp_all[vA,ln]))
theorem KT:CO Ek CF:=bO (cfg:=fun y=>bJ oL (cF y)) bD (fun _=>rfl) (fun _=>pN) (n:=400) (by
 rintro⟨⟨a,b,c⟩,d,e,f⟩ -
 (conv=>whnf)
 refine⟨(a,d),?_⟩
 repeat ((conv=>whnf);first|refine⟨rfl,?_⟩|refine⟨trivial,?_⟩)
 (conv=>whnf)
 refine⟨(b,e),?_⟩
 repeat' (first|exact trivial|exact rfl|((conv=>whnf);first|(apply aP<;>intro)|apply And.intro))
 all_goals (simp_all[vQ,ln]))
theorem uJ:∀g C,sG g=some C->CO g C:=bM M3 (bM KK (bM Le (bM KT pN)))
theorem KX:CO EA C9:=bO (cfg:=fun y=>bJ sG (cF y)) bD (fun _=>rfl) (fun _=>uJ) (n:=400) (by
 rintro⟨x,y⟩ -
 (conv=>whnf)
 refine⟨(x,y),?_⟩
 repeat ((conv=>whnf);first|refine⟨rfl,?_⟩|refine⟨trivial,?_⟩)
 (conv=>whnf)
 refine⟨(x.seq,y.seq),?_⟩
 repeat' (first|exact trivial|exact rfl|((conv=>whnf);first|(apply aP<;>intro)|apply And.intro))
 all_goals (simp_all[vz,ln]))
theorem I6:CO Et zU:=bO (cfg:=fun y=>bJ sG (cF y)) bD (fun _=>rfl) (fun _=>uJ) (n:=400) (by
 rintro⟨x,y⟩ -
 (conv=>whnf)
 refine⟨(x,y),?_⟩
 repeat ((conv=>whnf);first|refine⟨rfl,?_⟩|refine⟨trivial,?_⟩)
 (conv=>whnf)
 refine⟨(x.dev,y.dev),?_⟩
 repeat' (first|exact trivial|exact rfl|((conv=>whnf);first|(apply aP<;>intro)|apply And.intro))
 all_goals (simp_all[um,ln,bF]))
theorem za:∀g C,wj g=some C->CO g C:=bM KX (bM I6 uJ)
theorem Ln:CO EC Ed:=bO (cfg:=fun y=>bJ wj (cF y)) bD (fun _=>rfl) (fun _=>za) (n:=400) (by
 rintro⟨x,y⟩ -
 (conv=>whnf)
 refine⟨(x,y),?_⟩
 repeat' (first|exact trivial|exact rfl|((conv=>whnf);first|(apply aP<;>intro)|apply And.intro))
 all_goals (simp_all[og,bF]))
theorem Io:∀g C,CW g=some C->CO g C:=bM Ln za
end
theorem lq (a b:aa):fe a b=true↔a.ab.access<b.ab.access\/(a.ab.access=b.ab.access/\(a.ab.aq<b.ab.aq\/(a.ab.aq=b.ab.aq/\bL a.key b.key=true))):=by
 unfold fe gG;have h1:=x8 a.ab.access b.ab.access;have h2:=y5 a.ab.access b.ab.access;have h3:=x8 a.ab.aq b.ab.aq;have h4:=y5 a.ab.aq b.ab.aq;generalize cj a.ab.access b.ab.access=n at*
 generalize cj a.ab.aq b.ab.aq=m at*
 simp only[Ac];by_cases e1:n=0
 . have a1:=h1.1 e1;by_cases e2:m=0
   . have a2:=h3.1 e2;by_cases hk:a.key=b.key
     . simp[e1,e2,hk,nG,a1,a2]
     . cases hl:bL a.key b.key<;>simp[e1,e2,hk,a1,a2]
   . have a2:a.ab.aq≠b.ab.aq:=fun h=>e2 (h3.2 h)
     simp[e1,e2,a1,a2,h4]
 . have a1:a.ab.access≠b.ab.access:=fun h=>e1 (h1.2 h)
   simp[e1,a1,h2]
theorem xf (a:aa):fe a a=false:=by
 apply Ap.2;intro h;rw[lq,nG]at h;simp at h
theorem tN {a b c:aa} (h1:fe a b=true) (h2:fe b c=true):fe a c=true:=by
 rw[lq]at*;have ht:=wW a.key b.key c.key;rcases h1 with h1|⟨h1,h1'|⟨h1',h1''⟩⟩<;>rcases h2 with h2|⟨h2,h2'|⟨h2',h2''⟩⟩
 . left;omega
 . left;omega
 . left;omega
 . left;omega
 . right;exact⟨by omega, .inl (by omega)⟩
 . right;exact⟨by omega, .inl (by omega)⟩
 . left;omega
 . right;exact⟨by omega, .inl (by omega)⟩
 . right;exact⟨by omega, .inr ⟨by omega,ht h1'' h2''⟩⟩
theorem xU {a b:aa} (h1:fe a b=false) (h2:fe b a=false):a.key=b.key:=by
 have h1:=Ap.1 h1;have h2:=Ap.1 h2;rw[BG,lq]at h1 h2;rcases F3 a.key b.key with hk|hk|hk
 . exfalso;apply h1;rcases Dd a.ab.access b.ab.access with e|e|e
   . exact .inl e
   . refine .inr ⟨e,?_⟩;rcases Dd a.ab.aq b.ab.aq with g|g|g
     . exact .inl g
     . exact .inr ⟨g,hk⟩
     . exact absurd (.inr ⟨e.symm, .inl g⟩) h2
   . exact absurd (.inl e) h2
 . exact hk
 . exfalso;apply h2;rcases Dd b.ab.access a.ab.access with e|e|e
   . exact .inl e
   . refine .inr ⟨e,?_⟩;rcases Dd b.ab.aq a.ab.aq with g|g|g
     . exact .inl g
     . exact .inr ⟨g,hk⟩
     . exact absurd (.inr ⟨e.symm, .inl g⟩) h1
   . exact absurd (.inl e) h1
theorem FQ {a b c:aa} (h1:fe a b=false) (h2:fe b c=false):fe a c=false:=by
 apply Ap.2;intro h
 cases hb:fe b a
 . have e:=xU h1 hb
   cases hc:fe c b
   . have e2:=xU h2 hc;have h1':=Ap.1 h1;have h2':=Ap.1 h2;have hb':=Ap.1 hb;have hc':=Ap.1 hc;rw[BG,lq]at h1' h2' hb' hc';rw[lq,e,e2,nG]at h;simp only[e,e2,nG,Ar,and_false,De]at h1' h2' hb' hc' h;omega
   . have:=tN hc (?_:fe b c=true)
     . rw[xf]at this;cases this
     . rw[h2];exfalso;have h1':=Ap.1 h1;have hb':=Ap.1 hb;rw[BG,lq]at h1' hb';rw[lq]at h hc;simp only[e,nG,Ar,and_false,De]at h1' hb';have e1:a.ab.access=b.ab.access:=by omega
       have e2:a.ab.aq=b.ab.aq:=by omega
       rw[e1,e2,e]at h;have h:=(lq b c).2 h;rw[h2]at h
       cases h
 . have:=tN hb h;rw[h2]at this
   cases this
def nF (l:List aa) (d:Bs) (all:Bool):List aa:=l.filter fun x=>all||decide (x.key.domain=d)
abbrev mD (P:aa->Bool) (b:Option aa) (x:aa):Option aa:=if P x then(match b with|none=>some x|some y=>if fe x y then some x else some y)else b
theorem yp (P:aa->Bool):∀(l:List aa) (b:Option aa),l.foldl (mD P) b=none->b=none/\ ∀x∈l,P x=false
 |[],b,h=>⟨h,by simp⟩
 |x::l,b,h=>by
  obtain⟨h1,h2⟩:=yp P l _ h;by_cases hx:P x=true
  . exfalso;simp only[mD,hx,AY]at h1
    cases b with
    |none=>cases h1
    |some y=>by_cases hs:fe x y=true<;>simp[hs]at h1
  . simp only[mD,hx,AE]at h1;exact⟨by simpa using h1,by simpa [hx]using h2⟩
theorem yq (P:aa->Bool):∀(l:List aa) (b:Option aa) (z:aa),l.foldl (mD P) b=some z->(b=some z\/(z∈l/\P z=true))/\(∀y,b=some y->fe y z=false)/\ ∀x∈l,P x=true->fe x z=false
 |[],b,z,h=>⟨.inl h,fun y e=>by have h:b=some z:=h;rw[h]at e;cases e;exact xf _,by simp⟩
 | x :: l,b,z,h=>by
  obtain⟨i1,i2,i3⟩:=yq P l _ z h;have hmem:z∈l/\P z=true->z∈x::l/\P z=true:=fun h=>⟨Au _ h.1,h.2⟩
  by_cases hx:P x=true
  . have all:fe x z=false->∀w∈x::l,P w=true->fe w z=false:=by
      intro h0 w hw hp;rcases As.1 hw with rfl|hw
      . exact h0
      . exact i3 w hw hp
    simp only[mD,hx,AY]at i1 i2
    cases b with
    | none=>
      simp only at i1 i2;refine⟨.inr ?_,fun y e=>(nomatch e),all (i2 _ rfl)⟩;rcases i1 with e|h1
      . cases e;exact⟨Aj,hx⟩
      . exact hmem h1
    | some y0=>
      by_cases hs:fe x y0=true
      . simp only[hs,AY]at i1 i2;refine⟨.inr ?_,fun y e=>?_,all (i2 _ rfl)⟩
        . rcases i1 with e|h1
          . cases e;exact⟨Aj,hx⟩
          . exact hmem h1
        . cases e;apply Ap.2;intro h2;have:=tN hs h2;rw[i2 _ rfl]at this
          cases this
      . have hs:=Ap.2 hs;simp only[hs,Ar,AE]at i1 i2;exact⟨i1.imp id hmem,i2,all (FQ hs (i2 _ rfl))⟩
  . simp only[mD,hx,AE]at i1 i2;refine⟨i1.imp id hmem,i2,fun w hw hp=>?_⟩;rcases As.1 hw with rfl|hw
    . exact absurd hp hx
    . exact i3 w hw hp
theorem yX (l:List aa) (d:Bs) (all:Bool):sn l d all=l.foldl (mD fun x=>all||decide (x.key.domain=d)) none:=rfl
theorem Gi {l:List aa} {d:Bs} {all:Bool} (h:nF l d all≠[]):∃b∈nF l d all,rm l d all=b.key/\sn l d all=some b/\ ∀x∈nF l d all,fe x b=false:=by
 cases hb:sn l d all with
 |none=>
  exfalso;have:=(yp _ l none (by rw[<-yX];exact hb)).2;apply h;unfold nF;rw[DX];intro x hx;rw[this x hx];simp
 |some b=>
  obtain⟨i1,_,i3⟩:=yq _ l none b (by rw[<-yX];exact hb);rcases i1 with e|⟨i1,i2⟩
  . cases e
  . refine⟨b,Bc.2 ⟨i1,i2⟩,by simp only[rm,hb],rfl,fun x hx=>?_⟩;obtain⟨h1,h2⟩:=Bc.1 hx;exact i3 x h1 h2
theorem Hu {l:List aa} {x:aa} (h:x∈l):(nV l x.key).length<l.length:=by
 unfold nV;apply Nat.lt_of_le_of_ne (BU _ _);intro e;have:=List.length_filter_eq_length_iff.1 e x h;simp at this
theorem Hr {l:List aa} {d:Bs} {all:Bool} {m:Nat} (h:m<(nF l d all).length):(nV l (rm l d all)).length<l.length:=by
 obtain⟨b,hb,he,_⟩:=Gi (l:=l) (d:=d) (all:=all) (by intro e;rw[e]at h;simp at h);rw[he];exact Hu (Bc.1 hb).1
def wy (m:Nat) (d:Bs) (all:Bool) (l:List aa):List aa:=
 if h:m<(nF l d all).length then wy m d all (nV l (rm l d all))else l
 termination_by l.length
 decreasing_by exact Hr h
abbrev Nb (m:Nat) (l:List aa):List aa:=wy m [] true l
def C3 (l:List aa) (now:Int):List aa:=l.filter fun x=> !gI x.ab now
def LJ (cap:Nat) (l:List aa) (ds:List Bs):List aa:=ds.foldl (fun b d=>wy cap d false b) l
def MU (cap total:Nat) (l:List aa) (now:Int):List aa:=Nb total (LJ cap (C3 l now) (Ie (C3 l now)))
def MT (l k:List aa):List aa:=l.filter fun x=>decide (x∉k)
section
variable [Inhabited aL]
abbrev tk (c:aw):Nat:=c.domain.toNat
abbrev wH (c:aw):Nat:=c.total.toNat
def L1 (l:List aa):Prop:=∀x∈l,x.key.domain.length<=1000000
def tt (y:aw×List aa×Int):List aa×Int:=if dG y.1≠0 then([],dG y.1)else if fC y.2.1 then(MU (tk y.1) (wH y.1) y.2.1 y.2.2,0)else([],6)
def ES (y:aw×List aa×Int):List aa×Int:=if(tt y).2≠0 then([],(tt y).2)else(MT y.2.1 (tt y).1,0)
end
section
variable [Inhabited aL]
end
section
variable [Inhabited aL]
structure aR where
 dot:bp
 dR:cP
 kind:Int
 key:bh
 ab:cr
 over:List bp
deriving DecidableEq,Inhabited
def iM (l:List bp):SV:= .ax bp l bp.enc
def aR.enc (x:aR):List SV:=[.int .i64 x.dot.dev, .int .i64 x.dot.inc, .int .i64 x.dot.seq, .int .i64 x.dR.wall, .int .i64 x.dR.count, .int .i64 x.dR.dev, .int .i64 x.kind, .str x.key.name, .str x.key.domain, .str x.key.path,
 .str x.ab.value, .bool x.ab.ay, .bool x.ab.aT, .bool x.ab.aD, .bool x.ab.persistent, .int .i64 x.ab.aM, .int .i64 x.ab.aq, .int .i64 x.ab.access,iM x.over]
def aR.item (x:aR):aa:=⟨x.key,x.ab⟩
structure cY where
 ctx:List bp
 kept:List aR
 dead:List bp
def tu (l:List aR):SV:= .ax aR l aR.enc
def cY.enc (x:cY):List SV:=[iM x.ctx,tu x.kept,iM x.dead]
noncomputable def Ns:TypeId->Option View:=fun t=>bif Nat.beq t Ty.string then some ⟨Bs,cI⟩else bif Nat.beq t wE then some ⟨aa,aa.enc⟩else bif Nat.beq t Ty.qy then some ⟨bp,bp.enc⟩else bif Nat.beq t Nq then some ⟨bp,bp.enc⟩else bif Nat.beq t Np then some ⟨aR,aR.enc⟩else none
noncomputable def eg (fH:FuncId->Option aH) (lk:FuncId->Nat->Option aE):fy:={tab:=mI,view:=Ns,fH,lk}
section
variable {α:Type} [DecidableEq α] (less:α->α->Bool)
def iR (l:List α) (d:α):Nat:=(l.takeWhile fun x=>less x d).length
def tz (l:List α) (d:α):List α:=if l[iR less l d]? =some d then l else l.take (iR less l d)++d::l.drop (iR less l d)
def EG (l:List α):List α:=l.foldl (tz less) []
variable {less}
end
noncomputable def p8 (f:FuncId):Option aH:=CW f
theorem rp:∀g C,p8 g=some C->CO g C:=Io
end
section
variable [Inhabited aL]
def cS (b:UInt8):Bool:=(bj (nB b) 32&& !(nB b==9))||nB b==127
def fD (b:UInt8):Bool:=nB b==32||nB b==9
def fE (s:Bs):Bs:=s.dropWhile fD
def fX (s:Bs):Bs:=(s.reverse.dropWhile fD).reverse
def gx (s:Bs):Bs:=fX (fE s)
def kp:aH:={Y:=Bs,pre:=fun y=>y.length<=1000000,args:=fun y=>[.str y],res:=fun y=> .bool (y.any cS)}
def sY (y:Bs):aE:={α:=Nat,ok:=fun i=>i<=y.length/\(y.take i).any cS=false,μ:=fun i=>y.length - i,bu:=[],aV:=fun i=>[(0, .str y),(5,i64 (Int.ofNat y.length)),(6,i64 i)],bK:=fun _=>[]}
def LS (y:Bs):aE:={α:=Nat,ok:=fun i=>i<=y.length,μ:=fun i=>y.length - i,bu:=[],aV:=fun i=>[(0, .str y),(3, .bool ((y.take i).any cS)),(4,i64 i)],bK:=fun _=>[]}
def CC:aH:={Y:=UInt8,pre:=fun _=>True,args:=fun y=>[.int .u8 (nB y)],res:=fun y=> .bool (fD y)}
def sy:aH:={Y:=Bs,pre:=fun y=>y.length<=1000000,args:=fun y=>[.str y],res:=fun y=> .str (gx y)}
def Lu (y:Bs):aE:={α:=Bs,ok:=fun x=>fE x=fE y/\x.length<=y.length,μ:=fun x=>x.length,bu:=[],aV:=fun x=>[(0, .str x)],bK:=fun _=>[]}
def Lv (y:Bs):aE:={α:=Bs,ok:=fun x=>fX x=gx y/\x.length<=y.length,μ:=fun x=>x.length,bu:=[],aV:=fun x=>[(0, .str x)],bK:=fun _=>[]}
def zL (y:Bs):aE:={α:=Nat,ok:=fun i=>i<=y.length/\fE (y.drop i)=fE y,μ:=fun i=>y.length - i,bu:=[],aV:=fun i=>[(0, .str y),(3,i64 i),(4,i64 (Int.ofNat y.length))],bK:=fun _=>[]}
def zM (y:Bs):aE:={α:=Nat×Nat,ok:=fun x=>x.1<=x.2/\x.2<=y.length/\fX ((y.drop x.1).take (x.2 - x.1))=gx y,μ:=fun x=>x.2,bu:=[],aV:=fun x=>[(0, .str y),(3,i64 x.1),(4,i64 x.2)],bK:=fun _=>[]}
noncomputable def sE (f:FuncId):Option aH:=bif Nat.beq f Ei then some CC else bif Nat.beq f mP then some kp else bif Nat.beq f mQ then some kp else p8 f
noncomputable def wi (f:FuncId):Option aH:=bif Nat.beq f k8 then some sy else bif Nat.beq f k9 then some sy else sE f
theorem yV {α:Type} {p:α->Bool} {l:List α} {x:Nat} (h:x<l.length):(l.take (x+1)).any p=((l.take x).any p||p l[x]):=by
 rw[Al h,List.any_append];simp
theorem yU {α:Type} {p:α->Bool} {l:List α} {x:Nat} (h:l.length<=x):(l.take x).any p=l.any p:=by rw[Ax h]
theorem Lz {α:Type} {p:α->Bool} {l:List α} {x:Nat} (h:x<l.length) (hp:p l[x]=true):l.any p=true:=Bz.2 ⟨_,Av h,hp⟩
theorem MX:CO mP kp:=bO (cfg:=fun y=>eg p8 (cq mP 2 (sY y))) bD (fun _=>rfl) (fun _=>rp) (n:=600) (by
 intro (s:Bs) (hpre:s.length<=1000000)
 (conv=>whnf)
 refine⟨⟨(0:Nat),⟨A7 _,by simp⟩,?_⟩,?_⟩
 . repeat' (first|exact trivial|exact rfl|((conv=>whnf);first|(apply aP<;>intro)|apply And.intro))
 intro (x:Nat) hx;obtain⟨hx,hn⟩:=hx
 (conv=>whnf)
 refine aP (fun hlt=>?_) fun hge=>?_
 . have hlt':x<s.length:=cp hlt;have e:cS s[x]=((bj (nB s[x]) 32&& !(nB s[x]==9))||nB s[x]==127):=rfl;have yes:cS s[x]=true->s.any cS=true:=Lz hlt';have no:cS s[x]=false->(s.take (x+1)).any cS=false:=fun h=>by rw[yV hlt',hn,h];rfl
   repeat' (first|exact trivial|exact rfl|((conv=>whnf);refine au.2 ⟨_,dH (by assumption),?_⟩)|((conv=>whnf);refine ag.2 ⟨cB _ (by omega),?_⟩)|((conv=>whnf);refine ag.2 ⟨?_,?_⟩)|((conv=>whnf);first|(apply aP<;>intro)|apply And.intro))
   all_goals first
    |(refine(yes ?_).symm;clear yes no e hn;simp_all[cS,nB])
    |((conv=>whnf);refine⟨(x+1:Nat),⟨hlt',no (by clear yes no e hn;simp_all[cS,nB])⟩,by show s.length - (x+1)<s.length - x;omega,?_⟩;repeat' (first|exact trivial|exact rfl|((conv=>whnf);first|(apply aP<;>intro)|apply And.intro)))
 . have hge':s.length<=x:=ot hge;rw[yU hge']at hn
   (conv=>whnf)
   refine⟨hn.symm,?_⟩
   repeat' (first|exact trivial|exact rfl|((conv=>whnf);first|(apply aP<;>intro)|apply And.intro)))
theorem Lj:CO mQ kp:=bO (cfg:=fun y=>eg p8 (cq mQ 3 (LS y))) bD (fun _=>rfl) (fun _=>rp) (n:=600) (by
 intro (s:Bs) (hpre:s.length<=1000000)
 (conv=>whnf)
 refine⟨⟨(0:Nat),A7 _,?_⟩,?_⟩
 . repeat' (first|exact trivial|exact rfl|((conv=>whnf);first|(apply aP<;>intro)|apply And.intro))
 intro (x:Nat) hx;have hx:x<=s.length:=hx
 (conv=>whnf)
 refine aP (fun hlt=>?_) fun hge=>?_
 . have hlt':x<s.length:=cp hlt;have fin:∀b:Bool,b=((s.take x).any cS||cS s[x])->b=(s.take (x+1)).any cS:=fun b h=>by rw[yV hlt',h]
   repeat' (first|exact trivial|exact rfl|((conv=>whnf);refine au.2 ⟨_,dH (by assumption),?_⟩)|((conv=>whnf);refine ag.2 ⟨cB _ (by omega),?_⟩)|((conv=>whnf);refine ag.2 ⟨?_,?_⟩)|((conv=>whnf);first|(apply aP<;>intro)|apply And.intro))
   all_goals ((conv=>whnf);refine⟨(x+1:Nat),hlt',by show s.length - (x+1)<s.length - x;omega,?_⟩;repeat' (first|exact trivial|exact rfl|((conv=>whnf);first|(apply aP<;>intro)|apply And.intro)))
   all_goals (refine fin _ ?_;clear fin;generalize (s.take x).any cS=P at*;simp_all[cS,nB])
 . have hge':s.length<=x:=ot hge
   (conv=>whnf)
   refine⟨yU hge',?_⟩
   repeat' (first|exact trivial|exact rfl|((conv=>whnf);first|(apply aP<;>intro)|apply And.intro)))
theorem KH:CO Ei CC:=bO (cfg:=fun y=>eg p8 (cF y)) bD (fun _=>rfl) (fun _=>rp) (n:=400) (by
 intro (b:UInt8) _
 repeat' (first|exact trivial|exact rfl|((conv=>whnf);first|(apply aP<;>intro)|apply And.intro))
 all_goals (simp_all[fD]))
theorem uI:∀g C,sE g=some C->CO g C:=bM KH (bM MX (bM Lj rp))
theorem xI {b:UInt8} {s:Bs} (h:fD b=true):fE (b::s)=fE s:=by unfold fE;rw[B6,Ai h]
theorem xJ {b:UInt8} {s:Bs} (h:fD b=false):fE (b::s)=b::s:=by unfold fE;rw[B6,Ah (by simp[h])]
theorem xO {b:UInt8} {s:Bs} (h:fD b=true):fX (s++[b])=fX s:=by unfold fX;rw[Eb,BP,BS,B6,Ai h]
theorem xP {b:UInt8} {s:Bs} (h:fD b=false):fX (s++[b])=s++[b]:=by unfold fX;rw[Eb,BP,BS,B6,Ah (by simp[h])];simp
theorem xN {s:Bs} (h:s≠[]):(fD (s.getLast h)=true->fX s.dropLast=fX s)/\(fD (s.getLast h)=false->fX s=s):=by
 have e:=List.dropLast_concat_getLast h;constructor
 . intro hb;rw[<-e,xO hb];simp
 . intro hb;rw[<-e,xP hb]
theorem LX:CO k8 sy:=bO (cfg:=fun y=>eg sE (zN k8 1 (Lu y) (cq k8 3 (Lv y)))) bD (fun _=>rfl) (fun _=>uI) (n:=600) (by
 intro (y:Bs) (hpre:y.length<=1000000)
 (conv=>whnf)
 refine⟨⟨y,⟨rfl,An _⟩,?_⟩,?_⟩
 . repeat' (first|exact trivial|exact rfl|((conv=>whnf);first|(apply aP<;>intro)|apply And.intro))
 intro (x:Bs) hx;obtain⟨h1,h2⟩:=hx;have h2:x.length<=y.length:=h2
 (conv=>whnf)
 refine af.2 ⟨fun hne=> ?ne,fun he=> ?eq⟩
 case' eq=>
   have hL:fE x=x:=by
     have he:(!(x==[]))=false:=he;simp at he;subst he;rfl
 case' ne=>
   obtain⟨b,x',rfl⟩:∃b x',x=b::x':=by
     cases x with
     |nil=>cases hne
     |cons b x=>exact⟨b,x,rfl⟩
   (conv=>whnf)
   refine⟨b,?_⟩
   repeat ((conv=>whnf);first|refine⟨rfl,?_⟩|refine⟨trivial,?_⟩)
   (conv=>whnf)
   refine af.2 ⟨fun hb=> ?bt,fun hb=> ?bf⟩
   case' bf=>have hL:=xJ (s:=x') hb
   case bt=>
     (conv=>whnf)
     refine ag.2 ⟨rfl,?_⟩
     (conv=>whnf)
     refine⟨x',⟨by show fE x'=fE y;rw[<-h1,xI hb],by show x'.length<=y.length;simp at h2;omega⟩,by show x'.length<(b::x').length;simp,?_⟩
     repeat' (first|exact trivial|exact rfl|((conv=>whnf);first|(apply aP<;>intro)|apply And.intro))
 all_goals
   rw[hL]at h1
   (conv=>whnf)
   refine⟨⟨_,⟨by show _=fX (fE y);rw[<-h1],h2⟩,?_⟩,?_⟩
   . repeat' (first|exact trivial|exact rfl|((conv=>whnf);first|(apply aP<;>intro)|apply And.intro))
   clear h2;intro (z:Bs) hz;obtain⟨z1,z2⟩:=hz;have z2:z.length<=y.length:=z2;have z1:fX z=gx y:=z1
   (conv=>whnf)
   refine aP (fun hz0=>?_) fun hz0=>?_
   . have hz0:z≠[]:=by
       have hz0:(!(z==[]))=true:=hz0;simpa using hz0
     have hpos:=A5.2 hz0;have hlast:z[(Int.ofNat z.length - 1).toNat]? =some (z.getLast hz0):=by
       rw[List.getLast_eq_getElem,show(Int.ofNat z.length - 1).toNat=z.length - 1 by simp only[Aa];omega,Af (by omega)]
     have hdrop:z.take (Int.ofNat z.length - 1).toNat=z.dropLast:=by
       rw[show(Int.ofNat z.length - 1).toNat=z.length - 1 by simp only[Aa];omega,List.dropLast_eq_take]
     have hir:aX .i64 (Int.ofNat z.length - 1)=true:=by rw[dQ];simp only[Aa];omega
     (conv=>whnf)
     refine ag.2 ⟨hir,?_⟩
     (conv=>whnf)
     refine ag.2 ⟨by rw[iX,Ac];simp only[Aa];omega,?_⟩
     (conv=>whnf)
     refine au.2 ⟨_,hlast,?_⟩
     (conv=>whnf)
     refine⟨z.getLast hz0,?_⟩
     repeat ((conv=>whnf);first|refine⟨rfl,?_⟩|refine⟨trivial,?_⟩)
     (conv=>whnf)
     refine aP (fun hb=>?_) fun hb=>?_
     . (conv=>whnf)
       refine ag.2 ⟨hir,?_⟩
       (conv=>whnf)
       refine ag.2 ⟨by rw[iX,Ac];simp only[Aa];omega,?_⟩
       (conv=>whnf)
       refine ag.2 ⟨by rw[AI];simp only[Aa];omega,?_⟩
       (conv=>whnf)
       refine⟨z.take (Int.ofNat z.length - 1).toNat,⟨?_,?_⟩,?_,?_⟩
       . show fX (z.take (Int.ofNat z.length - 1).toNat)=gx y
         rw[hdrop,(xN hz0).1 hb];exact z1
       . show(z.take (Int.ofNat z.length - 1).toNat).length<=y.length
         rw[hdrop,D9];omega
       . show(z.take (Int.ofNat z.length - 1).toNat).length<z.length
         rw[hdrop,D9];omega
       . repeat' (first|exact trivial|exact rfl|((conv=>whnf);first|(apply aP<;>intro)|apply And.intro))
     . have:=(xN hz0).2 hb
       (conv=>whnf)
       refine⟨by rw[<-this];exact z1,?_⟩
       repeat' (first|exact trivial|exact rfl|((conv=>whnf);first|(apply aP<;>intro)|apply And.intro))
   . have hz0:z=[]:=by
       have hz0:(!(z==[]))=false:=hz0;simpa using hz0
     subst hz0
     (conv=>whnf)
     refine⟨z1,?_⟩
     repeat' (first|exact trivial|exact rfl|((conv=>whnf);first|(apply aP<;>intro)|apply And.intro)))
theorem w9 {s:Bs} {x:Nat} (h:x<s.length):s.drop x=s[x]::s.drop (x+1):=Db h
theorem Ji {s:Bs} {a b:Nat} (h1:a<b) (h2:b<=s.length):(s.drop a).take (b - a)=(s.drop a).take (b - 1 - a)++[s[b - 1]'(by omega)]:=by
 have:b - a=b - 1 - a+1:=by omega
 rw[this,Al (by simp;omega)];congr 2
 simp only[BQ];congr 1
 omega
theorem Kj:CO k9 sy:=bO (cfg:=fun y=>eg sE (zN k9 3 (zL y) (cq k9 5 (zM y)))) bD (fun _=>rfl) (fun _=>uI) (n:=600) (by
 intro (y:Bs) (hpre:y.length<=1000000)
 (conv=>whnf)
 refine⟨⟨(0:Nat),⟨A7 _,rfl⟩,?_⟩,?_⟩
 . repeat' (first|exact trivial|exact rfl|((conv=>whnf);first|(apply aP<;>intro)|apply And.intro))
 intro (x:Nat) hx;obtain⟨h1,h2⟩:=hx;have h1:x<=y.length:=h1;have h2:fE (y.drop x)=fE y:=h2;have step:∀hx:x<y.length,fD y[x]=true->(zL y).ok (x+1:Nat):=fun hx hb=>⟨hx,by rw[<-h2,w9 hx,xI hb]⟩
 have mu:∀hx:x<y.length,y.length - (x+1)<y.length - x:=fun hx=>by omega
 have stop:∀hx:x<y.length,fD y[x]=false->y.drop x=fE y:=fun hx hb=>by
   rw[<-h2,w9 hx,xJ hb]
 (conv=>whnf)
 refine af.2 ⟨fun hlt=> ?wa,fun hge=> ?we⟩
 case' we=>
   have hL:y.drop x=fE y:=by
     have hge:y.length<=x:=ot hge;rw[<-h2,Dk hge];rfl
 case' wa=>
   have hlt':x<y.length:=cp hlt
   (conv=>whnf)
   refine au.2 ⟨_,dH hlt',?_⟩
   (conv=>whnf)
   refine af.2 ⟨fun hb=> ?wb,fun hb=> ?wc⟩
   case wb=>
     have hb:nB y[x]=32:=by
       have hb:(nB y[x]==32)=true:=hb;simpa using hb
     (conv=>whnf)
     refine ag.2 ⟨cB x (by omega),?_⟩
     (conv=>whnf)
     refine⟨(x+1:Nat),step hlt' (by simp[fD,hb]),mu hlt',?_⟩
     repeat' (first|exact trivial|exact rfl|((conv=>whnf);first|(apply aP<;>intro)|apply And.intro))
   case' wc=>
     have hb:(nB y[x]==32)=false:=hb
     (conv=>whnf)
     refine au.2 ⟨_,dH hlt',?_⟩
     (conv=>whnf)
     refine af.2 ⟨fun hc=> ?wd,fun hc=> ?wf⟩
     case wd=>
       have hc:(nB y[x]==9)=true:=hc
       (conv=>whnf)
       refine ag.2 ⟨cB x (by omega),?_⟩
       (conv=>whnf)
       refine⟨(x+1:Nat),step hlt' (by simp only[fD,hb,hc,DY]),mu hlt',?_⟩
       repeat' (first|exact trivial|exact rfl|((conv=>whnf);first|(apply aP<;>intro)|apply And.intro))
     case' wf=>
       have hc:(nB y[x]==9)=false:=hc;have hL:y.drop x=fE y:=stop hlt' (by simp only[fD,hb,hc,Bool.or_false])
 all_goals
   clear step mu stop
   (conv=>whnf)
   refine⟨⟨((x,y.length):Nat×Nat),⟨h1,An _,by show fX ((y.drop x).take (y.length - x))=fX (fE y);rw[<-hL,Ax (by simp)]⟩,?_⟩,?_⟩
   . repeat' (first|exact trivial|exact rfl|((conv=>whnf);first|(apply aP<;>intro)|apply And.intro))
   rintro⟨a,b⟩ ⟨k1,k2,k3⟩;have k1:a<=b:=k1;have k2:b<=y.length:=k2;have k3:fX ((y.drop a).take (b - a))=gx y:=k3
   (conv=>whnf)
   refine aP (fun hlt=>?_) fun hge=>?_
   . have hab:a<b:=by
       have hlt:bj (a:Int) (b:Int)=true:=hlt;rw[bF,Ac]at hlt;omega
     have hl:=Ji hab k2;have hbl:b - 1<y.length:=by omega
     have hget:y[((b:Int) - 1).toNat]? =some y[b - 1]:=by
       rw[show((b:Int) - 1).toNat=b - 1 by omega,Af hbl]
     have hir:aX .i64 ((b:Int) - 1)=true:=by rw[dQ];omega
     have hnn:nn ((b:Int) - 1)=true:=by rw[iX,Ac];omega
     have hb1:((b:Int) - 1)=((b - 1:Nat):Int):=by omega
     have step:fD y[b - 1]=true->(zM y).ok ((a,b - 1):Nat×Nat):=fun hb=>⟨by show a<=b - 1;omega,by show b - 1<=y.length;omega,by show fX ((y.drop a).take (b - 1 - a))=gx y;rw[<-k3,hl,xO hb]⟩
     have stop:fD y[b - 1]=false->(y.drop a).take (b - a)=gx y:=fun hb=>by rw[<-k3,hl,xP hb]
     have mu:b - 1<b:=by omega
     repeat (first|((conv=>whnf);refine ag.2 ⟨hir,?_⟩)|((conv=>whnf);refine ag.2 ⟨hnn,?_⟩)|((conv=>whnf);refine au.2 ⟨_,hget,?_⟩))
     (conv=>whnf)
     refine aP (fun hb=>?_) fun hb=>?_
     . have hb:(nB y[b - 1]==32)=true:=hb
       repeat (first|((conv=>whnf);refine ag.2 ⟨hir,?_⟩))
       (conv=>whnf)
       refine⟨((a,b - 1):Nat×Nat),step (by simp only[fD,hb,BR]),mu,?_⟩
       repeat' (first|exact trivial|exact rfl|((conv=>whnf);first|(apply aP<;>intro)|apply And.intro))
       all_goals ((conv=>whnf);exact hb1)
     . have hb:(nB y[b - 1]==32)=false:=hb
       repeat (first|((conv=>whnf);refine ag.2 ⟨hir,?_⟩)|((conv=>whnf);refine ag.2 ⟨hnn,?_⟩)|((conv=>whnf);refine au.2 ⟨_,hget,?_⟩))
       (conv=>whnf)
       refine aP (fun hc=>?_) fun hc=>?_
       . have hc:(nB y[b - 1]==9)=true:=hc
         repeat (first|((conv=>whnf);refine ag.2 ⟨hir,?_⟩))
         (conv=>whnf)
         refine⟨((a,b - 1):Nat×Nat),step (by simp only[fD,hb,hc,DY]),mu,?_⟩
         repeat' (first|exact trivial|exact rfl|((conv=>whnf);first|(apply aP<;>intro)|apply And.intro))
         all_goals ((conv=>whnf);exact hb1)
       . have hc:(nB y[b - 1]==9)=false:=hc;have:=stop (by simp only[fD,hb,hc,Bool.or_false])
         (conv=>whnf)
         refine ag.2 ⟨by show(Nat.ble a b&&Nat.ble b y.length)=true;rw[Ad,AI,AI];omega,?_⟩
         (conv=>whnf)
         refine⟨this,?_⟩
         repeat' (first|exact trivial|exact rfl|((conv=>whnf);first|(apply aP<;>intro)|apply And.intro))
   . have hab:a=b:=by
       have hge:bj (a:Int) (b:Int)=false:=hge;rw[bF,Ae]at hge;omega
     subst hab
     (conv=>whnf)
     refine ag.2 ⟨by show(Nat.ble a a&&Nat.ble a y.length)=true;rw[Ad,AI,AI];omega,?_⟩
     (conv=>whnf)
     refine⟨?_,?_⟩
     . show(y.drop a).take (a - a)=gx y
       rw[<-k3,Nat.sub_self,List.take_zero];rfl
     repeat' (first|exact trivial|exact rfl|((conv=>whnf);first|(apply aP<;>intro)|apply And.intro)))
theorem y9:∀g C,wi g=some C->CO g C:=bM LX (bM Kj uI)
end
section
variable [Inhabited aL]
def fT (s:Bs) (most:Int) (signs:Bs):Bool:=bA (Int.ofNat s.length) most&& !s.any cS&&decide (gx s=s)&&signs.all fun c=>(bP s (nB c)).isNone
def CG:aH:={Y:=Bs×Int×Bs,pre:=fun y=>y.1.length<=1000000/\y.2.2.length<=100,args:=fun y=>[.str y.1,i64 y.2.1, .ax UInt8 y.2.2 cf],res:=fun y=> .bool (fT y.1 y.2.1 y.2.2)}
def Ls (y:Bs×Int×Bs):aE:={α:=Nat,ok:=fun i=>i<=y.2.2.length/\(y.2.2.take i).all (fun c=>(bP y.1 (nB c)).isNone)=true,μ:=fun i=>y.2.2.length - i,bu:=[],aV:=fun i=>[(0, .str y.1),(26, .ax UInt8 y.2.2 cf),(27,i64 (Int.ofNat y.2.2.length)),(28,i64 i)],bK:=fun _=>[]}
theorem KB {a b:Int} (h:bj a b=true):bA b a=false:=by
 rw[bF,Ac]at h;rw[dN,Ae];omega
theorem KC {a b:Int} (h:bj a b=false):bA b a=true:=by
 rw[bF,Ae]at h;rw[dN,Ac];omega
theorem yb (s:Bs) (c:Int):(bV s c).2.2=(bP s c).isSome:=by
 unfold bV
 cases bP s c<;>rfl
theorem Kd:CO mS CG:=bO (cfg:=fun y=>eg wi (cq mS 4 (Ls y))) bD (fun _=>rfl) (fun _=>y9) (n:=600) (by
 rintro⟨s,m,g⟩ ⟨(hs:s.length<=1000000),(hg:g.length<=100)⟩;have yes:(fT s m g=false)-> .bool false=SV.bool (fT s m g):=fun h=>by rw[h]
 (conv=>whnf)
 refine aP (fun h=>?_) fun h=>?_
 . have h:bA (Int.ofNat s.length) m=false:=KB h;have:fT s m g=false:=by simp only[fT,h,Bf]
   (conv=>whnf)
   refine⟨this.symm,?_⟩
   repeat' (first|exact trivial|exact rfl|((conv=>whnf);first|(apply aP<;>intro)|apply And.intro))
 have h1:bA (Int.ofNat s.length) m=true:=KC h
 (conv=>whnf)
 refine⟨s,?_⟩
 repeat ((conv=>whnf);first|refine⟨rfl,?_⟩|refine⟨hs,?_⟩)
 (conv=>whnf)
 refine aP (fun h=>?_) fun h=>?_
 . have h:s.any cS=true:=h;have:fT s m g=false:=by simp only[fT,h,BW,Ds,Bf]
   (conv=>whnf)
   refine⟨this.symm,?_⟩
   repeat' (first|exact trivial|exact rfl|((conv=>whnf);first|(apply aP<;>intro)|apply And.intro))
 have h2:s.any cS=false:=h
 (conv=>whnf)
 refine⟨s,?_⟩
 repeat ((conv=>whnf);first|refine⟨rfl,?_⟩|refine⟨hs,?_⟩)
 (conv=>whnf)
 refine aP (fun h=>?_) fun h=>?_
 . have h:decide (gx s=s)=false:=by
     have h:(!(gx s==s))=true:=h;simpa using h
   have:fT s m g=false:=by simp only[fT,h,Ds,Bf]
   (conv=>whnf)
   refine⟨this.symm,?_⟩
   repeat' (first|exact trivial|exact rfl|((conv=>whnf);first|(apply aP<;>intro)|apply And.intro))
 have h3:decide (gx s=s)=true:=by
   have h:(!(gx s==s))=false:=h;simpa using h
 have hp:fT s m g=g.all fun c=>(bP s (nB c)).isNone:=by simp only[fT,h1,h2,h3,Dr,Ba]
 (conv=>whnf)
 refine⟨⟨(0:Nat),⟨A7 _,by simp⟩,?_⟩,?_⟩
 . repeat' (first|exact trivial|exact rfl|((conv=>whnf);first|(apply aP<;>intro)|apply And.intro))
 intro (x:Nat) hx;obtain⟨hx,hn⟩:=hx;have hx:x<=g.length:=hx;have hn:(g.take x).all (fun c=>(bP s (nB c)).isNone)=true:=hn
 (conv=>whnf)
 refine aP (fun hlt=>?_) fun hge=>?_
 . have hlt':x<g.length:=cp hlt
   (conv=>whnf)
   refine au.2 ⟨_,dH hlt',?_⟩
   (conv=>whnf)
   refine⟨(s,nB g[x]),?_⟩
   repeat ((conv=>whnf);first|refine⟨rfl,?_⟩|refine⟨hs,?_⟩)
   (conv=>whnf)
   refine aP (fun h=>?_) fun h=>?_
   . have h:(bP s (nB g[x])).isSome=true:=by rw[<-yb];exact h
     have:fT s m g=false:=by
       rw[hp,List.all_eq_false];exact⟨g[x],Av hlt',by simp[Option.isNone_iff_eq_none,DP.1 h]⟩
     (conv=>whnf)
     refine⟨this.symm,?_⟩
     repeat' (first|exact trivial|exact rfl|((conv=>whnf);first|(apply aP<;>intro)|apply And.intro))
   . have h:(bP s (nB g[x])).isSome=false:=by rw[<-yb];exact h
     (conv=>whnf)
     refine ag.2 ⟨cB x (by omega),?_⟩
     (conv=>whnf)
     refine⟨(x+1:Nat),⟨hlt',?_⟩,by show g.length - (x+1)<g.length - x;omega,?_⟩
     . show(g.take (x+1)).all (fun c=>(bP s (nB c)).isNone)=true
       rw[Al hlt',List.all_append,hn];simpa using h
     . repeat' (first|exact trivial|exact rfl|((conv=>whnf);first|(apply aP<;>intro)|apply And.intro))
 . have hge':g.length<=x:=ot hge;rw[Ax hge']at hn
   (conv=>whnf)
   refine⟨by show true=fT s m g;rw[hp,hn],?_⟩
   repeat' (first|exact trivial|exact rfl|((conv=>whnf);first|(apply aP<;>intro)|apply And.intro)))
end
section
variable [Inhabited aL]
def fL (b:UInt8):UInt8:=if 65<=b.toNat/\b.toNat<=90 then b+32 else b
def dz (s:Bs):Bs:=s.map fL
def fu (w:World) (b:Nat) (l:Bs):Prop:=∃arr,w.heap[b]? =some (.cells arr 5 (arr.size,arr.size+1))/\l.length<=arr.size/\ ∀j (h:j<l.length),arr[j]? =some (.int .u8 l[j].toNat)
theorem fu.cell {w:World} {b:Nat} {l:Bs} (h:fu w b l) {j:Nat} (hj:j<l.length):w.cell? ⟨b,j,none⟩=some (.int .u8 l[j].toNat):=by
 obtain⟨arr,h1,_,h3⟩:=h;simp[World.cell?,h1,h3 j hj]
theorem fu.free {w:World} {b:Nat} {l:Bs} (h:fu w b l) {j:Nat} (hj:j<l.length):w.frozen? ⟨b,j,none⟩=false:=by
 obtain⟨arr,h1,h2,_⟩:=h;simp[World.frozen?,h1];omega
theorem fu.set {w:World} {b:Nat} {l:Bs} (h:fu w b l) (k:Nat) (c:UInt8):fu (w.setCell ⟨b,k,none⟩ (.int .u8 c.toNat)) b (l.set k c):=by
 obtain⟨arr,h1,h2,h3⟩:=h;have hlt:=(Ak.1 h1).1;refine⟨arr.setIfInBounds k (.int .u8 c.toNat),?_,by simpa using h2,fun j hj=>?_⟩
 . have h4:=(Ak.1 h1).2;simp only[World.setCell,Array.getElem?_modify,h1];simp
 . have hj':j<l.length:=by simpa using hj
   rw[DJ,List.getElem_set];by_cases e:k=j
   . subst e;simp;omega
   . simp only[e,AE];exact h3 j hj'
theorem Mm (b:UInt8) (w:World):Calls Tryz.prog 170 #[.int .u8 b.toNat] w fun e w'=>e= .returned (.int .u8 (fL b).toNat)/\w'=w:=by
 have hb:=b.toNat_lt;by_cases h1:65<=b.toNat
 . by_cases h2:b.toNat<=90
   . go_enter Tryz.func170,Tryz.ntmps170
     go_wp2;go_ret;refine⟨?_,rfl⟩;unfold fL;rw[Ai ⟨h1,h2⟩];have e:(b+32).toNat=b.toNat+32:=by
      rw[UInt8.toNat_add,show(32:UInt8).toNat=32 from rfl];omega
     rw[e];simp;omega
   . go_enter Tryz.func170,Tryz.ntmps170
     go_wp2;go_ret;refine⟨?_,rfl⟩;unfold fL;rw[Ah (fun h=>h2 h.2)];rfl
 . go_enter Tryz.func170,Tryz.ntmps170
   go_wp2;go_ret;refine⟨?_,rfl⟩;unfold fL;rw[Ah (fun h=>h1 h.1)];rfl
theorem MF (s:Bs) (w:World) (hl:s.length<=1000000):Calls Tryz.prog 129 #[.string ⟨s.toArray⟩] w fun e w'=>e= .returned (.string ⟨(dz s).toArray⟩)/\Below w.heap.size w w'/\w.drawn<=w'.drawn:=by
 have hcv:= @run_bytes_of_string Tryz.prog;have hcb:= @run_convert_bytes_back Tryz.prog;go_enter Tryz.func129,Tryz.ntmps129
 go_wp2;have hrow0:∀c,fu (w.drew.alloc (.cells (bytesRow ⟨s.toArray⟩ c) 5 ((bytesRow ⟨s.toArray⟩ c).size,(bytesRow ⟨s.toArray⟩ c).size+1))) w.heap.size s:=fun c=>by
  refine⟨bytesRow ⟨s.toArray⟩ c,?_,?_,fun j hj=>?_⟩
  . show(w.heap.push _)[w.heap.size]? =_
    simp
  . simp[bytesRow]
  . rw[bytesRow_at _ _ _ (by simpa using hj)];simp
 go_loopw [9] (fun i wr=>∃k:Nat,k<=s.length/\i= .int .i64 k/\fu wr w.heap.size ((dz s).take k++s.drop k)/\Below w.heap.size w wr/\w.drawn<=wr.drawn) (fun i _=>s.length - (intOf i).toNat)
 case atStart=>exact⟨0,A7 _,rfl,hrow0 _,((Below.refl _ _).drew).alloc (An _) _,Nat.le_succ _⟩
 case round=>
  obtain⟨k,hk,rfl,hrow,hbel,hdr⟩:=hrel;by_cases hlt:k<s.length
  . have hlen:((dz s).take k++s.drop k).length=s.length:=by simp[dz];omega
    have hk2:k<((dz s).take k++s.drop k).length:=by omega
    have hc:=hrow.cell hk2;have hf:=hrow.free hk2;have hel:((dz s).take k++s.drop k)[k]=s[k]:=by
     rw[List.getElem_append_right (by simp[dz];omega)];simp[dz,Nat.min_eq_left (Nat.le_of_lt hlt)]
    rw[hel]at hc;have hcall:=Mm s[k] wr;go_wp2_with (go_at_call 170;refine hcall.mono ?_;rintro e w1 ⟨rfl,rfl⟩)
    have hset:((dz s).take k++s.drop k).set k (fL s[k])=(dz s).take (k+1)++s.drop (k+1):=by
     have hz:k - ((dz s).take k).length=0:=by simp[dz];omega
     rw[List.set_append_right _ _ (by simp[dz];omega),hz,Db hlt,Al (by simpa [dz]using hlt),List.set_cons_zero];simp[dz]
    refine⟨⟨k+1,hlt,by go_num,?_,hbel.setCell (An _) _,hdr⟩,by simp[intOf];omega⟩;rw[<-hset];exact hrow.set k _
  . have hkl:k=s.length:=by omega
    subst hkl;have hrow':fu wr w.heap.size (dz s):=by
     rw[List.drop_length,A9,Ax (by simp[dz])]at hrow;exact hrow
    have hback:∀c,(convert 188 9 (.slice (some ⟨w.heap.size,0,none⟩) s.length c)).run Tryz.prog wr= .ok (.string ⟨(dz s).toArray⟩) wr:=fun c=>by
     have:=hcb wr 188 9 5 ⟨w.heap.size,0,none⟩ c (dz s) Tryz.underlying188 Tryz.underlying5 Tryz.underlying9 (fun j hj=>by
      have:=hrow'.cell hj;unfold Addr.add;split
      . rename_i h0;subst h0;exact this
      . simpa using this)
     simpa [dz]using this
    clear hcb hcv hrow0;go_wp2;go_ret;exact⟨rfl,hbel,hdr⟩
theorem KV:CO Eh {Y:=Bs,pre:=fun y=>y.length<=1000000,args:=fun y=>[.str y],res:=fun y=> .str (dz y)}:=EB bD.ok (by
 rintro s hs w args - ⟨h1,h2⟩;match args,h1 with
 |[v],_=>
 have hv:v= .string ⟨s.toArray⟩:=by
  have:=h2 0 _ _ rfl rfl
  cases this;rfl
 subst hv;refine(MF s w hs).mono ?_;rintro e w' ⟨rfl,hb,hd⟩;exact⟨_,rfl, .inr (.str _),hb,fun _=>hd⟩)
end
section
variable [Inhabited aL]
theorem G4 {c:aw} (h:dG c=0):1<=c.domain/\1<=c.total:=by
 unfold dG at h;split at h
 . cases h
 . omega
end
section
abbrev bC (s:Bs):Value:= .string ⟨s.toArray⟩
def ka (x:aa):List Value:=[bC x.key.name,bC x.key.domain,bC x.key.path,bC x.ab.value, .bool x.ab.ay, .bool x.ab.aT, .bool x.ab.aD, .bool x.ab.persistent, .int .i64 x.ab.aM, .int .i64 x.ab.aq, .int .i64 x.ab.access]
def rowAt (w:World) (b off:Nat) (l:List aa):Prop:=∀(i:Nat) x (j:Nat) v,l[i]? =some x->(ka x)[j]? =some v->w.cell? ⟨b,off+i*11+j,none⟩=some v
theorem rowAt.below {w w':World} {b off:Nat} {l:List aa} (h:rowAt w b off l) {B:Nat} (hb:Below B w w') (hlt:b<B):rowAt w' b off l:=fun i x j v hx hv=>by
 have h1:=h i x j v hx hv;unfold World.cell? at h1⊢;rw[hb.block b hlt];exact h1
theorem L0 {w:World} {p:Nat->Prop} {a:Bool} {s:Bs} {v:Value} (h:Rd w p a (.str s) v):v=bC s:=by cases h;rfl
theorem Cg {w:World} {p:Nat->Prop} {a:Bool} {b:Bool} {v:Value} (h:Rd w p a (.bool b) v):v= .bool b:=by cases h;rfl
theorem LZ {w:World} {p:Nat->Prop} {a:Bool} {k:IntKind} {n:Int} {v:Value} (h:Rd w p a (.int k n) v):v= .int k n:=by cases h;rfl
theorem Km {w:World} {p:Nat->Prop} {a:Bool} {x:aa} {j:Nat} {s:SV} {v u:Value} (hs:x.enc[j]? =some s) (hv:(ka x)[j]? =some v) (h:Rd w p a s u):u=v:=by
 unfold aa.enc at hs;unfold ka at hv;have hj:j<11:=(Ao.1 hv).1;match j,hj with
 |0,_|1,_|2,_|3,_=>cases hs;cases hv;exact L0 h
 |4,_|5,_|6,_|7,_=>cases hs;cases hv;exact Cg h
 |8,_|9,_|10,_=>cases hs;cases hv;exact LZ h
theorem JH {x:aa} {j:Nat} (h:j<11):∃s,x.enc[j]? =some s:=⟨_,Af (by exact h)⟩
theorem Jb {w:World} {p:Nat->Prop} {l:List aa} {v:Value} (h:Rd w p true (items l) v):
  (l=[]/\ ∃a c,v= .slice a 0 c)\/ ∃b off cap,v= .slice (some ⟨b,off,none⟩) l.length cap/\b<w.heap.size/\rowAt w b off l/\l.length<=cap/\ ∃arr e fz,w.heap[b]? =some (.cells arr e fz)/\off+l.length*11<=arr.size:=by
 unfold items at h
 cases h with
 |gB h0=>exact .inl ⟨DU.1 h0,none,0,rfl⟩
 |bR _ h0 a c=>exact .inl ⟨DU.1 h0,a,c,rfl⟩
 |ax b off cap arr e fz sz u hp hb hs hl hn hc h1 h2=>
  refine .inr ⟨b,off,cap,rfl,(Ak.1 hb).1,fun i x j v hx hv=>?_,hc,arr,e,fz,hb,?_⟩;rotate_left
  . cases hL:l with
    |nil=>simp;omega
    |cons x l'=>
     have:sz=11:=(hn 0 x (by rw[hL];rfl)).symm;rw[<-hL];rw[<-this];exact hl
  have hj:j<11:=(Ao.1 hv).1;obtain⟨s,hs'⟩:=JH (x:=x) hj;have hsz:sz=11:=(hn i x hx).symm;subst hsz;have e1:=h1 i x j s hx hs';have e2:=Km hs' hv (h2 i x j s hx hs');unfold World.cell?
  simp only[hb,Du,Ar,AE];rw[e1,e2]
variable [Inhabited aL]
end
section
variable [Inhabited aL]
def SK {H:Type} (D:DataW H) (L:List Bs):Prop:=∃es,D= .map es/\(∀p∈es,∃x,p.1= .string x)/\(es.map fun p=>strOf p.1).Nodup/\ ∀x,x∈es.map (fun p=>strOf p.1)↔x∈L
theorem SK.start {H:Type}:SK (.map []:DataW H) []:=⟨[],rfl,by simp,by simp,by simp⟩
end
section
variable [Inhabited aL]
end
end Go.Proofs
namespace Go.Proofs
open Go Go.Am Go.RowKit Go.Sy Go.Gm
def tp (a:Int×Int):Value:= .agg #[.int .i64 a.1, .int .i64 a.2]
def l5 (d:bp):Value:= .agg #[.int .i64 d.dev, .int .i64 d.inc, .int .i64 d.seq]
def tq (k:bh):Value:= .agg #[.string ⟨k.name.toArray⟩, .string ⟨k.domain.toArray⟩, .string ⟨k.path.toArray⟩]
def l6 (n:Int):Value:= .int .i64 n
end Go.Proofs
namespace Go.Proofs
open Go Go.Am Go.RowKit Go.Sy
section
variable [Inhabited aL]
theorem Tryz.pc:Tryz.tab.fns.get kX=some Tryz.f6:=by kernel_rfl
theorem Ms:u3 (run Tryz.tab 200000 {fr:=ae.enter Tryz.f6 kX (Tryz.f6.body.getD .skip) [] .normal,cs:=[],h:=cG})=true:=by kernel_rfl
theorem HD:CO kX rW:=Ik Tryz.pc Ms
end
end Go.Proofs
