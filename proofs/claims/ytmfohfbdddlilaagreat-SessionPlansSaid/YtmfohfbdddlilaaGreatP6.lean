/- Part 6: an evaluator, proved sound, and its use at this seat; no condition. -/
import Derived.Lib.Bytealg
import Derived.KernelRfl
import Derived.WalkKit
import Derived.Laws.IdiomStrings
import Derived.Deep.MidRow
import Derived.Laws.AppendOwn
import Derived.Maps.Own
import Derived.Maps.OwnOps
import Derived.Sort.KeysCollected
import Derived.Sort.EncStr
import Derived.Test.YtmfohfbdddlilaaGreatP1
import Derived.Test.YtmfohfbdddlilaaGreatP2
import Derived.Test.YtmfohfbdddlilaaGreatP3
import Derived.Test.YtmfohfbdddlilaaGreatP4
import Derived.Test.YtmfohfbdddlilaaGreatP5
set_option linter.unusedSimpArgs false
set_option linter.unusedVariables false
set_option linter.unusedSectionVars false
set_option linter.deprecated false
set_option maxRecDepth 100000
set_option maxHeartbeats 4000000
namespace Go.Proofs
open Go Go.Am Go.RowKit Go.Sy Go.Lib
structure aA where
 name:Bs
 domain:Bs
 path:Bs
deriving DecidableEq,Inhabited
structure bo where
 value:Bs
 aF:Bool
 aV:Bool
 aG:Bool
 persistent:Bool
 aP:Int
 aq:Int
 access:Int
deriving DecidableEq,Inhabited
structure aa where
 key:aA
 ab:bo
deriving DecidableEq,Inhabited
structure az where
 aB:Int
 domain:Int
 total:Int
 rules:List Bs
def aA.enc (x:aA):List SV:=[.str x.name, .str x.domain, .str x.path]
def bo.enc (x:bo):List SV:=[.str x.value, .bool x.aF, .bool x.aV, .bool x.aG, .bool x.persistent, .int .i64 x.aP, .int .i64 x.aq, .int .i64 x.access]
def aa.enc (x:aa):List SV:=[.str x.key.name, .str x.key.domain, .str x.key.path, .str x.ab.value, .bool x.ab.aF, .bool x.ab.aV, .bool x.ab.aG, .bool x.ab.persistent, .int .i64 x.ab.aP, .int .i64 x.ab.aq, .int .i64 x.ab.access]
def az.enc (x:az):List SV:=[.int .i64 x.aB, .int .i64 x.domain, .int .i64 x.total, .aj Bs x.rules aS]
abbrev lt (a b:Bs):Bool:=Op.bytesLess a b
theorem lt_irrefl:∀a,lt a a=false
 |[]=>rfl
 |a::l=>by simp[lt,Op.bytesLess];exact lt_irrefl l
theorem lt_trans:∀a b c,lt a b=true->lt b c=true->lt a c=true:=by
 intro a;induction a with
 |nil=>intro b c h1 h2;cases c with
  |nil=>cases b<;>simp[lt,Op.bytesLess]at h1 h2
  |cons=>rfl
 | cons x a ih=>
  intro b c h1 h2
  cases b with
  |nil=>simp[lt,Op.bytesLess]at h1
  | cons y b=>cases c with
   |nil=>simp[lt,Op.bytesLess]at h2
   |cons z c=>
    simp only[lt,Op.bytesLess,BF,Ab,Ac,BM]at*;rcases h1 with h1|⟨rfl,h1⟩<;>rcases h2 with h2|⟨rfl,h2⟩
    . exact .inl (UInt8.lt_trans h1 h2)
    . exact .inl h1
    . exact .inl h2
    . exact .inr ⟨rfl,ih b c h1 h2⟩
theorem xQ:∀a b,lt a b=true\/a=b\/lt b a=true:=by
 intro a;induction a with
 |nil=>intro b;cases b<;>simp[lt,Op.bytesLess]
 | cons x a ih=>
  intro b
  cases b with
  |nil=>simp[lt,Op.bytesLess]
  |cons y b=>
   simp only[lt,Op.bytesLess,BF,Ab,Ac,BM,B8];rcases Nat.lt_trichotomy x.toNat y.toNat with h|h|h
   . exact .inl (.inl (Fe.2 h))
   . have h:x=y:=Er.1 h;subst h;rcases ih b with h|h|h
     . exact .inl (.inr ⟨rfl,h⟩)
     . exact .inr (.inl ⟨rfl,h⟩)
     . exact .inr (.inr (.inr ⟨rfl,h⟩))
   . exact .inr (.inr (.inl (Fe.2 h)))
def ee (a b:Bs):Int:=if lt a b then -1 else if a=b then 0 else 1
theorem Qw:∀(a b:Bs),compareBytes a b=ee a b:=by
 intro a;induction a with
 |nil=>intro b;cases b<;>simp[compareBytes,ee,lt,Op.bytesLess]
 | cons x a ih=>
  intro b
  cases b with
  |nil=>simp[compareBytes,ee,lt,Op.bytesLess]
  |cons y b=>
   simp only[compareBytes,ih b,ee,lt,Op.bytesLess,BF,Ab,Ac,BM,B8];by_cases h1:x<y
   . simp[h1]
   . by_cases h2:y<x
     . have:x≠y:=by rintro rfl;exact h1 h2
       simp[h1,h2,this]
     . have:x=y:=Er.1 (by have:=UInt8.not_lt.1 h1;have:=UInt8.not_lt.1 h2;simp[UInt8.le_iff_toNat_le]at*;omega);subst this;simp
theorem Ts (a b:Bs):Extern.BytealgCompare.cmp ⟨a.toArray⟩ ⟨b.toArray⟩=ee a b:=by
 rw[cmp_eq,Qw]
theorem wg (a b:Bs):ee a b=0↔a=b:=by
 unfold ee;by_cases h:a=b
 . subst h;simp[lt_irrefl]
 . by_cases h1:lt a b=true<;>simp[h,h1]
theorem Ca (a b:Bs):ee a b<0↔lt a b=true:=by
 unfold ee;by_cases h1:lt a b=true
 . simp[h1]
 . by_cases h:a=b<;>simp[h,h1]<;>simp_all[lt_irrefl]
def dc (a b:Int):Int:=if a<b then -1 else if b<a then 1 else 0
theorem rL (a b:Int):dc a b=0↔a=b:=by
 unfold dc;by_cases h:a<b
 . rw[An h];omega
 . rw[Aj h];by_cases h2:b<a
   . rw[An h2];omega
   . rw[Aj h2];omega
theorem rR (a b:Int):dc a b<0↔a<b:=by
 unfold dc;by_cases h:a<b
 . rw[An h];omega
 . rw[Aj h];by_cases h2:b<a
   . rw[An h2];omega
   . rw[Aj h2];omega
def ov (a b:aA):Int:=let n:=ee a.name b.name;if n≠0 then n else let d:=ee a.domain b.domain;if d≠0 then d else ee a.path b.path
def fk (a b:aA):Bool:=decide (ov a b<0)
theorem vP (a b:aA):fk a b=if a.name≠b.name then lt a.name b.name else if a.domain≠b.domain then lt a.domain b.domain else lt a.path b.path:=by
 rw[AN];unfold fk ov;by_cases h1:a.name=b.name
 . have e1:=(wg a.name b.name).2 h1;by_cases h2:a.domain=b.domain
   . have e2:=(wg a.domain b.domain).2 h2;have:=Ca a.path b.path;simp_all
   . have e2:=fun h=>h2 ((wg a.domain b.domain).1 h)
     have:=Ca a.domain b.domain;simp_all
 . have e1:=fun h=>h1 ((wg a.name b.name).1 h)
   have:=Ca a.name b.name;simp_all
theorem nq (a:aA):fk a a=false:=by simp[vP,lt_irrefl]
theorem pX (a b c:aA) (h1:fk a b=true) (h2:fk b c=true):fk a c=true:=by
 rw[vP]at*;by_cases n1:a.name=b.name
 . by_cases n2:b.name=c.name
   . have n3:a.name=c.name:=n1.trans n2;simp only[n1,n2,n3,Ds,Dp,AK]at h1 h2⊢;by_cases d1:a.domain=b.domain
     . by_cases d2:b.domain=c.domain
       . have d3:a.domain=c.domain:=d1.trans d2;simp only[d1,d2,d3,Ds,Dp,AK]at h1 h2⊢;exact lt_trans _ _ _ h1 h2
       . simp only[d1,d2,Ds,Dp,Bl,AK,Bb]at h1 h2⊢;exact h2
     . simp only[d1,Ds,Bl,Bb]at h1;by_cases d2:b.domain=c.domain
       . rw[<-d2];simp only[d1,Ds,Bl,Bb];exact h1
       . simp only[d2,Ds,Bl,Bb]at h2;have h3:=lt_trans _ _ _ h1 h2;have d3:a.domain≠c.domain:=fun e=>by rw[e,lt_irrefl]at h3;cases h3
         simp only[d3,Ds,Bl,Bb];exact h3
   . simp only[n1,n2,Ds,Bl,Bb]at h2⊢;exact h2
 . simp only[n1,Ds,Bl,Bb]at h1;by_cases n2:b.name=c.name
   . rw[<-n2];simp only[n1,Ds,Bl,Bb];exact h1
   . simp only[n2,Ds,Bl,Bb]at h2;have h3:=lt_trans _ _ _ h1 h2;have n3:a.name≠c.name:=fun e=>by rw[e,lt_irrefl]at h3;cases h3
     simp only[n3,Ds,Bl,Bb];exact h3
theorem tH (a b:aA):fk a b=true\/a=b\/fk b a=true:=by
 simp only[vP];by_cases h1:a.name=b.name
 . by_cases h2:a.domain=b.domain
   . simp only[h1,h2,Ds,Dp,AK];rcases xQ a.path b.path with h|h|h
     . exact .inl h
     . exact .inr (.inl (by cases a;cases b;simp_all))
     . exact .inr (.inr h)
   . have h2':=Ne.symm h2;simp only[h1,h2,h2',Ds,Dp,Bl,AK,Bb];rcases xQ a.domain b.domain with h|h|h
     . exact .inl h
     . exact absurd h h2
     . exact .inr (.inr h)
 . have h1':=Ne.symm h1;simp only[h1,h1',Ds,Bl,Bb];rcases xQ a.name b.name with h|h|h
   . exact .inl h
   . exact absurd h h1
   . exact .inr (.inr h)
end Go.Proofs
namespace Go.Proofs
open Go Go.Am Go.RowKit Go.Sy
section
variable [Inhabited aL]
theorem Tryz.tv:Tryz.tab.fns.get yC=some Tryz.f208:=by kernel_rfl
theorem P1 (a b:List UInt8):run Tryz.tab 200 {fr:=ak.enter Tryz.f208 yC (Tryz.f208.body.getD .skip) [.str a, .str b] .normal,cs:=[],h:=fq}= .ok [(.int .i64 (Extern.BytealgCompare.cmp ⟨a.toArray⟩ ⟨b.toArray⟩),fq)]:=by kernel_rfl
noncomputable def po:aM:={Y:=Bs×Bs,pre:=fun _=>True,args:=fun y=>[.str y.1, .str y.2],res:=fun y=> .int .i64 (ee y.1 y.2)}
theorem ZH:CO yC po:=by
 refine cJ.shut bA fun fn body hfn hb y _ avs Fz hav=>?_
 rw[Tryz.tv]at hfn
 cases hfn;obtain⟨a,b⟩:=y;have hl:avs=[.str a, .str b]:=by
   obtain⟨h1,h2⟩:=hav
   cases avs with
   |nil=>simp[po]at h1
   | cons u avs=>cases avs with
    |nil=>simp[po]at h1
    | cons w avs=>cases avs with
     |cons=>simp[po]at h1
     |nil=>
      have e1:=h2 0 _ u rfl rfl;have e2:=h2 1 _ w rfl rfl;simp only at e1 e2
      cases e1
      cases e2;rfl
 subst hl;refine⟨fun _ _=>rfl,fun v _=>v= .int .i64 (ee a b),?_,?_⟩
 . have ho:=P1 a b;rw[hb]at ho;refine(eQ.run bA ho).mono fun v h' hm=>?_
   simp only[Ak,BN,Dr,BP]at hm;rw[hm.1,Ts]
 . rintro v h' rfl;exact⟨fun _ _=>rfl, .int _ _⟩
end
section
variable [Inhabited aL]
def fb (x:bo) (now:Int):Bool:=x.persistent&&decide (x.aP<=now)
def hZ (a b:aa):Int:=
 let n:=if dc a.ab.access b.ab.access≠0 then dc a.ab.access b.ab.access else dc a.ab.aq b.ab.aq
 if n≠0\/a.key=b.key then n else if fk a.key b.key then -1 else 1
def fx (a b:aa):Bool:=decide (hZ a b<0)
def gS:List aa->Bool
 |x::y::l=>fk x.key y.key&&gS (y::l)
 |_=>true
def eP (l:List aa) (k:aA):List aa:=l.filter fun x=>decide (x.key≠k)
def eZ (l:List aa) (d:Bs):List aa:=l.filter fun x=>decide (x.key.domain=d)
def ql:aA:=⟨[],[],[]⟩
def je:aa:=⟨ql,⟨[],false,false,false,false,0,0,0⟩⟩
def eB (l:List aa) (k:aA):aa×Bool:=match l.find? (fun x=>decide (x.key=k))with|some x=>(x,true)|none=>(je,false)
def dU (l:List Bs) (d:Bs):Nat:=(l.takeWhile fun x=>lt x d).length
def fS (l:List Bs) (d:Bs):List Bs:=if l[dU l d]? =some d then l else l.take (dU l d)++d::l.drop (dU l d)
def bj (l:List aa):List Bs:=l.foldl (fun a x=>fS a x.key.domain) []
def fV (l:List aa) (d:Bs) (all:Bool):Option aa:=l.foldl (fun b x=>if all||decide (x.key.domain=d)then(match b with|none=>some x|some y=>if fx x y then some x else some y)else b) none
def fA (l:List aa) (d:Bs) (all:Bool):aA:=match fV l d all with|some x=>x.key|none=>ql
def eL (c:az):Int:=if c.aB<1\/c.aB>64\/c.domain<1\/c.domain>2048\/c.total<1\/c.total>2048 then 4 else nI c.rules
noncomputable def ZI:TypeId->Option View:=fun t=>bif Nat.beq t Ty.string then some ⟨Bs,aS⟩else bif Nat.beq t Gr then some ⟨aa,aa.enc⟩else none
noncomputable def bE (gD:FuncId->Option aM) (ln:FuncId->Nat->Option aH):ik:={tab:=oH,view:=ZI,gD,ln}
def items (l:List aa):SV:= .aj aa l aa.enc
def mw (l:List aa):SO:= .arr aa l aa.enc Gr
def ml (f r:Nat) (A:aH) (a:FuncId->Nat->Option aH):FuncId->Nat->Option aH:=fun g s=>bif Nat.beq g f&&Nat.beq s r then some A else a g s
def sJ:aM:={Y:=bo×Int,pre:=fun _=>True,args:=fun y=>[.agg y.1.enc,i64 y.2],res:=fun y=> .bool (fb y.1 y.2)}
def FR:aM:={Y:=Int×Int,pre:=fun _=>True,args:=fun y=>[i64 y.1,i64 y.2],res:=fun y=>i64 (dc y.1 y.2)}
def FV:aM:={Y:=aA×aA,pre:=fun _=>True,args:=fun y=>[.agg y.1.enc, .agg y.2.enc],res:=fun y=>i64 (ov y.1 y.2)}
def sI:aM:={Y:=aA×aA,pre:=fun _=>True,args:=fun y=>[.agg y.1.enc, .agg y.2.enc],res:=fun y=> .bool (fk y.1 y.2)}
def uK:aM:={Y:=aa×aa,pre:=fun _=>True,args:=fun y=>[.agg y.1.enc, .agg y.2.enc],res:=fun y=>i64 (hZ y.1 y.2)}
def C5:aM:={Y:=aa×aa,pre:=fun _=>True,args:=fun y=>[.agg y.1.enc, .agg y.2.enc],res:=fun y=> .bool (fx y.1 y.2)}
def iH (l:List aa):Prop:=l.length<=10000
def C3:aM:={Y:=List aa,pre:=iH,args:=fun y=>[items y],res:=fun y=> .bool (gS y)}
def xi (y:List aa):aH:={α:=Nat,ok:=fun i=>1<=i/\i<=y.length+1/\ ∀j (h:j+1<y.length),j+1<i->fk (y[j]'(by omega)).key y[j+1].key=true,μ:=fun i=>y.length+1 - i,aW:=[],aN:=fun i=>[(0,items y),(3,i64 i)],bn:=fun _=>[]}
def bL:aM:={Y:=List aa×aA,pre:=fun y=>iH y.1,args:=fun y=>[items y.1, .agg y.2.enc],res:=fun y=>items (eP y.1 y.2)}
def lv:aM:={Y:=List aa×Bs,pre:=fun y=>iH y.1,args:=fun y=>[items y.1, .str y.2],res:=fun y=>items (eZ y.1 y.2)}
def jN (l:List aa) (p:aa->Bool):aH:={α:=Nat,ok:=fun i=>i<=l.length,μ:=fun i=>l.length - i,aW:=[1],aN:=fun i=>[(8,items l),(9,i64 (Int.ofNat l.length)),(10,i64 i),(5, .own 1)],bn:=fun i=>[(1,mw ((l.take i).filter p))]}
def rJ (y:List aa×aA):aH:={α:=Nat,ok:=fun i=>i<=y.1.length,μ:=fun i=>y.1.length - i,aW:=[3],aN:=fun i=>[(0,items y.1),(5, .own 1),(6,i64 i)],bn:=fun i=>[(1,mw ((y.1.take i).filter fun x=>decide (x.key≠y.2)))]}
def rN (y:List aa×Bs):aH:={α:=Nat,ok:=fun i=>i<=y.1.length,μ:=fun i=>y.1.length - i,aW:=[],aN:=fun i=>[(0,items y.1),(1, .str y.2),(5, .own 0),(6,i64 i)],bn:=fun i=>[(0,mw ((y.1.take i).filter fun x=>decide (x.key.domain=y.2)))]}
def FD:aM:={Y:=List aa×aA,pre:=fun y=>iH y.1,args:=fun y=>[items y.1, .agg y.2.enc],res:=fun y=> .bJ [.agg (eB y.1 y.2).1.enc, .bool (eB y.1 y.2).2]}
def xw (y:List aa×aA):aH:={α:=Nat,ok:=fun i=>i<=y.1.length/\ ∀j (h:j<y.1.length),j<i->y.1[j].key≠y.2,μ:=fun i=>y.1.length - i,aW:=[3,4],aN:=fun i=>[(0,items y.1),(6,i64 i)],bn:=fun _=>[]}
def zH:aM:={Y:=List aa×aa,pre:=fun y=>iH y.1,args:=fun y=>[items y.1, .agg y.2.enc],res:=fun y=> .bool (decide (y.2∈y.1))}
def xz (y:List aa×aa):aH:={α:=Nat,ok:=fun i=>i<=y.1.length/\ ∀j (h:j<y.1.length),j<i->y.1[j]≠y.2,μ:=fun i=>y.1.length - i,aW:=[3],aN:=fun i=>[(0,items y.1),(7,i64 (Int.ofNat y.1.length)),(8,i64 i)],bn:=fun _=>[]}
def Fw:aM:={Y:=List aa×List aa,pre:=fun y=>iH y.1/\iH y.2,args:=fun y=>[items y.1,items y.2],res:=fun y=> .bool (decide (y.1=y.2))}
def xC (y:List aa×List aa):aH:={α:=Nat,ok:=fun i=>i<=y.1.length/\y.1.length=y.2.length/\y.1.take i=y.2.take i,μ:=fun i=>y.1.length - i,aW:=[],aN:=fun i=>[(0,items y.1),(1,items y.2),(5,i64 i)],bn:=fun _=>[]}
def Cr:aM:={Y:=List aa,pre:=iH,args:=fun y=>[items y],res:=fun y=>strs (bj y)}
def kT (y:List aa):aH:={α:=Nat,ok:=fun i=>i<=y.length,μ:=fun i=>y.length - i,aW:=[],aN:=fun i=>[(0,items y),(3,strs (bj (y.take i))),(4,i64 i)],bn:=fun _=>[],ff:=[3]}
def vX (y:List aa):aH:={α:=Nat×Nat,ok:=fun x=>∃h:x.1<y.length,x.2<=dU (bj (y.take x.1)) y[x.1].key.domain,μ:=fun x=>(bj (y.take x.1)).length - x.2,aW:=[],aN:=fun x=>[(0,items y),(3,strs (bj (y.take x.1))),(4,i64 x.1),(5, .str ((y[x.1]?).getD je).key.domain),(6,i64 x.2)],bn:=fun _=>[],link:=some fun a b=>b.1=a.1}
def Cs:aM:={Y:=List aa×Bs×Bool,pre:=fun y=>iH y.1,args:=fun y=>[items y.1, .str y.2.1, .bool y.2.2],res:=fun y=> .agg (fA y.1 y.2.1 y.2.2).enc}
def ku (y:List aa×Bs×Bool):aH:={α:=Nat×Int,ok:=fun x=>x.1<=y.1.length/\((x.2= -1/\fV (y.1.take x.1) y.2.1 y.2.2=none)\/ ∃b:Nat,x.2=Int.ofNat b/\ ∃h:b<y.1.length,fV (y.1.take x.1) y.2.1 y.2.2=some y.1[b]),μ:=fun x=>y.1.length - x.1,aW:=[6],aN:=fun x=>[(0,items y.1),(1, .str y.2.1),(2, .bool y.2.2),(7,i64 x.2),(8,i64 x.1)],bn:=fun _=>[]}
def uG (c:az):Prop:=c.rules.length<=100000/\ ∀s∈c.rules,s.length<=100000
def qh:aM:={Y:=az,pre:=uG,args:=fun y=>[.agg y.enc],res:=fun y=>i64 (eL y)}
noncomputable def yp (f:FuncId):Option aM:=bif Nat.beq f yC then some po else Ng f
noncomputable def yq (f:FuncId):Option aM:=bif Nat.beq f qX then some sJ else bif Nat.beq f GB then some sJ else bif Nat.beq f qG then some FR else bif Nat.beq f qH then some po else yp f
noncomputable def yr (f:FuncId):Option aM:=bif Nat.beq f Gy then some FV else yq f
noncomputable def px (f:FuncId):Option aM:=bif Nat.beq f Gx then some sI else bif Nat.beq f GC then some sI else yr f
noncomputable def nL (f:FuncId):Option aM:=bif Nat.beq f qZ then some uK else bif Nat.beq f qT then some C5 else px f
noncomputable def yu (f:FuncId):Option aM:=bif Nat.beq f mJ then some C3 else bif Nat.beq f mO then some bL else bif Nat.beq f mE then some bL else bif Nat.beq f Gt then some lv else bif Nat.beq f lG then some lv else bif Nat.beq f nf then some FD else bif Nat.beq f qB then some zH else bif Nat.beq f nc then some Fw else bif Nat.beq f mF then some Cs else bif Nat.beq f qY then some qh else bif Nat.beq f oO then some qh else nL f
noncomputable def F4 (f:FuncId):Option aM:=bif Nat.beq f kL then some Cr else yu f
end
section
variable [Inhabited aL]
theorem N9:(bV (fun(y:aM.Y sJ)=>bE bZ (cS y)) 400 qX)=(∀(y:bo×Int),
 True->
 br y.1.persistent (bU y.1.aP y.2=fb y.1 y.2/\True)
 (false=fb y.1 y.2/\True)):=by kernel_rfl
theorem XG:(bV (fun(y:aM.Y sJ)=>bE bZ (cS y)) 400 GB)=(∀(y:bo×Int),
 True->
 br y.1.persistent (bU y.1.aP y.2=fb y.1 y.2/\True)
 (false=fb y.1 y.2/\True)):=by kernel_rfl
theorem NX:(bV (fun(y:aM.Y FR)=>bE bZ (cS y)) 400 qG)=(∀(y:Int×Int),
 True->
 br (!y.1==y.1)
 (br (!y.2==y.2) (ai 0 (dc y.1 y.2)/\True) (ai (-1) (dc y.1 y.2)/\True))
 (br (!y.2==y.2) (ai 1 (dc y.1 y.2)/\True)
 (br (bw y.1 y.2) (ai (-1) (dc y.1 y.2)/\True)
 (br (bw y.2 y.1) (ai 1 (dc y.1 y.2)/\True)
 (ai 0 (dc y.1 y.2)/\True))))):=by kernel_rfl
theorem NY:(bV (fun(y:aM.Y po)=>bE yp (cS y)) 400 qH)=(∀(y:Bs×Bs),
 True->
 ∃(y_1:Bs×Bs),
 y.1=y_1.1/\y.2=y_1.2/\True/\ai (ee y_1.1 y_1.2) (ee y.1 y.2)/\True):=by kernel_rfl
theorem N4:(bV (fun(y:aM.Y FV)=>bE yq (cS y)) 600 Gy)=(∀(y:aA×aA),
 True->
 ∃(y_1:Bs×Bs),
 y.1.name=y_1.1/\
 y.2.name=y_1.2/\
 True/\
 ∃(y_2:Bs×Bs),
 y.1.domain=y_2.1/\
 y.2.domain=y_2.2/\
 True/\
 ∃(y_3:Bs×Bs),
 y.1.path=y_3.1/\
 y.2.path=y_3.2/\
 True/\
 br (!ee y_1.1 y_1.2==0)
 (ai (ee y_1.1 y_1.2) (ov y.1 y.2)/\True)
 (br (!ee y_2.1 y_2.2==0)
 (ai (ee y_2.1 y_2.2) (ov y.1 y.2)/\True)
 (br (!ee y_3.1 y_3.2==0)
 (ai (ee y_3.1 y_3.2) (ov y.1 y.2)/\True)
 (ai 0 (ov y.1 y.2)/\True)))):=by kernel_rfl
theorem N6:(bV (fun(y:aM.Y sI)=>bE yr (cS y)) 400 Gx)=(∀(y:aA×aA),
 True->
 ∃(y_1:aA×aA),
 y.1.name=y_1.1.name/\
 y.1.domain=y_1.1.domain/\
 y.1.path=y_1.1.path/\
 y.2.name=y_1.2.name/\
 y.2.domain=y_1.2.domain/\
 y.2.path=y_1.2.path/\
 True/\bw (ov y_1.1 y_1.2) 0=fk y.1 y.2/\True):=by kernel_rfl
theorem XE:(bV (fun(y:aM.Y sI)=>bE bZ (cS y)) 400 GC)=(∀(y:aA×aA),
 True->
 br (!y.1.name==y.2.name)
 (Go.Op.bytesLess y.1.name y.2.name=fk y.1 y.2/\True)
 (br (!y.1.domain==y.2.domain)
 (Go.Op.bytesLess y.1.domain y.2.domain=fk y.1 y.2/\True)
 (Go.Op.bytesLess y.1.path y.2.path=fk y.1 y.2/\True))):=by kernel_rfl
theorem YP:(bV (fun(y:aM.Y uK)=>bE px (cS y)) 600 qZ)=(∀(y:aa×aa),
 True->
 ∃(y_1:Int×Int),
 ai y.1.ab.access y_1.1/\
 ai y.2.ab.access y_1.2/\
 True/\
 ∃(y_2:Int×Int),
 ai y.1.ab.aq y_2.1/\
 ai y.2.ab.aq y_2.2/\
 True/\
 br (!dc y_1.1 y_1.2==0)
 (br (!dc y_1.1 y_1.2==0)
 (ai (dc y_1.1 y_1.2) (hZ y.1 y.2)/\True)
 (br
 (y.1.key.name==y.2.key.name&&
 (y.1.key.domain==y.2.key.domain&&
 (y.1.key.path==y.2.key.path&&true)))
 (ai (dc y_1.1 y_1.2) (hZ y.1 y.2)/\True)
 (∃(y_3:aA×aA),
 y.1.key.name=y_3.1.name/\
 y.1.key.domain=y_3.1.domain/\
 y.1.key.path=y_3.1.path/\
 y.2.key.name=y_3.2.name/\
 y.2.key.domain=y_3.2.domain/\
 y.2.key.path=y_3.2.path/\
 True/\
 br (fk y_3.1 y_3.2) (ai (-1) (hZ y.1 y.2)/\True)
 (ai 1 (hZ y.1 y.2)/\True))))
 (br (!dc y_2.1 y_2.2==0)
 (br (!dc y_2.1 y_2.2==0)
 (ai (dc y_2.1 y_2.2) (hZ y.1 y.2)/\True)
 (br
 (y.1.key.name==y.2.key.name&&
 (y.1.key.domain==y.2.key.domain&&
 (y.1.key.path==y.2.key.path&&true)))
 (ai (dc y_2.1 y_2.2) (hZ y.1 y.2)/\True)
 (∃(y_3:aA×aA),
 y.1.key.name=y_3.1.name/\
 y.1.key.domain=y_3.1.domain/\
 y.1.key.path=y_3.1.path/\
 y.2.key.name=y_3.2.name/\
 y.2.key.domain=y_3.2.domain/\
 y.2.key.path=y_3.2.path/\
 True/\
 br (fk y_3.1 y_3.2) (ai (-1) (hZ y.1 y.2)/\True)
 (ai 1 (hZ y.1 y.2)/\True))))
 (br
 (y.1.key.name==y.2.key.name&&
 (y.1.key.domain==y.2.key.domain&&
 (y.1.key.path==y.2.key.path&&true)))
 (ai 0 (hZ y.1 y.2)/\True)
 (∃(y_3:aA×aA),
 y.1.key.name=y_3.1.name/\
 y.1.key.domain=y_3.1.domain/\
 y.1.key.path=y_3.1.path/\
 y.2.key.name=y_3.2.name/\
 y.2.key.domain=y_3.2.domain/\
 y.2.key.path=y_3.2.path/\
 True/\
 br (fk y_3.1 y_3.2) (ai (-1) (hZ y.1 y.2)/\True)
 (ai 1 (hZ y.1 y.2)/\True))))):=by kernel_rfl
theorem UC:(bV (fun(y:aM.Y C5)=>bE px (cS y)) 400 qT)=(∀(y:aa×aa),
 True->
 br (!y.1.ab.access==y.2.ab.access)
 (bw y.1.ab.access y.2.ab.access=
 fx y.1 y.2/\
 True)
 (br (!y.1.ab.aq==y.2.ab.aq)
 (bw y.1.ab.aq y.2.ab.aq=
 fx y.1 y.2/\
 True)
 (∃(y_1:aA×aA),
 y.1.key.name=y_1.1.name/\
 y.1.key.domain=y_1.1.domain/\
 y.1.key.path=y_1.1.path/\
 y.2.key.name=y_1.2.name/\
 y.2.key.domain=y_1.2.domain/\
 y.2.key.path=y_1.2.path/\
 True/\fk y_1.1 y_1.2=fx y.1 y.2/\True))):=by kernel_rfl
theorem WN:(bV (fun(y:aM.Y C3)=>bE px (cr mJ 2 (xi y))) 400 mJ)=(∀(y:List aa),
 y.length<=10000->
 (∃(x:Nat),
 (1<=x/\
 x<=y.length+1/\ ∀(j:Nat) (h:j+1<y.length),j+1<x->fk (aa.key y[j]) (aa.key y[j+1])=true)/\
 (SV.aj aa y aa.enc=SV.aj aa y aa.enc/\ai 1 ↑x/\True)/\True/\True)/\
 ∀(x:Nat),
 (1<=x/\
 x<=y.length+1/\ ∀(j:Nat) (h:j+1<y.length),j+1<x->fk (aa.key y[j]) (aa.key y[j+1])=true)->
 br (bw (↑x) (Int.ofNat y.length))
 (ck (bp .i64 (↑x - 1))
 (ck (nn (↑x - 1))
 (so y[Int.toNat (↑x - 1)]? fun(val:aa)=>
 so y[Int.toNat ↑x]? fun(val_1:aa)=>
 ∃(y_1:aA×aA),
 val.key.name=y_1.1.name/\
 val.key.domain=y_1.1.domain/\
 val.key.path=y_1.1.path/\
 val_1.key.name=y_1.2.name/\
 val_1.key.domain=y_1.2.domain/\
 val_1.key.path=y_1.2.path/\
 True/\
 br (!fk y_1.1 y_1.2) (false=gS y/\True)
 (ck (bp .i64 (↑x+1))
 (∃(y_2:Nat),
 (1<=y_2/\
 y_2<=y.length+1/\
 ∀(j:Nat) (h:j+1<y.length),
 j+1<y_2->fk (aa.key y[j]) (aa.key y[j+1])=true)/\
 aH.μ (xi y) y_2<aH.μ (xi y) x/\
 (SV.aj aa y aa.enc=SV.aj aa y aa.enc/\
 ai (↑x+1) ↑y_2/\True)/\
 True/\True)))))
 (true=gS y/\True)):=by kernel_rfl
theorem UE:(bV (fun(y:aM.Y bL)=>bE bZ (cr lF 3 (jN y.1 fun(x:aa)=>Decidable.decide (x.key≠y.2)))) 600 mO)=(∀(y:List aa×aA),
 y.1.length<=10000->
 (∃(x:Nat),
 x<=y.1.length/\
 (SV.fn 98 [] [SV.ptr (SH.next (St.h {ts:=Fr.of (aM.args bL y) 0,h:={next:=0,os:=[]},log:=[]})) 0]=
 SV.fn 98 []
 [SV.ptr (SH.next (St.h {ts:=Fr.of (aM.args bL y) 0,h:={next:=0,os:=[]},log:=[]})) 0]/\
 SV.aj aa y.1 aa.enc=SV.aj aa y.1 aa.enc/\
 ai (Int.ofNat y.1.length) (Int.ofNat y.1.length)/\ai 0 ↑x/\True/\True)/\
 ((List.filter (fun(x:aa)=>Decidable.decide (x.key≠y.2)) (List.take x y.1)=[]/\
 ∀(x:aa),List.length (aa.enc x)=11)/\
 (y.2.name=y.2.name/\
 y.2.domain=y.2.domain/\y.2.path=y.2.path/\True)/\
 True)/\
 True)/\
 ∀(x:Nat),
 x<=y.1.length->
 br (bw (↑x) (Int.ofNat y.1.length))
 (so y.1[Int.toNat ↑x]? fun(val:aa)=>
 br
 (!(val.key.name==y.2.name&&
 (val.key.domain==y.2.domain&&
 (val.key.path==y.2.path&&true))))
 (∃(x_1:aa),
 (aa.enc x_1)=
 (aa.enc val)/\
 ck
 (Nat.ble
 ((List.length (List.filter (fun(x:aa)=>Decidable.decide (x.key≠y.2)) (List.take x y.1))+
 List.length [x_1])*
 96)
 16777216&&
 Nat.ble
 (List.length (List.filter (fun(x:aa)=>Decidable.decide (x.key≠y.2)) (List.take x y.1))+
 List.length [x_1])
 16777216)
 (ck (bp .i64 (↑x+1))
 (∃(y_1:Nat),
 y_1<=y.1.length/\
 aH.μ (jN y.1 fun(x:aa)=>Decidable.decide (x.key≠y.2)) y_1<
 aH.μ (jN y.1 fun(x:aa)=>Decidable.decide (x.key≠y.2)) x/\
 (SV.fn 98 []
 [SV.ptr
 (SH.next (St.h {ts:=Fr.of (aM.args bL y) 0,h:={next:=0,os:=[]},log:=[]})) 0]=
 SV.fn 98 []
 [SV.ptr
 (SH.next (St.h {ts:=Fr.of (aM.args bL y) 0,h:={next:=0,os:=[]},log:=[]})) 0]/\
 SV.aj aa y.1 aa.enc=SV.aj aa y.1 aa.enc/\
 ai (Int.ofNat y.1.length) (Int.ofNat y.1.length)/\ai (↑x+1) ↑y_1/\True/\True)/\
 (SV.aj aa
 (List.filter (fun(x:aa)=>Decidable.decide (x.key≠y.2)) (List.take x y.1)++[x_1])
 aa.enc=
 SV.aj aa
 (List.filter (fun(x:aa)=>Decidable.decide (x.key≠y.2)) (List.take y_1 y.1))
 aa.enc/\
 (y.2.name=y.2.name/\
 y.2.domain=y.2.domain/\
 y.2.path=y.2.path/\True)/\
 True)/\
 True)))
 (ck (bp .i64 (↑x+1))
 (∃(y_1:Nat),
 y_1<=y.1.length/\
 aH.μ (jN y.1 fun(x:aa)=>Decidable.decide (x.key≠y.2)) y_1<
 aH.μ (jN y.1 fun(x:aa)=>Decidable.decide (x.key≠y.2)) x/\
 (SV.fn 98 []
 [SV.ptr (SH.next (St.h {ts:=Fr.of (aM.args bL y) 0,h:={next:=0,os:=[]},log:=[]}))
 0]=
 SV.fn 98 []
 [SV.ptr (SH.next (St.h {ts:=Fr.of (aM.args bL y) 0,h:={next:=0,os:=[]},log:=[]}))
 0]/\
 SV.aj aa y.1 aa.enc=SV.aj aa y.1 aa.enc/\
 ai (Int.ofNat y.1.length) (Int.ofNat y.1.length)/\ai (↑x+1) ↑y_1/\True/\True)/\
 (SV.aj aa
 (List.filter (fun(x:aa)=>Decidable.decide (x.key≠y.2)) (List.take x y.1))
 aa.enc=
 SV.aj aa
 (List.filter (fun(x:aa)=>Decidable.decide (x.key≠y.2)) (List.take y_1 y.1))
 aa.enc/\
 (y.2.name=y.2.name/\
 y.2.domain=y.2.domain/\
 y.2.path=y.2.path/\True)/\
 True)/\
 True)))
 (SV.aj aa (List.filter (fun(x:aa)=>Decidable.decide (x.key≠y.2)) (List.take x y.1))
 aa.enc=
 SV.aj aa (eP y.1 y.2) aa.enc/\
 True)):=by kernel_rfl
theorem Sm:(bV (fun(y:aM.Y bL)=>bE bZ (cr mE 3 (rJ y))) 400 mE)=(∀(y:List aa×aA),
 y.1.length<=10000->
 (∃(x:Nat),
 x<=y.1.length/\
 (True/\SV.aj aa y.1 aa.enc=SV.aj aa y.1 aa.enc/\True/\ai 0 ↑x/\True)/\
 (SV.aj (View.X {X:=aa,enc:=aa.enc}) [] (View.enc {X:=aa,enc:=aa.enc})=
 SV.aj aa (List.filter (fun(x:aa)=>Decidable.decide (x.key≠y.2)) (List.take x y.1))
 aa.enc/\
 (y.2.name=y.2.name/\
 y.2.domain=y.2.domain/\y.2.path=y.2.path/\True)/\
 True)/\
 True)/\
 ∀(x:Nat),
 x<=y.1.length->
 br (bw (↑x) (Int.ofNat y.1.length))
 (so y.1[Int.toNat ↑x]? fun(val:aa)=>
 br
 (!(val.key.name==y.2.name&&
 (val.key.domain==y.2.domain&&
 (val.key.path==y.2.path&&true))))
 (so y.1[Int.toNat ↑x]? fun(val:aa)=>
 ∃(x_1:aa),
 (aa.enc x_1)=
 (aa.enc val)/\
 ck
 (Nat.ble
 ((List.length (List.filter (fun(x:aa)=>Decidable.decide (x.key≠y.2)) (List.take x y.1))+
 List.length [x_1])*
 96)
 16777216&&
 Nat.ble
 (List.length (List.filter (fun(x:aa)=>Decidable.decide (x.key≠y.2)) (List.take x y.1))+
 List.length [x_1])
 16777216)
 (ck (bp .i64 (↑x+1))
 (∃(y_1:Nat),
 y_1<=y.1.length/\
 aH.μ (rJ y) y_1<aH.μ (rJ y) x/\
 (True/\
 SV.aj aa y.1 aa.enc=SV.aj aa y.1 aa.enc/\
 True/\ai (↑x+1) ↑y_1/\True)/\
 (SV.aj aa
 (List.filter (fun(x:aa)=>Decidable.decide (x.key≠y.2)) (List.take x y.1)++[x_1])
 aa.enc=
 SV.aj aa
 (List.filter (fun(x:aa)=>Decidable.decide (x.key≠y.2)) (List.take y_1 y.1))
 aa.enc/\
 (y.2.name=y.2.name/\
 y.2.domain=y.2.domain/\
 y.2.path=y.2.path/\True)/\
 True)/\
 True)))
 (ck (bp .i64 (↑x+1))
 (∃(y_1:Nat),
 y_1<=y.1.length/\
 aH.μ (rJ y) y_1<aH.μ (rJ y) x/\
 (True/\
 SV.aj aa y.1 aa.enc=SV.aj aa y.1 aa.enc/\
 True/\ai (↑x+1) ↑y_1/\True)/\
 (SV.aj aa
 (List.filter (fun(x:aa)=>Decidable.decide (x.key≠y.2)) (List.take x y.1))
 aa.enc=
 SV.aj aa
 (List.filter (fun(x:aa)=>Decidable.decide (x.key≠y.2)) (List.take y_1 y.1))
 aa.enc/\
 (y.2.name=y.2.name/\
 y.2.domain=y.2.domain/\
 y.2.path=y.2.path/\True)/\
 True)/\
 True)))
 (SV.aj aa (List.filter (fun(x:aa)=>Decidable.decide (x.key≠y.2)) (List.take x y.1))
 aa.enc=
 SV.aj aa (eP y.1 y.2) aa.enc/\
 True)):=by kernel_rfl
theorem WJ:(bV (fun(y:aM.Y lv)=>bE bZ (cr lF 3 (jN y.1 fun(x:aa)=>Decidable.decide (x.key.domain=y.2)))) 600 Gt)=(∀(y:List aa×Bs),
 y.1.length<=10000->
 (∃(x:Nat),
 x<=y.1.length/\
 (SV.fn 99 [] [SV.ptr (SH.next (St.h {ts:=Fr.of (aM.args lv y) 0,h:={next:=0,os:=[]},log:=[]})) 0]=
 SV.fn 99 []
 [SV.ptr (SH.next (St.h {ts:=Fr.of (aM.args lv y) 0,h:={next:=0,os:=[]},log:=[]})) 0]/\
 SV.aj aa y.1 aa.enc=SV.aj aa y.1 aa.enc/\
 ai (Int.ofNat y.1.length) (Int.ofNat y.1.length)/\ai 0 ↑x/\True/\True)/\
 ((List.filter (fun(x:aa)=>Decidable.decide (x.key.domain=y.2)) (List.take x y.1)=[]/\
 ∀(x:aa),List.length (aa.enc x)=11)/\
 (y.2=y.2/\True)/\True)/\
 True)/\
 ∀(x:Nat),
 x<=y.1.length->
 br (bw (↑x) (Int.ofNat y.1.length))
 (so y.1[Int.toNat ↑x]? fun(val:aa)=>
 br (val.key.domain==y.2)
 (∃(x_1:aa),
 (aa.enc x_1)=
 (aa.enc val)/\
 ck
 (Nat.ble
 ((List.length
 (List.filter (fun(x:aa)=>Decidable.decide (x.key.domain=y.2))
 (List.take x y.1))+
 List.length [x_1])*
 96)
 16777216&&
 Nat.ble
 (List.length
 (List.filter (fun(x:aa)=>Decidable.decide (x.key.domain=y.2))
 (List.take x y.1))+
 List.length [x_1])
 16777216)
 (ck (bp .i64 (↑x+1))
 (∃(y_1:Nat),
 y_1<=y.1.length/\
 aH.μ (jN y.1 fun(x:aa)=>Decidable.decide (x.key.domain=y.2))
 y_1<
 aH.μ
 (jN y.1 fun(x:aa)=>Decidable.decide (x.key.domain=y.2)) x/\
 (SV.fn 99 []
 [SV.ptr
 (SH.next (St.h {ts:=Fr.of (aM.args lv y) 0,h:={next:=0,os:=[]},log:=[]})) 0]=
 SV.fn 99 []
 [SV.ptr
 (SH.next (St.h {ts:=Fr.of (aM.args lv y) 0,h:={next:=0,os:=[]},log:=[]})) 0]/\
 SV.aj aa y.1 aa.enc=SV.aj aa y.1 aa.enc/\
 ai (Int.ofNat y.1.length) (Int.ofNat y.1.length)/\ai (↑x+1) ↑y_1/\True/\True)/\
 (SV.aj aa
 (List.filter (fun(x:aa)=>Decidable.decide (x.key.domain=y.2))
 (List.take x y.1)++
 [x_1])
 aa.enc=
 SV.aj aa
 (List.filter (fun(x:aa)=>Decidable.decide (x.key.domain=y.2))
 (List.take y_1 y.1))
 aa.enc/\
 (y.2=y.2/\True)/\True)/\
 True)))
 (ck (bp .i64 (↑x+1))
 (∃(y_1:Nat),
 y_1<=y.1.length/\
 aH.μ (jN y.1 fun(x:aa)=>Decidable.decide (x.key.domain=y.2)) y_1<
 aH.μ (jN y.1 fun(x:aa)=>Decidable.decide (x.key.domain=y.2)) x/\
 (SV.fn 99 []
 [SV.ptr (SH.next (St.h {ts:=Fr.of (aM.args lv y) 0,h:={next:=0,os:=[]},log:=[]}))
 0]=
 SV.fn 99 []
 [SV.ptr (SH.next (St.h {ts:=Fr.of (aM.args lv y) 0,h:={next:=0,os:=[]},log:=[]}))
 0]/\
 SV.aj aa y.1 aa.enc=SV.aj aa y.1 aa.enc/\
 ai (Int.ofNat y.1.length) (Int.ofNat y.1.length)/\ai (↑x+1) ↑y_1/\True/\True)/\
 (SV.aj aa
 (List.filter (fun(x:aa)=>Decidable.decide (x.key.domain=y.2))
 (List.take x y.1))
 aa.enc=
 SV.aj aa
 (List.filter (fun(x:aa)=>Decidable.decide (x.key.domain=y.2))
 (List.take y_1 y.1))
 aa.enc/\
 (y.2=y.2/\True)/\True)/\
 True)))
 (SV.aj aa
 (List.filter (fun(x:aa)=>Decidable.decide (x.key.domain=y.2)) (List.take x y.1))
 aa.enc=
 SV.aj aa (eZ y.1 y.2) aa.enc/\
 True)):=by kernel_rfl
theorem Uz:(bV (fun(y:aM.Y lv)=>bE bZ (cr lG 3 (rN y))) 400 lG)=(∀(y:List aa×Bs),
 y.1.length<=10000->
 (∃(x:Nat),
 x<=y.1.length/\
 (SV.aj aa y.1 aa.enc=SV.aj aa y.1 aa.enc/\
 y.2=y.2/\True/\ai 0 ↑x/\True)/\
 (SV.aj (View.X {X:=aa,enc:=aa.enc}) [] (View.enc {X:=aa,enc:=aa.enc})=
 SV.aj aa
 (List.filter (fun(x:aa)=>Decidable.decide (x.key.domain=y.2)) (List.take x y.1))
 aa.enc/\
 True)/\
 True)/\
 ∀(x:Nat),
 x<=y.1.length->
 br (bw (↑x) (Int.ofNat y.1.length))
 (so y.1[Int.toNat ↑x]? fun(val:aa)=>
 br (val.key.domain==y.2)
 (so y.1[Int.toNat ↑x]? fun(val:aa)=>
 ∃(x_1:aa),
 (aa.enc x_1)=
 (aa.enc val)/\
 ck
 (Nat.ble
 ((List.length
 (List.filter (fun(x:aa)=>Decidable.decide (x.key.domain=y.2))
 (List.take x y.1))+
 List.length [x_1])*
 96)
 16777216&&
 Nat.ble
 (List.length
 (List.filter (fun(x:aa)=>Decidable.decide (x.key.domain=y.2))
 (List.take x y.1))+
 List.length [x_1])
 16777216)
 (ck (bp .i64 (↑x+1))
 (∃(y_1:Nat),
 y_1<=y.1.length/\
 aH.μ (rN y) y_1<aH.μ (rN y) x/\
 (SV.aj aa y.1 aa.enc=SV.aj aa y.1 aa.enc/\
 y.2=y.2/\True/\ai (↑x+1) ↑y_1/\True)/\
 (SV.aj aa
 (List.filter (fun(x:aa)=>Decidable.decide (x.key.domain=y.2))
 (List.take x y.1)++
 [x_1])
 aa.enc=
 SV.aj aa
 (List.filter (fun(x:aa)=>Decidable.decide (x.key.domain=y.2))
 (List.take y_1 y.1))
 aa.enc/\
 True)/\
 True)))
 (ck (bp .i64 (↑x+1))
 (∃(y_1:Nat),
 y_1<=y.1.length/\
 aH.μ (rN y) y_1<aH.μ (rN y) x/\
 (SV.aj aa y.1 aa.enc=SV.aj aa y.1 aa.enc/\
 y.2=y.2/\True/\ai (↑x+1) ↑y_1/\True)/\
 (SV.aj aa
 (List.filter (fun(x:aa)=>Decidable.decide (x.key.domain=y.2))
 (List.take x y.1))
 aa.enc=
 SV.aj aa
 (List.filter (fun(x:aa)=>Decidable.decide (x.key.domain=y.2))
 (List.take y_1 y.1))
 aa.enc/\
 True)/\
 True)))
 (SV.aj aa
 (List.filter (fun(x:aa)=>Decidable.decide (x.key.domain=y.2)) (List.take x y.1))
 aa.enc=
 SV.aj aa (eZ y.1 y.2) aa.enc/\
 True)):=by kernel_rfl
theorem X6:(bV (fun(y:aM.Y FD)=>bE bZ (cr nf 2 (xw y))) 400 nf)=(∀(y:List aa×aA),
 y.1.length<=10000->
 (∃(x:Nat),
 (x<=y.1.length/\ ∀(j:Nat) (h:j<y.1.length),j<x->aa.key y.1[j]=y.2->False)/\
 (True/\True/\SV.aj aa y.1 aa.enc=SV.aj aa y.1 aa.enc/\ai 0 ↑x/\True)/\
 ((([]:List UInt8)=[]/\
 ([]:List UInt8)=[]/\
 ([]:List UInt8)=[]/\
 ([]:List UInt8)=[]/\
 false=false/\
 false=false/\false=false/\false=false/\ai 0 0/\ai 0 0/\ai 0 0/\True)/\
 (y.2.name=y.2.name/\
 y.2.domain=y.2.domain/\y.2.path=y.2.path/\True)/\
 True)/\
 True)/\
 ∀(x:Nat),
 (x<=y.1.length/\ ∀(j:Nat) (h:j<y.1.length),j<x->aa.key y.1[j]=y.2->False)->
 br (bw (↑x) (Int.ofNat y.1.length))
 (so y.1[Int.toNat ↑x]? fun(val:aa)=>
 br
 (val.key.name==y.2.name&&
 (val.key.domain==y.2.domain&&
 (val.key.path==y.2.path&&true)))
 (so y.1[Int.toNat ↑x]? fun(val:aa)=>
 val.key.name=aA.name (aa.key (Prod.fst (eB y.1 y.2)))/\
 val.key.domain=aA.domain (aa.key (Prod.fst (eB y.1 y.2)))/\
 val.key.path=aA.path (aa.key (Prod.fst (eB y.1 y.2)))/\
 val.ab.value=
 bo.value (aa.ab (Prod.fst (eB y.1 y.2)))/\
 val.ab.aF=
 bo.aF (aa.ab (Prod.fst (eB y.1 y.2)))/\
 val.ab.aV=
 bo.aV (aa.ab (Prod.fst (eB y.1 y.2)))/\
 val.ab.aG=
 bo.aG (aa.ab (Prod.fst (eB y.1 y.2)))/\
 val.ab.persistent=
 bo.persistent (aa.ab (Prod.fst (eB y.1 y.2)))/\
 ai val.ab.aP
 (bo.aP (aa.ab (Prod.fst (eB y.1 y.2))))/\
 ai val.ab.aq
 (bo.aq (aa.ab (Prod.fst (eB y.1 y.2))))/\
 ai val.ab.access
 (bo.access (aa.ab (Prod.fst (eB y.1 y.2))))/\
 true=Prod.snd (eB y.1 y.2)/\True)
 (ck (bp .i64 (↑x+1))
 (∃(y_1:Nat),
 (y_1<=y.1.length/\ ∀(j:Nat) (h:j<y.1.length),j<y_1->aa.key y.1[j]=y.2->False)/\
 aH.μ (xw y) y_1<aH.μ (xw y) x/\
 (True/\
 True/\
 SV.aj aa y.1 aa.enc=SV.aj aa y.1 aa.enc/\
 ai (↑x+1) ↑y_1/\True)/\
 ((([]:List UInt8)=[]/\
 ([]:List UInt8)=[]/\
 ([]:List UInt8)=[]/\
 ([]:List UInt8)=[]/\
 false=false/\
 false=false/\false=false/\false=false/\ai 0 0/\ai 0 0/\ai 0 0/\True)/\
 (y.2.name=y.2.name/\
 y.2.domain=y.2.domain/\
 y.2.path=y.2.path/\True)/\
 True)/\
 True)))
 ([]=aA.name (aa.key (Prod.fst (eB y.1 y.2)))/\
 []=aA.domain (aa.key (Prod.fst (eB y.1 y.2)))/\
 []=aA.path (aa.key (Prod.fst (eB y.1 y.2)))/\
 []=bo.value (aa.ab (Prod.fst (eB y.1 y.2)))/\
 false=bo.aF (aa.ab (Prod.fst (eB y.1 y.2)))/\
 false=bo.aV (aa.ab (Prod.fst (eB y.1 y.2)))/\
 false=bo.aG (aa.ab (Prod.fst (eB y.1 y.2)))/\
 false=bo.persistent (aa.ab (Prod.fst (eB y.1 y.2)))/\
 ai 0 (bo.aP (aa.ab (Prod.fst (eB y.1 y.2))))/\
 ai 0 (bo.aq (aa.ab (Prod.fst (eB y.1 y.2))))/\
 ai 0 (bo.access (aa.ab (Prod.fst (eB y.1 y.2))))/\
 false=Prod.snd (eB y.1 y.2)/\True)):=by kernel_rfl
theorem Sk:(bV (fun(y:aM.Y zH)=>bE bZ (cr vm 2 (xz y))) 400 qB)=(∀(y:List aa×aa),
 y.1.length<=10000->
 (∃(x:Nat),
 (x<=y.1.length/\ ∀(j:Nat) (h:j<y.1.length),j<x->y.1[j]=y.2->False)/\
 (True/\
 SV.aj aa y.1 aa.enc=SV.aj aa y.1 aa.enc/\
 ai (Int.ofNat y.1.length) (Int.ofNat y.1.length)/\ai 0 ↑x/\True)/\
 ((y.2.key.name=y.2.key.name/\
 y.2.key.domain=y.2.key.domain/\
 y.2.key.path=y.2.key.path/\
 y.2.ab.value=y.2.ab.value/\
 y.2.ab.aF=y.2.ab.aF/\
 y.2.ab.aV=y.2.ab.aV/\
 y.2.ab.aG=y.2.ab.aG/\
 y.2.ab.persistent=y.2.ab.persistent/\
 ai y.2.ab.aP y.2.ab.aP/\
 ai y.2.ab.aq y.2.ab.aq/\
 ai y.2.ab.access y.2.ab.access/\
 True)/\
 (y.2.key.name=y.2.key.name/\
 y.2.key.domain=y.2.key.domain/\
 y.2.key.path=y.2.key.path/\
 y.2.ab.value=y.2.ab.value/\
 y.2.ab.aF=y.2.ab.aF/\
 y.2.ab.aV=y.2.ab.aV/\
 y.2.ab.aG=y.2.ab.aG/\
 y.2.ab.persistent=y.2.ab.persistent/\
 ai y.2.ab.aP y.2.ab.aP/\
 ai y.2.ab.aq
 y.2.ab.aq/\
 ai y.2.ab.access y.2.ab.access/\
 True)/\
 True)/\
 True)/\
 ∀(x:Nat),
 (x<=y.1.length/\ ∀(j:Nat) (h:j<y.1.length),j<x->y.1[j]=y.2->False)->
 br (bw (↑x) (Int.ofNat y.1.length))
 (so y.1[Int.toNat ↑x]? fun(val:aa)=>
 br
 (y.2.key.name==val.key.name&&
 (y.2.key.domain==val.key.domain&&
 (y.2.key.path==val.key.path&&true))&&
 (y.2.ab.value==val.ab.value&&
 (y.2.ab.aF==val.ab.aF&&
 (y.2.ab.aV==val.ab.aV&&
 (y.2.ab.aG==val.ab.aG&&
 (y.2.ab.persistent==val.ab.persistent&&
 (y.2.ab.aP==val.ab.aP&&
 (y.2.ab.aq==val.ab.aq&&
 (y.2.ab.access==val.ab.access&&true)))))))&&
 true))
 (bU 0 ↑x=Decidable.decide (y.2∈y.1)/\True)
 (ck (bp .i64 (↑x+1))
 (∃(y_1:Nat),
 (y_1<=y.1.length/\ ∀(j:Nat) (h:j<y.1.length),j<y_1->y.1[j]=y.2->False)/\
 aH.μ (xz y) y_1<aH.μ (xz y) x/\
 (True/\
 SV.aj aa y.1 aa.enc=SV.aj aa y.1 aa.enc/\
 ai (Int.ofNat y.1.length) (Int.ofNat y.1.length)/\ai (↑x+1) ↑y_1/\True)/\
 ((y.2.key.name=y.2.key.name/\
 y.2.key.domain=y.2.key.domain/\
 y.2.key.path=y.2.key.path/\
 y.2.ab.value=y.2.ab.value/\
 y.2.ab.aF=y.2.ab.aF/\
 y.2.ab.aV=y.2.ab.aV/\
 y.2.ab.aG=y.2.ab.aG/\
 y.2.ab.persistent=
 y.2.ab.persistent/\
 ai y.2.ab.aP
 y.2.ab.aP/\
 ai y.2.ab.aq
 y.2.ab.aq/\
 ai y.2.ab.access
 y.2.ab.access/\
 True)/\
 (y.2.key.name=y.2.key.name/\
 y.2.key.domain=y.2.key.domain/\
 y.2.key.path=y.2.key.path/\
 y.2.ab.value=y.2.ab.value/\
 y.2.ab.aF=y.2.ab.aF/\
 y.2.ab.aV=y.2.ab.aV/\
 y.2.ab.aG=y.2.ab.aG/\
 y.2.ab.persistent=
 y.2.ab.persistent/\
 ai y.2.ab.aP
 y.2.ab.aP/\
 ai y.2.ab.aq
 y.2.ab.aq/\
 ai y.2.ab.access
 y.2.ab.access/\
 True)/\
 True)/\
 True)))
 (bU 0 (-1)=Decidable.decide (y.2∈y.1)/\True)):=by kernel_rfl
theorem XJ:(bV (fun(y:aM.Y Fw)=>bE bZ (cr nc 4 (xC y))) 400 nc)=(∀(y:List aa×List aa),
 y.1.length<=10000/\y.2.length<=10000->
 br (!Int.ofNat y.1.length==Int.ofNat y.2.length) (false=Decidable.decide (y.1=y.2)/\True)
 ((∃(x:Nat),
 (x<=y.1.length/\y.1.length=y.2.length/\List.take x y.1=List.take x y.2)/\
 (SV.aj aa y.1 aa.enc=SV.aj aa y.1 aa.enc/\
 SV.aj aa y.2 aa.enc=SV.aj aa y.2 aa.enc/\ai 0 ↑x/\True)/\
 True/\True)/\
 ∀(x:Nat),
 x<=y.1.length/\y.1.length=y.2.length/\List.take x y.1=List.take x y.2->
 br (bw (↑x) (Int.ofNat y.1.length))
 (so y.1[Int.toNat ↑x]? fun(val:aa)=>
 so y.2[Int.toNat ↑x]? fun(val_1:aa)=>
 br
 (!(val.key.name==val_1.key.name&&
 (val.key.domain==val_1.key.domain&&
 (val.key.path==val_1.key.path&&true))&&
 (val.ab.value==val_1.ab.value&&
 (val.ab.aF==val_1.ab.aF&&
 (val.ab.aV==val_1.ab.aV&&
 (val.ab.aG==val_1.ab.aG&&
 (val.ab.persistent==val_1.ab.persistent&&
 (val.ab.aP==val_1.ab.aP&&
 (val.ab.aq==val_1.ab.aq&&
 (val.ab.access==val_1.ab.access&&true)))))))&&
 true)))
 (false=Decidable.decide (y.1=y.2)/\True)
 (ck (bp .i64 (↑x+1))
 (∃(y_1:Nat),
 (y_1<=y.1.length/\y.1.length=y.2.length/\List.take y_1 y.1=List.take y_1 y.2)/\
 aH.μ (xC y) y_1<aH.μ (xC y) x/\
 (SV.aj aa y.1 aa.enc=SV.aj aa y.1 aa.enc/\
 SV.aj aa y.2 aa.enc=SV.aj aa y.2 aa.enc/\
 ai (↑x+1) ↑y_1/\True)/\
 True/\True)))
 (true=Decidable.decide (y.1=y.2)/\True))):=by kernel_rfl
theorem UD:(bV (fun(y:aM.Y Cs)=>bE nL (cr mF 3 (ku y))) 600 mF)=(∀(y:List aa×Bs×Bool),
 y.1.length<=10000->
 (∃(x:Nat×Int),
 (x.1<=y.1.length/\
 (x.2= -1/\fV (List.take x.1 y.1) y.2.1 y.2.2=Option.none\/
 ∃(b:Nat),
 x.2=Int.ofNat b/\
 ∃(h:b<y.1.length),
 fV (List.take x.1 y.1) y.2.1 y.2.2=Option.some y.1[b]))/\
 (True/\
 SV.aj aa y.1 aa.enc=SV.aj aa y.1 aa.enc/\
 y.2.1=y.2.1/\y.2.2=y.2.2/\ai (-1) x.2/\ai 0 ↑x.1/\True)/\
 ((([]:List UInt8)=[]/\([]:List UInt8)=[]/\([]:List UInt8)=[]/\True)/\True)/\True)/\
 ∀(x:Nat×Int),
 x.1<=y.1.length/\
 (x.2= -1/\fV (List.take x.1 y.1) y.2.1 y.2.2=Option.none\/
 ∃(b:Nat),
 x.2=Int.ofNat b/\
 ∃(h:b<y.1.length),
 fV (List.take x.1 y.1) y.2.1 y.2.2=Option.some y.1[b])->
 br (bw (↑x.1) (Int.ofNat y.1.length))
 (br (!y.2.2)
 (so y.1[Int.toNat ↑x.1]? fun(val:aa)=>
 br (!val.key.domain==y.2.1)
 (ck (bp .i64 (↑x.1+1))
 (∃(y_1:Nat×Int),
 (y_1.1<=y.1.length/\
 (y_1.2= -1/\fV (List.take y_1.1 y.1) y.2.1 y.2.2=Option.none\/
 ∃(b:Nat),
 y_1.2=Int.ofNat b/\
 ∃(h:b<y.1.length),
 fV (List.take y_1.1 y.1) y.2.1 y.2.2=Option.some y.1[b]))/\
 aH.μ (ku y) y_1<aH.μ (ku y) x/\
 (True/\
 SV.aj aa y.1 aa.enc=SV.aj aa y.1 aa.enc/\
 y.2.1=y.2.1/\
 y.2.2=y.2.2/\ai x.2 y_1.2/\ai (↑x.1+1) ↑y_1.1/\True)/\
 ((([]:List UInt8)=[]/\([]:List UInt8)=[]/\([]:List UInt8)=[]/\True)/\True)/\True))
 (br (bw x.2 0)
 (ck (bp .i64 (↑x.1+1))
 (∃(y_1:Nat×Int),
 (y_1.1<=y.1.length/\
 (y_1.2= -1/\fV (List.take y_1.1 y.1) y.2.1 y.2.2=Option.none\/
 ∃(b:Nat),
 y_1.2=Int.ofNat b/\
 ∃(h:b<y.1.length),
 fV (List.take y_1.1 y.1) y.2.1 y.2.2=Option.some y.1[b]))/\
 aH.μ (ku y) y_1<aH.μ (ku y) x/\
 (True/\
 SV.aj aa y.1 aa.enc=SV.aj aa y.1 aa.enc/\
 y.2.1=y.2.1/\
 y.2.2=y.2.2/\
 ai (↑x.1) y_1.2/\ai (↑x.1+1) ↑y_1.1/\True)/\
 ((([]:List UInt8)=[]/\([]:List UInt8)=[]/\([]:List UInt8)=[]/\True)/\True)/\True))
 (so y.1[Int.toNat ↑x.1]? fun(val:aa)=>
 ck (nn x.2)
 (so y.1[Int.toNat x.2]? fun(val_1:aa)=>
 ∃(y_1:aa×aa),
 val.key.name=y_1.1.key.name/\
 val.key.domain=y_1.1.key.domain/\
 val.key.path=y_1.1.key.path/\
 val.ab.value=y_1.1.ab.value/\
 val.ab.aF=y_1.1.ab.aF/\
 val.ab.aV=y_1.1.ab.aV/\
 val.ab.aG=y_1.1.ab.aG/\
 val.ab.persistent=y_1.1.ab.persistent/\
 ai val.ab.aP y_1.1.ab.aP/\
 ai val.ab.aq
 y_1.1.ab.aq/\
 ai val.ab.access
 y_1.1.ab.access/\
 val_1.key.name=y_1.2.key.name/\
 val_1.key.domain=y_1.2.key.domain/\
 val_1.key.path=y_1.2.key.path/\
 val_1.ab.value=y_1.2.ab.value/\
 val_1.ab.aF=
 y_1.2.ab.aF/\
 val_1.ab.aV=
 y_1.2.ab.aV/\
 val_1.ab.aG=
 y_1.2.ab.aG/\
 val_1.ab.persistent=
 y_1.2.ab.persistent/\
 ai val_1.ab.aP
 y_1.2.ab.aP/\
 ai val_1.ab.aq
 y_1.2.ab.aq/\
 ai val_1.ab.access
 y_1.2.ab.access/\
 True/\
 br (fx y_1.1 y_1.2)
 (ck (bp .i64 (↑x.1+1))
 (∃(y_2:Nat×Int),
 (y_2.1<=y.1.length/\
 (y_2.2= -1/\
 fV (List.take y_2.1 y.1) y.2.1
 y.2.2=
 Option.none\/
 ∃(b:Nat),
 y_2.2=Int.ofNat b/\
 ∃(h:b<y.1.length),
 fV (List.take y_2.1 y.1) y.2.1
 y.2.2=
 Option.some y.1[b]))/\
 aH.μ (ku y) y_2<aH.μ (ku y) x/\
 (True/\
 SV.aj aa y.1 aa.enc=
 SV.aj aa y.1 aa.enc/\
 y.2.1=y.2.1/\
 y.2.2=y.2.2/\
 ai (↑x.1) y_2.2/\
 ai (↑x.1+1) ↑y_2.1/\True)/\
 ((([]:List UInt8)=[]/\([]:List UInt8)=[]/\([]:List UInt8)=[]/\True)/\True)/\True))
 (ck (bp .i64 (↑x.1+1))
 (∃(y_2:Nat×Int),
 (y_2.1<=y.1.length/\
 (y_2.2= -1/\
 fV (List.take y_2.1 y.1) y.2.1
 y.2.2=
 Option.none\/
 ∃(b:Nat),
 y_2.2=Int.ofNat b/\
 ∃(h:b<y.1.length),
 fV (List.take y_2.1 y.1) y.2.1
 y.2.2=
 Option.some y.1[b]))/\
 aH.μ (ku y) y_2<aH.μ (ku y) x/\
 (True/\
 SV.aj aa y.1 aa.enc=
 SV.aj aa y.1 aa.enc/\
 y.2.1=y.2.1/\
 y.2.2=y.2.2/\
 ai x.2 y_2.2/\
 ai (↑x.1+1) ↑y_2.1/\True)/\
 ((([]:List UInt8)=[]/\([]:List UInt8)=[]/\([]:List UInt8)=[]/\True)/\True)/\True))))))
 (br (bw x.2 0)
 (ck (bp .i64 (↑x.1+1))
 (∃(y_1:Nat×Int),
 (y_1.1<=y.1.length/\
 (y_1.2= -1/\fV (List.take y_1.1 y.1) y.2.1 y.2.2=Option.none\/
 ∃(b:Nat),
 y_1.2=Int.ofNat b/\
 ∃(h:b<y.1.length),
 fV (List.take y_1.1 y.1) y.2.1 y.2.2=Option.some y.1[b]))/\
 aH.μ (ku y) y_1<aH.μ (ku y) x/\
 (True/\
 SV.aj aa y.1 aa.enc=SV.aj aa y.1 aa.enc/\
 y.2.1=y.2.1/\
 y.2.2=y.2.2/\ai (↑x.1) y_1.2/\ai (↑x.1+1) ↑y_1.1/\True)/\
 ((([]:List UInt8)=[]/\([]:List UInt8)=[]/\([]:List UInt8)=[]/\True)/\True)/\True))
 (so y.1[Int.toNat ↑x.1]? fun(val:aa)=>
 ck (nn x.2)
 (so y.1[Int.toNat x.2]? fun(val_1:aa)=>
 ∃(y_1:aa×aa),
 val.key.name=y_1.1.key.name/\
 val.key.domain=y_1.1.key.domain/\
 val.key.path=y_1.1.key.path/\
 val.ab.value=y_1.1.ab.value/\
 val.ab.aF=y_1.1.ab.aF/\
 val.ab.aV=y_1.1.ab.aV/\
 val.ab.aG=y_1.1.ab.aG/\
 val.ab.persistent=y_1.1.ab.persistent/\
 ai val.ab.aP y_1.1.ab.aP/\
 ai val.ab.aq y_1.1.ab.aq/\
 ai val.ab.access y_1.1.ab.access/\
 val_1.key.name=y_1.2.key.name/\
 val_1.key.domain=y_1.2.key.domain/\
 val_1.key.path=y_1.2.key.path/\
 val_1.ab.value=y_1.2.ab.value/\
 val_1.ab.aF=
 y_1.2.ab.aF/\
 val_1.ab.aV=y_1.2.ab.aV/\
 val_1.ab.aG=
 y_1.2.ab.aG/\
 val_1.ab.persistent=
 y_1.2.ab.persistent/\
 ai val_1.ab.aP
 y_1.2.ab.aP/\
 ai val_1.ab.aq
 y_1.2.ab.aq/\
 ai val_1.ab.access
 y_1.2.ab.access/\
 True/\
 br (fx y_1.1 y_1.2)
 (ck (bp .i64 (↑x.1+1))
 (∃(y_2:Nat×Int),
 (y_2.1<=y.1.length/\
 (y_2.2= -1/\
 fV (List.take y_2.1 y.1) y.2.1
 y.2.2=
 Option.none\/
 ∃(b:Nat),
 y_2.2=Int.ofNat b/\
 ∃(h:b<y.1.length),
 fV (List.take y_2.1 y.1) y.2.1
 y.2.2=
 Option.some y.1[b]))/\
 aH.μ (ku y) y_2<aH.μ (ku y) x/\
 (True/\
 SV.aj aa y.1 aa.enc=
 SV.aj aa y.1 aa.enc/\
 y.2.1=y.2.1/\
 y.2.2=y.2.2/\
 ai (↑x.1) y_2.2/\
 ai (↑x.1+1) ↑y_2.1/\True)/\
 ((([]:List UInt8)=[]/\([]:List UInt8)=[]/\([]:List UInt8)=[]/\True)/\True)/\True))
 (ck (bp .i64 (↑x.1+1))
 (∃(y_2:Nat×Int),
 (y_2.1<=y.1.length/\
 (y_2.2= -1/\
 fV (List.take y_2.1 y.1) y.2.1
 y.2.2=
 Option.none\/
 ∃(b:Nat),
 y_2.2=Int.ofNat b/\
 ∃(h:b<y.1.length),
 fV (List.take y_2.1 y.1) y.2.1
 y.2.2=
 Option.some y.1[b]))/\
 aH.μ (ku y) y_2<aH.μ (ku y) x/\
 (True/\
 SV.aj aa y.1 aa.enc=
 SV.aj aa y.1 aa.enc/\
 y.2.1=y.2.1/\
 y.2.2=y.2.2/\
 ai x.2 y_2.2/\
 ai (↑x.1+1) ↑y_2.1/\True)/\
 ((([]:List UInt8)=[]/\([]:List UInt8)=[]/\([]:List UInt8)=[]/\True)/\True)/\True))))))
 (br (bw x.2 0)
 ([]=aA.name (fA y.1 y.2.1 y.2.2)/\
 []=aA.domain (fA y.1 y.2.1 y.2.2)/\
 []=aA.path (fA y.1 y.2.1 y.2.2)/\True)
 (ck (nn x.2)
 (so y.1[Int.toNat x.2]? fun(val:aa)=>
 val.key.name=aA.name (fA y.1 y.2.1 y.2.2)/\
 val.key.domain=aA.domain (fA y.1 y.2.1 y.2.2)/\
 val.key.path=aA.path (fA y.1 y.2.1 y.2.2)/\
 True)))):=by kernel_rfl
theorem WH:(bV (fun(y:aM.Y qh)=>bE nL (cS y)) 600 qY)=(∀(y:az),
 (y.rules.length<=100000/\ ∀(s:Bs),s∈y.rules->s.length<=100000)->
 br (bU 1 y.aB)
 (br (!bU y.aB 64) (ai 4 (eL y)/\True)
 (br (bU 1 y.domain)
 (br (!bU y.domain 2048) (ai 4 (eL y)/\True)
 (br (bU 1 y.total)
 (br (!bU y.total 2048) (ai 4 (eL y)/\True)
 (∃(y_1:List Bs),
 SV.aj Bs y.rules aS=SV.aj Bs y_1 aS/\
 (y_1.length<=100000/\ ∀(s:Bs),s∈y_1->s.length<=100000)/\ai (nI y_1) (eL y)/\True))
 (ai 4 (eL y)/\True)))
 (ai 4 (eL y)/\True)))
 (ai 4 (eL y)/\True)):=by kernel_rfl
theorem Uy:(bV (fun(y:aM.Y qh)=>bE nL (cS y)) 600 oO)=(∀(y:az),
 (y.rules.length<=100000/\ ∀(s:Bs),s∈y.rules->s.length<=100000)->
 br (bw y.aB 1) (ai 4 (eL y)/\True)
 (br (bw 64 y.aB) (ai 4 (eL y)/\True)
 (br (bw y.domain 1) (ai 4 (eL y)/\True)
 (br (bw 2048 y.domain) (ai 4 (eL y)/\True)
 (br (bw y.total 1) (ai 4 (eL y)/\True)
 (br (bw 2048 y.total) (ai 4 (eL y)/\True)
 (br (bw 256 (Int.ofNat y.rules.length)) (ai 3 (eL y)/\True)
 (∃(y_1:List Bs),
 SV.aj Bs y.rules aS=SV.aj Bs y_1 aS/\
 (y_1.length<=100000/\ ∀(s:Bs),s∈y_1->s.length<=100000)/\
 br (!List.all y_1 fh) (ai 1 (eL y)/\True) (ai 0 (eL y)/\True))))))))):=by kernel_rfl
theorem UA:(bV (fun(y:aM.Y Cr)=>bE yu (ml kL 7 (vX y) (cr kL 3 (kT y)))) 600 kL)=(∀(y:List aa),
 y.length<=10000->
 (∃(x:Nat),
 x<=y.length/\
 (SV.aj aa y aa.enc=SV.aj aa y aa.enc/\
 SV.aj (View.X {X:=Bs,enc:=aS}) [] (View.enc {X:=Bs,enc:=aS})=
 SV.aj Bs (bj (List.take x y)) aS/\
 ai 0 ↑x/\True)/\
 (True/\True)/\True)/\
 ∀(x:Nat),
 x<=y.length->
 br (bw (↑x) (Int.ofNat y.length))
 (so y[Int.toNat ↑x]? fun(val:aa)=>
 ∃(x0:Nat×Nat),
 (∃(x_1:Nat×Nat),
 ((∃(h:x_1.1<y.length),
 x_1.2<=dU (bj (List.take x_1.1 y)) (aA.domain (aa.key y[x_1.1])))/\
 x_1.1=x0.1)/\
 (SV.aj aa y aa.enc=SV.aj aa y aa.enc/\
 SV.aj Bs (bj (List.take x y)) aS=
 SV.aj Bs (bj (List.take x_1.1 y)) aS/\
 ai ↑x ↑x_1.1/\
 val.key.domain=aA.domain (aa.key (Option.getD y[x_1.1]? je))/\
 ai 0 ↑x_1.2/\True)/\
 (True/\True)/\True)/\
 ∀(x_1:Nat×Nat),
 (∃(h:x_1.1<y.length),
 x_1.2<=dU (bj (List.take x_1.1 y)) (aA.domain (aa.key y[x_1.1])))/\
 x_1.1=x0.1->
 br (bw (↑x_1.2) (Int.ofNat (List.length (bj (List.take x_1.1 y)))))
 (so (bj (List.take x_1.1 y))[Int.toNat ↑x_1.2]? fun(val:Bs)=>
 br (Go.Op.bytesLess val (aA.domain (aa.key (Option.getD y[x_1.1]? je))))
 (ck (bp .i64 (↑x_1.2+1))
 (∃(y_1:Nat×Nat),
 ((∃(h:y_1.1<y.length),
 y_1.2<=
 dU (bj (List.take y_1.1 y)) (aA.domain (aa.key y[y_1.1])))/\
 y_1.1=x0.1)/\
 aH.μ (aH.when (vX y) (fun(a b:Nat×Nat)=>b.1=a.1) x0) y_1<
 aH.μ (aH.when (vX y) (fun(a b:Nat×Nat)=>b.1=a.1) x0) x_1/\
 (SV.aj aa y aa.enc=SV.aj aa y aa.enc/\
 SV.aj Bs (bj (List.take x_1.1 y)) aS=
 SV.aj Bs (bj (List.take y_1.1 y)) aS/\
 ai ↑x_1.1 ↑y_1.1/\
 aA.domain (aa.key (Option.getD y[x_1.1]? je))=
 aA.domain (aa.key (Option.getD y[y_1.1]? je))/\
 ai (↑x_1.2+1) ↑y_1.2/\True)/\
 (True/\True)/\True))
 (br ((↑x_1.2:Int)==Int.ofNat (List.length (bj (List.take x_1.1 y))))
 ((∀(x:Bs),List.length (aS x)=1)/\
 ck (Nat.ble (Int.toNat ↑x_1.2) (List.length (bj (List.take x_1.1 y))))
 ((∀(x:Bs),List.length (aS x)=1)/\
 ck (Nat.ble (Int.toNat ↑x_1.2) (List.length (bj (List.take x_1.1 y))))
 ((∀(x:Bs),List.length (aS x)=1/\List.all (aS x) jx=true)/\
 ∃(M':List (View.X {X:=Bs,enc:=aS})),
 SV.aj Bs (List.take (Int.toNat ↑x_1.2) (bj (List.take x_1.1 y))) aS=
 SV.aj (View.X {X:=Bs,enc:=aS}) M'
 (View.enc {X:=Bs,enc:=aS})/\
 ck (Nat.ble ((List.length ([]:List Nat)+M'.length)*16) 16777216&&Nat.ble (List.length ([]:List Nat)+M'.length) 16777216)
 (∃(x_2:View.X {X:=Bs,enc:=aS}),
 [SV.str x_2]=
 [SV.str (aA.domain (aa.key (Option.getD y[x_1.1]? je)))]/\
 ck
 (Nat.ble ((List.length ([]++M')+List.length [x_2])*16) 16777216&&
 Nat.ble (List.length ([]++M')+List.length [x_2]) 16777216)
 ((∀(x:Bs),List.length (aS x)=1/\List.all (aS x) jx=true)/\
 ∃(M'_1:List (View.X {X:=Bs,enc:=aS})),
 SV.aj Bs (List.drop (Int.toNat ↑x_1.2) (bj (List.take x_1.1 y)))
 aS=
 SV.aj (View.X {X:=Bs,enc:=aS}) M'_1
 (View.enc {X:=Bs,enc:=aS})/\
 ck
 (Nat.ble ((List.length ([]++M'++[x_2])+M'_1.length)*16) 16777216&&
 Nat.ble (List.length ([]++M'++[x_2])+M'_1.length) 16777216)
 (ck (bp .i64 (↑x_1.1+1))
 (∃(y_1:Nat),
 y_1<=y.length/\
 aH.μ (kT y) y_1<aH.μ (kT y) x/\
 (SV.aj aa y aa.enc=SV.aj aa y aa.enc/\
 SV.aj (View.X {X:=Bs,enc:=aS}) ([]++M'++[x_2]++M'_1)
 (View.enc {X:=Bs,enc:=aS})=
 SV.aj Bs (bj (List.take y_1 y)) aS/\
 ai (↑x_1.1+1) ↑y_1/\True)/\
 (True/\True)/\True)))))))
 (so (bj (List.take x_1.1 y))[Int.toNat ↑x_1.2]? fun(val:Bs)=>
 br (!val==aA.domain (aa.key (Option.getD y[x_1.1]? je)))
 ((∀(x:Bs),List.length (aS x)=1)/\
 ck (Nat.ble (Int.toNat ↑x_1.2) (List.length (bj (List.take x_1.1 y))))
 ((∀(x:Bs),List.length (aS x)=1)/\
 ck (Nat.ble (Int.toNat ↑x_1.2) (List.length (bj (List.take x_1.1 y))))
 ((∀(x:Bs),List.length (aS x)=1/\List.all (aS x) jx=true)/\
 ∃(M':List (View.X {X:=Bs,enc:=aS})),
 SV.aj Bs (List.take (Int.toNat ↑x_1.2) (bj (List.take x_1.1 y))) aS=
 SV.aj (View.X {X:=Bs,enc:=aS}) M'
 (View.enc {X:=Bs,enc:=aS})/\
 ck (Nat.ble ((List.length ([]:List Nat)+M'.length)*16) 16777216&&Nat.ble (List.length ([]:List Nat)+M'.length) 16777216)
 (∃(x_2:View.X {X:=Bs,enc:=aS}),
 [SV.str x_2]=
 [SV.str (aA.domain (aa.key (Option.getD y[x_1.1]? je)))]/\
 ck
 (Nat.ble ((List.length ([]++M')+List.length [x_2])*16) 16777216&&
 Nat.ble (List.length ([]++M')+List.length [x_2]) 16777216)
 ((∀(x:Bs),List.length (aS x)=1/\List.all (aS x) jx=true)/\
 ∃(M'_1:List (View.X {X:=Bs,enc:=aS})),
 SV.aj Bs (List.drop (Int.toNat ↑x_1.2) (bj (List.take x_1.1 y)))
 aS=
 SV.aj (View.X {X:=Bs,enc:=aS}) M'_1
 (View.enc {X:=Bs,enc:=aS})/\
 ck
 (Nat.ble ((List.length ([]++M'++[x_2])+M'_1.length)*16) 16777216&&
 Nat.ble (List.length ([]++M'++[x_2])+M'_1.length) 16777216)
 (ck (bp .i64 (↑x_1.1+1))
 (∃(y_1:Nat),
 y_1<=y.length/\
 aH.μ (kT y) y_1<aH.μ (kT y) x/\
 (SV.aj aa y aa.enc=SV.aj aa y aa.enc/\
 SV.aj (View.X {X:=Bs,enc:=aS}) ([]++M'++[x_2]++M'_1)
 (View.enc {X:=Bs,enc:=aS})=
 SV.aj Bs (bj (List.take y_1 y)) aS/\
 ai (↑x_1.1+1) ↑y_1/\True)/\
 (True/\True)/\True)))))))
 (ck (bp .i64 (↑x_1.1+1))
 (∃(y_1:Nat),
 y_1<=y.length/\
 aH.μ (kT y) y_1<aH.μ (kT y) x/\
 (SV.aj aa y aa.enc=SV.aj aa y aa.enc/\
 SV.aj Bs (bj (List.take x_1.1 y)) aS=
 SV.aj Bs (bj (List.take y_1 y)) aS/\
 ai (↑x_1.1+1) ↑y_1/\True)/\
 (True/\True)/\True)))))
 (br ((↑x_1.2:Int)==Int.ofNat (List.length (bj (List.take x_1.1 y))))
 ((∀(x:Bs),List.length (aS x)=1)/\
 ck (Nat.ble (Int.toNat ↑x_1.2) (List.length (bj (List.take x_1.1 y))))
 ((∀(x:Bs),List.length (aS x)=1)/\
 ck (Nat.ble (Int.toNat ↑x_1.2) (List.length (bj (List.take x_1.1 y))))
 ((∀(x:Bs),List.length (aS x)=1/\List.all (aS x) jx=true)/\
 ∃(M':List (View.X {X:=Bs,enc:=aS})),
 SV.aj Bs (List.take (Int.toNat ↑x_1.2) (bj (List.take x_1.1 y))) aS=
 SV.aj (View.X {X:=Bs,enc:=aS}) M'
 (View.enc {X:=Bs,enc:=aS})/\
 ck (Nat.ble ((List.length ([]:List Nat)+M'.length)*16) 16777216&&Nat.ble (List.length ([]:List Nat)+M'.length) 16777216)
 (∃(x_2:View.X {X:=Bs,enc:=aS}),
 [SV.str x_2]=[SV.str (aA.domain (aa.key (Option.getD y[x_1.1]? je)))]/\
 ck
 (Nat.ble ((List.length ([]++M')+List.length [x_2])*16) 16777216&&
 Nat.ble (List.length ([]++M')+List.length [x_2]) 16777216)
 ((∀(x:Bs),List.length (aS x)=1/\List.all (aS x) jx=true)/\
 ∃(M'_1:List (View.X {X:=Bs,enc:=aS})),
 SV.aj Bs (List.drop (Int.toNat ↑x_1.2) (bj (List.take x_1.1 y)))
 aS=
 SV.aj (View.X {X:=Bs,enc:=aS}) M'_1
 (View.enc {X:=Bs,enc:=aS})/\
 ck
 (Nat.ble ((List.length ([]++M'++[x_2])+M'_1.length)*16) 16777216&&
 Nat.ble (List.length ([]++M'++[x_2])+M'_1.length) 16777216)
 (ck (bp .i64 (↑x_1.1+1))
 (∃(y_1:Nat),
 y_1<=y.length/\
 aH.μ (kT y) y_1<aH.μ (kT y) x/\
 (SV.aj aa y aa.enc=SV.aj aa y aa.enc/\
 SV.aj (View.X {X:=Bs,enc:=aS}) ([]++M'++[x_2]++M'_1)
 (View.enc {X:=Bs,enc:=aS})=
 SV.aj Bs (bj (List.take y_1 y)) aS/\
 ai (↑x_1.1+1) ↑y_1/\True)/\
 (True/\True)/\True)))))))
 (so (bj (List.take x_1.1 y))[Int.toNat ↑x_1.2]? fun(val:Bs)=>
 br (!val==aA.domain (aa.key (Option.getD y[x_1.1]? je)))
 ((∀(x:Bs),List.length (aS x)=1)/\
 ck (Nat.ble (Int.toNat ↑x_1.2) (List.length (bj (List.take x_1.1 y))))
 ((∀(x:Bs),List.length (aS x)=1)/\
 ck (Nat.ble (Int.toNat ↑x_1.2) (List.length (bj (List.take x_1.1 y))))
 ((∀(x:Bs),List.length (aS x)=1/\List.all (aS x) jx=true)/\
 ∃(M':List (View.X {X:=Bs,enc:=aS})),
 SV.aj Bs (List.take (Int.toNat ↑x_1.2) (bj (List.take x_1.1 y))) aS=
 SV.aj (View.X {X:=Bs,enc:=aS}) M'
 (View.enc {X:=Bs,enc:=aS})/\
 ck (Nat.ble ((List.length ([]:List Nat)+M'.length)*16) 16777216&&Nat.ble (List.length ([]:List Nat)+M'.length) 16777216)
 (∃(x_2:View.X {X:=Bs,enc:=aS}),
 [SV.str x_2]=
 [SV.str (aA.domain (aa.key (Option.getD y[x_1.1]? je)))]/\
 ck
 (Nat.ble ((List.length ([]++M')+List.length [x_2])*16) 16777216&&
 Nat.ble (List.length ([]++M')+List.length [x_2]) 16777216)
 ((∀(x:Bs),List.length (aS x)=1/\List.all (aS x) jx=true)/\
 ∃(M'_1:List (View.X {X:=Bs,enc:=aS})),
 SV.aj Bs (List.drop (Int.toNat ↑x_1.2) (bj (List.take x_1.1 y)))
 aS=
 SV.aj (View.X {X:=Bs,enc:=aS}) M'_1
 (View.enc {X:=Bs,enc:=aS})/\
 ck
 (Nat.ble ((List.length ([]++M'++[x_2])+M'_1.length)*16) 16777216&&
 Nat.ble (List.length ([]++M'++[x_2])+M'_1.length) 16777216)
 (ck (bp .i64 (↑x_1.1+1))
 (∃(y_1:Nat),
 y_1<=y.length/\
 aH.μ (kT y) y_1<aH.μ (kT y) x/\
 (SV.aj aa y aa.enc=SV.aj aa y aa.enc/\
 SV.aj (View.X {X:=Bs,enc:=aS}) ([]++M'++[x_2]++M'_1)
 (View.enc {X:=Bs,enc:=aS})=
 SV.aj Bs (bj (List.take y_1 y)) aS/\
 ai (↑x_1.1+1) ↑y_1/\True)/\
 (True/\True)/\True)))))))
 (ck (bp .i64 (↑x_1.1+1))
 (∃(y_1:Nat),
 y_1<=y.length/\
 aH.μ (kT y) y_1<aH.μ (kT y) x/\
 (SV.aj aa y aa.enc=SV.aj aa y aa.enc/\
 SV.aj Bs (bj (List.take x_1.1 y)) aS=
 SV.aj Bs (bj (List.take y_1 y)) aS/\
 ai (↑x_1.1+1) ↑y_1/\True)/\
 (True/\True)/\True)))))
 (SV.aj Bs (bj (List.take x y)) aS=SV.aj Bs (bj y) aS/\True)):=by kernel_rfl
end
section
variable [Inhabited aL]
theorem KF:∀g C,yp g=some C->CO g C:=bG ZH Vv
theorem mj (a b:aA):(a.name==b.name&&(a.domain==b.domain&&(a.path==b.path&&true)))=decide (a=b):=by
 rw[AN]
 cases a;cases b;simp
section
variable {l:List aa} {p:aa->Bool} {x:Nat}
theorem kR (h:x<l.length):(l.take (x+1)).filter p=(l.take x).filter p++if p l[x]then[l[x]]else[]:=by
 rw[Aw h,DJ];by_cases hp:p l[x]=true<;>simp[hp]
theorem oW:((l.take x).filter p).length<=x:=Aq (AF _ _) (by simp;omega)
theorem filter_all (h:¬(x:Int)<Int.ofNat l.length):(l.take x).filter p=l.filter p:=by
 rw[As (by simp only[Aa]at h;omega)]
end
theorem Zm:CO qX sJ:=bO (cfg:=fun y=>bE bZ (cS y)) bA (fun _=>rfl) (fun _=>gO) (n:=400) (by
 rw[N9];rintro⟨c,now⟩ _;refine ag.2 ⟨fun h=>⟨?_,trivial⟩,fun h=>⟨?_,trivial⟩⟩
 . have h:c.persistent=true:=h;unfold fb;rw[h,fi,Bp]
 . have h:c.persistent=false:=h;unfold fb;rw[h,Bg])
theorem Yq:CO GB sJ:=bO (cfg:=fun y=>bE bZ (cS y)) bA (fun _=>rfl) (fun _=>gO) (n:=400) (by
 rw[XG];rintro⟨c,now⟩ _;refine ag.2 ⟨fun h=>⟨?_,trivial⟩,fun h=>⟨?_,trivial⟩⟩
 . have h:c.persistent=true:=h;unfold fb;rw[h,fi,Bp]
 . have h:c.persistent=false:=h;unfold fb;rw[h,Bg])
theorem ZG:CO qG FR:=bO (cfg:=fun y=>bE bZ (cS y)) bA (fun _=>rfl) (fun _=>gO) (n:=400) (by
 rw[NX];rintro⟨a,b⟩ -;simp[ag,cj,dc];refine⟨fun h1 h2=>by omega,fun h1=>⟨fun h2=>?_,fun h2=>?_⟩⟩
 . rw[Aj (by omega),An h2]
 . rw[Aj (by omega),Aj (by omega)])
theorem Xa:CO qH po:=bO (cfg:=fun y=>bE yp (cS y)) bA (fun _=>rfl) (fun _=>KF) (n:=400) (by
 rw[NY];rintro⟨a,b⟩ -;exact⟨(a,b),rfl,rfl,trivial,rfl,trivial⟩)
theorem KG:∀g C,yq g=some C->CO g C:=bG Zm (bG Yq (bG ZG (bG Xa KF)))
theorem Zh:CO Gy FV:=bO (cfg:=fun y=>bE yq (cS y)) bA (fun _=>rfl) (fun _=>KG) (n:=600) (by
 rw[N4];rintro⟨a,b⟩ -;refine⟨(_,_),rfl,rfl,trivial,⟨(_,_),rfl,rfl,trivial,⟨(_,_),rfl,rfl,trivial,?_⟩⟩⟩;simp only[ag,ov,DC];generalize ee a.name b.name=n
 generalize ee a.domain b.domain=d
 generalize ee a.path b.path=p
 refine⟨fun h=>?_,fun h=>⟨fun h2=>?_,fun h2=>⟨fun h3=>?_,fun h3=>?_⟩⟩⟩<;>simp_all)
theorem KH:∀g C,yr g=some C->CO g C:=bG Zh KG
theorem Zj:CO Gx sI:=bO (cfg:=fun y=>bE yr (cS y)) bA (fun _=>rfl) (fun _=>KH) (n:=400) (by
 rw[N6];rintro⟨a,b⟩ -;refine⟨(a,b),rfl,rfl,rfl,rfl,rfl,rfl,trivial,?_,trivial⟩;simp only[cj,fk])
theorem Yl:CO GC sI:=bO (cfg:=fun y=>bE bZ (cS y)) bA (fun _=>rfl) (fun _=>gO) (n:=400) (by
 rw[XE];rintro⟨a,b⟩ -;simp only[ag,vP];refine⟨fun h=>?_,fun h=>⟨fun h2=>?_,fun h2=>?_⟩⟩<;>simp_all)
theorem wH:∀g C,px g=some C->CO g C:=bG Zj (bG Yl KH)
theorem XP:CO qZ uK:=bO (cfg:=fun y=>bE px (cS y)) bA (fun _=>rfl) (fun _=>wH) (n:=600) (by
 rw[YP];rintro⟨a,b⟩ -;refine⟨(_,_),rfl,rfl,trivial,⟨(_,_),rfl,rfl,trivial,?_⟩⟩;simp only[mj,ag,hZ];generalize dc a.ab.access b.ab.access=n
 generalize dc a.ab.aq b.ab.aq=m
 refine⟨fun hn=>⟨fun _=>?_,fun hn2=>?_⟩,fun hn=>⟨fun hm=>⟨fun _=>?_,fun hm2=>?_⟩,fun hm=>⟨fun hkk=>?_,fun hkk=>⟨(a.key,b.key),rfl,rfl,rfl,rfl,rfl,rfl,trivial,fun hl=>?_,fun hl=>?_⟩⟩⟩⟩
 all_goals simp_all)
theorem UT (a b:aa):fx a b=if a.ab.access≠b.ab.access then decide (a.ab.access<b.ab.access)else if a.ab.aq≠b.ab.aq then decide (a.ab.aq<b.ab.aq)else fk a.key b.key:=by
 unfold fx hZ;have e1:=rL a.ab.access b.ab.access;have e2:=rL a.ab.aq b.ab.aq;have e3:=rR a.ab.access b.ab.access;have e4:=rR a.ab.aq b.ab.aq;revert e1 e2 e3 e4;generalize dc a.ab.access b.ab.access=n
 generalize dc a.ab.aq b.ab.aq=m
 intro e1 e2 e3 e4;by_cases h1:a.ab.access=b.ab.access
 . have h5:n=0:=e1.2 h1;subst h5;by_cases h2:a.ab.aq=b.ab.aq
   . have h6:m=0:=e2.2 h2;subst h6;by_cases h3:a.key=b.key
     . simp[h1,h2,h3,nq]
     . by_cases h4:fk a.key b.key=true<;>simp[h1,h2,h3,h4]
   . have h6:m≠0:=fun h=>h2 (e2.1 h)
     simp[h1,h2,h6,e4]
 . have h6:n≠0:=fun h=>h1 (e1.1 h)
   simp[h1,h6,e3]
theorem TZ:CO qT C5:=bO (cfg:=fun y=>bE px (cS y)) bA (fun _=>rfl) (fun _=>wH) (n:=400) (by
 rw[UC];rintro⟨a,b⟩ -;simp only[UT];refine ag.2 ⟨fun h=>⟨?_,trivial⟩,fun h=>ag.2 ⟨fun h2=>⟨?_,trivial⟩,fun h2=>⟨(a.key,b.key),rfl,rfl,rfl,rfl,rfl,rfl,trivial,?_,trivial⟩⟩⟩
 . rw[An (by simpa using h),cj]
 . rw[Aj (by simpa using h),An (by simpa using h2),cj]
 . rw[Aj (by simpa using h),Aj (by simpa using h2)])
theorem uj:∀g C,nL g=some C->CO g C:=bG XP (bG TZ wH)
theorem zi:∀l:List aa,gS l=true↔∀(j:Nat) (h:j+1<l.length),fk (l[j]'(by omega)).key l[j+1].key=true
 |[]=>by simp[gS]
 |[x]=>by simp[gS]
 |x::y::l=>by
  rw[gS,Ac,zi (y::l)];constructor
  . rintro⟨h1,h2⟩ j hj
    cases j with
    |zero=>exact h1
    |succ j=>exact h2 j (by simpa using hj)
  . intro h;exact⟨h 0 (by simp),fun j hj=>h (j+1) (by simpa using hj)⟩
theorem VS:CO mJ C3:=bO (cfg:=fun y=>bE px (cr mJ 2 (xi y))) bA (fun _=>rfl) (fun _=>wH) (n:=400) (by
 rw[WN];intro l hpre;have hpre:l.length<=10000:=hpre;refine⟨⟨1,⟨by omega,by omega,fun j h hj=>by omega⟩,⟨rfl,rfl,trivial⟩,trivial,trivial⟩,?_⟩;rintro x ⟨h1,hx,hall⟩;refine ag.2 ⟨fun hlt=>?_,fun hge=>⟨?_,trivial⟩⟩
 . have hlt':=cq hlt;have e:Int.toNat ((x:Int) - 1)=x - 1:=by omega
   refine af.2 ⟨by rw[gU];omega,af.2 ⟨by rw[lC,Ab];omega,au.2 ⟨l[x - 1],by rw[e];exact Af (by omega),au.2 ⟨l[x],cE hlt',((l[x - 1]).key,(l[x]).key),rfl,rfl,rfl,rfl,rfl,rfl,trivial,ag.2 ⟨fun h=>⟨?_,trivial⟩,fun h=>af.2 ⟨ch x (by omega),x+1,⟨by omega,by omega,fun j hj hjx=>?_⟩,?_,⟨rfl,rfl,trivial⟩,trivial,trivial⟩⟩⟩⟩⟩⟩
   . symm;rw[Ax];intro hr;have:=(zi l).1 hr (x - 1) (by omega);simp only[show x - 1+1=x by omega]at this;simp[this]at h
   . by_cases e2:j+1=x
     . subst e2;simpa using h
     . exact hall j hj (by omega)
   . show l.length+1 - (x+1)<l.length+1 - x
     omega
 . symm;rw[zi];intro j hj;have:=gz hge;simp only[Aa]at this;exact hall j hj (by omega))
theorem T3:CO mO bL:=bO (cfg:=fun y=>bE bZ (cr lF 3 (jN (y:List aa×aA).1 fun x=>decide (x.key≠(y:List aa×aA).2)))) bA (fun _=>rfl) (fun _=>gO) (n:=600) (by
 rw[UE];rintro⟨l,k⟩ hpre;have hpre:l.length<=10000:=hpre;refine⟨⟨0,by simp,?_⟩,?_⟩
 . (repeat' (first|exact trivial|exact rfl|exact(fun _=>rfl)|apply And.intro))
 intro x hx;refine ag.2 ⟨fun hlt=>au.2 ⟨_,cE (cq hlt),?_⟩,fun hge=>⟨by rw[filter_all (gz hge)];rfl,trivial⟩⟩;have hlt':x<l.length:=cq hlt;have hlen:=oW (l:=l) (x:=x) (p:=fun z:aa=>decide (z.key≠k));refine ag.2 ⟨fun h=>⟨l[x],rfl,af.2 ⟨by simp only[Ac,AA,Az,AG];omega,af.2 ⟨ch x (by omega),x+1,hlt',?_,?_⟩⟩⟩,fun h=>af.2 ⟨ch x (by omega),x+1,hlt',?_,?_⟩⟩
 . show l.length - (x+1)<l.length - x
   omega
 . have hp:(fun z:aa=>decide (z.key≠k)) l[x]=true:=by rw[mj]at h;simpa using h
   have hf:=kR (p:=fun z:aa=>decide (z.key≠k)) hlt';rw[An hp]at hf
   (repeat' (first|exact trivial|exact rfl|exact(fun _=>rfl)|apply And.intro))
   all_goals (first|(rw[hf])|(simp[ai]))
 . show l.length - (x+1)<l.length - x
   omega
 . have hp:(fun z:aa=>decide (z.key≠k)) l[x]=false:=by rw[mj]at h;simpa using h
   have hf:=kR (p:=fun z:aa=>decide (z.key≠k)) hlt';rw[Aj (by simp only[hp];simp),A9]at hf
   (repeat' (first|exact trivial|exact rfl|exact(fun _=>rfl)|apply And.intro))
   all_goals (first|(rw[hf])|(simp[ai])))
theorem SN:CO mE bL:=bO (cfg:=fun y=>bE bZ (cr mE 3 (rJ y))) bA (fun _=>rfl) (fun _=>gO) (n:=400) (by
 rw[Sm];rintro⟨l,k⟩ hpre;have hpre:l.length<=10000:=hpre;refine⟨⟨0,by simp,?_⟩,?_⟩
 . (repeat' (first|exact trivial|exact rfl|exact(fun _=>rfl)|apply And.intro))
 intro x hx;refine ag.2 ⟨fun hlt=>au.2 ⟨_,cE (cq hlt),?_⟩,fun hge=>⟨by rw[filter_all (gz hge)];rfl,trivial⟩⟩;have hlt':x<l.length:=cq hlt;have hlen:=oW (l:=l) (x:=x) (p:=fun z:aa=>decide (z.key≠k));refine ag.2 ⟨fun h=>au.2 ⟨l[x],cE hlt',⟨l[x],rfl,af.2 ⟨by simp only[Ac,AA,Az,AG];omega,af.2 ⟨ch x (by omega),x+1,hlt',?_,?_⟩⟩⟩⟩,fun h=>af.2 ⟨ch x (by omega),x+1,hlt',?_,?_⟩⟩
 . show l.length - (x+1)<l.length - x
   omega
 . have hp:(fun z:aa=>decide (z.key≠k)) l[x]=true:=by rw[mj]at h;simpa using h
   have hf:=kR (p:=fun z:aa=>decide (z.key≠k)) hlt';rw[An hp]at hf
   (repeat' (first|exact trivial|exact rfl|exact(fun _=>rfl)|apply And.intro))
   all_goals (first|(rw[hf])|(simp[ai]))
 . show l.length - (x+1)<l.length - x
   omega
 . have hp:(fun z:aa=>decide (z.key≠k)) l[x]=false:=by rw[mj]at h;simpa using h
   have hf:=kR (p:=fun z:aa=>decide (z.key≠k)) hlt';rw[Aj (by simp only[hp];simp),A9]at hf
   (repeat' (first|exact trivial|exact rfl|exact(fun _=>rfl)|apply And.intro))
   all_goals (first|(rw[hf])|(simp[ai])))
theorem Wt:CO Gt lv:=bO (cfg:=fun y=>bE bZ (cr lF 3 (jN (y:List aa×Bs).1 fun x=>decide (x.key.domain=(y:List aa×Bs).2)))) bA (fun _=>rfl) (fun _=>gO) (n:=600) (by
 rw[WJ];rintro⟨l,k⟩ hpre;have hpre:l.length<=10000:=hpre;refine⟨⟨0,by simp,?_⟩,?_⟩
 . (repeat' (first|exact trivial|exact rfl|exact(fun _=>rfl)|apply And.intro))
 intro x hx;refine ag.2 ⟨fun hlt=>au.2 ⟨_,cE (cq hlt),?_⟩,fun hge=>⟨by rw[filter_all (gz hge)];rfl,trivial⟩⟩;have hlt':x<l.length:=cq hlt;have hlen:=oW (l:=l) (x:=x) (p:=fun z:aa=>decide (z.key.domain=k));refine ag.2 ⟨fun h=>⟨l[x],rfl,af.2 ⟨by simp only[Ac,AA,Az,AG];omega,af.2 ⟨ch x (by omega),x+1,hlt',?_,?_⟩⟩⟩,fun h=>af.2 ⟨ch x (by omega),x+1,hlt',?_,?_⟩⟩
 . show l.length - (x+1)<l.length - x
   omega
 . have hp:(fun z:aa=>decide (z.key.domain=k)) l[x]=true:=by simpa using h
   have hf:=kR (p:=fun z:aa=>decide (z.key.domain=k)) hlt';rw[An hp]at hf
   (repeat' (first|exact trivial|exact rfl|exact(fun _=>rfl)|apply And.intro))
   all_goals (first|(rw[hf])|(simp[ai]))
 . show l.length - (x+1)<l.length - x
   omega
 . have hp:(fun z:aa=>decide (z.key.domain=k)) l[x]=false:=by simpa using h
   have hf:=kR (p:=fun z:aa=>decide (z.key.domain=k)) hlt';rw[Aj (by simp only[hp];simp),A9]at hf
   (repeat' (first|exact trivial|exact rfl|exact(fun _=>rfl)|apply And.intro))
   all_goals (first|(rw[hf])|(simp[ai])))
theorem Kd:CO lG lv:=bO (cfg:=fun y=>bE bZ (cr lG 3 (rN y))) bA (fun _=>rfl) (fun _=>gO) (n:=400) (by
 rw[Uz];rintro⟨l,k⟩ hpre;have hpre:l.length<=10000:=hpre;refine⟨⟨0,by simp,?_⟩,?_⟩
 . (repeat' (first|exact trivial|exact rfl|exact(fun _=>rfl)|apply And.intro))
 intro x hx;refine ag.2 ⟨fun hlt=>au.2 ⟨_,cE (cq hlt),?_⟩,fun hge=>⟨by rw[filter_all (gz hge)];rfl,trivial⟩⟩;have hlt':x<l.length:=cq hlt;have hlen:=oW (l:=l) (x:=x) (p:=fun z:aa=>decide (z.key.domain=k));refine ag.2 ⟨fun h=>au.2 ⟨l[x],cE hlt',⟨l[x],rfl,af.2 ⟨by simp only[Ac,AA,Az,AG];omega,af.2 ⟨ch x (by omega),x+1,hlt',?_,?_⟩⟩⟩⟩,fun h=>af.2 ⟨ch x (by omega),x+1,hlt',?_,?_⟩⟩
 . show l.length - (x+1)<l.length - x
   omega
 . have hp:(fun z:aa=>decide (z.key.domain=k)) l[x]=true:=by simpa using h
   have hf:=kR (p:=fun z:aa=>decide (z.key.domain=k)) hlt';rw[An hp]at hf
   (repeat' (first|exact trivial|exact rfl|exact(fun _=>rfl)|apply And.intro))
   all_goals (first|(rw[hf])|(simp[ai]))
 . show l.length - (x+1)<l.length - x
   omega
 . have hp:(fun z:aa=>decide (z.key.domain=k)) l[x]=false:=by simpa using h
   have hf:=kR (p:=fun z:aa=>decide (z.key.domain=k)) hlt';rw[Aj (by simp only[hp];simp),A9]at hf
   (repeat' (first|exact trivial|exact rfl|exact(fun _=>rfl)|apply And.intro))
   all_goals (first|(rw[hf])|(simp[ai])))
theorem gf {x n:Nat} (h:bw (x:Int) (Int.ofNat n)=false):n<=x:=by
 have:=gz h;simp only[Aa]at this;omega
theorem wQ (a b:aa):(a.key.name==b.key.name&&(a.key.domain==b.key.domain&&(a.key.path==b.key.path&&true))&&(a.ab.value==b.ab.value&&(a.ab.aF==b.ab.aF&&(a.ab.aV==b.ab.aV&&(a.ab.aG==b.ab.aG&&(a.ab.persistent==b.ab.persistent&&(a.ab.aP==b.ab.aP&&(a.ab.aq==b.ab.aq&&(a.ab.access==b.ab.access&&true)))))))&&true))=decide (a=b):=by
 rw[AN];obtain⟨⟨a1,a2,a3⟩,⟨a4,a5,a6,a7,a8,a9,a10,a11⟩⟩:=a;obtain⟨⟨b1,b2,b3⟩,⟨b4,b5,b6,b7,b8,b9,b10,b11⟩⟩:=b;simp only[Ac,BM,Ab,aa.mk.injEq,aA.mk.injEq,bo.mk.injEq,DC]
theorem Tk {l:List aa} {k:aA} {x:Nat} (h:x<l.length) (h1:l[x].key=k) (h2:∀(j:Nat) (h:j<l.length),j<x->l[j].key=k->False):eB l k=(l[x],true):=by
 have:l.find? (fun z=>decide (z.key=k))=some l[x]:=by
  rw[EN];exact⟨by simpa using h1,x,h,rfl,fun j hj=>by simpa using h2 j (by omega) hj⟩
 unfold eB;rw[this]
theorem Xn {l:List aa} {k:aA} (h2:∀(j:Nat) (h:j<l.length),l[j].key=k->False):eB l k=(je,false):=by
 have:l.find? (fun z=>decide (z.key=k))=none:=by
  rw[DH];intro z hz;obtain⟨j,hj,rfl⟩:=Bd hz;simpa using h2 j hj
 unfold eB;rw[this]
theorem Ye:CO nf FD:=bO (cfg:=fun y=>bE bZ (cr nf 2 (xw y))) bA (fun _=>rfl) (fun _=>gO) (n:=400) (by
 rw[X6];rintro⟨l,k⟩ hpre;have hpre:l.length<=10000:=hpre;refine⟨⟨0,⟨by simp,fun j h hj=>by omega⟩,?_⟩,?_⟩
 . (repeat' (first|exact trivial|exact rfl|exact(fun _=>rfl)|apply And.intro))
 rintro x ⟨hx,hall⟩;refine ag.2 ⟨fun hlt=>au.2 ⟨_,cE (cq hlt),?_⟩,fun hge=>?_⟩
 . have hlt':x<l.length:=cq hlt;refine ag.2 ⟨fun h=>au.2 ⟨_,cE hlt',?_⟩,fun h=>af.2 ⟨ch x (by omega),x+1,⟨hlt',fun j hj hjx he=>?_⟩,?_,?_⟩⟩
   . rw[mj]at h;have e:=Tk hlt' (by simpa using h) hall;rw[show eB (l,k).1 (l,k).2=(l[x],true)from e]
     (repeat' (first|exact trivial|exact rfl|exact(fun _=>rfl)|apply And.intro))
   . rw[mj]at h;by_cases hji:j=x
     . subst hji;exact absurd he (by simpa using h)
     . exact hall j hj (by omega) he
   . show l.length - (x+1)<l.length - x
     omega
   . (repeat' (first|exact trivial|exact rfl|exact(fun _=>rfl)|apply And.intro))
 . have e:=Xn (l:=l) (k:=k) (fun j hj=>hall j hj (by have:l.length<=x:=gf hge;omega));rw[show eB (l,k).1 (l,k).2=(je,false)from e]
   (repeat' (first|exact trivial|exact rfl|exact(fun _=>rfl)|apply And.intro)))
theorem SE:CO qB zH:=bO (cfg:=fun y=>bE bZ (cr vm 2 (xz y))) bA (fun _=>rfl) (fun _=>gO) (n:=400) (by
 rw[Sk];rintro⟨l,k⟩ hpre;have hpre:l.length<=10000:=hpre;refine⟨⟨0,⟨by simp,fun j h hj=>by omega⟩,?_⟩,?_⟩
 . (repeat' (first|exact trivial|exact rfl|exact(fun _=>rfl)|apply And.intro))
 rintro x ⟨hx,hall⟩;refine ag.2 ⟨fun hlt=>au.2 ⟨_,cE (cq hlt),?_⟩,fun hge=>⟨?_,trivial⟩⟩
 . have hlt':x<l.length:=cq hlt;refine ag.2 ⟨fun h=>⟨?_,trivial⟩,fun h=>af.2 ⟨ch x (by omega),x+1,⟨hlt',fun j hj hjx he=>?_⟩,?_,?_⟩⟩
   . rw[wQ]at h;have h:k=l[x]:=by simpa using h
     rw[fi,AN];have hm:k∈l:=by rw[h];exact AI hlt'
     simp[hm]
   . rw[wQ]at h;have h:¬k=l[x]:=by simpa using h
     by_cases hji:j=x
     . subst hji;exact h he.symm
     . exact hall j hj (by omega) he
   . show l.length - (x+1)<l.length - x
     omega
   . (repeat' (first|exact trivial|exact rfl|exact(fun _=>rfl)|apply And.intro))
 . rw[fi];symm;have hm:¬k∈l:=by
     intro hm;obtain⟨j,hj,he⟩:=Bd hm;exact hall j hj (by have:l.length<=x:=gf hge;omega) he
   simp[hm])
theorem Yw:CO nc Fw:=bO (cfg:=fun y=>bE bZ (cr nc 4 (xC y))) bA (fun _=>rfl) (fun _=>gO) (n:=400) (by
 rw[XJ];rintro⟨l,m⟩ ⟨hl,hm⟩;have hl:l.length<=10000:=hl;refine ag.2 ⟨fun h=>⟨?_,trivial⟩,fun h=>⟨⟨0,⟨by simp,?_,by simp⟩,?_⟩,?_⟩⟩
 . symm;rw[Ah];intro e;have e:l=m:=e;subst e;simp at h
 . simp only[Ee,BM,Aa]at h;simp only at h⊢;omega
 . (repeat' (first|exact trivial|exact rfl|exact(fun _=>rfl)|apply And.intro))
 rintro x ⟨hx,hlen,ht⟩;have hlen:l.length=m.length:=hlen;have ht:l.take x=m.take x:=ht;refine ag.2 ⟨fun hlt=>?_,fun hge=>⟨?_,trivial⟩⟩
 . have hlt':x<l.length:=cq hlt;refine au.2 ⟨_,cE hlt',au.2 ⟨_,cE (show x<m.length by omega),ag.2 ⟨fun h2=>⟨?_,trivial⟩,fun h2=>af.2 ⟨ch x (by omega),x+1,⟨hlt',hlen,?_⟩,?_,?_⟩⟩⟩⟩
   . rw[wQ]at h2;symm;rw[Ah];intro e;have e:l=m:=e;subst e;simp at h2
   . rw[wQ]at h2;show l.take (x+1)=m.take (x+1)
     rw[Aw hlt',Aw (show x<m.length by omega),ht];have:l[x]=m[x]'(by omega):=by simpa using h2
     rw[this]
   . show l.length - (x+1)<l.length - x
     omega
   . (repeat' (first|exact trivial|exact rfl|exact(fun _=>rfl)|apply And.intro))
 . symm;rw[Ab];have:l.length<=x:=gf hge;rw[As (by omega),As (by omega)]at ht;exact ht)
theorem Wq:CO qY qh:=bO (cfg:=fun y=>bE nL (cS y)) bA (fun _=>rfl) (fun _=>uj) (n:=600) (by
 rw[WH];intro c hpre;have four:(c.aB<1\/c.aB>64\/c.domain<1\/c.domain>2048\/c.total<1\/c.total>2048)->ai 4 (eL c)/\True:=by
   intro h;unfold eL;rw[An h];exact⟨rfl,trivial⟩
 simp only[fi];refine ag.2 ⟨fun h1=>ag.2 ⟨fun h2=>four ?_,fun h2=>ag.2 ⟨fun h3=>ag.2 ⟨fun h4=>four ?_,fun h4=>ag.2 ⟨fun h5=>ag.2 ⟨fun h6=>four ?_,fun h6=>⟨c.rules,rfl,hpre,?_,trivial⟩⟩,fun h5=>four ?_⟩⟩,fun h3=>four ?_⟩⟩,fun h1=>four ?_⟩
 all_goals (simp at*)
 . omega
 . omega
 . omega
 . unfold eL;rw[Aj (by omega)]
 . omega
 . omega
 . omega)
theorem Kc:CO oO qh:=bO (cfg:=fun y=>bE nL (cS y)) bA (fun _=>rfl) (fun _=>uj) (n:=600) (by
 rw[Uy];intro c hpre;have four:(c.aB<1\/c.aB>64\/c.domain<1\/c.domain>2048\/c.total<1\/c.total>2048)->ai 4 (eL c)/\True:=by
   intro h;unfold eL;rw[An h];exact⟨rfl,trivial⟩
 simp only[cj];refine ag.2 ⟨fun h1=>four ?_,fun h1=>ag.2 ⟨fun h2=>four ?_,fun h2=>ag.2 ⟨fun h3=>four ?_,fun h3=>ag.2 ⟨fun h4=>four ?_,fun h4=>ag.2 ⟨fun h5=>four ?_,fun h5=>ag.2 ⟨fun h6=>four ?_,fun h6=>ag.2 ⟨fun h7=>⟨?_,trivial⟩,fun h7=>⟨c.rules,rfl,hpre,ag.2 ⟨fun h8=>⟨?_,trivial⟩,fun h8=>⟨?_,trivial⟩⟩⟩⟩⟩⟩⟩⟩⟩⟩
 all_goals (simp only[Ab,Ah,Aa]at*)
 . omega
 . omega
 . omega
 . omega
 . omega
 . omega
 all_goals (unfold eL;rw[Aj (by omega)];unfold nI)
 . rw[An (by omega)]
 . rw[Aj (by omega),Aj (by simpa using h8)]
 . rw[Aj (by omega),An (by simpa using h8)])
theorem kW {α β:Type} (f:β->α->β) (b:β) {l:List α} {x:Nat} (h:x<l.length):(l.take (x+1)).foldl f b=f ((l.take x).foldl f b) l[x]:=by
 rw[Aw h,EJ];rfl
theorem rI {α:Type} {l:List α} {x:Nat} (h:¬(x:Int)<Int.ofNat l.length):l.take x=l:=As (by simp only[Aa]at h;omega)
theorem TE {l:List aa} {d:Bs} {all:Bool} {x:Nat} (h:x<l.length):fV (l.take (x+1)) d all=if all||decide (l[x].key.domain=d)then(match fV (l.take x) d all with|none=>some l[x]|some y=>if fx l[x] y then some l[x]else some y)else fV (l.take x) d all:=by
 unfold fV;rw[kW _ _ h]
 all_goals (generalize List.foldl _ none (List.take x l)=r;cases r<;>rfl)
theorem T0 :CO mF Cs:=bO (cfg:=fun y=>bE nL (cr mF 3 (ku y))) bA (fun _=>rfl) (fun _=>uj) (n:=600) (by
  rw[UD];rintro⟨l,d,all⟩ hpre;have hpre:l.length<=10000:=hpre;refine⟨⟨(0, -1),⟨by simp, .inl ⟨rfl,rfl⟩⟩,?_⟩,?_⟩
  . (repeat' (first|exact trivial|exact rfl|exact(fun _=>rfl)|apply And.intro))
  rintro⟨x,z⟩ ⟨hx,hb⟩;have hb:(z= -1/\fV (l.take x) d all=none)\/ ∃b:Nat,z=Int.ofNat b/\ ∃h:b<l.length,fV (l.take x) d all=some l[b]:=hb;refine aJ (fun hlt=>?_) fun hge=>?_
  . have hlt':x<l.length:=cq hlt;have hn:=TE (d:=d) (all:=all) hlt';have hmu:l.length - (x+1)<l.length - x:=by omega
    refine ag.2 ⟨fun ha=>au.2 ⟨_,cE hlt',ag.2 ⟨fun hd=>?_,fun hd=>?_⟩⟩,fun ha=>?_⟩
    . have ha:all=false:=by simpa using ha
      have hd:¬l[x].key.domain=d:=by simpa using hd
      have hcf:¬(all||decide (l[x].key.domain=d))=true:=by simp[ha,hd]
      rw[Aj hcf]at hn;refine af.2 ⟨ch x (by omega),(x+1,z),⟨hlt',?_⟩,hmu,?_⟩
      . simp only;rw[hn];exact hb
      . (repeat' (first|exact trivial|exact rfl|exact(fun _=>rfl)|apply And.intro))
    all_goals (have hc:(all||decide (l[x].key.domain=d))=true:=by first|(have ha:all=true:=by simpa using ha);simp[ha]|(have hd:l[x].key.domain=d:=by simpa using hd);simp[hd])
    all_goals (rw[An hc]at hn)
    all_goals (rcases hb with⟨hz,hbn⟩|⟨b,hz,hbl,hbb⟩)
    all_goals (subst hz)
    all_goals (first
      | (refine ag.2 ⟨fun _=>?_,fun h=>absurd h (by rw[cj];simp)⟩
         rw[hbn]at hn;refine af.2 ⟨ch x (by omega),(x+1,(x:Int)),⟨hlt', .inr ⟨x,rfl,hlt',?_⟩⟩,hmu,?_⟩
         . exact hn
         . (repeat' (first|exact trivial|exact rfl|exact(fun _=>rfl)|apply And.intro)))
      | (refine ag.2 ⟨fun h=>absurd h (by rw[cj];simp),fun _=>au.2 ⟨_,cE hlt',af.2 ⟨by rw[lC];simp,au.2 ⟨l[b],by simp[hbl],(l[x],l[b]),?_⟩⟩⟩⟩
         (repeat' (first|exact trivial|exact rfl|exact(fun _=>rfl)|apply And.intro))
         rw[hbb]at hn;simp only at hn;refine aJ (fun hs=>?_) fun hs=>?_
         . rw[An (show fx l[x] l[b]=true from hs)]at hn;refine af.2 ⟨ch x (by omega),(x+1,(x:Int)),⟨hlt', .inr ⟨x,rfl,hlt',hn⟩⟩,hmu,?_⟩
           (repeat' (first|exact trivial|exact rfl|exact(fun _=>rfl)|apply And.intro))
         . rw[Aj (by simp[show fx l[x] l[b]=false from hs])]at hn;refine af.2 ⟨ch x (by omega),(x+1,Int.ofNat b),⟨hlt', .inr ⟨b,rfl,hbl,hn⟩⟩,hmu,?_⟩
           (repeat' (first|exact trivial|exact rfl|exact(fun _=>rfl)|apply And.intro))))
  . have hge':l.length<=x:=gf hge;rw[As hge']at hb;rcases hb with⟨hz,hbn⟩|⟨b,hz,hbl,hbb⟩
    . subst hz;have e:fA l d all=ql:=by unfold fA;rw[hbn]
      refine ag.2 ⟨fun _=>?_,fun h=>absurd h (by rw[cj];simp)⟩;rw[show fA (l,d,all).1 (l,d,all).2.1 (l,d,all).2.2=ql from e]
      (repeat' (first|exact trivial|exact rfl|exact(fun _=>rfl)|apply And.intro))
    . subst hz;have e:fA l d all=l[b].key:=by unfold fA;rw[hbb]
      refine ag.2 ⟨fun h=>absurd h (by rw[cj];simp),fun _=>af.2 ⟨by rw[lC];simp,au.2 ⟨l[b],by simp[hbl],?_⟩⟩⟩;rw[show fA (l,d,all).1 (l,d,all).2.1 (l,d,all).2.2=l[b].key from e]
      (repeat' (first|exact trivial|exact rfl|exact(fun _=>rfl)|apply And.intro)))
theorem KI:∀g C,yu g=some C->CO g C:=bG VS (bG T3 (bG SN (bG Wt (bG Kd (bG Ye (bG SE (bG Yw (bG T0 (bG Wq (bG Kc uj))))))))))
theorem xK {α:Type} {p:α->Bool}:∀{l:List α} {j:Nat} (_:j<(l.takeWhile p).length),∃h:j<l.length,p l[j]=true
 |[],j,hj=>by simp at hj
 | a ::l,j,hj=>by
  by_cases hb:p a=true
  . rw[BC,An hb]at hj
    cases j with
    |zero=>exact⟨by simp,by simpa using hb⟩
    |succ j=>
     obtain⟨h1,h2⟩:=xK (l:=l) (j:=j) (by simpa using hj);exact⟨by simpa using h1,by simpa using h2⟩
  . rw[BC,Aj hb]at hj;simp at hj
theorem yx {α:Type} {p:α->Bool}:∀{l:List α} (h:(l.takeWhile p).length<l.length),p (l[(l.takeWhile p).length])=false
 |[],h=>by simp at h
 |a::l,h=>by
  by_cases hb:p a=true
  . have e:((a::l).takeWhile p).length=(l.takeWhile p).length+1:=by rw[BC,An hb];rfl
    simp only[e,Fa];exact yx (by rw[e]at h;simpa using h)
  . have e:((a::l).takeWhile p).length=0:=by rw[BC,Aj hb];rfl
    simp only[e,E9];exact Ax.2 hb
theorem LY (L:List Bs) (d:Bs):dU L d<=L.length:=(DX _).length_le
theorem TI {L:List Bs} {d:Bs} {k:Nat} (hk:k<=dU L d) (h:k<L.length) (hl:lt L[k] d=true):k+1<=dU L d:=by
 apply Bf;intro hn;have e:dU L d=k:=by omega
 have:=yx (p:=fun x=>lt x d) (l:=L) (by show dU L d<L.length;omega);have e2:(L.takeWhile fun x=>lt x d).length=k:=e;simp only[e2]at this;rw[hl]at this
 cases this
theorem TJ {L:List Bs} {d:Bs} {k:Nat} (hk:k<=dU L d) (h:k<L.length) (hl:lt L[k] d=false):k=dU L d:=by
 apply Bf;intro hn;obtain⟨h1,h2⟩:=xK (p:=fun x=>lt x d) (l:=L) (j:=k) (by show k<dU L d;omega);rw[hl]at h2
 cases h2
theorem U0 (L:List Bs) (d:Bs):(fS L d).length<=L.length+1:=by
 unfold fS;have:=LY L d;split
 . omega
 . simp;omega
theorem vH:∀(l:List aa) (a:List Bs),(l.foldl (fun a x=>fS a x.key.domain) a).length<=a.length+l.length
 |[],a=>by simp
 |x::l,a=>by
  have h1:=vH l (fS a x.key.domain);have h2:=U0 a x.key.domain;simp only[Br,Az];omega
theorem TR:CO kL Cr:=bO (cfg:=fun y=>bE yu (ml kL 7 (vX y) (cr kL 3 (kT y)))) bA (fun _=>rfl) (fun _=>KI) (n:=600) (by
 rw[UA];intro l hpre;have hpre:l.length<=10000:=hpre;refine⟨⟨0,by simp,?_⟩,?_⟩
 . (repeat' (first|exact trivial|exact rfl|exact(fun _=>rfl)|apply And.intro))
 intro x hx;refine ag.2 ⟨fun hlt=>?_,fun hge=>⟨by rw[rI (gz hge)],trivial⟩⟩;have hlt':x<l.length:=cq hlt;have hd:((l[x]?).getD je).key.domain=l[x].key.domain:=by simp[hlt']
 refine au.2 ⟨_,cE hlt',(x,0),⟨(x,0),⟨⟨hlt',Au _⟩,rfl⟩,?_⟩,?_⟩
 . (repeat' (first|exact trivial|exact rfl|exact(fun _=>rfl)|apply And.intro))
   all_goals (simp[hlt'])
 rintro⟨x1,k⟩ ⟨⟨h1,h2⟩,hx1⟩;have hx1:x1=x:=hx1;subst hx1;have hn:=kW (fun a (z:aa)=>fS a z.key.domain) ([]:List Bs) hlt';have hn:bj (l.take (x1+1))=fS (bj (l.take x1)) l[x1].key.domain:=hn;have hlen:(bj (l.take x1)).length<=x1:=by have:=vH (l.take x1) [];unfold bj;simp at this⊢;omega
 have hk:k<=dU (bj (l.take x1)) l[x1].key.domain:=h2;have hkp:=LY (bj (l.take x1)) l[x1].key.domain;have hkl:k<=(bj (l.take x1)).length:=by omega
 have hmu:l.length - (x1+1)<l.length - x1:=by omega
 refine aJ (fun hlt2=>?_) fun hge2=>?_
 . have hlt2':k<(bj (l.take x1)).length:=cq hlt2;refine au.2 ⟨_,cE hlt2',ag.2 ⟨fun hl=>af.2 ⟨ch k (by omega),(x1,k+1),⟨⟨hlt',?_⟩,rfl⟩,?_,?_⟩,fun hl=>ag.2 ⟨fun he=>absurd he (by simp;omega),fun he=>au.2 ⟨_,cE hlt2',ag.2 ⟨fun hne=>?_,fun hne=>?_⟩⟩⟩⟩⟩
   . exact TI hk hlt2' (by rw[<-hd];exact hl)
   . show(bj (l.take x1)).length - (k+1)<(bj (l.take x1)).length - k
     omega
   . (repeat' (first|exact trivial|exact rfl|exact(fun _=>rfl)|apply And.intro))
   all_goals (have hkk:k=dU (bj (l.take x1)) l[x1].key.domain:=TJ hk hlt2' (by rw[<-hd];exact hl))
   all_goals (have hne:=hne;simp only[hd]at hne)
   . refine⟨fun _=>rfl,af.2 ⟨by rw[AA];exact hkl,fun _=>rfl,af.2 ⟨by rw[AA];exact hkl,fun _=>⟨rfl,rfl⟩,(bj (l.take x1)).take k,rfl,af.2 ⟨by simp only[Ac,AA,AU,Az,AG,A5,A6];omega,l[x1].key.domain,by rw[hd],af.2 ⟨by simp only[Ac,AA,AU,Az,AG,A5,A6];omega,fun _=>⟨rfl,rfl⟩,(bj (l.take x1)).drop k,rfl,af.2 ⟨by simp only[Ac,AA,AU,Az,AG,A5,A6];omega,af.2 ⟨ch x1 (by omega),x1+1,hlt',hmu,?_⟩⟩⟩⟩⟩⟩⟩
     (repeat' (first|exact trivial|exact rfl|exact(fun _=>rfl)|apply And.intro))
     all_goals (first|(rw[hn];unfold fS;rw[<-hkk,Aj (by rw[Af hlt2'];simpa using hne)];simp)|(simp[ai]))
   . refine af.2 ⟨ch x1 (by omega),x1+1,hlt',hmu,?_⟩
     (repeat' (first|exact trivial|exact rfl|exact(fun _=>rfl)|apply And.intro))
     all_goals (first|(rw[hn];unfold fS;rw[<-hkk,An (by rw[Af hlt2'];simpa using hne)])|(simp[ai]))
 . have hge2':(bj (l.take x1)).length<=k:=gf hge2;have hkk:k=dU (bj (l.take x1)) l[x1].key.domain:=by omega
   refine ag.2 ⟨fun he=>?_,fun he=>absurd he (by simp;omega)⟩;refine⟨fun _=>rfl,af.2 ⟨by rw[AA];exact hkl,fun _=>rfl,af.2 ⟨by rw[AA];exact hkl,fun _=>⟨rfl,rfl⟩,(bj (l.take x1)).take k,rfl,af.2 ⟨by simp only[Ac,AA,AU,Az,AG,A5,A6];omega,l[x1].key.domain,by rw[hd],af.2 ⟨by simp only[Ac,AA,AU,Az,AG,A5,A6];omega,fun _=>⟨rfl,rfl⟩,(bj (l.take x1)).drop k,rfl,af.2 ⟨by simp only[Ac,AA,AU,Az,AG,A5,A6];omega,af.2 ⟨ch x1 (by omega),x1+1,hlt',hmu,?_⟩⟩⟩⟩⟩⟩⟩
   (repeat' (first|exact trivial|exact rfl|exact(fun _=>rfl)|apply And.intro))
   all_goals (first|(rw[hn];unfold fS;rw[<-hkk,Aj (by rw[BH hge2'];simp)];simp)|(simp[ai])))
theorem KJ:∀g C,F4 g=some C->CO g C:=bG TR KI
end
section
variable [Inhabited aL]
structure ar where
 dev:Int
 inc:Int
 seq:Int
deriving DecidableEq,Inhabited
structure dJ where
 wall:Int
 count:Int
 dev:Int
deriving DecidableEq,Inhabited
def ar.enc (x:ar):List SV:=[.int .i64 x.dev, .int .i64 x.inc, .int .i64 x.seq]
def dJ.enc (x:dJ):List SV:=[.int .i64 x.wall, .int .i64 x.count, .int .i64 x.dev]
def xU (d i:Int):Bool:=bU 0 d&&bU d 63&&bU 1 i&&bU i 1048576
def fB (x:ar):Bool:=xU x.dev x.inc&&bU 1 x.seq&&bU x.seq 4294967296
def within (a b c:Int):Bool:=bU b a&&bU a c
def oq (x:dJ):Bool:=within x.wall 0 4398046511104&&within x.count 0 65535&&within x.dev 0 63
def lN (a b:Int):Int:=if a=0 then b else a
def xE (x y:ar):Int:=lN (dc x.dev y.dev) (dc x.inc y.inc)
def nJ (x y:ar):Int:=lN (xE x y) (dc x.seq y.seq)
def bI (x y:ar):Bool:=decide (nJ x y<0)
def xN (x y:dJ):Int:=lN (dc x.wall y.wall) (dc x.count y.count)
def kG (x y:dJ):Bool:=decide (lN (xN x y) (dc x.dev y.dev)<0)
def nV:aM:={Y:=Int×Int,pre:=fun _=>True,args:=fun y=>[.agg [i64 y.1,i64 y.2]],res:=fun y=> .bool (xU y.1 y.2)}
def uX (p:ar->Bool):aM:={Y:=ar,pre:=fun _=>True,args:=fun y=>[.agg y.enc],res:=fun y=> .bool (p y)}
def xl (p:dJ->Bool):aM:={Y:=dJ,pre:=fun _=>True,args:=fun y=>[.agg y.enc],res:=fun y=> .bool (p y)}
def xd:aM:={Y:=Int×Int×Int,pre:=fun _=>True,args:=fun y=>[i64 y.1,i64 y.2.1,i64 y.2.2],res:=fun y=> .bool (within y.1 y.2.1 y.2.2)}
def MX:aM:={Y:=ar×ar,pre:=fun _=>True,args:=fun y=>[.agg [i64 y.1.dev,i64 y.1.inc], .agg [i64 y.2.dev,i64 y.2.inc]],res:=fun y=>i64 (xE y.1 y.2)}
def yc:aM:={Y:=ar×ar,pre:=fun _=>True,args:=fun y=>[.agg y.1.enc, .agg y.2.enc],res:=fun y=>i64 (nJ y.1 y.2)}
def yd:aM:={Y:=ar×ar,pre:=fun _=>True,args:=fun y=>[.agg y.1.enc, .agg y.2.enc],res:=fun y=> .bool (bI y.1 y.2)}
def Mt:aM:={Y:=dJ×dJ,pre:=fun _=>True,args:=fun y=>[.agg y.1.enc, .agg y.2.enc],res:=fun y=>i64 (xN y.1 y.2)}
def xc:aM:={Y:=dJ×dJ,pre:=fun _=>True,args:=fun y=>[.agg y.1.enc, .agg y.2.enc],res:=fun y=> .bool (kG y.1 y.2)}
noncomputable def pq (f:FuncId):Option aM:=bif Nat.beq f G6 then some nV else bif Nat.beq f Ht then some nV else bif Nat.beq f Hb then some xd else bif Nat.beq f Hg then some xd else F4 f
noncomputable def uT (f:FuncId):Option aM:=bif Nat.beq f G7 then some (uX fB)else bif Nat.beq f Hv then some (uX fB)else bif Nat.beq f Hl then some (xl oq)else bif Nat.beq f Hw then some (xl oq)else bif Nat.beq f Hn then some MX else bif Nat.beq f Hm then some Mt else pq f
noncomputable def yl (f:FuncId):Option aM:=bif Nat.beq f G8 then some yc else bif Nat.beq f Hz then some xc else bif Nat.beq f GZ then some xc else uT f
noncomputable def oC (f:FuncId):Option aM:=bif Nat.beq f HJ then some yd else bif Nat.beq f GY then some yd else yl f
theorem yR (a:Int):bw a 64=bU a 63:=by
 rw[cj,fi,AN,Ab,Ab];omega
theorem L9 {a b:Int}:lN a b<0↔a<0\/(a=0/\b<0):=by
 unfold lN;by_cases h:a=0
 . simp[h]
 . simp[h]
theorem K3 {a b:Int}:lN a b=0↔a=0/\b=0:=by
 unfold lN;by_cases h:a=0<;>simp[h]
theorem tG (x y:ar):bI x y=true↔x.dev<y.dev\/(x.dev=y.dev/\(x.inc<y.inc\/(x.inc=y.inc/\x.seq<y.seq))):=by
 unfold bI nJ xE;simp only[Ab,L9,K3,rR,rL];constructor
 . rintro((h|⟨h1,h2⟩)|⟨⟨h1,h2⟩,h3⟩)
   . exact .inl h
   . exact .inr ⟨h1, .inl h2⟩
   . exact .inr ⟨h1, .inr ⟨h2,h3⟩⟩
 . rintro(h|⟨h1,h2|⟨h2,h3⟩⟩)
   . exact .inl (.inl h)
   . exact .inl (.inr ⟨h1,h2⟩)
   . exact .inr ⟨⟨h1,h2⟩,h3⟩
theorem QX (x y:dJ):kG x y=true↔x.wall<y.wall\/(x.wall=y.wall/\(x.count<y.count\/(x.count=y.count/\x.dev<y.dev))):=by
 unfold kG xN;simp only[Ab,L9,K3,rR,rL];constructor
 . rintro((h|⟨h1,h2⟩)|⟨⟨h1,h2⟩,h3⟩)
   . exact .inl h
   . exact .inr ⟨h1, .inl h2⟩
   . exact .inr ⟨h1, .inr ⟨h2,h3⟩⟩
 . rintro(h|⟨h1,h2|⟨h2,h3⟩⟩)
   . exact .inl (.inl h)
   . exact .inl (.inr ⟨h1,h2⟩)
   . exact .inr ⟨⟨h1,h2⟩,h3⟩
theorem ar.ext' {x y:ar} (h1:x.dev=y.dev) (h2:x.inc=y.inc) (h3:x.seq=y.seq):x=y:=by cases x;cases y;simp_all
theorem vB (x:ar):bI x x=false:=by
 rw[Ax,Ds,tG];omega
theorem vy {x y z:ar} (h1:bI x y=true) (h2:bI y z=true):bI x z=true:=by
 rw[tG]at*;omega
theorem y9 (x y:ar):bI x y=true\/x=y\/bI y x=true:=by
 simp only[tG];by_cases h:x.dev=y.dev/\x.inc=y.inc/\x.seq=y.seq
 . exact .inr (.inl (ar.ext' h.1 h.2.1 h.2.2))
 . have:x.dev<y.dev\/y.dev<x.dev\/(x.dev=y.dev/\(x.inc<y.inc\/y.inc<x.inc\/(x.inc=y.inc/\(x.seq<y.seq\/y.seq<x.seq)))):=by omega
   omega
theorem WW:CO G6 nV:=bO (cfg:=fun y=>bE bZ (cS y)) bA (fun _=>rfl) (fun _=>rT) (n:=400) (by
 rintro⟨a,b⟩ -
 repeat' (first|exact trivial|exact rfl|((conv=>whnf);first|(apply aJ<;>intro)|apply And.intro))
 all_goals (simp_all[xU,yR]))
theorem Wk:CO Ht nV:=bO (cfg:=fun y=>bE bZ (cS y)) bA (fun _=>rfl) (fun _=>rT) (n:=400) (by
 rintro⟨a,b⟩ -
 repeat' (first|exact trivial|exact rfl|((conv=>whnf);first|(apply aJ<;>intro)|apply And.intro))
 all_goals (simp_all[xU]))
theorem VZ:CO Hb xd:=bO (cfg:=fun y=>bE bZ (cS y)) bA (fun _=>rfl) (fun _=>rT) (n:=400) (by
 rintro⟨a,b⟩ -
 repeat' (first|exact trivial|exact rfl|((conv=>whnf);first|(apply aJ<;>intro)|apply And.intro))
 all_goals (simp_all[within]))
theorem T2:CO Hg xd:=bO (cfg:=fun y=>bE bZ (cS y)) bA (fun _=>rfl) (fun _=>rT) (n:=400) (by
 rintro⟨a,b⟩ -
 repeat' (first|exact trivial|exact rfl|((conv=>whnf);first|(apply aJ<;>intro)|apply And.intro))
 all_goals (simp_all[within]))
theorem qe:∀g C,pq g=some C->CO g C:=bG WW (bG Wk (bG VZ (bG T2 KJ)))
theorem Nb:CO G7 (uX fB):=bO (cfg:=fun y=>bE pq (cS y)) bA (fun _=>rfl) (fun _=>qe) (n:=400) (by
 rintro⟨a,b,c⟩ -
 (conv=>whnf)
 refine⟨(a,b),?_⟩
 repeat' (first|exact trivial|exact rfl|((conv=>whnf);first|(apply aJ<;>intro)|apply And.intro))
 all_goals (simp_all[fB]))
theorem Y7:CO Hv (uX fB):=bO (cfg:=fun y=>bE pq (cS y)) bA (fun _=>rfl) (fun _=>qe) (n:=400) (by
 rintro⟨a,b,c⟩ -
 (conv=>whnf)
 refine⟨(a,b),?_⟩
 repeat' (first|exact trivial|exact rfl|((conv=>whnf);first|(apply aJ<;>intro)|apply And.intro))
 all_goals (simp_all[fB]))
theorem W9:CO Hl (xl oq):=bO (cfg:=fun y=>bE pq (cS y)) bA (fun _=>rfl) (fun _=>qe) (n:=400) (by
 rintro⟨a,b,c⟩ -
 repeat' (first|exact trivial|exact rfl|((conv=>whnf);first|(apply aJ<;>intro)|apply And.intro))
 all_goals (simp_all[oq,within]))
theorem Ws:CO Hw (xl oq):=bO (cfg:=fun y=>bE pq (cS y)) bA (fun _=>rfl) (fun _=>qe) (n:=400) (by
 rintro⟨a,b,c⟩ -
 repeat' (first|exact trivial|exact rfl|((conv=>whnf);first|(apply aJ<;>intro)|apply And.intro))
 all_goals (simp_all[oq,within]))
theorem ZE:CO Hn MX:=bO (cfg:=fun y=>bE pq (cS y)) bA (fun _=>rfl) (fun _=>qe) (n:=400) (by
 rintro⟨⟨a,b,c⟩,d,e,f⟩ -
 (conv=>whnf)
 refine⟨(a,d),?_⟩
 repeat ((conv=>whnf);first|refine⟨rfl,?_⟩|refine⟨trivial,?_⟩)
 (conv=>whnf)
 refine⟨(b,e),?_⟩
 repeat' (first|exact trivial|exact rfl|((conv=>whnf);first|(apply aJ<;>intro)|apply And.intro))
 all_goals (simp_all[xE,lN]))
theorem Yj:CO Hm Mt:=bO (cfg:=fun y=>bE pq (cS y)) bA (fun _=>rfl) (fun _=>qe) (n:=400) (by
 rintro⟨⟨a,b,c⟩,d,e,f⟩ -
 (conv=>whnf)
 refine⟨(a,d),?_⟩
 repeat ((conv=>whnf);first|refine⟨rfl,?_⟩|refine⟨trivial,?_⟩)
 (conv=>whnf)
 refine⟨(b,e),?_⟩
 repeat' (first|exact trivial|exact rfl|((conv=>whnf);first|(apply aJ<;>intro)|apply And.intro))
 all_goals (simp_all[xN,lN]))
theorem wD:∀g C,uT g=some C->CO g C:=bG Nb (bG Y7 (bG W9 (bG Ws (bG ZE (bG Yj qe)))))
theorem Yo:CO G8 yc:=bO (cfg:=fun y=>bE uT (cS y)) bA (fun _=>rfl) (fun _=>wD) (n:=400) (by
 rintro⟨x,y⟩ -
 (conv=>whnf)
 refine⟨(x,y),?_⟩
 repeat ((conv=>whnf);first|refine⟨rfl,?_⟩|refine⟨trivial,?_⟩)
 (conv=>whnf)
 refine⟨(x.seq,y.seq),?_⟩
 repeat' (first|exact trivial|exact rfl|((conv=>whnf);first|(apply aJ<;>intro)|apply And.intro))
 all_goals (simp_all[nJ,lN]))
theorem VW:CO Hz xc:=bO (cfg:=fun y=>bE uT (cS y)) bA (fun _=>rfl) (fun _=>wD) (n:=400) (by
 rintro⟨x,y⟩ -
 (conv=>whnf)
 refine⟨(x,y),?_⟩
 repeat ((conv=>whnf);first|refine⟨rfl,?_⟩|refine⟨trivial,?_⟩)
 (conv=>whnf)
 refine⟨(x.dev,y.dev),?_⟩
 repeat' (first|exact trivial|exact rfl|((conv=>whnf);first|(apply aJ<;>intro)|apply And.intro))
 all_goals (simp_all[kG,lN,cj]))
theorem VX:CO GZ xc:=bO (cfg:=fun y=>bE uT (cS y)) bA (fun _=>rfl) (fun _=>wD) (n:=400) (by
 rintro⟨⟨a,b,c⟩,d,e,f⟩ -
 repeat' (first|exact trivial|exact rfl|((conv=>whnf);first|(apply aJ<;>intro)|apply And.intro))
 all_goals (rw[AN,QX,cj,Ab];simp_all<;>omega))
theorem Cd:∀g C,yl g=some C->CO g C:=bG Yo (bG VW (bG VX wD))
theorem Y6:CO HJ yd:=bO (cfg:=fun y=>bE yl (cS y)) bA (fun _=>rfl) (fun _=>Cd) (n:=400) (by
 rintro⟨x,y⟩ -
 (conv=>whnf)
 refine⟨(x,y),?_⟩
 repeat' (first|exact trivial|exact rfl|((conv=>whnf);first|(apply aJ<;>intro)|apply And.intro))
 all_goals (simp_all[bI,cj]))
theorem Yb:CO GY yd:=bO (cfg:=fun y=>bE yl (cS y)) bA (fun _=>rfl) (fun _=>Cd) (n:=400) (by
 rintro⟨⟨a,b,c⟩,d,e,f⟩ -
 repeat' (first|exact trivial|exact rfl|((conv=>whnf);first|(apply aJ<;>intro)|apply And.intro))
 all_goals (rw[AN,tG,cj,Ab];simp_all<;>omega))
theorem o8:∀g C,oC g=some C->CO g C:=bG Y6 (bG Yb Cd)
end
theorem oZ (a b:aa):fx a b=true↔a.ab.access<b.ab.access\/(a.ab.access=b.ab.access/\(a.ab.aq<b.ab.aq\/(a.ab.aq=b.ab.aq/\fk a.key b.key=true))):=by
 unfold fx hZ;have h1:=rL a.ab.access b.ab.access;have h2:=rR a.ab.access b.ab.access;have h3:=rL a.ab.aq b.ab.aq;have h4:=rR a.ab.aq b.ab.aq;generalize dc a.ab.access b.ab.access=n at*
 generalize dc a.ab.aq b.ab.aq=m at*
 simp only[Ab];by_cases e1:n=0
 . have a1:=h1.1 e1;by_cases e2:m=0
   . have a2:=h3.1 e2;by_cases hk:a.key=b.key
     . simp[e1,e2,hk,nq,a1,a2]
     . cases hl:fk a.key b.key<;>simp[e1,e2,hk,a1,a2]
   . have a2:a.ab.aq≠b.ab.aq:=fun h=>e2 (h3.2 h)
     simp[e1,e2,a1,a2,h4]
 . have a1:a.ab.access≠b.ab.access:=fun h=>e1 (h1.2 h)
   simp[e1,a1,h2]
theorem vz (a:aa):fx a a=false:=by
 apply Ax.2;intro h;rw[oZ,nq]at h;simp at h
theorem vM {a b c:aa} (h1:fx a b=true) (h2:fx b c=true):fx a c=true:=by
 rw[oZ]at*;have ht:=pX a.key b.key c.key;rcases h1 with h1|⟨h1,h1'|⟨h1',h1''⟩⟩<;>rcases h2 with h2|⟨h2,h2'|⟨h2',h2''⟩⟩
 . left;omega
 . left;omega
 . left;omega
 . left;omega
 . right;exact⟨by omega, .inl (by omega)⟩
 . right;exact⟨by omega, .inl (by omega)⟩
 . left;omega
 . right;exact⟨by omega, .inl (by omega)⟩
 . right;exact⟨by omega, .inr ⟨by omega,ht h1'' h2''⟩⟩
theorem zx {a b:aa} (h1:fx a b=false) (h2:fx b a=false):a.key=b.key:=by
 have h1:=Ax.1 h1;have h2:=Ax.1 h2;rw[Ds,oZ]at h1 h2;rcases tH a.key b.key with hk|hk|hk
 . exfalso;apply h1;rcases El a.ab.access b.ab.access with e|e|e
   . exact .inl e
   . refine .inr ⟨e,?_⟩;rcases El a.ab.aq b.ab.aq with g|g|g
     . exact .inl g
     . exact .inr ⟨g,hk⟩
     . exact absurd (.inr ⟨e.symm, .inl g⟩) h2
   . exact absurd (.inl e) h2
 . exact hk
 . exfalso;apply h2;rcases El b.ab.access a.ab.access with e|e|e
   . exact .inl e
   . refine .inr ⟨e,?_⟩;rcases El b.ab.aq a.ab.aq with g|g|g
     . exact .inl g
     . exact .inr ⟨g,hk⟩
     . exact absurd (.inr ⟨e.symm, .inl g⟩) h1
   . exact absurd (.inl e) h1
theorem Iu {a b c:aa} (h1:fx a b=false) (h2:fx b c=false):fx a c=false:=by
 apply Ax.2;intro h
 cases hb:fx b a
 . have e:=zx h1 hb
   cases hc:fx c b
   . have e2:=zx h2 hc;have h1':=Ax.1 h1;have h2':=Ax.1 h2;have hb':=Ax.1 hb;have hc':=Ax.1 hc;rw[Ds,oZ]at h1' h2' hb' hc';rw[oZ,e,e2,nq]at h;simp only[e,e2,nq,Ao,and_false,Dr]at h1' h2' hb' hc' h;omega
   . have:=vM hc (?_:fx b c=true)
     . rw[vz]at this;cases this
     . rw[h2];exfalso;have h1':=Ax.1 h1;have hb':=Ax.1 hb;rw[Ds,oZ]at h1' hb';rw[oZ]at h hc;simp only[e,nq,Ao,and_false,Dr]at h1' hb';have e1:a.ab.access=b.ab.access:=by omega
       have e2:a.ab.aq=b.ab.aq:=by omega
       rw[e1,e2,e]at h;have h:=(oZ b c).2 h;rw[h2]at h
       cases h
 . have:=vM hb h;rw[h2]at this
   cases this
abbrev KN (l:List aa):Prop:=(l.map fun x=>x.key).Nodup
theorem KN.sub {l l':List aa} (h:KN l) (hs:l'.Sublist l):KN l':=Ed (hs.map _) h
theorem KN.nodup {l:List aa} (h:KN l):l.Nodup:=by
 unfold KN at h;rw[Dt,DO]at h;rw[Dt];exact h.imp fun hab e=>hab (by rw[e])
theorem KN.inj:∀{l:List aa},KN l->∀{a b:aa},a∈l->b∈l->a.key=b.key->a=b
 |[],_,a,b,ha,_,_=>by cases ha
 |x::l,h,a,b,ha,hb,hk=>by
  have h0:x.key∉l.map (fun x=>x.key)/\KN l:=by simpa [KN]using h
  rcases Ak.1 ha with rfl|ha'<;>rcases Ak.1 hb with rfl|hb'
  . rfl
  . exact absurd (Av.2 ⟨b,hb',hk.symm⟩) h0.1
  . exact absurd (Av.2 ⟨a,ha',hk⟩) h0.1
  . exact h0.2.inj ha' hb' hk
def jG (l:List aa) (d:Bs) (all:Bool):List aa:=l.filter fun x=>all||decide (x.key.domain=d)
theorem rW (l:List aa) (d:Bs):jG l d true=l:=by simp[jG]
theorem tT (l:List aa) (d:Bs):jG l d false=eZ l d:=by simp[jG,eZ]
abbrev qq (P:aa->Bool) (b:Option aa) (x:aa):Option aa:=if P x then(match b with|none=>some x|some y=>if fx x y then some x else some y)else b
theorem JM (P:aa->Bool):∀(l:List aa) (b:Option aa),l.foldl (qq P) b=none->b=none/\ ∀x∈l,P x=false
 |[],b,h=>⟨h,by simp⟩
 |x::l,b,h=>by
  obtain⟨h1,h2⟩:=JM P l _ h;by_cases hx:P x=true
  . exfalso;simp only[qq,hx,Bb]at h1
    cases b with
    |none=>cases h1
    |some y=>by_cases hs:fx x y=true<;>simp[hs]at h1
  . simp only[qq,hx,AK]at h1;exact⟨by simpa using h1,by simpa [hx]using h2⟩
theorem JN (P:aa->Bool):∀(l:List aa) (b:Option aa) (z:aa),l.foldl (qq P) b=some z->(b=some z\/(z∈l/\P z=true))/\(∀y,b=some y->fx y z=false)/\ ∀x∈l,P x=true->fx x z=false
 |[],b,z,h=>⟨.inl h,fun y e=>by have h:b=some z:=h;rw[h]at e;cases e;exact vz _,by simp⟩
 | x :: l,b,z,h=>by
  obtain⟨i1,i2,i3⟩:=JN P l _ z h;have hmem:z∈l/\P z=true->z∈x::l/\P z=true:=fun h=>⟨AB _ h.1,h.2⟩
  by_cases hx:P x=true
  . have all:fx x z=false->∀w∈x::l,P w=true->fx w z=false:=by
      intro h0 w hw hp;rcases Ak.1 hw with rfl|hw
      . exact h0
      . exact i3 w hw hp
    simp only[qq,hx,Bb]at i1 i2
    cases b with
    | none=>
      simp only at i1 i2;refine⟨.inr ?_,fun y e=>(nomatch e),all (i2 _ rfl)⟩;rcases i1 with e|h1
      . cases e;exact⟨Ar,hx⟩
      . exact hmem h1
    | some y0=>
      by_cases hs:fx x y0=true
      . simp only[hs,Bb]at i1 i2;refine⟨.inr ?_,fun y e=>?_,all (i2 _ rfl)⟩
        . rcases i1 with e|h1
          . cases e;exact⟨Ar,hx⟩
          . exact hmem h1
        . cases e;apply Ax.2;intro h2;have:=vM hs h2;rw[i2 _ rfl]at this
          cases this
      . have hs:=Ax.2 hs;simp only[hs,Ao,AK]at i1 i2;exact⟨i1.imp id hmem,i2,all (Iu hs (i2 _ rfl))⟩
  . simp only[qq,hx,AK]at i1 i2;refine⟨i1.imp id hmem,i2,fun w hw hp=>?_⟩;rcases Ak.1 hw with rfl|hw
    . exact absurd hp hx
    . exact i3 w hw hp
theorem KW (l:List aa) (d:Bs) (all:Bool):fV l d all=l.foldl (qq fun x=>all||decide (x.key.domain=d)) none:=rfl
theorem yY {l:List aa} {d:Bs} {all:Bool} (h:jG l d all≠[]):∃b∈jG l d all,fA l d all=b.key/\fV l d all=some b/\ ∀x∈jG l d all,fx x b=false:=by
 cases hb:fV l d all with
 |none=>
  exfalso;have:=(JM _ l none (by rw[<-KW];exact hb)).2;apply h;unfold jG;rw[Fb];intro x hx;rw[this x hx];simp
 |some b=>
  obtain⟨i1,_,i3⟩:=JN _ l none b (by rw[<-KW];exact hb);rcases i1 with e|⟨i1,i2⟩
  . cases e
  . refine⟨b,AE.2 ⟨i1,i2⟩,by simp only[fA,hb],rfl,fun x hx=>?_⟩;obtain⟨h1,h2⟩:=AE.1 hx;exact i3 x h1 h2
theorem Vp (l:List aa) (d:Bs):fV l d false=fV (eZ l d) [] true:=by
 unfold fV eZ;rw[List.foldl_filter];congr 1
 try (funext b x;by_cases hx:x.key.domain=d<;>simp[hx])
theorem Sq {l:List aa} {x:aa} (h:x∈l):(eP l x.key).length<l.length:=by
 unfold eP;apply Nat.lt_of_le_of_ne (AF _ _);intro e;have:=List.length_filter_eq_length_iff.1 e x h;simp at this
theorem tJ {l:List aa} {d:Bs} {all:Bool} {m:Nat} (h:m<(jG l d all).length):(eP l (fA l d all)).length<l.length:=by
 obtain⟨b,hb,he,_⟩:=yY (l:=l) (d:=d) (all:=all) (by intro e;rw[e]at h;simp at h);rw[he];exact Sq (AE.1 hb).1
def jE (m:Nat) (d:Bs) (all:Bool) (l:List aa):List aa:=
 if h:m<(jG l d all).length then jE m d all (eP l (fA l d all))else l
 termination_by l.length
 decreasing_by exact tJ h
theorem tM {m:Nat} {d:Bs} {all:Bool} {l:List aa} (h:m<(jG l d all).length):jE m d all l=jE m d all (eP l (fA l d all)):=by
 conv=>lhs;unfold jE
 rw[dif_pos h]
theorem tL {m:Nat} {d:Bs} {all:Bool} {l:List aa} (h:(jG l d all).length<=m):jE m d all l=l:=by
 unfold jE;rw[dif_neg (by omega)]
abbrev fc (m:Nat) (l:List aa):List aa:=jE m [] true l
theorem tK {m:Nat} {l:List aa} (h:l.length<=m):fc m l=l:=tL (by rw[rW];exact h)
theorem Jp {m:Nat} {l:List aa} (h:m<l.length):fc m l=fc m (eP l (fA l [] true)):=tM (by rw[rW];exact h)
theorem Ux (m:Nat) (d:Bs) (all:Bool):∀(n:Nat) (l:List aa),l.length<=n->(jE m d all l).Sublist l:=by
 intro n;induction n with
 |zero=>intro l h;rw[tL (by unfold jG;exact Aq (AF _ _) (by omega))];exact EK _
 |succ n ih=>
  intro l h;by_cases hm:m<(jG l d all).length
  . rw[tM hm];exact(ih _ (by have:=tJ hm;omega)).trans BR
  . rw[tL (by omega)];exact EK _
theorem ux (m:Nat) (d:Bs) (all:Bool) (l:List aa):(jE m d all l).Sublist l:=Ux m d all l.length l (Ai _)
theorem Rh {l s:List aa} {x:aa} (hk:KN l) (hp:(x::s).Perm l):s.Perm (eP l x.key):=by
 have h1:(eP (x::s) x.key).Perm (eP l x.key):=hp.filter _;have hk2:KN (x::s):=(hp.map _).nodup_iff.2 hk;have h0:x.key∉s.map (fun x=>x.key):=by simp only[KN,A4,B7]at hk2;exact hk2.1
 have h2:eP (x::s) x.key=s:=by
  unfold eP;rw[Df,Aj (by simp)];apply BG.2;intro y hy;simp only[Ab];intro e;exact h0 (Av.2 ⟨y,hy,e⟩)
 rw[h2]at h1;exact h1
theorem Zr (m:Nat):∀(n:Nat) (l s:List aa),l.length<=m+n->KN l->s.Perm l->s.Pairwise (fun a b=>fx b a=false)->(s.take (l.length - m)).foldl (fun a x=>eP a x.key) l=fc m l:=by
 intro n;induction n with
 |zero=>
  intro l s hl _ _ _;rw[show l.length - m=0 by omega];simp only[DK,Eb];exact(tK (by omega)).symm
 |succ n ih=>
  intro l s hl hk hp hs;by_cases hm:l.length<=m
  . rw[show l.length - m=0 by omega];simp only[DK,Eb];exact(tK (by omega)).symm
  . cases s with
    |nil=>have:=hp.length_eq;simp at this;omega
    | cons x s=>
     obtain⟨b,hb,he,_,hall⟩:=yY (l:=l) (d:=[]) (all:=true) (by rw[rW];intro e;rw[e]at hm;simp at hm);rw[rW]at hb hall;have hx:x∈l:=hp.subset Ar;have hbx:fx b x=false:=by
      rcases Ak.1 (hp.symm.subset hb)with rfl|h
      . exact vz _
      . exact(BA.1 hs).1 b h
     have hxb:=hall x hx;have:b=x:=hk.inj hb hx (zx hbx hxb);subst this;rw[show l.length - m=(l.length - 1 - m)+1 by omega,List.take_succ_cons,Br];have hp2:=Rh hk hp;have hlen:(eP l b.key).length=l.length - 1:=by
      have h1:=hp2.length_eq;have h2:=hp.length_eq;simp at h2;omega
     rw[<-hlen,ih (eP l b.key) s (by rw[hlen];omega) (hk.sub BR) hp2 (BA.1 hs).2,Jp (l:=l) (by omega),he]
theorem Ib (l:List aa) (d:Bs) (k:aA):eZ (eP l k) d=eP (eZ l d) k:=by
 unfold eZ eP;rw[DI,DI];congr 1
 funext x
 exact Bool.and_comm _ _
theorem R5 (m:Nat) (d:Bs):∀(n:Nat) (l:List aa),l.length<=n->jE m d false l=l.filter fun x=>decide (x.key.domain≠d)||decide (x∈fc m (eZ l d)):=by
 intro n;have done:∀l:List aa,(eZ l d).length<=m->jE m d false l=l.filter fun x=>decide (x.key.domain≠d)||decide (x∈fc m (eZ l d)):=by
  intro l h;rw[tL (by rw[tT];exact h),tK h];refine(BG.2 fun x hx=>?_).symm;by_cases hd:x.key.domain=d
  . have:x∈eZ l d:=AE.2 ⟨hx,by simpa using hd⟩;simp[this]
  . simp[hd]
 induction n with
 |zero=>intro l h;exact done l (Aq (AF _ _) (by omega))
 |succ n ih=>
  intro l h;by_cases hm:m<(eZ l d).length
  . have hm1:m<(jG l d false).length:=by rw[tT];exact hm
    have hm2:m<(jG (eZ l d) [] true).length:=by rw[rW];exact hm
    have hk:fA l d false=fA (eZ l d) [] true:=by simp only[fA,Vp]
    obtain⟨b,hb,he,_⟩:=yY (l:=l) (d:=d) (all:=false) (by intro e;rw[e]at hm1;simp at hm1);rw[tT]at hb;have hbd:b.key.domain=d:=by simpa using(AE.1 hb).2
    rw[tM hm1,ih _ (by have:=tJ hm1;omega),show fc m (eZ l d)=fc m (eP (eZ l d) (fA (eZ l d) [] true))from tM hm2,<-hk,<-Ib];conv=>lhs;arg 2;unfold eP
    rw[DI];apply DR;intro x hx;by_cases hq:(decide (x.key.domain≠d)||decide (x∈fc m (eZ (eP l (fA l d false)) d)))=true
    . rw[hq,Bp,Ab];simp only[BF,Ab]at hq;rcases hq with hq|hq
      . rw[he];intro e;rw[e]at hq;exact hq hbd
      . have h1:=(ux m [] true _).subset hq;rw[Ib]at h1;simpa using(AE.1 h1).2
    . rw[Ax.2 hq,Bg]
  . exact done l (by omega)
def jA (T:List aa) (a:List aa) (x:aa):List aa:=if x∈T then a else eP a x.key
theorem zy (T:List aa):∀(o l:List aa),o.foldl (jA T) l=l.filter fun y=>decide (∀x∈o,x∉T->y.key≠x.key)
 |[],l=>(BG.2 fun y _=>by simp).symm
 |x::o,l=>by
  rw[Br,zy T o];unfold jA;by_cases hx:x∈T
  . rw[An hx];apply DR;intro y _;simp[hx]
  . rw[Aj hx];unfold eP;rw[DI];apply DR;intro y _;simp[hx];rw[Bool.and_comm]
theorem step_eq {l:List aa} (hk:KN l) (m:Nat) (d:Bs):(eZ l d).foldl (jA (fc m (eZ l d))) l=jE m d false l:=by
 rw[zy,R5 m d l.length l (Ai _)];apply DR;intro y hy;rw[AN];simp only[Ab,BF];constructor
 . intro h;by_cases hd:y.key.domain=d
   . right;apply E0;intro hn;exact h y (AE.2 ⟨hy,by simpa using hd⟩) hn rfl
   . exact .inl hd
 . intro h x hx hxT e;obtain⟨hx1,hx2⟩:=AE.1 hx;have:y=x:=hk.inj hy hx1 e;subst this;rcases h with h|h
   . exact h (by simpa using hx2)
   . exact hxT h
def bh (l:List aa) (now:Int):List aa:=l.filter fun x=> !fb x.ab now
def sU (cap:Nat) (l:List aa) (ds:List Bs):List aa:=ds.foldl (fun b d=>jE cap d false b) l
def fo (cap total:Nat) (l:List aa) (now:Int):List aa:=fc total (sU cap (bh l now) (bj (bh l now)))
theorem zN (cap:Nat):∀(ds:List Bs) (l:List aa),(sU cap l ds).Sublist l
 |[],l=>EK _
 |d::ds,l=>(zN cap ds _).trans (ux cap d false l)
theorem Lq (cap total:Nat) (l:List aa) (now:Int):(fo cap total l now).Sublist l:=(ux _ _ _ _).trans ((zN _ _ _).trans BR)
theorem We {L:List Bs} {d e:Bs}:e∈fS L d↔e=d\/e∈L:=by
 unfold fS;split
 . rename_i h;have:d∈L:=Bz h;constructor
   . exact .inr
   . rintro(rfl|h)
     . exact this
     . exact h
 . rw[A7,Ak];conv=>rhs;rw[<-Dh (dU L d) L]
   rw[A7];constructor
   . rintro(h|h|h)
     . exact .inr (.inl h)
     . exact .inl h
     . exact .inr (.inr h)
   . rintro(h|h|h)
     . exact .inr (.inl h)
     . exact .inl h
     . exact .inr (.inr h)
theorem Lu:∀(l:List aa) (a:List Bs) (d:Bs),d∈l.foldl (fun a x=>fS a x.key.domain) a↔d∈a\/ ∃x∈l,x.key.domain=d
 |[],a,d=>by simp
 |x::l,a,d=>by
  rw[Br,Lu l,We];constructor
  . rintro((rfl|h)|⟨y,h1,h2⟩)
    . exact .inr ⟨x,Ar,rfl⟩
    . exact .inl h
    . exact .inr ⟨y,AB _ h1,h2⟩
  . rintro(h|⟨y,h1,h2⟩)
    . exact .inl (.inr h)
    . rcases Ak.1 h1 with rfl|h1
      . exact .inl (.inl h2.symm)
      . exact .inr ⟨y,h1,h2⟩
theorem Rn {l:List aa} {d:Bs}:d∈bj l↔∃x∈l,x.key.domain=d:=by
 unfold bj;rw[Lu];simp
def jg (l k:List aa):List aa:=l.filter fun x=>decide (x∉k)
theorem Ub {l k:List aa} (hk:KN l) (h:k.Sublist l):l.filter (fun x=> !(eB k x.key).2)=jg l k:=by
 unfold jg;apply DR;intro x hx;rw[AN];simp only[eB,AS,Ab];constructor
 . intro hf hm
   cases hfd:k.find? (fun y=>decide (y.key=x.key))with
   |none=>
    have:=DH.1 hfd x hm;simp at this
   |some y=>rw[hfd]at hf;cases hf
 . intro hm
   cases hfd:k.find? (fun y=>decide (y.key=x.key))with
   |none=>rfl
   |some y=>
    have h1:=List.find?_some hfd;have h2:=Eh hfd;have:y=x:=hk.inj (h.subset h2) hx (by simpa using h1);subst this;exact absurd h2 hm
theorem fH:∀{l:List aa},gS l=true↔l.Pairwise (fun a b=>fk a.key b.key=true)
 |[]=>by simp[gS]
 |[x]=>by simp[gS]
 |x::y::l=>by
  simp only[gS,Ac];rw[fH (l:=y::l),BA (a:=x)];constructor
  . rintro⟨h1,h2⟩;refine⟨fun z hz=>?_,h2⟩;rcases Ak.1 hz with rfl|hz
    . exact h1
    . exact pX _ _ _ h1 ((BA.1 h2).1 z hz)
  . rintro⟨h1,h2⟩;exact⟨h1 y Ar,h2⟩
theorem JS {l:List aa} (h:gS l=true):KN l:=by
 have h:=fH.1 h;unfold KN;rw[Dt,DO];exact h.imp fun hab e=>by rw[e,nq]at hab;cases hab
theorem Xe {l:List aa} (hk:KN l) (cap:Nat):∀ds:List Bs,ds.foldl (fun b d=>(eZ b d).foldl (jA (fc cap (eZ b d))) b) l=sU cap l ds:=by
 intro ds;induction ds generalizing l with
 |nil=>rfl
 |cons d ds ih=>
  rw[Br,step_eq hk,ih (hk.sub (ux _ _ _ _))];rfl
section
variable [Inhabited aL]
abbrev aD (c:az):Nat:=c.domain.toNat
abbrev cA (c:az):Nat:=c.total.toNat
def MY:aM:={Y:=List aa×Int,pre:=fun y=>iH y.1/\KN y.1/\0<=y.2,args:=fun y=>[items y.1,i64 y.2],res:=fun y=>items (fc y.2.toNat y.1)}
def uO (l:List aa):Prop:=∀x∈l,x.key.domain.length<=1000000
def MU:aM:={Y:=List aa,pre:=fun y=>iH y/\uO y,args:=fun y=>[items y],res:=fun y=>strs (bj y)}
noncomputable def qt (f:FuncId):Option aM:=bif Nat.beq f Hi then some MU else bif Nat.beq f HE then some MY else F4 f
abbrev xX (l k:List aa):List aa:=l.filter fun x=> !(eB k x.key).2
def FE:aM:={Y:=az×List aa×Int,pre:=fun y=>0<=y.1.domain/\0<=y.1.total/\iH y.2.1,args:=fun y=>[.agg y.1.enc,items y.2.1,i64 y.2.2],res:=fun y=>items (fo (aD y.1) (cA y.1) y.2.1 y.2.2)}
abbrev iX (cap:Nat) (l:List aa) (i:Nat):List aa:=sU cap l ((bj l).take i)
def uC (y:az×List aa×Int):aH:={α:=Nat,ok:=fun i=>i<=y.2.1.length,μ:=fun i=>y.2.1.length - i,aW:=[2,3,6],aN:=fun i=>[(1,items y.2.1),(7, .own 1),(8,i64 i)],bn:=fun i=>[(1,mw ((y.2.1.take i).filter fun x=> !fb x.ab y.2.2))]}
def CD (y:az×List aa×Int):aH:=let l:=bh y.2.1 y.2.2;{α:=Nat,ok:=fun i=>i<=(bj l).length,μ:=fun i=>(bj l).length - i,aW:=[3,6],aN:=fun i=>[(7,items (iX (aD y.1) l i)),(9,strs (bj l)),(10,i64 i)],bn:=fun _=>[],ff:=[7]}
def CE (y:az×List aa×Int):aH:=let l:=bh y.2.1 y.2.2;{α:=Nat×List aa,ok:=fun x=>∃h:x.1<(bj l).length,x.2.length<=y.2.1.length/\jE (aD y.1) (bj l)[x.1] false x.2=iX (aD y.1) l (x.1+1),μ:=fun x=>x.2.length,aW:=[3,6],aN:=fun x=>[(7,items x.2),(9,strs (bj l)),(10,i64 x.1)],bn:=fun _=>[],link:=some fun a b=>b.1=a.1}
def CF (y:az×List aa×Int):aH:={α:=List aa,ok:=fun x=>x.length<=y.2.1.length/\fc (cA y.1) x=fo (aD y.1) (cA y.1) y.2.1 y.2.2,μ:=fun x=>x.length,aW:=[3,6],aN:=fun x=>[(7,items x)],bn:=fun _=>[]}
noncomputable def KQ (y:az×List aa×Int):FuncId->Nat->Option aH:=ml kM 3 (uC y) (ml kM 9 (CD y) (ml kM 11 (CE y) (cr kM 13 (CF y))))
noncomputable def pv (f:FuncId):Option aM:=bif Nat.beq f kM then some FE else qt f
def xr:aM:={Y:=az×List aa×Int,pre:=fun y=>0<=y.1.domain/\0<=y.1.total/\iH y.2.1,args:=fun y=>[.agg y.1.enc,items y.2.1,i64 y.2.2],res:=fun y=>items (xX y.2.1 (fo (aD y.1) (cA y.1) y.2.1 y.2.2))}
def sy (y:az×List aa×Int):aH:=let k:=fo (aD y.1) (cA y.1) y.2.1 y.2.2;{α:=Nat,ok:=fun i=>i<=y.2.1.length,μ:=fun i=>y.2.1.length - i,aW:=[3,6],aN:=fun i=>[(1,items y.2.1),(7,items k),(8, .own 1),(9,i64 i)],bn:=fun i=>[(1,mw ((y.2.1.take i).filter fun x=> !(eB k x.key).2))]}
def dI (y:az×List aa×Int):List aa×Int:=if eL y.1≠0 then([],eL y.1)else if gS y.2.1 then(fo (aD y.1) (cA y.1) y.2.1 y.2.2,0)else([],6)
def FW:aM:={Y:=az×List aa×Int,pre:=fun y=>uG y.1/\iH y.2.1/\uO y.2.1,args:=fun y=>[.agg y.1.enc,items y.2.1,i64 y.2.2],res:=fun y=> .bJ [items (dI y).1,i64 (dI y).2]}
def uL (y:az×List aa×Int):aH:={α:=Nat,ok:=fun i=>i<=y.2.1.length,μ:=fun i=>y.2.1.length - i,aW:=[2,3,6,7],aN:=fun i=>[(25,items y.2.1),(26,i64 (Int.ofNat y.2.1.length)),(27,i64 i),(9, .own 1)],bn:=fun i=>[(1,mw ((y.2.1.take i).filter fun x=> !fb x.ab y.2.2))]}
abbrev gp (cap:Nat) (l:List aa) (i:Nat):List aa:=((bj l).take i).foldl (fun b d=>(eZ b d).foldl (jA (fc cap (eZ b d))) b) l
def FB (y:az×List aa×Int):aH:=let l:=bh y.2.1 y.2.2;{α:=Nat,ok:=fun i=>i<=(bj l).length,μ:=fun i=>(bj l).length - i,aW:=[3,6,7],aN:=fun i=>[(9,items (gp (aD y.1) l i)),(41,strs (bj l)),(42,i64 (Int.ofNat (bj l).length)),(43,i64 i)],bn:=fun _=>[],ff:=[9]}
abbrev dm (cap:Nat) (l:List aa) (i:Nat):List aa:=eZ (gp cap l i) ((bj l)[i]?.getD [])
def uM (y:az×List aa×Int):aH:=let l:=bh y.2.1 y.2.2;{α:=Nat×Nat,ok:=fun x=>∃_:x.1<(bj l).length,x.2<=(dm (aD y.1) l x.1).length,μ:=fun x=>(dm (aD y.1) l x.1).length - x.2,aW:=[3,6,7],aN:=fun x=>[(9,items (((dm (aD y.1) l x.1).take x.2).foldl (jA (fc (aD y.1) (dm (aD y.1) l x.1))) (gp (aD y.1) l x.1))),(14,items (dm (aD y.1) l x.1)),(41,strs (bj l)),(42,i64 (Int.ofNat (bj l).length)),(43,i64 x.1),(50,items (dm (aD y.1) l x.1)),(51,i64 (Int.ofNat (dm (aD y.1) l x.1).length)),(52,i64 x.2)],bn:=fun _=>[],link:=some fun a b=>b.1=a.1}
noncomputable def LN (y:az×List aa×Int):FuncId->Nat->Option aH:=ml lH 8 (uL y) (ml lH 14 (FB y) (cr lH 18 (uM y)))
noncomputable def yn (f:FuncId):Option aM:=bif Nat.beq f lI then some xr else bif Nat.beq f lH then some FW else pv f
def gX (y:az×List aa×Int):List aa×Int:=if(dI y).2≠0 then([],(dI y).2)else(jg y.2.1 (dI y).1,0)
def FU:aM:={Y:=az×List aa×Int,pre:=fun y=>uG y.1/\iH y.2.1/\uO y.2.1,args:=fun y=>[.agg y.1.enc,items y.2.1,i64 y.2.2],res:=fun y=> .bJ [items (gX y).1,i64 (gX y).2]}
def sL (y:az×List aa×Int):aH:={α:=Nat,ok:=fun i=>i<=y.2.1.length,μ:=fun i=>y.2.1.length - i,aW:=[6,7],aN:=fun i=>[(8,items (dI y).1),(10, .own 1),(23,items y.2.1),(24,i64 (Int.ofNat y.2.1.length)),(25,i64 i)],bn:=fun i=>[(1,mw (jg (y.2.1.take i) (dI y).1))]}
end
theorem XD:(bV (fun(y:aM.Y FE)=>bE qt (KQ y)) 800 kM)=(∀(y:az×List aa×Int),
 0<=y.1.domain/\0<=y.1.total/\y.2.1.length<=10000->
 (∃(x:Nat),
 x<=y.2.1.length/\
 (ai y.2.2 y.2.2/\
 True/\
 True/\
 SV.aj aa y.2.1 aa.enc=SV.aj aa y.2.1 aa.enc/\
 True/\ai 0 ↑x/\True)/\
 (SV.aj (View.X {X:=aa,enc:=aa.enc}) [] (View.enc {X:=aa,enc:=aa.enc})=
 SV.aj aa
 (List.filter (fun(x:aa)=> !fb x.ab y.2.2) (List.take x y.2.1))
 aa.enc/\
 (ai y.1.aB y.1.aB/\
 ai y.1.domain y.1.domain/\
 ai y.1.total y.1.total/\
 SV.aj Bs y.1.rules aS=
 SV.aj Bs y.1.rules aS/\
 True)/\
 True)/\
 True)/\
 ∀(x:Nat),
 x<=y.2.1.length->
 br (bw (↑x) (Int.ofNat y.2.1.length))
 (so y.2.1[Int.toNat ↑x]? fun(val:aa)=>
 ∃(y_1:bo×Int),
 val.ab.value=y_1.1.value/\
 val.ab.aF=y_1.1.aF/\
 val.ab.aV=y_1.1.aV/\
 val.ab.aG=y_1.1.aG/\
 val.ab.persistent=y_1.1.persistent/\
 ai val.ab.aP y_1.1.aP/\
 ai val.ab.aq y_1.1.aq/\
 ai val.ab.access y_1.1.access/\
 ai y.2.2 y_1.2/\
 True/\
 br (!fb y_1.1 y_1.2)
 (so y.2.1[Int.toNat ↑x]? fun(val:aa)=>
 ∃(x_1:aa),
 (aa.enc x_1)=
 (aa.enc val)/\
 ck
 (Nat.ble
 ((List.length
 (List.filter (fun(x:aa)=> !fb x.ab y.2.2)
 (List.take x y.2.1))+
 List.length [x_1])*
 96)
 16777216&&
 Nat.ble
 (List.length
 (List.filter (fun(x:aa)=> !fb x.ab y.2.2)
 (List.take x y.2.1))+
 List.length [x_1])
 16777216)
 (ck (bp .i64 (↑x+1))
 (∃(y_2:Nat),
 y_2<=y.2.1.length/\
 aH.μ (uC y) y_2<aH.μ (uC y) x/\
 (ai y.2.2 y.2.2/\
 True/\
 True/\
 SV.aj aa y.2.1 aa.enc=
 SV.aj aa y.2.1 aa.enc/\
 True/\ai (↑x+1) ↑y_2/\True)/\
 (SV.aj aa
 (List.filter (fun(x:aa)=> !fb x.ab y.2.2)
 (List.take x y.2.1)++
 [x_1])
 aa.enc=
 SV.aj aa
 (List.filter (fun(x:aa)=> !fb x.ab y.2.2)
 (List.take y_2 y.2.1))
 aa.enc/\
 (ai y.1.aB y.1.aB/\
 ai y.1.domain y.1.domain/\
 ai y.1.total y.1.total/\
 SV.aj Bs y.1.rules aS=
 SV.aj Bs y.1.rules aS/\
 True)/\
 True)/\
 True)))
 (ck (bp .i64 (↑x+1))
 (∃(y_2:Nat),
 y_2<=y.2.1.length/\
 aH.μ (uC y) y_2<aH.μ (uC y) x/\
 (ai y.2.2 y.2.2/\
 True/\
 True/\
 SV.aj aa y.2.1 aa.enc=
 SV.aj aa y.2.1 aa.enc/\
 True/\ai (↑x+1) ↑y_2/\True)/\
 (SV.aj aa
 (List.filter (fun(x:aa)=> !fb x.ab y.2.2)
 (List.take x y.2.1))
 aa.enc=
 SV.aj aa
 (List.filter (fun(x:aa)=> !fb x.ab y.2.2)
 (List.take y_2 y.2.1))
 aa.enc/\
 (ai y.1.aB y.1.aB/\
 ai y.1.domain y.1.domain/\
 ai y.1.total y.1.total/\
 SV.aj Bs y.1.rules aS=
 SV.aj Bs y.1.rules aS/\
 True)/\
 True)/\
 True)))
 (∃(y_1:List aa),
 SV.aj aa
 (List.filter (fun(x:aa)=> !fb x.ab y.2.2) (List.take x y.2.1))
 aa.enc=
 SV.aj aa y_1 aa.enc/\
 y_1.length<=10000/\
 (∃(x_1:Nat),
 x_1<=List.length (bj (bh y.2.1 y.2.2))/\
 (True/\
 True/\
 SV.aj aa
 (List.filter (fun(x:aa)=> !fb x.ab y.2.2)
 (List.take x y.2.1))
 aa.enc=
 SV.aj aa (iX (aD y.1) (bh y.2.1 y.2.2) x_1)
 aa.enc/\
 SV.aj Bs (bj y_1) aS=
 SV.aj Bs (bj (bh y.2.1 y.2.2)) aS/\
 ai 0 ↑x_1/\True)/\
 (True/\
 (ai y.1.aB y.1.aB/\
 ai y.1.domain y.1.domain/\
 ai y.1.total y.1.total/\
 SV.aj Bs y.1.rules aS=
 SV.aj Bs y.1.rules aS/\
 True)/\
 True)/\
 True)/\
 ∀(x:Nat),
 x<=List.length (bj (bh y.2.1 y.2.2))->
 br (bw (↑x) (Int.ofNat (List.length (bj (bh y.2.1 y.2.2)))))
 (∃(x0:Nat×List aa),
 (∃(x_1:Nat×List aa),
 ((∃(h:x_1.1<List.length (bj (bh y.2.1 y.2.2))),
 x_1.2.length<=y.2.1.length/\
 jE (aD y.1)
 (bj (bh y.2.1 y.2.2))[x_1.1] false x_1.2=
 iX (aD y.1) (bh y.2.1 y.2.2) (x_1.1+1))/\
 x_1.1=x0.1)/\
 (True/\
 True/\
 SV.aj aa
 (iX (aD y.1) (bh y.2.1 y.2.2) x)
 aa.enc=
 SV.aj aa x_1.2 aa.enc/\
 SV.aj Bs (bj (bh y.2.1 y.2.2)) aS=
 SV.aj Bs (bj (bh y.2.1 y.2.2)) aS/\
 ai ↑x ↑x_1.1/\True)/\
 (True/\
 (ai y.1.aB y.1.aB/\
 ai y.1.domain y.1.domain/\
 ai y.1.total y.1.total/\
 SV.aj Bs y.1.rules aS=
 SV.aj Bs y.1.rules aS/\
 True)/\
 True)/\
 True)/\
 ∀(x_1:Nat×List aa),
 (∃(h:x_1.1<List.length (bj (bh y.2.1 y.2.2))),
 x_1.2.length<=y.2.1.length/\
 jE (aD y.1)
 (bj (bh y.2.1 y.2.2))[x_1.1] false x_1.2=
 iX (aD y.1) (bh y.2.1 y.2.2) (x_1.1+1))/\
 x_1.1=x0.1->
 so (bj (bh y.2.1 y.2.2))[Int.toNat ↑x_1.1]?
 fun(val:Bs)=>
 ∃(y_2:List aa×Bs),
 SV.aj aa x_1.2 aa.enc=SV.aj aa y_2.1 aa.enc/\
 val=y_2.2/\
 y_2.1.length<=10000/\
 br (bw y.1.domain (Int.ofNat (List.length (eZ y_2.1 y_2.2))))
 (so (bj (bh y.2.1 y.2.2))[Int.toNat ↑x_1.1]?
 fun(val:Bs)=>
 ∃(y_3:List aa×Bs×Bool),
 SV.aj aa x_1.2 aa.enc=
 SV.aj aa y_3.1 aa.enc/\
 val=y_3.2.1/\
 false=y_3.2.2/\
 y_3.1.length<=10000/\
 ∃(y_4:List aa×aA),
 SV.aj aa x_1.2 aa.enc=
 SV.aj aa y_4.1 aa.enc/\
 aA.name (fA y_3.1 y_3.2.1 y_3.2.2)=
 y_4.2.name/\
 aA.domain (fA y_3.1 y_3.2.1 y_3.2.2)=
 y_4.2.domain/\
 aA.path (fA y_3.1 y_3.2.1 y_3.2.2)=
 y_4.2.path/\
 y_4.1.length<=10000/\
 ∃(y_5:Nat×List aa),
 ((∃(h:
 y_5.1<
 List.length (bj (bh y.2.1 y.2.2))),
 y_5.2.length<=y.2.1.length/\
 jE (aD y.1)
 (bj
 (bh y.2.1 y.2.2))[y_5.1]
 false y_5.2=
 iX (aD y.1)
 (bh y.2.1 y.2.2) (y_5.1+1))/\
 y_5.1=x0.1)/\
 aH.μ
 (aH.when (CE y)
 (fun(a b:Nat×List aa)=>b.1=a.1) x0)
 y_5<
 aH.μ
 (aH.when (CE y)
 (fun(a b:Nat×List aa)=>b.1=a.1) x0)
 x_1/\
 (True/\
 True/\
 SV.aj aa (eP y_4.1 y_4.2)
 aa.enc=
 SV.aj aa y_5.2 aa.enc/\
 SV.aj Bs
 (bj (bh y.2.1 y.2.2))
 aS=
 SV.aj Bs
 (bj (bh y.2.1 y.2.2))
 aS/\
 ai ↑x_1.1 ↑y_5.1/\True)/\
 (True/\
 (ai y.1.aB y.1.aB/\
 ai y.1.domain y.1.domain/\
 ai y.1.total y.1.total/\
 SV.aj Bs y.1.rules aS=
 SV.aj Bs y.1.rules aS/\
 True)/\
 True)/\
 True)
 (ck (bp .i64 (↑x_1.1+1))
 (∃(y_3:Nat),
 y_3<=List.length (bj (bh y.2.1 y.2.2))/\
 aH.μ (CD y) y_3<aH.μ (CD y) x/\
 (True/\
 True/\
 SV.aj aa x_1.2 aa.enc=
 SV.aj aa
 (iX (aD y.1) (bh y.2.1 y.2.2)
 y_3)
 aa.enc/\
 SV.aj Bs (bj (bh y.2.1 y.2.2))
 aS=
 SV.aj Bs (bj (bh y.2.1 y.2.2))
 aS/\
 ai (↑x_1.1+1) ↑y_3/\True)/\
 (True/\
 (ai y.1.aB y.1.aB/\
 ai y.1.domain y.1.domain/\
 ai y.1.total y.1.total/\
 SV.aj Bs y.1.rules aS=
 SV.aj Bs y.1.rules aS/\
 True)/\
 True)/\
 True)))
 ((∃(x_1:List aa),
 (x_1.length<=y.2.1.length/\
 fc (cA y.1) x_1=
 fo (aD y.1) (cA y.1) y.2.1 y.2.2)/\
 (True/\
 True/\
 SV.aj aa
 (iX (aD y.1) (bh y.2.1 y.2.2) x)
 aa.enc=
 SV.aj aa x_1 aa.enc/\
 True)/\
 (True/\
 (ai y.1.aB y.1.aB/\
 ai y.1.domain y.1.domain/\
 ai y.1.total y.1.total/\
 SV.aj Bs y.1.rules aS=
 SV.aj Bs y.1.rules aS/\
 True)/\
 True)/\
 True)/\
 ∀(x:List aa),
 x.length<=y.2.1.length/\
 fc (cA y.1) x=
 fo (aD y.1) (cA y.1) y.2.1 y.2.2->
 br (bw y.1.total (Int.ofNat x.length))
 (∃(y_2:List aa×Bs×Bool),
 SV.aj aa x aa.enc=SV.aj aa y_2.1 aa.enc/\
 Array.toList (ByteArray.data {data:=#[]})=y_2.2.1/\
 true=y_2.2.2/\
 y_2.1.length<=10000/\
 ∃(y_3:List aa×aA),
 SV.aj aa x aa.enc=SV.aj aa y_3.1 aa.enc/\
 aA.name (fA y_2.1 y_2.2.1 y_2.2.2)=
 y_3.2.name/\
 aA.domain (fA y_2.1 y_2.2.1 y_2.2.2)=
 y_3.2.domain/\
 aA.path (fA y_2.1 y_2.2.1 y_2.2.2)=
 y_3.2.path/\
 y_3.1.length<=10000/\
 ∃(y_4:List aa),
 (y_4.length<=y.2.1.length/\
 fc (cA y.1) y_4=
 fo (aD y.1) (cA y.1) y.2.1
 y.2.2)/\
 aH.μ (CF y) y_4<aH.μ (CF y) x/\
 (True/\
 True/\
 SV.aj aa (eP y_3.1 y_3.2) aa.enc=
 SV.aj aa y_4 aa.enc/\
 True)/\
 (True/\
 (ai y.1.aB y.1.aB/\
 ai y.1.domain y.1.domain/\
 ai y.1.total y.1.total/\
 SV.aj Bs y.1.rules aS=
 SV.aj Bs y.1.rules aS/\
 True)/\
 True)/\
 True)
 (SV.aj aa x aa.enc=
 SV.aj aa
 (fo (aD y.1) (cA y.1) y.2.1 y.2.2)
 aa.enc/\
 True)))):=by kernel_rfl
theorem X9:(bV (fun(y:aM.Y xr)=>bE pv (cr lI 4 (sy y))) 800 lI)=(∀(y:az×List aa×Int),
 0<=y.1.domain/\0<=y.1.total/\y.2.1.length<=10000->
 ∃(y_1:az×List aa×Int),
 ai y.1.aB y_1.1.aB/\
 ai y.1.domain y_1.1.domain/\
 ai y.1.total y_1.1.total/\
 SV.aj Bs y.1.rules aS=SV.aj Bs y_1.1.rules aS/\
 SV.aj aa y.2.1 aa.enc=SV.aj aa y_1.2.1 aa.enc/\
 ai y.2.2 y_1.2.2/\
 (0<=y_1.1.domain/\0<=y_1.1.total/\y_1.2.1.length<=10000)/\
 (∃(x:Nat),
 x<=y.2.1.length/\
 (True/\
 True/\
 SV.aj aa y.2.1 aa.enc=
 SV.aj aa y.2.1 aa.enc/\
 SV.aj aa
 (fo (aD y_1.1) (cA y_1.1) y_1.2.1 y_1.2.2)
 aa.enc=
 SV.aj aa
 (fo (aD y.1) (cA y.1) y.2.1 y.2.2)
 aa.enc/\
 True/\ai 0 ↑x/\True)/\
 (SV.aj (View.X {X:=aa,enc:=aa.enc}) []
 (View.enc {X:=aa,enc:=aa.enc})=
 SV.aj aa
 (List.filter
 (fun(x:aa)=>
 !Prod.snd
 (eB
 (fo (aD y.1) (cA y.1) y.2.1 y.2.2)
 x.key))
 (List.take x y.2.1))
 aa.enc/\
 (ai y.1.aB y.1.aB/\
 ai y.1.domain y.1.domain/\
 ai y.1.total y.1.total/\
 SV.aj Bs y.1.rules aS=
 SV.aj Bs y.1.rules aS/\
 True)/\
 True)/\
 True)/\
 ∀(x:Nat),
 x<=y.2.1.length->
 br (bw (↑x) (Int.ofNat y.2.1.length))
 (so y.2.1[Int.toNat ↑x]? fun(val:aa)=>
 ∃(y_2:List aa×aA),
 SV.aj aa
 (fo (aD y.1) (cA y.1) y.2.1 y.2.2)
 aa.enc=
 SV.aj aa y_2.1 aa.enc/\
 val.key.name=y_2.2.name/\
 val.key.domain=y_2.2.domain/\
 val.key.path=y_2.2.path/\
 y_2.1.length<=10000/\
 br (!Prod.snd (eB y_2.1 y_2.2))
 (so y.2.1[Int.toNat ↑x]? fun(val:aa)=>
 ∃(x_1:aa),
 (aa.enc x_1)=
 (aa.enc val)/\
 ck
 (Nat.ble
 ((List.length
 (List.filter
 (fun(x:aa)=>
 !Prod.snd
 (eB
 (fo (aD y.1) (cA y.1) y.2.1
 y.2.2)
 x.key))
 (List.take x y.2.1))+
 List.length [x_1])*
 96)
 16777216&&
 Nat.ble
 (List.length
 (List.filter
 (fun(x:aa)=>
 !Prod.snd
 (eB
 (fo (aD y.1) (cA y.1) y.2.1
 y.2.2)
 x.key))
 (List.take x y.2.1))+
 List.length [x_1])
 16777216)
 (ck (bp .i64 (↑x+1))
 (∃(y_3:Nat),
 y_3<=y.2.1.length/\
 aH.μ (sy y) y_3<aH.μ (sy y) x/\
 (True/\
 True/\
 SV.aj aa y.2.1 aa.enc=
 SV.aj aa y.2.1 aa.enc/\
 SV.aj aa
 (fo (aD y.1) (cA y.1) y.2.1
 y.2.2)
 aa.enc=
 SV.aj aa
 (fo (aD y.1) (cA y.1) y.2.1
 y.2.2)
 aa.enc/\
 True/\ai (↑x+1) ↑y_3/\True)/\
 (SV.aj aa
 (List.filter
 (fun(x:aa)=>
 !Prod.snd
 (eB
 (fo (aD y.1) (cA y.1)
 y.2.1 y.2.2)
 x.key))
 (List.take x y.2.1)++
 [x_1])
 aa.enc=
 SV.aj aa
 (List.filter
 (fun(x:aa)=>
 !Prod.snd
 (eB
 (fo (aD y.1) (cA y.1) y.2.1
 y.2.2)
 x.key))
 (List.take y_3 y.2.1))
 aa.enc/\
 (ai y.1.aB y.1.aB/\
 ai y.1.domain y.1.domain/\
 ai y.1.total y.1.total/\
 SV.aj Bs y.1.rules aS=
 SV.aj Bs y.1.rules aS/\
 True)/\
 True)/\
 True)))
 (ck (bp .i64 (↑x+1))
 (∃(y_3:Nat),
 y_3<=y.2.1.length/\
 aH.μ (sy y) y_3<aH.μ (sy y) x/\
 (True/\
 True/\
 SV.aj aa y.2.1 aa.enc=
 SV.aj aa y.2.1 aa.enc/\
 SV.aj aa
 (fo (aD y.1) (cA y.1) y.2.1
 y.2.2)
 aa.enc=
 SV.aj aa
 (fo (aD y.1) (cA y.1) y.2.1
 y.2.2)
 aa.enc/\
 True/\ai (↑x+1) ↑y_3/\True)/\
 (SV.aj aa
 (List.filter
 (fun(x:aa)=>
 !Prod.snd
 (eB
 (fo (aD y.1) (cA y.1) y.2.1
 y.2.2)
 x.key))
 (List.take x y.2.1))
 aa.enc=
 SV.aj aa
 (List.filter
 (fun(x:aa)=>
 !Prod.snd
 (eB
 (fo (aD y.1) (cA y.1) y.2.1
 y.2.2)
 x.key))
 (List.take y_3 y.2.1))
 aa.enc/\
 (ai y.1.aB y.1.aB/\
 ai y.1.domain y.1.domain/\
 ai y.1.total y.1.total/\
 SV.aj Bs y.1.rules aS=
 SV.aj Bs y.1.rules aS/\
 True)/\
 True)/\
 True)))
 (SV.aj aa
 (List.filter
 (fun(x:aa)=>
 !Prod.snd
 (eB
 (fo (aD y.1) (cA y.1) y.2.1 y.2.2)
 x.key))
 (List.take x y.2.1))
 aa.enc=
 SV.aj aa
 (xX y.2.1
 (fo (aD y.1) (cA y.1) y.2.1 y.2.2))
 aa.enc/\
 True)):=by kernel_rfl
theorem N5:(bV (fun(y:aM.Y FW)=>bE pv (LN y)) 800 lH)=(∀(y:az×List aa×Int),
 ((y.1.rules.length<=100000/\ ∀(s:Bs),s∈y.1.rules->s.length<=100000)/\
 y.2.1.length<=10000/\ ∀(x:aa),x∈y.2.1->x.key.domain.length<=1000000)->
 ∃(y_1:az),
 ai y.1.aB y_1.aB/\
 ai y.1.domain y_1.domain/\
 ai y.1.total y_1.total/\
 SV.aj Bs y.1.rules aS=SV.aj Bs y_1.rules aS/\
 (y_1.rules.length<=100000/\ ∀(s:Bs),s∈y_1.rules->s.length<=100000)/\
 br (!eL y_1==0) (Prod.fst (dI y)=[]/\ai (eL y_1) (Prod.snd (dI y))/\True)
 (∃(y_2:List aa),
 SV.aj aa y.2.1 aa.enc=SV.aj aa y_2 aa.enc/\
 y_2.length<=10000/\
 br (!gS y_2) (Prod.fst (dI y)=[]/\ai 6 (Prod.snd (dI y))/\True)
 ((∃(x:Nat),
 x<=y.2.1.length/\
 (ai y.2.2 y.2.2/\
 True/\
 True/\
 ai 0 0/\
 SV.aj aa y.2.1 aa.enc=
 SV.aj aa y.2.1 aa.enc/\
 ai (Int.ofNat y.2.1.length) (Int.ofNat y.2.1.length)/\
 ai 0 ↑x/\True/\True)/\
 ((List.filter (fun(x:aa)=> !fb x.ab y.2.2)
 (List.take x y.2.1)=
 []/\
 ∀(x:aa),List.length (aa.enc x)=11)/\
 (ai y.1.aB y.1.aB/\
 ai y.1.domain y.1.domain/\
 ai y.1.total y.1.total/\
 SV.aj Bs y.1.rules aS=
 SV.aj Bs y.1.rules aS/\
 True)/\
 True)/\
 True)/\
 ∀(x:Nat),
 x<=y.2.1.length->
 br (bw (↑x) (Int.ofNat y.2.1.length))
 (so y.2.1[Int.toNat ↑x]? fun(val:aa)=>
 ∃(y_3:bo×Int),
 val.ab.value=y_3.1.value/\
 val.ab.aF=y_3.1.aF/\
 val.ab.aV=y_3.1.aV/\
 val.ab.aG=y_3.1.aG/\
 val.ab.persistent=y_3.1.persistent/\
 ai val.ab.aP y_3.1.aP/\
 ai val.ab.aq y_3.1.aq/\
 ai val.ab.access y_3.1.access/\
 ai y.2.2 y_3.2/\
 True/\
 br (fb y_3.1 y_3.2)
 (ck (bp .i64 (↑x+1))
 (∃(y_4:Nat),
 y_4<=y.2.1.length/\
 aH.μ (uL y) y_4<aH.μ (uL y) x/\
 (ai y.2.2 y.2.2/\
 True/\
 True/\
 ai 0 0/\
 SV.aj aa y.2.1 aa.enc=
 SV.aj aa y.2.1 aa.enc/\
 ai (Int.ofNat y.2.1.length)
 (Int.ofNat y.2.1.length)/\
 ai (↑x+1) ↑y_4/\True/\True)/\
 (SV.aj aa
 (List.filter
 (fun(x:aa)=> !fb x.ab y.2.2)
 (List.take x y.2.1))
 aa.enc=
 SV.aj aa
 (List.filter
 (fun(x:aa)=> !fb x.ab y.2.2)
 (List.take y_4 y.2.1))
 aa.enc/\
 (ai y.1.aB y.1.aB/\
 ai y.1.domain y.1.domain/\
 ai y.1.total y.1.total/\
 SV.aj Bs y.1.rules aS=
 SV.aj Bs y.1.rules aS/\
 True)/\
 True)/\
 True))
 (∃(x_1:aa),
 (aa.enc x_1)=
 (aa.enc val)/\
 ck
 (Nat.ble
 ((List.length
 (List.filter
 (fun(x:aa)=> !fb x.ab y.2.2)
 (List.take x y.2.1))+
 List.length [x_1])*
 96)
 16777216&&
 Nat.ble
 (List.length
 (List.filter
 (fun(x:aa)=> !fb x.ab y.2.2)
 (List.take x y.2.1))+
 List.length [x_1])
 16777216)
 (ck (bp .i64 (↑x+1))
 (∃(y_4:Nat),
 y_4<=y.2.1.length/\
 aH.μ (uL y) y_4<aH.μ (uL y) x/\
 (ai y.2.2 y.2.2/\
 True/\
 True/\
 ai 0 0/\
 SV.aj aa y.2.1 aa.enc=
 SV.aj aa y.2.1 aa.enc/\
 ai (Int.ofNat y.2.1.length)
 (Int.ofNat y.2.1.length)/\
 ai (↑x+1) ↑y_4/\True/\True)/\
 (SV.aj aa
 (List.filter
 (fun(x:aa)=>
 !fb x.ab y.2.2)
 (List.take x y.2.1)++
 [x_1])
 aa.enc=
 SV.aj aa
 (List.filter
 (fun(x:aa)=>
 !fb x.ab y.2.2)
 (List.take y_4 y.2.1))
 aa.enc/\
 (ai y.1.aB y.1.aB/\
 ai y.1.domain y.1.domain/\
 ai y.1.total y.1.total/\
 SV.aj Bs y.1.rules aS=
 SV.aj Bs y.1.rules aS/\
 True)/\
 True)/\
 True))))
 (∃(y_3:List aa),
 SV.aj aa
 (List.filter (fun(x:aa)=> !fb x.ab y.2.2)
 (List.take x y.2.1))
 aa.enc=
 SV.aj aa y_3 aa.enc/\
 (y_3.length<=10000/\ ∀(x:aa),x∈y_3->x.key.domain.length<=1000000)/\
 (∃(x_1:Nat),
 x_1<=List.length (bj (bh y.2.1 y.2.2))/\
 (True/\
 True/\
 ai 0 0/\
 SV.aj aa
 (List.filter (fun(x:aa)=> !fb x.ab y.2.2)
 (List.take x y.2.1))
 aa.enc=
 SV.aj aa
 (gp (aD y.1) (bh y.2.1 y.2.2) x_1)
 aa.enc/\
 SV.aj Bs (bj y_3) aS=
 SV.aj Bs (bj (bh y.2.1 y.2.2))
 aS/\
 ai (Int.ofNat (List.length (bj y_3)))
 (Int.ofNat (List.length (bj (bh y.2.1 y.2.2))))/\
 ai 0 ↑x_1/\True)/\
 (True/\
 (ai y.1.aB y.1.aB/\
 ai y.1.domain y.1.domain/\
 ai y.1.total y.1.total/\
 SV.aj Bs y.1.rules aS=
 SV.aj Bs y.1.rules aS/\
 True)/\
 True)/\
 True)/\
 ∀(x:Nat),
 x<=List.length (bj (bh y.2.1 y.2.2))->
 br
 (bw (↑x) (Int.ofNat (List.length (bj (bh y.2.1 y.2.2)))))
 (so (bj (bh y.2.1 y.2.2))[Int.toNat ↑x]?
 fun(val:Bs)=>
 ∃(y_4:List aa×Bs),
 SV.aj aa
 (gp (aD y.1) (bh y.2.1 y.2.2) x)
 aa.enc=
 SV.aj aa y_4.1 aa.enc/\
 val=y_4.2/\
 y_4.1.length<=10000/\
 ∃(x0:Nat×Nat),
 (∃(x_1:Nat×Nat),
 ((∃(x:
 x_1.1<
 List.length (bj (bh y.2.1 y.2.2))),
 x_1.2<=
 List.length
 (dm (aD y.1)
 (bh y.2.1 y.2.2) x_1.1))/\
 x_1.1=x0.1)/\
 (True/\
 True/\
 ai 0 0/\
 SV.aj aa
 (gp (aD y.1)
 (bh y.2.1 y.2.2) x)
 aa.enc=
 SV.aj aa
 (List.foldl
 (jA
 (fc (aD y.1)
 (dm (aD y.1)
 (bh y.2.1 y.2.2) x_1.1)))
 (gp (aD y.1)
 (bh y.2.1 y.2.2) x_1.1)
 (List.take x_1.2
 (dm (aD y.1)
 (bh y.2.1 y.2.2) x_1.1)))
 aa.enc/\
 SV.aj aa (eZ y_4.1 y_4.2) aa.enc=
 SV.aj aa
 (dm (aD y.1)
 (bh y.2.1 y.2.2) x_1.1)
 aa.enc/\
 SV.aj Bs
 (bj (bh y.2.1 y.2.2))
 aS=
 SV.aj Bs
 (bj (bh y.2.1 y.2.2))
 aS/\
 ai
 (Int.ofNat
 (List.length
 (bj (bh y.2.1 y.2.2))))
 (Int.ofNat
 (List.length
 (bj (bh y.2.1 y.2.2))))/\
 ai ↑x ↑x_1.1/\
 SV.aj aa (eZ y_4.1 y_4.2)
 aa.enc=
 SV.aj aa
 (dm (aD y.1)
 (bh y.2.1 y.2.2) x_1.1)
 aa.enc/\
 ai (Int.ofNat (List.length (eZ y_4.1 y_4.2)))
 (Int.ofNat
 (List.length
 (dm (aD y.1)
 (bh y.2.1 y.2.2)
 x_1.1)))/\
 ai 0 ↑x_1.2/\True)/\
 (True/\
 (ai y.1.aB y.1.aB/\
 ai y.1.domain y.1.domain/\
 ai y.1.total y.1.total/\
 SV.aj Bs y.1.rules aS=
 SV.aj Bs y.1.rules aS/\
 True)/\
 True)/\
 True)/\
 ∀(x_1:Nat×Nat),
 (∃(x:
 x_1.1<
 List.length (bj (bh y.2.1 y.2.2))),
 x_1.2<=
 List.length
 (dm (aD y.1)
 (bh y.2.1 y.2.2) x_1.1))/\
 x_1.1=x0.1->
 br
 (bw (↑x_1.2)
 (Int.ofNat
 (List.length
 (dm (aD y.1)
 (bh y.2.1 y.2.2) x_1.1))))
 (so
 (dm (aD y.1) (bh y.2.1 y.2.2)
 x_1.1)[Int.toNat ↑x_1.2]?
 fun(val:aa)=>
 ∃(y_5:List aa×Int),
 SV.aj aa
 (dm (aD y.1)
 (bh y.2.1 y.2.2) x_1.1)
 aa.enc=
 SV.aj aa y_5.1 aa.enc/\
 ai y.1.domain y_5.2/\
 (y_5.1.length<=10000/\
 List.Pairwise (fun(x1 x2:aA)=>x1≠x2)
 (List.map (fun(x:aa)=>x.key) y_5.1)/\
 0<=y_5.2)/\
 ∃(y_6:List aa×aa),
 SV.aj aa (fc y_5.2.toNat y_5.1)
 aa.enc=
 SV.aj aa y_6.1 aa.enc/\
 val.key.name=
 y_6.2.key.name/\
 val.key.domain=
 y_6.2.key.domain/\
 val.key.path=
 y_6.2.key.path/\
 val.ab.value=
 y_6.2.ab.value/\
 val.ab.aF=
 y_6.2.ab.aF/\
 val.ab.aV=
 y_6.2.ab.aV/\
 val.ab.aG=
 y_6.2.ab.aG/\
 val.ab.persistent=
 y_6.2.ab.persistent/\
 ai val.ab.aP
 y_6.2.ab.aP/\
 ai val.ab.aq
 y_6.2.ab.aq/\
 ai val.ab.access
 y_6.2.ab.access/\
 y_6.1.length<=10000/\
 br (!Decidable.decide (y_6.2∈y_6.1))
 (∃(y_7:List aa×aA),
 SV.aj aa
 (List.foldl
 (jA
 (fc (aD y.1)
 (dm (aD y.1)
 (bh y.2.1
 y.2.2)
 x_1.1)))
 (gp (aD y.1)
 (bh y.2.1
 y.2.2)
 x_1.1)
 (List.take x_1.2
 (dm (aD y.1)
 (bh y.2.1
 y.2.2)
 x_1.1)))
 aa.enc=
 SV.aj aa y_7.1 aa.enc/\
 val.key.name=
 y_7.2.name/\
 val.key.domain=
 y_7.2.domain/\
 val.key.path=
 y_7.2.path/\
 y_7.1.length<=10000/\
 ck (bp .i64 (↑x_1.2+1))
 (∃(y_8:Nat×Nat),
 ((∃(x:
 y_8.1<
 List.length
 (bj
 (bh y.2.1
 y.2.2))),
 y_8.2<=
 List.length
 (dm (aD y.1)
 (bh y.2.1
 y.2.2)
 y_8.1))/\
 y_8.1=x0.1)/\
 aH.μ
 (aH.when (uM y)
 (fun(a b:Nat×Nat)=>
 b.1=a.1)
 x0)
 y_8<
 aH.μ
 (aH.when (uM y)
 (fun(a b:Nat×Nat)=>
 b.1=a.1)
 x0)
 x_1/\
 (True/\
 True/\
 ai 0 0/\
 SV.aj aa
 (eP y_7.1
 y_7.2)
 aa.enc=
 SV.aj aa
 (List.foldl
 (jA
 (fc
 (aD y.1)
 (dm
 (aD y.1)
 (bh
 y.2.1
 y.2.2)
 y_8.1)))
 (gp
 (aD y.1)
 (bh
 y.2.1
 y.2.2)
 y_8.1)
 (List.take y_8.2
 (dm
 (aD y.1)
 (bh
 y.2.1
 y.2.2)
 y_8.1)))
 aa.enc/\
 SV.aj aa
 (dm
 (aD y.1)
 (bh
 y.2.1
 y.2.2)
 x_1.1)
 aa.enc=
 SV.aj aa
 (dm
 (aD y.1)
 (bh
 y.2.1
 y.2.2)
 y_8.1)
 aa.enc/\
 SV.aj Bs
 (bj
 (bh
 y.2.1
 y.2.2))
 aS=
 SV.aj Bs
 (bj
 (bh
 y.2.1
 y.2.2))
 aS/\
 ai
 (Int.ofNat
 (List.length
 (bj
 (bh
 y.2.1
 y.2.2))))
 (Int.ofNat
 (List.length
 (bj
 (bh
 y.2.1
 y.2.2))))/\
 ai ↑x_1.1
 ↑y_8.1/\
 SV.aj aa
 (dm
 (aD
 y.1)
 (bh
 y.2.1
 y.2.2)
 x_1.1)
 aa.enc=
 SV.aj aa
 (dm
 (aD
 y.1)
 (bh
 y.2.1
 y.2.2)
 y_8.1)
 aa.enc/\
 ai
 (Int.ofNat
 (List.length
 (dm
 (aD
 y.1)
 (bh
 y.2.1
 y.2.2)
 x_1.1)))
 (Int.ofNat
 (List.length
 (dm
 (aD
 y.1)
 (bh
 y.2.1
 y.2.2)
 y_8.1)))/\
 ai
 (↑x_1.2+1)
 ↑y_8.2/\
 True)/\
 (True/\
 (ai
 y.1.aB
 y.1.aB/\
 ai
 y.1.domain
 y.1.domain/\
 ai
 y.1.total
 y.1.total/\
 SV.aj Bs
 y.1.rules
 aS=
 SV.aj Bs
 y.1.rules
 aS/\
 True)/\
 True)/\
 True))
 (ck (bp .i64 (↑x_1.2+1))
 (∃(y_7:Nat×Nat),
 ((∃(x:
 y_7.1<
 List.length
 (bj
 (bh y.2.1
 y.2.2))),
 y_7.2<=
 List.length
 (dm (aD y.1)
 (bh y.2.1
 y.2.2)
 y_7.1))/\
 y_7.1=x0.1)/\
 aH.μ
 (aH.when (uM y)
 (fun(a b:Nat×Nat)=>b.1=a.1) x0)
 y_7<
 aH.μ
 (aH.when (uM y)
 (fun(a b:Nat×Nat)=>b.1=a.1) x0)
 x_1/\
 (True/\
 True/\
 ai 0 0/\
 SV.aj aa
 (List.foldl
 (jA
 (fc (aD y.1)
 (dm (aD y.1)
 (bh y.2.1
 y.2.2)
 x_1.1)))
 (gp (aD y.1)
 (bh y.2.1
 y.2.2)
 x_1.1)
 (List.take x_1.2
 (dm (aD y.1)
 (bh y.2.1
 y.2.2)
 x_1.1)))
 aa.enc=
 SV.aj aa
 (List.foldl
 (jA
 (fc (aD y.1)
 (dm (aD y.1)
 (bh y.2.1
 y.2.2)
 y_7.1)))
 (gp (aD y.1)
 (bh y.2.1
 y.2.2)
 y_7.1)
 (List.take y_7.2
 (dm (aD y.1)
 (bh y.2.1
 y.2.2)
 y_7.1)))
 aa.enc/\
 SV.aj aa
 (dm (aD y.1)
 (bh y.2.1
 y.2.2)
 x_1.1)
 aa.enc=
 SV.aj aa
 (dm (aD y.1)
 (bh y.2.1
 y.2.2)
 y_7.1)
 aa.enc/\
 SV.aj Bs
 (bj
 (bh y.2.1
 y.2.2))
 aS=
 SV.aj Bs
 (bj
 (bh y.2.1
 y.2.2))
 aS/\
 ai
 (Int.ofNat
 (List.length
 (bj
 (bh y.2.1
 y.2.2))))
 (Int.ofNat
 (List.length
 (bj
 (bh y.2.1
 y.2.2))))/\
 ai ↑x_1.1 ↑y_7.1/\
 SV.aj aa
 (dm
 (aD y.1)
 (bh
 y.2.1
 y.2.2)
 x_1.1)
 aa.enc=
 SV.aj aa
 (dm
 (aD y.1)
 (bh
 y.2.1
 y.2.2)
 y_7.1)
 aa.enc/\
 ai
 (Int.ofNat
 (List.length
 (dm
 (aD y.1)
 (bh
 y.2.1
 y.2.2)
 x_1.1)))
 (Int.ofNat
 (List.length
 (dm
 (aD y.1)
 (bh
 y.2.1
 y.2.2)
 y_7.1)))/\
 ai (↑x_1.2+1)
 ↑y_7.2/\
 True)/\
 (True/\
 (ai y.1.aB
 y.1.aB/\
 ai y.1.domain
 y.1.domain/\
 ai y.1.total
 y.1.total/\
 SV.aj Bs
 y.1.rules
 aS=
 SV.aj Bs
 y.1.rules
 aS/\
 True)/\
 True)/\
 True)))
 (ck (bp .i64 (↑x_1.1+1))
 (∃(y_5:Nat),
 y_5<=List.length (bj (bh y.2.1 y.2.2))/\
 aH.μ (FB y) y_5<aH.μ (FB y) x/\
 (True/\
 True/\
 ai 0 0/\
 SV.aj aa
 (List.foldl
 (jA
 (fc (aD y.1)
 (dm (aD y.1)
 (bh y.2.1 y.2.2)
 x_1.1)))
 (gp (aD y.1)
 (bh y.2.1 y.2.2) x_1.1)
 (List.take x_1.2
 (dm (aD y.1)
 (bh y.2.1 y.2.2) x_1.1)))
 aa.enc=
 SV.aj aa
 (gp (aD y.1)
 (bh y.2.1 y.2.2) y_5)
 aa.enc/\
 SV.aj Bs
 (bj (bh y.2.1 y.2.2))
 aS=
 SV.aj Bs
 (bj (bh y.2.1 y.2.2))
 aS/\
 ai
 (Int.ofNat
 (List.length
 (bj
 (bh y.2.1 y.2.2))))
 (Int.ofNat
 (List.length
 (bj
 (bh y.2.1 y.2.2))))/\
 ai (↑x_1.1+1) ↑y_5/\True)/\
 (True/\
 (ai y.1.aB y.1.aB/\
 ai y.1.domain y.1.domain/\
 ai y.1.total y.1.total/\
 SV.aj Bs y.1.rules aS=
 SV.aj Bs y.1.rules aS/\
 True)/\
 True)/\
 True)))
 (∃(y_4:List aa×Int),
 SV.aj aa
 (gp (aD y.1) (bh y.2.1 y.2.2) x)
 aa.enc=
 SV.aj aa y_4.1 aa.enc/\
 ai y.1.total y_4.2/\
 (y_4.1.length<=10000/\
 List.Pairwise (fun(x1 x2:aA)=>x1≠x2)
 (List.map (fun(x:aa)=>x.key) y_4.1)/\
 0<=y_4.2)/\
 SV.aj aa (fc y_4.2.toNat y_4.1) aa.enc=
 SV.aj aa (Prod.fst (dI y)) aa.enc/\
 ai 0 (Prod.snd (dI y))/\True))))):=by kernel_rfl
theorem N3:(bV (fun(y:aM.Y FU)=>bE yn (cr mU 6 (sL y))) 800 mU)=(∀(y:az×List aa×Int),
 ((y.1.rules.length<=100000/\ ∀(s:Bs),s∈y.1.rules->s.length<=100000)/\
 y.2.1.length<=10000/\ ∀(x:aa),x∈y.2.1->x.key.domain.length<=1000000)->
 ∃(y_1:az×List aa×Int),
 ai y.1.aB y_1.1.aB/\
 ai y.1.domain y_1.1.domain/\
 ai y.1.total y_1.1.total/\
 SV.aj Bs y.1.rules aS=SV.aj Bs y_1.1.rules aS/\
 SV.aj aa y.2.1 aa.enc=SV.aj aa y_1.2.1 aa.enc/\
 ai y.2.2 y_1.2.2/\
 ((y_1.1.rules.length<=100000/\ ∀(s:Bs),s∈y_1.1.rules->s.length<=100000)/\
 y_1.2.1.length<=10000/\
 ∀(x:aa),x∈y_1.2.1->x.key.domain.length<=1000000)/\
 br (!Prod.snd (dI y_1)==0) (Prod.fst (gX y)=[]/\ai (Prod.snd (dI y_1)) (Prod.snd (gX y))/\True)
 ((∃(x:Nat),
 x<=y.2.1.length/\
 (True/\
 ai 0 0/\
 SV.aj aa (Prod.fst (dI y_1)) aa.enc=
 SV.aj aa (Prod.fst (dI y)) aa.enc/\
 True/\
 SV.aj aa y.2.1 aa.enc=
 SV.aj aa y.2.1 aa.enc/\
 ai (Int.ofNat y.2.1.length) (Int.ofNat y.2.1.length)/\ai 0 ↑x/\True)/\
 ((jg (List.take x y.2.1) (Prod.fst (dI y))=[]/\
 ∀(x:aa),List.length (aa.enc x)=11)/\
 (ai y.1.aB y.1.aB/\
 ai y.1.domain y.1.domain/\
 ai y.1.total y.1.total/\
 SV.aj Bs y.1.rules aS=
 SV.aj Bs y.1.rules aS/\
 True)/\
 True)/\
 True)/\
 ∀(x:Nat),
 x<=y.2.1.length->
 br (bw (↑x) (Int.ofNat y.2.1.length))
 (so y.2.1[Int.toNat ↑x]? fun(val:aa)=>
 ∃(y_2:List aa×aa),
 SV.aj aa (Prod.fst (dI y)) aa.enc=SV.aj aa y_2.1 aa.enc/\
 val.key.name=y_2.2.key.name/\
 val.key.domain=y_2.2.key.domain/\
 val.key.path=y_2.2.key.path/\
 val.ab.value=y_2.2.ab.value/\
 val.ab.aF=y_2.2.ab.aF/\
 val.ab.aV=y_2.2.ab.aV/\
 val.ab.aG=y_2.2.ab.aG/\
 val.ab.persistent=y_2.2.ab.persistent/\
 ai val.ab.aP
 y_2.2.ab.aP/\
 ai val.ab.aq
 y_2.2.ab.aq/\
 ai val.ab.access
 y_2.2.ab.access/\
 y_2.1.length<=10000/\
 br (!Decidable.decide (y_2.2∈y_2.1))
 (∃(x_1:aa),
 (aa.enc x_1)=
 (aa.enc val)/\
 ck
 (Nat.ble
 ((List.length (jg (List.take x y.2.1) (Prod.fst (dI y)))+
 List.length [x_1])*
 96)
 16777216&&
 Nat.ble
 (List.length (jg (List.take x y.2.1) (Prod.fst (dI y)))+
 List.length [x_1])
 16777216)
 (ck (bp .i64 (↑x+1))
 (∃(y_3:Nat),
 y_3<=y.2.1.length/\
 aH.μ (sL y) y_3<aH.μ (sL y) x/\
 (True/\
 ai 0 0/\
 SV.aj aa (Prod.fst (dI y)) aa.enc=
 SV.aj aa (Prod.fst (dI y)) aa.enc/\
 True/\
 SV.aj aa y.2.1 aa.enc=
 SV.aj aa y.2.1 aa.enc/\
 ai (Int.ofNat y.2.1.length)
 (Int.ofNat y.2.1.length)/\
 ai (↑x+1) ↑y_3/\True)/\
 (SV.aj aa
 (jg (List.take x y.2.1) (Prod.fst (dI y))++[x_1])
 aa.enc=
 SV.aj aa
 (jg (List.take y_3 y.2.1) (Prod.fst (dI y)))
 aa.enc/\
 (ai y.1.aB y.1.aB/\
 ai y.1.domain y.1.domain/\
 ai y.1.total y.1.total/\
 SV.aj Bs y.1.rules aS=
 SV.aj Bs y.1.rules aS/\
 True)/\
 True)/\
 True)))
 (ck (bp .i64 (↑x+1))
 (∃(y_3:Nat),
 y_3<=y.2.1.length/\
 aH.μ (sL y) y_3<aH.μ (sL y) x/\
 (True/\
 ai 0 0/\
 SV.aj aa (Prod.fst (dI y)) aa.enc=
 SV.aj aa (Prod.fst (dI y)) aa.enc/\
 True/\
 SV.aj aa y.2.1 aa.enc=
 SV.aj aa y.2.1 aa.enc/\
 ai (Int.ofNat y.2.1.length)
 (Int.ofNat y.2.1.length)/\
 ai (↑x+1) ↑y_3/\True)/\
 (SV.aj aa
 (jg (List.take x y.2.1) (Prod.fst (dI y)))
 aa.enc=
 SV.aj aa
 (jg (List.take y_3 y.2.1) (Prod.fst (dI y)))
 aa.enc/\
 (ai y.1.aB y.1.aB/\
 ai y.1.domain y.1.domain/\
 ai y.1.total y.1.total/\
 SV.aj Bs y.1.rules aS=
 SV.aj Bs y.1.rules aS/\
 True)/\
 True)/\
 True)))
 (SV.aj aa (jg (List.take x y.2.1) (Prod.fst (dI y))) aa.enc=
 SV.aj aa (Prod.fst (gX y)) aa.enc/\
 ai 0 (Prod.snd (gX y))/\True))):=by kernel_rfl
section
variable [Inhabited aL]
theorem Jv {m:Int} {n:Nat} (h:bw m (Int.ofNat n)=true) (h0:0<=m):m.toNat<n:=by
 rw[cj,Ab,Aa]at h;omega
theorem J3 {m:Int} {n:Nat} (h:bw m (Int.ofNat n)=false):n<=m.toNat:=by
 rw[cj,Ah,Aa]at h;omega
theorem zZ (l:List aa) (now:Int):(bh l now).length<=l.length:=AF _ _
theorem JI (cap:Nat) (l:List aa) (i:Nat):(iX cap l i).Sublist l:=zN cap _ l
theorem S5 {cap:Nat} {l:List aa} {i:Nat} (h:i<(bj l).length):iX cap l (i+1)=jE cap (bj l)[i] false (iX cap l i):=kW _ _ h
theorem Tu (cap:Nat) (l:List aa) (now:Int) (i:Nat):(iX cap (bh l now) i).length<=l.length:=Aq (JI cap _ i).length_le (zZ l now)
theorem zo (l:List aa) (k:aA):(eP l k).length<=l.length:=AF _ _
theorem Yk (hG:∀g C,qt g=some C->CO g C):CO kM FE:=bO (cfg:=fun y=>bE qt (KQ y)) bA (fun _=>rfl) (fun _=>hG) (n:=800) (by
 rw[XD];rintro⟨c,l,now⟩ ⟨hd,ht,hl⟩;have hd:0<=c.domain:=hd;have ht:0<=c.total:=ht;have hl:l.length<=10000:=hl;refine⟨⟨0,Au _,?_⟩,?_⟩
 . (repeat' (first|exact trivial|exact rfl|exact(fun _=>rfl)|apply And.intro))
 intro x hx;refine aJ (fun hlt=>?_) fun hge=>?_
 . have hlt':x<l.length:=cq hlt;have hlen:=oW (l:=l) (x:=x) (p:=fun z:aa=> !fb z.ab now);have hf:=kR (p:=fun z:aa=> !fb z.ab now) hlt';have hmu:l.length - (x+1)<l.length - x:=by omega
   refine au.2 ⟨_,cE hlt',(l[x].ab,now),rfl,rfl,rfl,rfl,rfl,rfl,rfl,rfl,rfl,trivial,ag.2 ⟨fun h1=>au.2 ⟨_,cE hlt',l[x],rfl,af.2 ⟨by simp only[Ac,AA,Az,AG];omega,af.2 ⟨ch x (by omega),x+1,hlt',hmu,?_⟩⟩⟩,fun h1=>af.2 ⟨ch x (by omega),x+1,hlt',hmu,?_⟩⟩⟩
   . have h1:(!fb l[x].ab now)=true:=h1;simp only[h1,Bb]at hf
     (repeat' (first|exact trivial|exact rfl|exact(fun _=>rfl)|apply And.intro))
     all_goals (rw[hf])
   . have h1:(!fb l[x].ab now)=false:=h1;simp only[h1,Ao,AK,A9]at hf
     (repeat' (first|exact trivial|exact rfl|exact(fun _=>rfl)|apply And.intro))
     all_goals (rw[hf])
 have hall:(l.take x).filter (fun z:aa=> !fb z.ab now)=bh l now:=filter_all (gz hge);have hlive:=zZ l now;refine⟨bh l now,by rw[hall],by omega,⟨0,Au _,?_⟩,?_⟩
 . (repeat' (first|exact trivial|exact rfl|exact(fun _=>rfl)|apply And.intro))
   all_goals (rw[hall];rfl)
 clear hall hge hx x;intro x hx;have hdl:=Tu (aD c) l now;refine aJ (fun hlt=>?_) fun hge=>?_
 . have hlt':x<(bj (bh l now)).length:=cq hlt;refine⟨(x,iX (aD c) (bh l now) x),⟨(x,iX (aD c) (bh l now) x),⟨⟨hlt',hdl x,(S5 hlt').symm⟩,rfl⟩,?_⟩,?_⟩
   . (repeat' (first|exact trivial|exact rfl|exact(fun _=>rfl)|apply And.intro))
   rintro⟨i,a⟩ ⟨⟨h1,h2,h3⟩,hi⟩;have hi:i=x:=hi;subst hi;have h2:a.length<=l.length:=h2;have h3:jE (aD c) (bj (bh l now))[i] false a=iX (aD c) (bh l now) (i+1):=h3;refine au.2 ⟨_,cE hlt',(a,(bj (bh l now))[i]),rfl,rfl,by show a.length<=10000;omega,ag.2 ⟨fun hgt=>?_,fun hle=>?_⟩⟩
   . have hgt:aD c<(jG a (bj (bh l now))[i] false).length:=by rw[tT];exact Jv hgt hd
     have hw:=zo a (fA a (bj (bh l now))[i] false);refine au.2 ⟨_,cE hlt',(a,(bj (bh l now))[i],false),rfl,rfl,rfl,by show a.length<=10000;omega,(a,fA a (bj (bh l now))[i] false),rfl,rfl,rfl,rfl,by show a.length<=10000;omega,(i,eP a (fA a (bj (bh l now))[i] false)),⟨⟨h1,by show(eP a _).length<=l.length;omega,?_⟩,rfl⟩,tJ hgt,?_⟩
     . rw[<-h3];exact(tM hgt).symm
     . (repeat' (first|exact trivial|exact rfl|exact(fun _=>rfl)|apply And.intro))
   . have hle:=J3 hle;have hle:(jG a (bj (bh l now))[i] false).length<=aD c:=by rw[tT];exact hle
     rw[tL hle]at h3;refine af.2 ⟨ch i (by have:=vH (bh l now) [];simp only[bj]at hlt';simp at this;omega),i+1,hlt',by show(bj (bh l now)).length - (i+1)<(bj (bh l now)).length - i;omega,?_⟩
     (repeat' (first|exact trivial|exact rfl|exact(fun _=>rfl)|apply And.intro))
     all_goals (rw[<-h3])
 have hfull:iX (aD c) (bh l now) x=sU (aD c) (bh l now) (bj (bh l now)):=by unfold iX;rw[rI (gz hge)]
 refine⟨⟨iX (aD c) (bh l now) x,⟨hdl x,by rw[hfull];rfl⟩,?_⟩,?_⟩
 . (repeat' (first|exact trivial|exact rfl|exact(fun _=>rfl)|apply And.intro))
 rintro a ⟨h1,h2⟩;have h1:a.length<=l.length:=h1;have h2:fc (cA c) a=fo (aD c) (cA c) l now:=h2;refine aJ (fun hgt=>?_) fun hle=>?_
 . have hgt:cA c<a.length:=Jv hgt ht;have hw:=zo a (fA a [] true);refine⟨(a,[],true),rfl,rfl,rfl,by show a.length<=10000;omega,(a,fA a [] true),rfl,rfl,rfl,rfl,by show a.length<=10000;omega,eP a (fA a [] true),⟨by show(eP a _).length<=l.length;omega,?_⟩,tJ (m:=cA c) (by rw[rW];exact hgt),?_⟩
   . rw[<-Jp hgt];exact h2
   . (repeat' (first|exact trivial|exact rfl|exact(fun _=>rfl)|apply And.intro))
 . have hle:a.length<=cA c:=J3 hle;rw[tK hle]at h2;refine⟨?_,trivial⟩;rw[h2])
theorem wE (hG:∀g C,qt g=some C->CO g C):∀g C,pv g=some C->CO g C:=bG (Yk hG) hG
theorem Lp (cap total:Nat) (l:List aa) (now:Int):(fo cap total l now).length<=l.length:=(Lq _ _ _ _).length_le
theorem L8 (hG:∀g C,pv g=some C->CO g C):CO lI xr:=bO (cfg:=fun y=>bE pv (cr lI 4 (sy y))) bA (fun _=>rfl) (fun _=>hG) (n:=800) (by
 rw[X9];rintro⟨c,l,now⟩ ⟨hd,ht,hl⟩;have hl:l.length<=10000:=hl;have hk:=Lp (aD c) (cA c) l now;refine⟨(c,l,now),rfl,rfl,rfl,rfl,rfl,rfl,⟨hd,ht,hl⟩,⟨0,Au _,?_⟩,?_⟩
 . (repeat' (first|exact trivial|exact rfl|exact(fun _=>rfl)|apply And.intro))
 intro x hx;refine ag.2 ⟨fun hlt=>?_,fun hge=>⟨by rw[filter_all (gz hge)],trivial⟩⟩;have hlt':x<l.length:=cq hlt;have hlen:=oW (l:=l) (x:=x) (p:=fun z:aa=> !(eB (fo (aD c) (cA c) l now) z.key).2);have hf:=kR (p:=fun z:aa=> !(eB (fo (aD c) (cA c) l now) z.key).2) hlt';have hmu:l.length - (x+1)<l.length - x:=by omega
 refine au.2 ⟨_,cE hlt',(fo (aD c) (cA c) l now,l[x].key),rfl,rfl,rfl,rfl,by show(fo (aD c) (cA c) l now).length<=10000;omega,ag.2 ⟨fun h1=>au.2 ⟨_,cE hlt',l[x],rfl,af.2 ⟨by simp only[Ac,AA,Az,AG];omega,af.2 ⟨ch x (by omega),x+1,hlt',hmu,?_⟩⟩⟩,fun h1=>af.2 ⟨ch x (by omega),x+1,hlt',hmu,?_⟩⟩⟩
 . have h1:(!(eB (fo (aD c) (cA c) l now) l[x].key).2)=true:=h1;simp only[h1,Bb]at hf
   (repeat' (first|exact trivial|exact rfl|exact(fun _=>rfl)|apply And.intro))
   all_goals (rw[hf])
 . have h1:(!(eB (fo (aD c) (cA c) l now) l[x].key).2)=false:=h1;simp only[h1,Ao,AK,A9]at hf
   (repeat' (first|exact trivial|exact rfl|exact(fun _=>rfl)|apply And.intro))
   all_goals (rw[hf]))
theorem Km {l:List aa} (hk:KN l) (cap i:Nat):gp cap l i=iX cap l i:=Xe hk cap _
theorem S4 {cap:Nat} {l:List aa} {i:Nat} (h:i<(bj l).length):gp cap l (i+1)=(dm cap l i).foldl (jA (fc cap (dm cap l i))) (gp cap l i):=by
 have h1:=kW (fun b d=>(eZ b d).foldl (jA (fc cap (eZ b d))) b) l h;unfold dm;rw[Af h];exact h1
theorem Zi (hG:∀g C,pv g=some C->CO g C):CO lH FW:=bO (cfg:=fun y=>bE pv (LN y)) bA (fun _=>rfl) (fun _=>hG) (n:=800) (by
 rw[N5];rintro⟨c,l,now⟩ ⟨hr,hl,hsh⟩;have hl:l.length<=10000:=hl;refine⟨c,rfl,rfl,rfl,rfl,hr,ag.2 ⟨fun hc=>?_,fun hc=>?_⟩⟩
 . have hc:eL c≠0:=by simpa using hc
   have he:dI (c,l,now)=([],eL c):=by unfold dI;rw[An hc]
   exact⟨by rw[he],by show eL c=_;rw[he],trivial⟩
 have hc:¬eL c≠0:=by simpa using hc
 refine⟨l,rfl,hl,ag.2 ⟨fun hri=>?_,fun hri=>?_⟩⟩
 . have hri:gS l=false:=by simpa using hri
   have he:dI (c,l,now)=([],6):=by unfold dI;rw[Aj hc];simp[hri]
   exact⟨by rw[he],by show(6:Int)=_;rw[he],trivial⟩
 have hri:gS l=true:=by simpa using hri
 have he:dI (c,l,now)=(fo (aD c) (cA c) l now,0):=by unfold dI;rw[Aj hc];simp[hri]
 have hchk:1<=c.domain/\1<=c.total:=by
   have hc:eL c=0:=E0 hc;unfold eL at hc;split at hc
   . cases hc
   . omega
 have hkn:=JS hri;refine⟨⟨0,Au _,?_⟩,?_⟩
 . (repeat' (first|exact trivial|exact rfl|exact(fun _=>rfl)|apply And.intro))
 intro x hx;refine aJ (fun hlt=>?_) fun hge=>?_
 . have hlt':x<l.length:=cq hlt;have hlen:=oW (l:=l) (x:=x) (p:=fun z:aa=> !fb z.ab now);have hf:=kR (p:=fun z:aa=> !fb z.ab now) hlt';have hmu:l.length - (x+1)<l.length - x:=by omega
   refine au.2 ⟨_,cE hlt',(l[x].ab,now),rfl,rfl,rfl,rfl,rfl,rfl,rfl,rfl,rfl,trivial,ag.2 ⟨fun h1=>af.2 ⟨ch x (by omega),x+1,hlt',hmu,?_⟩,fun h1=>⟨l[x],rfl,af.2 ⟨by simp only[Ac,AA,Az,AG];omega,af.2 ⟨ch x (by omega),x+1,hlt',hmu,?_⟩⟩⟩⟩⟩
   . have h1:fb l[x].ab now=true:=h1;simp only[h1,BV,Ao,AK,A9]at hf
     (repeat' (first|exact trivial|exact rfl|exact(fun _=>rfl)|apply And.intro))
     all_goals (rw[hf])
   . have h1:fb l[x].ab now=false:=h1;simp only[h1,Du,Bb]at hf
     (repeat' (first|exact trivial|exact rfl|exact(fun _=>rfl)|apply And.intro))
     all_goals (rw[hf])
 have hall:(l.take x).filter (fun z:aa=> !fb z.ab now)=bh l now:=filter_all (gz hge);have hlive:=zZ l now;have hkl:KN (bh l now):=hkn.sub BR;refine⟨bh l now,by rw[hall],⟨by omega,fun z hz=>hsh z (AE.1 hz).1⟩,⟨0,Au _,?_⟩,?_⟩
 . (repeat' (first|exact trivial|exact rfl|exact(fun _=>rfl)|apply And.intro))
   all_goals (rw[hall];rfl)
 clear hall hge hx x;have hdl:∀i,(gp (aD c) (bh l now) i).Sublist (bh l now):=fun i=>by rw[Km hkl];exact JI _ _ _
 have hdoms:(bj (bh l now)).length<=10000:=by
   have:=vH (bh l now) [];unfold bj;simp at this;omega
 intro x hx;refine aJ (fun hlt=>?_) fun hge=>?_
 . have hlt':x<(bj (bh l now)).length:=cq hlt;have hof:dm (aD c) (bh l now) x=eZ (gp (aD c) (bh l now) x) (bj (bh l now))[x]:=by unfold dm;rw[Af hlt'];rfl
   refine au.2 ⟨_,cE hlt',(gp (aD c) (bh l now) x,(bj (bh l now))[x]),rfl,rfl,by have:=(hdl x).length_le;show(gp (aD c) (bh l now) x).length<=10000;omega,(x,0),⟨(x,0),⟨⟨hlt',Au _⟩,rfl⟩,?_⟩,?_⟩
   . (repeat' (first|exact trivial|exact rfl|exact(fun _=>rfl)|apply And.intro))
     all_goals (simp only[hof])
     all_goals rfl
   rintro⟨i,j⟩ ⟨⟨h1,h2⟩,hi⟩;have hi:i=x:=hi;subst hi;have h2:j<=(dm (aD c) (bh l now) i).length:=h2;have hofs:(dm (aD c) (bh l now) i).Sublist (bh l now):=BR.trans (hdl i);have hofl:=hofs.length_le;have hmu:(bj (bh l now)).length - (i+1)<(bj (bh l now)).length - i:=by omega
   have hcur:∀j,(((dm (aD c) (bh l now) i).take j).foldl (jA (fc (aD c) (dm (aD c) (bh l now) i))) (gp (aD c) (bh l now) i)).length<=10000:=by
     intro j;rw[zy];have h3:=AF (fun y=>decide (∀x∈(dm (aD c) (bh l now) i).take j,x∉fc (aD c) (dm (aD c) (bh l now) i)->y.key≠x.key)) (gp (aD c) (bh l now) i);have h4:=(hdl i).length_le;omega
   refine aJ (fun hlt2=>?_) fun hge2=>?_
   . have hlt2':j<(dm (aD c) (bh l now) i).length:=cq hlt2;have hn:=kW (jA (fc (aD c) (dm (aD c) (bh l now) i))) (gp (aD c) (bh l now) i) hlt2';have hmu2:(dm (aD c) (bh l now) i).length - (j+1)<(dm (aD c) (bh l now) i).length - j:=by omega
     have htl:(fc (aD c) (dm (aD c) (bh l now) i)).length<=10000:=Aq (ux (aD c) [] true (dm (aD c) (bh l now) i)).length_le (by omega);refine au.2 ⟨_,cE hlt2',(dm (aD c) (bh l now) i,c.domain),rfl,rfl,⟨by show(dm (aD c) (bh l now) i).length<=10000;omega,hkl.sub hofs,by show 0<=c.domain;omega⟩,(fc (aD c) (dm (aD c) (bh l now) i),(dm (aD c) (bh l now) i)[j]),rfl,rfl,rfl,rfl,rfl,rfl,rfl,rfl,rfl,rfl,rfl,rfl,htl,ag.2 ⟨fun hin=>?_,fun hin=>?_⟩⟩
     . have hin:(dm (aD c) (bh l now) i)[j]∉fc (aD c) (dm (aD c) (bh l now) i):=by simpa using hin
       unfold jA at hn;rw[Aj hin]at hn;refine⟨(_,(dm (aD c) (bh l now) i)[j].key),rfl,rfl,rfl,rfl,hcur j,af.2 ⟨ch j (by omega),(i,j+1),⟨⟨h1,hlt2'⟩,rfl⟩,hmu2,?_⟩⟩
       (repeat' (first|exact trivial|exact rfl|exact(fun _=>rfl)|apply And.intro))
       all_goals (exact Ap (fun a=>SV.aj aa a aa.enc) hn.symm)
     . have hin:(dm (aD c) (bh l now) i)[j]∈fc (aD c) (dm (aD c) (bh l now) i):=by simpa using hin
       unfold jA at hn;rw[An hin]at hn;refine af.2 ⟨ch j (by omega),(i,j+1),⟨⟨h1,hlt2'⟩,rfl⟩,hmu2,?_⟩
       (repeat' (first|exact trivial|exact rfl|exact(fun _=>rfl)|apply And.intro))
       all_goals (exact Ap (fun a=>SV.aj aa a aa.enc) hn.symm)
   . have hn:=S4 (cap:=aD c) hlt';refine af.2 ⟨ch i (by omega),i+1,hlt',hmu,?_⟩
     (repeat' (first|exact trivial|exact rfl|exact(fun _=>rfl)|apply And.intro))
     all_goals (show SV.aj aa (((dm (aD c) (bh l now) i).take j).foldl (jA (fc (aD c) (dm (aD c) (bh l now) i))) (gp (aD c) (bh l now) i)) aa.enc=SV.aj aa (gp (aD c) (bh l now) (i+1)) aa.enc;rw[rI (gz hge2),hn])
 have hfull:gp (aD c) (bh l now) x=sU (aD c) (bh l now) (bj (bh l now)):=by
   rw[Km hkl];unfold iX;rw[rI (gz hge)]
 refine⟨(gp (aD c) (bh l now) x,c.total),rfl,rfl,⟨by have:=(hdl x).length_le;show(gp (aD c) (bh l now) x).length<=10000;omega,hkl.sub (hdl x),by show 0<=c.total;omega⟩,?_,?_,trivial⟩
 . rw[he];show SV.aj aa (fc (cA c) (gp (aD c) (bh l now) x)) aa.enc=_
   rw[hfull];rfl
 . rw[he])
end
section
variable [Inhabited aL]
theorem _root_.Go.Proofs.ar.ext_iff {x y:ar}:x=y↔x.dev=y.dev/\x.inc=y.inc/\x.seq=y.seq:=⟨fun h=>by subst h;exact⟨rfl,rfl,rfl⟩,fun h=>ar.ext' h.1 h.2.1 h.2.2⟩
theorem pe (a b:ar):(a.dev==b.dev&&(a.inc==b.inc&&true)&&(a.seq==b.seq&&true))=decide (a=b):=by
 rw[AN];simp[ar.ext_iff,and_assoc]
structure ae where
 dot:ar
 bu:dJ
 kind:Int
 key:aA
 ab:bo
 over:List ar
deriving DecidableEq,Inhabited
def cw (l:List ar):SV:= .aj ar l ar.enc
def ae.enc (x:ae):List SV:=[.int .i64 x.dot.dev, .int .i64 x.dot.inc, .int .i64 x.dot.seq, .int .i64 x.bu.wall, .int .i64 x.bu.count, .int .i64 x.bu.dev, .int .i64 x.kind, .str x.key.name, .str x.key.domain, .str x.key.path,
 .str x.ab.value, .bool x.ab.aF, .bool x.ab.aV, .bool x.ab.aG, .bool x.ab.persistent, .int .i64 x.ab.aP, .int .i64 x.ab.aq, .int .i64 x.ab.access,cw x.over]
def ae.item (x:ae):aa:=⟨x.key,x.ab⟩
structure aK where
 ctx:List ar
 kept:List ae
 dead:List ar
def cL (l:List ae):SV:= .aj ae l ae.enc
def aK.enc (x:aK):List SV:=[cw x.ctx,cL x.kept,cw x.dead]
noncomputable def Np:TypeId->Option View:=fun t=>bif Nat.beq t Ty.string then some ⟨Bs,aS⟩else bif Nat.beq t Gr then some ⟨aa,aa.enc⟩else bif Nat.beq t Ty.kN then some ⟨ar,ar.enc⟩else bif Nat.beq t HU then some ⟨ar,ar.enc⟩else bif Nat.beq t yA then some ⟨ae,ae.enc⟩else none
noncomputable def cg (gD:FuncId->Option aM) (ln:FuncId->Nat->Option aH):ik:={tab:=oH,view:=Np,gD,ln}
section
variable {α:Type} [DecidableEq α] (less:α->α->Bool)
def cX (l:List α) (d:α):Nat:=(l.takeWhile fun x=>less x d).length
def fT (l:List α) (d:α):List α:=if l[cX less l d]? =some d then l else l.take (cX less l d)++d::l.drop (cX less l d)
def cz (l:List α):List α:=l.foldl (fT less) []
variable {less}
omit [DecidableEq α] in
theorem rY (L:List α) (d:α):cX less L d<=L.length:=(DX _).length_le
omit [DecidableEq α] in
theorem zS {L:List α} {d:α} {k:Nat} (hk:k<=cX less L d) (h:k<L.length) (hl:less L[k] d=true):k+1<=cX less L d:=by
 apply Bf;intro hn;have e:cX less L d=k:=by omega
 unfold cX at e;have:=yx (p:=fun x=>less x d) (l:=L) (by omega);simp only[e]at this;rw[hl]at this
 cases this
omit [DecidableEq α] in
theorem zT {L:List α} {d:α} {k:Nat} (hk:k<=cX less L d) (h:k<L.length) (hl:less L[k] d=false):k=cX less L d:=by
 apply Bf;intro hn;obtain⟨h1,h2⟩:=xK (p:=fun x=>less x d) (l:=L) (j:=k) (by show k<cX less L d;omega);rw[hl]at h2
 cases h2
theorem U1 (L:List α) (d:α):(fT less L d).length<=L.length+1:=by
 unfold fT;have:=rY (less:=less) L d;split
 . omega
 . simp;omega
theorem rH:∀(l a:List α),(l.foldl (fT less) a).length<=a.length+l.length
 |[],a=>by simp
 |x::l,a=>by
  have h1:=rH l (fT less a x);have h2:=U1 (less:=less) a x;simp only[Br,Az];omega
end
def pQ (l:List ar):Prop:=l.length<=1000000
def M4:aM:={Y:=List ar×ar,pre:=fun y=>pQ y.1,args:=fun y=>[cw y.1, .agg y.2.enc],res:=fun y=> .bool (decide (y.2∈y.1))}
def OW (y:List ar×ar):aH:={α:=Nat,ok:=fun i=>i<=y.1.length/\ ∀j (h:j<y.1.length),j<i->y.1[j]≠y.2,μ:=fun i=>y.1.length - i,aW:=[3],aN:=fun i=>[(0,cw y.1),(5,i64 i)],bn:=fun _=>[]}
def Mw:aM:={Y:=List ar×List ar,pre:=fun y=>pQ y.1/\pQ y.2,args:=fun y=>[cw y.1,cw y.2],res:=fun y=> .bool (decide (y.1=y.2))}
def YI (y:List ar×List ar):aH:={α:=Nat,ok:=fun i=>i<=y.1.length/\y.1.length=y.2.length/\y.1.take i=y.2.take i,μ:=fun i=>y.1.length - i,aW:=[],aN:=fun i=>[(0,cw y.1),(1,cw y.2),(5,i64 i)],bn:=fun _=>[]}
def My:aM:={Y:=List ar,pre:=fun y=>y.length<=300000,args:=fun y=>[cw y],res:=fun y=>cw (cz bI y)}
def YK (y:List ar):aH:={α:=Nat,ok:=fun i=>i<=y.length,μ:=fun i=>y.length - i,aW:=[],aN:=fun i=>[(0,cw y),(3,cw (cz bI (y.take i))),(4,i64 i)],bn:=fun _=>[],ff:=[3]}
def WA (y:List ar):aH:={α:=Nat×Nat,ok:=fun x=>∃h:x.1<y.length,x.2<=cX bI (cz bI (y.take x.1)) y[x.1],μ:=fun x=>(cz bI (y.take x.1)).length - x.2,aW:=[],aN:=fun x=>[(0,cw y),(3,cw (cz bI (y.take x.1))),(4,i64 x.1),(5,i64 x.2)],bn:=fun _=>[],link:=some fun a b=>b.1=a.1}
theorem XN:CO oR My:=bO (cfg:=fun y=>cg oC (ml oR 6 (WA y) (cr oR 3 (YK y)))) bA (fun _=>rfl) (fun _=>o8) (n:=600) (by
 intro (l:List ar) hpre;have hpre:l.length<=300000:=hpre
 (conv=>whnf)
 refine⟨⟨(0:Nat),Au _,?_⟩,?_⟩
 . repeat' (first|exact trivial|exact rfl|((conv=>whnf);first|(apply aJ<;>intro)|apply And.intro))
 intro (x:Nat) hx
 (conv=>whnf)
 refine aJ (fun hlt=>?_) fun hge=>?_
 . have hlt':x<l.length:=cq hlt
   (conv=>whnf)
   refine⟨((x,0):Nat×Nat),⟨((x,0):Nat×Nat),⟨⟨hlt',Au _⟩,rfl⟩,?_⟩,?_⟩
   . repeat' (first|exact trivial|exact rfl|((conv=>whnf);first|(apply aJ<;>intro)|apply And.intro))
   rintro⟨x1,k⟩ ⟨⟨h1,h2⟩,hx1⟩;have hx1:x1=x:=hx1;subst hx1;have hn:cz bI (l.take (x1+1))=fT bI (cz bI (l.take x1)) l[x1]:=kW (fT bI) ([]:List ar) hlt';have hlen:(cz bI (l.take x1)).length<=x1:=by have:=rH (less:=bI) (l.take x1) [];unfold cz;simp at this⊢;omega
   have hk:k<=cX bI (cz bI (l.take x1)) l[x1]:=h2;have hkp:=rY (less:=bI) (cz bI (l.take x1)) l[x1];have hkl:k<=(cz bI (l.take x1)).length:=by omega
   have hmu:l.length - (x1+1)<l.length - x1:=by omega
   (conv=>whnf)
   refine aJ (fun hlt2=>?_) fun hge2=>?_
   . have hlt2':k<(cz bI (l.take x1)).length:=cq hlt2
     (conv=>whnf)
     refine au.2 ⟨_,cE hlt2',?_⟩
     (conv=>whnf)
     refine au.2 ⟨_,cE hlt',?_⟩
     (conv=>whnf)
     refine⟨((cz bI (l.take x1))[k],l[x1]),?_⟩
     repeat ((conv=>whnf);first|refine⟨rfl,?_⟩|refine⟨trivial,?_⟩)
     (conv=>whnf)
     refine aJ (fun hl=>?_) fun hl=>?_
     . have hl:bI (cz bI (l.take x1))[k] l[x1]=true:=hl
       (conv=>whnf)
       refine af.2 ⟨ch k (by omega),?_⟩
       (conv=>whnf)
       refine⟨((x1,k+1):Nat×Nat),⟨⟨hlt',zS hk hlt2' hl⟩,rfl⟩,by show(cz bI (l.take x1)).length - (k+1)<(cz bI (l.take x1)).length - k;omega,?_⟩
       repeat' (first|exact trivial|exact rfl|((conv=>whnf);first|(apply aJ<;>intro)|apply And.intro))
     . have hl:bI (cz bI (l.take x1))[k] l[x1]=false:=hl;have hkk:k=cX bI (cz bI (l.take x1)) l[x1]:=zT hk hlt2' hl
       (conv=>whnf)
       refine ag.2 ⟨fun he=>absurd he (by simp;omega),fun he=>?_⟩
       (conv=>whnf)
       refine au.2 ⟨_,cE hlt2',?_⟩
       (conv=>whnf)
       refine au.2 ⟨_,cE hlt',?_⟩
       (conv=>whnf)
       refine aJ (fun hne=>?_) fun hne=>?_
       . repeat (first|((conv=>whnf);refine⟨fun _=>rfl,?_⟩)|((conv=>whnf);refine⟨fun _=>⟨rfl,rfl⟩,?_⟩)|((conv=>whnf);refine af.2 ⟨by(simp only[Ac,AA,AU,Az,AG,A5,A6];omega),?_⟩)|((conv=>whnf);refine af.2 ⟨ch _ (by omega),?_⟩)|((conv=>whnf);refine au.2 ⟨_,cE (by assumption),?_⟩)|((conv=>whnf);refine⟨_,rfl,?_⟩))
         refine⟨(x1+1:Nat),hlt',hmu,?_⟩
         repeat' (first|exact trivial|exact rfl|((conv=>whnf);first|(apply aJ<;>intro)|apply And.intro))
         all_goals ((conv=>whnf);rw[hn];unfold fT;rw[<-hkk,Aj (by rw[Af hlt2'];simp only[Be,pe]at hne;simpa using hne)];first|(simp;done)|(simp[cw];done)|(simp;rfl))
       . (conv=>whnf)
         refine af.2 ⟨ch x1 (by omega),?_⟩
         (conv=>whnf)
         refine⟨(x1+1:Nat),hlt',hmu,?_⟩
         repeat' (first|exact trivial|exact rfl|((conv=>whnf);first|(apply aJ<;>intro)|apply And.intro))
         all_goals ((conv=>whnf);rw[hn];unfold fT;rw[<-hkk,An (by rw[Af hlt2'];simp only[Be,pe]at hne;simpa using hne)];try rfl)
   . have hge2':(cz bI (l.take x1)).length<=k:=gf hge2;have hkk:k=cX bI (cz bI (l.take x1)) l[x1]:=by omega
     (conv=>whnf)
     refine ag.2 ⟨fun he=>?_,fun he=>absurd he (by simp;omega)⟩
     repeat (first|((conv=>whnf);refine⟨fun _=>rfl,?_⟩)|((conv=>whnf);refine⟨fun _=>⟨rfl,rfl⟩,?_⟩)|((conv=>whnf);refine af.2 ⟨by(simp only[Ac,AA,AU,Az,AG,A5,A6];omega),?_⟩)|((conv=>whnf);refine af.2 ⟨ch _ (by omega),?_⟩)|((conv=>whnf);refine au.2 ⟨_,cE (by assumption),?_⟩)|((conv=>whnf);refine⟨_,rfl,?_⟩))
     refine⟨(x1+1:Nat),hlt',hmu,?_⟩
     repeat' (first|exact trivial|exact rfl|((conv=>whnf);first|(apply aJ<;>intro)|apply And.intro))
     all_goals ((conv=>whnf);rw[hn];unfold fT;rw[<-hkk,Aj (by rw[BH hge2'];simp)];first|(simp;done)|(simp[cw];done)|(simp;rfl))
 . (conv=>whnf)
   refine⟨by rw[rI (gz hge)],?_⟩
   (conv=>whnf)
   trivial)
theorem Zd:CO GN M4:=bO (cfg:=fun y=>cg oC (cr GN 2 (OW y))) bA (fun _=>rfl) (fun _=>o8) (n:=600) (by
 rintro⟨l,d⟩ (hpre:l.length<=1000000)
 (conv=>whnf)
 refine⟨⟨(0:Nat),⟨Au _,fun _ _ h=>absurd h (Bi _)⟩,?_⟩,?_⟩
 . repeat' (first|exact trivial|exact rfl|((conv=>whnf);first|(apply aJ<;>intro)|apply And.intro))
 intro (x:Nat) hx;obtain⟨hx,hn⟩:=hx
 (conv=>whnf)
 refine aJ (fun hlt=>?_) fun hge=>?_
 . have hlt':x<l.length:=cq hlt
   (conv=>whnf)
   refine au.2 ⟨_,cE hlt',?_⟩
   (conv=>whnf)
   refine aJ (fun h=>?_) fun h=>?_
   . have h:decide (l[x]=d)=true:=by rw[<-pe];exact h
     (conv=>whnf)
     refine⟨(Bj (by rw[<-Bv h];exact AI hlt')).symm,?_⟩
     repeat' (first|exact trivial|exact rfl|((conv=>whnf);first|(apply aJ<;>intro)|apply And.intro))
   . have h:decide (l[x]=d)=false:=by rw[<-pe];exact h
     (conv=>whnf)
     refine af.2 ⟨ch x (by omega),?_⟩
     (conv=>whnf)
     refine⟨(x+1:Nat),⟨hlt',fun j hj hjx=>?_⟩,by show l.length - (x+1)<l.length - x;omega,?_⟩
     . rcases D8 j x with h1|h1
       . exact hn j hj h1
       . have:j=x:=by omega
         subst this;simpa using h
     . repeat' (first|exact trivial|exact rfl|((conv=>whnf);first|(apply aJ<;>intro)|apply And.intro))
 . have hge':l.length<=x:=gf hge
   (conv=>whnf)
   refine⟨(Bq fun hm=>?_).symm,?_⟩
   . obtain⟨j,hj,he⟩:=Bd hm;exact hn j hj (AP hj hge') he
   . repeat' (first|exact trivial|exact rfl|((conv=>whnf);first|(apply aJ<;>intro)|apply And.intro)))
theorem Yv:CO GD Mw:=bO (cfg:=fun y=>cg oC (cr GD 4 (YI y))) bA (fun _=>rfl) (fun _=>o8) (n:=600) (by
 rintro⟨l,m⟩ ⟨(hl:l.length<=1000000),(hm:m.length<=1000000)⟩
 (conv=>whnf)
 refine aJ (fun h=>?_) fun h=>?_
 . (conv=>whnf)
   refine⟨(Bq fun e=>?_).symm,?_⟩
   . have e:l=m:=e;subst e;simp at h
   . repeat' (first|exact trivial|exact rfl|((conv=>whnf);first|(apply aJ<;>intro)|apply And.intro))
 have hlm:l.length=m.length:=by
   have h:(!((Int.ofNat l.length)==(Int.ofNat m.length)))=false:=h;simp at h;omega
 (conv=>whnf)
 refine⟨⟨(0:Nat),⟨Au _,hlm,rfl⟩,?_⟩,?_⟩
 . repeat' (first|exact trivial|exact rfl|((conv=>whnf);first|(apply aJ<;>intro)|apply And.intro))
 intro (x:Nat) hx;obtain⟨hx, -,ht⟩:=hx;have ht:l.take x=m.take x:=ht
 (conv=>whnf)
 refine aJ (fun hlt=>?_) fun hge=>?_
 . have hlt':x<l.length:=cq hlt;have hlt2:x<m.length:=by omega
   (conv=>whnf)
   refine au.2 ⟨_,cE hlt',?_⟩
   (conv=>whnf)
   refine au.2 ⟨_,cE hlt2,?_⟩
   (conv=>whnf)
   refine aJ (fun h=>?_) fun h=>?_
   . have h:(!decide (l[x]=m[x]))=true:=by rw[<-pe];exact h
     (conv=>whnf)
     refine⟨(Bq fun e=>?_).symm,?_⟩
     . have e:l=m:=e;subst e;simp at h
     . repeat' (first|exact trivial|exact rfl|((conv=>whnf);first|(apply aJ<;>intro)|apply And.intro))
   . have h:(!decide (l[x]=m[x]))=false:=by rw[<-pe];exact h
     (conv=>whnf)
     refine af.2 ⟨ch x (by omega),?_⟩
     (conv=>whnf)
     refine⟨(x+1:Nat),⟨hlt',hlm,?_⟩,by show l.length - (x+1)<l.length - x;omega,?_⟩
     . show l.take (x+1)=m.take (x+1)
       have h:l[x]=m[x]:=by simpa using h
       rw[Aw hlt',Aw hlt2,ht,h]
     . repeat' (first|exact trivial|exact rfl|((conv=>whnf);first|(apply aJ<;>intro)|apply And.intro))
 . have hge':l.length<=x:=gf hge
   (conv=>whnf)
   refine⟨(Bj ?_).symm,?_⟩
   . rw[As hge',As (by omega)]at ht;exact ht
   . repeat' (first|exact trivial|exact rfl|((conv=>whnf);first|(apply aJ<;>intro)|apply And.intro)))
noncomputable def pt (f:FuncId):Option aM:=bif Nat.beq f oR then some My else bif Nat.beq f GN then some M4 else bif Nat.beq f GD then some Mw else oC f
theorem qf:∀g C,pt g=some C->CO g C:=bG XN (bG Zd (bG Yv o8))
end
section
variable [Inhabited aL]
def jK (d:ar) (l:List ar) (i:Nat) (h:i<l.length):Bool:=fB l[i]&&(decide (i=0)||bI (l[i - 1]'(by omega)) l[i])&& !(l[i].dev==d.dev&&l[i].inc==d.inc&&bU d.seq l[i].seq)
def jy (d:ar) (l:List ar):Bool:=decide (l.length<=64)&&decide (∀i (h:i<l.length),jK d l i h=true)
def iy (e:ae):Bool:=bU (Int.ofNat e.over.length) 100&&bU (Int.ofNat e.key.name.length) 2000&&bU (Int.ofNat e.key.domain.length) 2000&&bU (Int.ofNat e.key.path.length) 2000&&bU (Int.ofNat e.ab.value.length) 2000
def fw (pre:ae->Prop) (p:ae->Bool):aM:={Y:=ae,pre:=pre,args:=fun y=>[.agg y.enc],res:=fun y=> .bool (p y)}
def zI:aM:={Y:=List ae×Int,pre:=fun y=>y.2<=1000000,args:=fun y=>[cL y.1,i64 y.2],res:=fun y=> .bool (bU (Int.ofNat y.1.length) y.2&&y.1.all iy)}
def TA (y:List ae×Int):aH:={α:=Nat,ok:=fun i=>i<=y.1.length/\(y.1.take i).all iy=true,μ:=fun i=>y.1.length - i,aW:=[],aN:=fun i=>[(0,cL y.1),(5,i64 i)],bn:=fun _=>[]}
theorem KY:CO ri (fw (fun _=>True) iy):=bO (cfg:=fun y=>cg bZ (cS y)) bA (fun _=>rfl) (fun _=>rT) (n:=400) (by
 intro (e:ae) _
 repeat' (first|exact trivial|exact rfl|((conv=>whnf);first|(apply aJ<;>intro)|apply And.intro))
 all_goals (simp_all[iy]))
noncomputable def F2 (f:FuncId):Option aM:=bif Nat.beq f ri then some (fw (fun _=>True) iy)else pt f
theorem KC:∀g C,F2 g=some C->CO g C:=bG KY qf
theorem Jf:CO oM zI:=bO (cfg:=fun y=>cg F2 (cr oM 4 (TA y))) bA (fun _=>rfl) (fun _=>KC) (n:=400) (by
 rintro⟨l,m⟩ (hm:m<=1000000)
 (conv=>whnf)
 refine aJ (fun h=>?_) fun h=>?_
 . have h:bU (Int.ofNat l.length) m=false:=by
     have h:bw m (Int.ofNat l.length)=true:=h;rw[cj,Ab]at h;rw[fi,Ah];omega
   (conv=>whnf)
   refine⟨by show false=_;rw[h];rfl,?_⟩
   repeat' (first|exact trivial|exact rfl|((conv=>whnf);first|(apply aJ<;>intro)|apply And.intro))
 have h:bU (Int.ofNat l.length) m=true:=by
   have h:bw m (Int.ofNat l.length)=false:=h;rw[cj,Ah]at h;rw[fi,Ab];omega
 have hlen:l.length<=1000000:=by rw[fi,Ab,Aa]at h;omega
 (conv=>whnf)
 refine⟨⟨(0:Nat),⟨Au _,by simp⟩,?_⟩,?_⟩
 . repeat' (first|exact trivial|exact rfl|((conv=>whnf);first|(apply aJ<;>intro)|apply And.intro))
 intro (x:Nat) hx;obtain⟨hx,hn⟩:=hx;have hx:x<=l.length:=hx;have hn:(l.take x).all iy=true:=hn
 (conv=>whnf)
 refine aJ (fun hlt=>?_) fun hge=>?_
 . have hlt':x<l.length:=cq hlt
   (conv=>whnf)
   refine au.2 ⟨_,cE hlt',?_⟩
   (conv=>whnf)
   refine⟨l[x],?_⟩
   repeat ((conv=>whnf);first|refine⟨rfl,?_⟩|refine⟨trivial,?_⟩)
   (conv=>whnf)
   refine aJ (fun h1=>?_) fun h1=>?_
   . have h1:(!iy l[x])=true:=h1
     (conv=>whnf)
     refine⟨?_,?_⟩
     . show false=(bU (Int.ofNat l.length) m&&l.all iy)
       rw[h,Bp,eq_comm,List.all_eq_false];exact⟨l[x],AI hlt',by simpa using h1⟩
     . repeat' (first|exact trivial|exact rfl|((conv=>whnf);first|(apply aJ<;>intro)|apply And.intro))
   . have h1:(!iy l[x])=false:=h1
     (conv=>whnf)
     refine af.2 ⟨ch x (by omega),?_⟩
     (conv=>whnf)
     refine⟨(x+1:Nat),⟨hlt',?_⟩,by show l.length - (x+1)<l.length - x;omega,?_⟩
     . show(l.take (x+1)).all iy=true
       rw[Aw hlt',List.all_append,hn];simpa using h1
     . repeat' (first|exact trivial|exact rfl|((conv=>whnf);first|(apply aJ<;>intro)|apply And.intro))
 . have hge':l.length<=x:=gf hge;rw[As hge']at hn
   (conv=>whnf)
   refine⟨by show true=(bU (Int.ofNat l.length) m&&l.all iy);rw[h,hn];rfl,?_⟩
   repeat' (first|exact trivial|exact rfl|((conv=>whnf);first|(apply aJ<;>intro)|apply And.intro)))
theorem Kg {d:ar} {l:List ar} {x:Nat} (hx:x<l.length) (h:jK d l x hx=false):jy d l=false:=by
 unfold jy;rw[Bool.and_eq_false_iff];right;refine Bq fun hall=>?_
 rw[hall x hx]at h;cases h
def Na (d:ar) (l:List ar) (ks:List Nat) (s1 s2 s3:Nat):aH:={α:=Nat,ok:=fun i=>i<=l.length/\ ∀j (h:j<l.length),j<i->jK d l j h=true,μ:=fun i=>l.length - i,aW:=ks,aN:=fun i=>[(s1,cw l),(s2,i64 (Int.ofNat l.length)),(s3,i64 i)],bn:=fun _=>[]}
theorem Yp:CO Gw (fw (fun _=>True) fun e=>jy e.dot e.over):=bO (C:=fw (fun _=>True) fun e=>jy e.dot e.over) (cfg:=fun(y:ae)=>cg F2 (cr Gw 4 (Na y.dot y.over [1] 10 11 12))) bA (fun _=>rfl) (fun _=>KC) (n:=600) (by
 rintro⟨d,st,kd,ky,ck,l⟩ -
 (conv=>whnf)
 refine aJ (fun h=>?_) fun h=>?_
 . have h:64<l.length:=by
     have h:bw 64 (Int.ofNat l.length)=true:=h;rw[cj,Ab,Aa]at h;omega
   (conv=>whnf)
   refine⟨by show false=jy d l;unfold jy;rw[Bq (by omega)];rfl,?_⟩
   repeat' (first|exact trivial|exact rfl|((conv=>whnf);first|(apply aJ<;>intro)|apply And.intro))
 have h:l.length<=64:=by
   have h:bw 64 (Int.ofNat l.length)=false:=h;rw[cj,Ah,Aa]at h;omega
 (conv=>whnf)
 refine⟨⟨(0:Nat),⟨Au _,fun _ _ h=>absurd h (Bi _)⟩,?_⟩,?_⟩
 . repeat' (first|exact trivial|exact rfl|((conv=>whnf);first|(apply aJ<;>intro)|apply And.intro))
 intro (x:Nat) hx;obtain⟨hx,hn⟩:=hx;have hx:x<=l.length:=hx
 (conv=>whnf)
 refine aJ (fun hlt=>?_) fun hge=>?_
 . have hlt':x<l.length:=cq hlt;have no:=Kg (d:=d) hlt';have yes:jK d l x hlt'=true->(Na d l [1] 10 11 12).ok (x+1:Nat):=fun hy=>⟨hlt',fun j hj hjx=>by
     rcases D8 j x with h1|h1
     . exact hn j hj h1
     . have e:j=x:=by omega
       subst e;exact hy⟩
   have mu:l.length - (x+1)<l.length - x:=by omega
   (conv=>whnf)
   refine au.2 ⟨_,cE hlt',?_⟩
   (conv=>whnf)
   refine⟨l[x],?_⟩
   repeat ((conv=>whnf);first|refine⟨rfl,?_⟩|refine⟨trivial,?_⟩)
   (conv=>whnf)
   refine aJ (fun h1=>?_) fun h1=>?_
   . have h1:fB l[x]=false:=by
       have h1:(!fB l[x])=true:=h1;simpa using h1
     (conv=>whnf)
     refine⟨by show false=jy d l;rw[no (by simp only[jK,h1,Bg])],?_⟩
     repeat' (first|exact trivial|exact rfl|((conv=>whnf);first|(apply aJ<;>intro)|apply And.intro))
   have h1:fB l[x]=true:=by
     have h1:(!fB l[x])=false:=h1;simpa using h1
   (conv=>whnf)
   refine ag.2 ⟨fun h2=> ?ga,fun h2=> ?gb⟩
   case' ga=>
     have hx0:0<x:=by
       have h2:bw 0 (x:Int)=true:=h2;rw[cj,Ab]at h2;omega
     have hx1:x - 1<l.length:=by omega
     have hget:l[((x:Int) - 1).toNat]? =some l[x - 1]:=by
       rw[show((x:Int) - 1).toNat=x - 1 by omega,Af hx1]
     (conv=>whnf)
     refine af.2 ⟨by rw[gU];omega,?_⟩
     (conv=>whnf)
     refine af.2 ⟨by rw[lC,Ab];omega,?_⟩
     (conv=>whnf)
     refine au.2 ⟨_,hget,?_⟩
     (conv=>whnf)
     refine⟨(l[x - 1],l[x]),?_⟩
     repeat ((conv=>whnf);first|refine⟨rfl,?_⟩|refine⟨trivial,?_⟩)
     (conv=>whnf)
     refine ag.2 ⟨fun h3=> ?gc,fun h3=> ?gd⟩
     case gc=>
       have h3:bI l[x - 1] l[x]=false:=by
         have h3:(!bI l[x - 1] l[x])=true:=h3;simpa using h3
       (conv=>whnf)
       refine⟨by show false=jy d l;rw[no (by simp only[jK,h1,h3,Bq (show ¬x=0 by omega),EC,BW,Bg])],?_⟩
       repeat' (first|exact trivial|exact rfl|((conv=>whnf);first|(apply aJ<;>intro)|apply And.intro))
     case' gd=>
       have h3:bI l[x - 1] l[x]=true:=by
         have h3:(!bI l[x - 1] l[x])=false:=h3;simpa using h3
       have hA:jK d l x hlt'= !(l[x].dev==d.dev&&l[x].inc==d.inc&&bU d.seq l[x].seq):=by simp only[jK,h1,h3,EL,DD,Bp]
   case' gb=>
     have hx0:x=0:=by
       have h2:bw 0 (x:Int)=false:=h2;rw[cj,Ah]at h2;omega
     have hA:jK d l x hlt'= !(l[x].dev==d.dev&&l[x].inc==d.inc&&bU d.seq l[x].seq):=by simp only[jK,h1,Bj hx0,D9,DD,Bp]
   all_goals
     (conv=>whnf)
     refine aJ (fun h4=>?_) fun h4=>?_
     . have h4:(l[x].dev==d.dev&&l[x].inc==d.inc)=true:=by simpa using h4
       (conv=>whnf)
       refine aJ (fun h5=>?_) fun h5=>?_
       . have h5:bU d.seq l[x].seq=true:=h5;rw[h4,h5]at hA
         (conv=>whnf)
         refine⟨by show false=jy d l;rw[no hA],?_⟩
         repeat' (first|exact trivial|exact rfl|((conv=>whnf);first|(apply aJ<;>intro)|apply And.intro))
       . have h5:bU d.seq l[x].seq=false:=h5;rw[h4,h5]at hA
         (conv=>whnf)
         refine af.2 ⟨ch x (by omega),?_⟩
         (conv=>whnf)
         refine⟨(x+1:Nat),yes hA,mu,?_⟩
         repeat' (first|exact trivial|exact rfl|((conv=>whnf);first|(apply aJ<;>intro)|apply And.intro))
     . have h4:(l[x].dev==d.dev&&l[x].inc==d.inc)=false:=by
         cases e:(l[x].dev==d.dev&&l[x].inc==d.inc)with
         |false=>rfl
         |true=>
          have e':(l[x].dev==d.dev&&(l[x].inc==d.inc&&true))=false:=h4;rw[DD,e]at e';cases e'
       rw[h4]at hA
       (conv=>whnf)
       refine af.2 ⟨ch x (by omega),?_⟩
       (conv=>whnf)
       refine⟨(x+1:Nat),yes hA,mu,?_⟩
       repeat' (first|exact trivial|exact rfl|((conv=>whnf);first|(apply aJ<;>intro)|apply And.intro))
 . have hge':l.length<=x:=gf hge
   (conv=>whnf)
   refine⟨?_,?_⟩
   . show true=jy d l
     unfold jy;rw[Bj h,Bj fun i hi=>hn i hi (AP hi hge')];rfl
   . repeat' (first|exact trivial|exact rfl|((conv=>whnf);first|(apply aJ<;>intro)|apply And.intro)))
end
section
variable [Inhabited aL]
def ef (b:UInt8):Bool:=(bw (nB b) 32&& !(nB b==9))||nB b==127
def jc (b:UInt8):Bool:=nB b==32||nB b==9
def jf (s:Bs):Bs:=s.dropWhile jc
def jM (s:Bs):Bs:=(s.reverse.dropWhile jc).reverse
def kx (s:Bs):Bs:=jM (jf s)
def nW:aM:={Y:=Bs,pre:=fun y=>y.length<=1000000,args:=fun y=>[.str y],res:=fun y=> .bool (y.any ef)}
def yG (y:Bs):aH:={α:=Nat,ok:=fun i=>i<=y.length/\(y.take i).any ef=false,μ:=fun i=>y.length - i,aW:=[],aN:=fun i=>[(0, .str y),(5,i64 (Int.ofNat y.length)),(6,i64 i)],bn:=fun _=>[]}
def OT (y:Bs):aH:={α:=Nat,ok:=fun i=>i<=y.length,μ:=fun i=>y.length - i,aW:=[],aN:=fun i=>[(0, .str y),(3, .bool ((y.take i).any ef)),(4,i64 i)],bn:=fun _=>[]}
def MS:aM:={Y:=UInt8,pre:=fun _=>True,args:=fun y=>[.int .u8 (nB y)],res:=fun y=> .bool (jc y)}
def ye:aM:={Y:=Bs,pre:=fun y=>y.length<=1000000,args:=fun y=>[.str y],res:=fun y=> .str (kx y)}
def YL (y:Bs):aH:={α:=Bs,ok:=fun x=>jf x=jf y/\x.length<=y.length,μ:=fun x=>x.length,aW:=[],aN:=fun x=>[(0, .str x)],bn:=fun _=>[]}
def YM (y:Bs):aH:={α:=Bs,ok:=fun x=>jM x=kx y/\x.length<=y.length,μ:=fun x=>x.length,aW:=[],aN:=fun x=>[(0, .str x)],bn:=fun _=>[]}
def LL (y:Bs):aH:={α:=Nat,ok:=fun i=>i<=y.length/\jf (y.drop i)=jf y,μ:=fun i=>y.length - i,aW:=[],aN:=fun i=>[(0, .str y),(3,i64 i),(4,i64 (Int.ofNat y.length))],bn:=fun _=>[]}
def LM (y:Bs):aH:={α:=Nat×Nat,ok:=fun x=>x.1<=x.2/\x.2<=y.length/\jM ((y.drop x.1).take (x.2 - x.1))=kx y,μ:=fun x=>x.2,aW:=[],aN:=fun x=>[(0, .str y),(3,i64 x.1),(4,i64 x.2)],bn:=fun _=>[]}
noncomputable def yj (f:FuncId):Option aM:=bif Nat.beq f Hk then some MS else bif Nat.beq f qM then some nW else bif Nat.beq f qN then some nW else pt f
noncomputable def F1 (f:FuncId):Option aM:=bif Nat.beq f oP then some ye else bif Nat.beq f oQ then some ye else yj f
theorem KT {α:Type} {p:α->Bool} {l:List α} {x:Nat} (h:x<l.length):(l.take (x+1)).any p=((l.take x).any p||p l[x]):=by
 rw[Aw h,List.any_append];simp
theorem KR {α:Type} {p:α->Bool} {l:List α} {x:Nat} (h:l.length<=x):(l.take x).any p=l.any p:=by rw[As h]
theorem YN {α:Type} {p:α->Bool} {l:List α} {x:Nat} (h:x<l.length) (hp:p l[x]=true):l.any p=true:=List.any_eq_true.2 ⟨_,AI h,hp⟩
theorem Oo:CO qM nW:=bO (cfg:=fun y=>cg pt (cr qM 2 (yG y))) bA (fun _=>rfl) (fun _=>qf) (n:=600) (by
 intro (s:Bs) (hpre:s.length<=1000000)
 (conv=>whnf)
 refine⟨⟨(0:Nat),⟨Au _,by simp⟩,?_⟩,?_⟩
 . repeat' (first|exact trivial|exact rfl|((conv=>whnf);first|(apply aJ<;>intro)|apply And.intro))
 intro (x:Nat) hx;obtain⟨hx,hn⟩:=hx
 (conv=>whnf)
 refine aJ (fun hlt=>?_) fun hge=>?_
 . have hlt':x<s.length:=cq hlt;have e:ef s[x]=((bw (nB s[x]) 32&& !(nB s[x]==9))||nB s[x]==127):=rfl;have yes:ef s[x]=true->s.any ef=true:=YN hlt';have no:ef s[x]=false->(s.take (x+1)).any ef=false:=fun h=>by rw[KT hlt',hn,h];rfl
   repeat' (first|exact trivial|exact rfl|((conv=>whnf);refine au.2 ⟨_,cE (by assumption),?_⟩)|((conv=>whnf);refine af.2 ⟨ch _ (by omega),?_⟩)|((conv=>whnf);refine af.2 ⟨?_,?_⟩)|((conv=>whnf);first|(apply aJ<;>intro)|apply And.intro))
   all_goals first
    |(refine(yes ?_).symm;clear yes no e hn;simp_all[ef,nB])
    |((conv=>whnf);refine⟨(x+1:Nat),⟨hlt',no (by clear yes no e hn;simp_all[ef,nB])⟩,by show s.length - (x+1)<s.length - x;omega,?_⟩;repeat' (first|exact trivial|exact rfl|((conv=>whnf);first|(apply aJ<;>intro)|apply And.intro)))
 . have hge':s.length<=x:=gf hge;rw[KR hge']at hn
   (conv=>whnf)
   refine⟨hn.symm,?_⟩
   repeat' (first|exact trivial|exact rfl|((conv=>whnf);first|(apply aJ<;>intro)|apply And.intro)))
theorem Y2:CO qN nW:=bO (cfg:=fun y=>cg pt (cr qN 3 (OT y))) bA (fun _=>rfl) (fun _=>qf) (n:=600) (by
 intro (s:Bs) (hpre:s.length<=1000000)
 (conv=>whnf)
 refine⟨⟨(0:Nat),Au _,?_⟩,?_⟩
 . repeat' (first|exact trivial|exact rfl|((conv=>whnf);first|(apply aJ<;>intro)|apply And.intro))
 intro (x:Nat) hx;have hx:x<=s.length:=hx
 (conv=>whnf)
 refine aJ (fun hlt=>?_) fun hge=>?_
 . have hlt':x<s.length:=cq hlt;have fin:∀b:Bool,b=((s.take x).any ef||ef s[x])->b=(s.take (x+1)).any ef:=fun b h=>by rw[KT hlt',h]
   repeat' (first|exact trivial|exact rfl|((conv=>whnf);refine au.2 ⟨_,cE (by assumption),?_⟩)|((conv=>whnf);refine af.2 ⟨ch _ (by omega),?_⟩)|((conv=>whnf);refine af.2 ⟨?_,?_⟩)|((conv=>whnf);first|(apply aJ<;>intro)|apply And.intro))
   all_goals ((conv=>whnf);refine⟨(x+1:Nat),hlt',by show s.length - (x+1)<s.length - x;omega,?_⟩;repeat' (first|exact trivial|exact rfl|((conv=>whnf);first|(apply aJ<;>intro)|apply And.intro)))
   all_goals (refine fin _ ?_;clear fin;generalize (s.take x).any ef=P at*;simp_all[ef,nB])
 . have hge':s.length<=x:=gf hge
   (conv=>whnf)
   refine⟨KR hge',?_⟩
   repeat' (first|exact trivial|exact rfl|((conv=>whnf);first|(apply aJ<;>intro)|apply And.intro)))
theorem WY:CO Hk MS:=bO (cfg:=fun y=>cg pt (cS y)) bA (fun _=>rfl) (fun _=>qf) (n:=400) (by
 intro (b:UInt8) _
 repeat' (first|exact trivial|exact rfl|((conv=>whnf);first|(apply aJ<;>intro)|apply And.intro))
 all_goals (simp_all[jc]))
theorem Cc:∀g C,yj g=some C->CO g C:=bG WY (bG Oo (bG Y2 qf))
theorem IQ {b:UInt8} {s:Bs} (h:jc b=true):jf (b::s)=jf s:=by unfold jf;rw[DA,An h]
theorem IS {b:UInt8} {s:Bs} (h:jc b=false):jf (b::s)=b::s:=by unfold jf;rw[DA,Aj (by simp[h])]
theorem Jj {b:UInt8} {s:Bs} (h:jc b=true):jM (s++[b])=jM s:=by unfold jM;rw[Fq,DM,Dn,DA,An h]
theorem Jk {b:UInt8} {s:Bs} (h:jc b=false):jM (s++[b])=s++[b]:=by unfold jM;rw[Fq,DM,Dn,DA,Aj (by simp[h])];simp
theorem Ji {s:Bs} (h:s≠[]):(jc (s.getLast h)=true->jM s.dropLast=jM s)/\(jc (s.getLast h)=false->jM s=s):=by
 have e:=List.dropLast_concat_getLast h;constructor
 . intro hb;rw[<-e,Jj hb];simp
 . intro hb;rw[<-e,Jk hb]
theorem YT:CO oP ye:=bO (cfg:=fun y=>cg yj (ml oP 1 (YL y) (cr oP 3 (YM y)))) bA (fun _=>rfl) (fun _=>Cc) (n:=600) (by
 intro (y:Bs) (hpre:y.length<=1000000)
 (conv=>whnf)
 refine⟨⟨y,⟨rfl,Ai _⟩,?_⟩,?_⟩
 . repeat' (first|exact trivial|exact rfl|((conv=>whnf);first|(apply aJ<;>intro)|apply And.intro))
 intro (x:Bs) hx;obtain⟨h1,h2⟩:=hx;have h2:x.length<=y.length:=h2
 (conv=>whnf)
 refine ag.2 ⟨fun hne=> ?ne,fun he=> ?eq⟩
 case' eq=>
   have hL:jf x=x:=by
     have he:(!(x==[]))=false:=he;simp at he;subst he;rfl
 case' ne=>
   obtain⟨b,x',rfl⟩:∃b x',x=b::x':=by
     cases x with
     |nil=>cases hne
     |cons b x=>exact⟨b,x,rfl⟩
   (conv=>whnf)
   refine⟨b,?_⟩
   repeat ((conv=>whnf);first|refine⟨rfl,?_⟩|refine⟨trivial,?_⟩)
   (conv=>whnf)
   refine ag.2 ⟨fun hb=> ?bt,fun hb=> ?bf⟩
   case' bf=>have hL:=IS (s:=x') hb
   case bt=>
     (conv=>whnf)
     refine af.2 ⟨rfl,?_⟩
     (conv=>whnf)
     refine⟨x',⟨by show jf x'=jf y;rw[<-h1,IQ hb],by show x'.length<=y.length;simp at h2;omega⟩,by show x'.length<(b::x').length;simp,?_⟩
     repeat' (first|exact trivial|exact rfl|((conv=>whnf);first|(apply aJ<;>intro)|apply And.intro))
 all_goals
   rw[hL]at h1
   (conv=>whnf)
   refine⟨⟨_,⟨by show _=jM (jf y);rw[<-h1],h2⟩,?_⟩,?_⟩
   . repeat' (first|exact trivial|exact rfl|((conv=>whnf);first|(apply aJ<;>intro)|apply And.intro))
   clear h2;intro (z:Bs) hz;obtain⟨z1,z2⟩:=hz;have z2:z.length<=y.length:=z2;have z1:jM z=kx y:=z1
   (conv=>whnf)
   refine aJ (fun hz0=>?_) fun hz0=>?_
   . have hz0:z≠[]:=by
       have hz0:(!(z==[]))=true:=hz0;simpa using hz0
     have hpos:=AY.2 hz0;have hlast:z[(Int.ofNat z.length - 1).toNat]? =some (z.getLast hz0):=by
       rw[List.getLast_eq_getElem,show(Int.ofNat z.length - 1).toNat=z.length - 1 by simp only[Aa];omega,Af (by omega)]
     have hdrop:z.take (Int.ofNat z.length - 1).toNat=z.dropLast:=by
       rw[show(Int.ofNat z.length - 1).toNat=z.length - 1 by simp only[Aa];omega,List.dropLast_eq_take]
     have hir:bp .i64 (Int.ofNat z.length - 1)=true:=by rw[gU];simp only[Aa];omega
     (conv=>whnf)
     refine af.2 ⟨hir,?_⟩
     (conv=>whnf)
     refine af.2 ⟨by rw[lC,Ab];simp only[Aa];omega,?_⟩
     (conv=>whnf)
     refine au.2 ⟨_,hlast,?_⟩
     (conv=>whnf)
     refine⟨z.getLast hz0,?_⟩
     repeat ((conv=>whnf);first|refine⟨rfl,?_⟩|refine⟨trivial,?_⟩)
     (conv=>whnf)
     refine aJ (fun hb=>?_) fun hb=>?_
     . (conv=>whnf)
       refine af.2 ⟨hir,?_⟩
       (conv=>whnf)
       refine af.2 ⟨by rw[lC,Ab];simp only[Aa];omega,?_⟩
       (conv=>whnf)
       refine af.2 ⟨by rw[AA];simp only[Aa];omega,?_⟩
       (conv=>whnf)
       refine⟨z.take (Int.ofNat z.length - 1).toNat,⟨?_,?_⟩,?_,?_⟩
       . show jM (z.take (Int.ofNat z.length - 1).toNat)=kx y
         rw[hdrop,(Ji hz0).1 hb];exact z1
       . show(z.take (Int.ofNat z.length - 1).toNat).length<=y.length
         rw[hdrop,Fo];omega
       . show(z.take (Int.ofNat z.length - 1).toNat).length<z.length
         rw[hdrop,Fo];omega
       . repeat' (first|exact trivial|exact rfl|((conv=>whnf);first|(apply aJ<;>intro)|apply And.intro))
     . have:=(Ji hz0).2 hb
       (conv=>whnf)
       refine⟨by rw[<-this];exact z1,?_⟩
       repeat' (first|exact trivial|exact rfl|((conv=>whnf);first|(apply aJ<;>intro)|apply And.intro))
   . have hz0:z=[]:=by
       have hz0:(!(z==[]))=false:=hz0;simpa using hz0
     subst hz0
     (conv=>whnf)
     refine⟨z1,?_⟩
     repeat' (first|exact trivial|exact rfl|((conv=>whnf);first|(apply aJ<;>intro)|apply And.intro)))
theorem Is {s:Bs} {x:Nat} (h:x<s.length):s.drop x=s[x]::s.drop (x+1):=Dj h
theorem VF {s:Bs} {a b:Nat} (h1:a<b) (h2:b<=s.length):(s.drop a).take (b - a)=(s.drop a).take (b - 1 - a)++[s[b - 1]'(by omega)]:=by
 have:b - a=b - 1 - a+1:=by omega
 rw[this,Aw (by simp;omega)];congr 2
 simp only[BX];congr 1
 omega
theorem XQ:CO oQ ye:=bO (cfg:=fun y=>cg yj (ml oQ 3 (LL y) (cr oQ 5 (LM y)))) bA (fun _=>rfl) (fun _=>Cc) (n:=600) (by
 intro (y:Bs) (hpre:y.length<=1000000)
 (conv=>whnf)
 refine⟨⟨(0:Nat),⟨Au _,rfl⟩,?_⟩,?_⟩
 . repeat' (first|exact trivial|exact rfl|((conv=>whnf);first|(apply aJ<;>intro)|apply And.intro))
 intro (x:Nat) hx;obtain⟨h1,h2⟩:=hx;have h1:x<=y.length:=h1;have h2:jf (y.drop x)=jf y:=h2;have step:∀hx:x<y.length,jc y[x]=true->(LL y).ok (x+1:Nat):=fun hx hb=>⟨hx,by rw[<-h2,Is hx,IQ hb]⟩
 have mu:∀hx:x<y.length,y.length - (x+1)<y.length - x:=fun hx=>by omega
 have stop:∀hx:x<y.length,jc y[x]=false->y.drop x=jf y:=fun hx hb=>by
   rw[<-h2,Is hx,IS hb]
 (conv=>whnf)
 refine ag.2 ⟨fun hlt=> ?wa,fun hge=> ?we⟩
 case' we=>
   have hL:y.drop x=jf y:=by
     have hge:y.length<=x:=gf hge;rw[<-h2,DT hge];rfl
 case' wa=>
   have hlt':x<y.length:=cq hlt
   (conv=>whnf)
   refine au.2 ⟨_,cE hlt',?_⟩
   (conv=>whnf)
   refine ag.2 ⟨fun hb=> ?wb,fun hb=> ?wc⟩
   case wb=>
     have hb:nB y[x]=32:=by
       have hb:(nB y[x]==32)=true:=hb;simpa using hb
     (conv=>whnf)
     refine af.2 ⟨ch x (by omega),?_⟩
     (conv=>whnf)
     refine⟨(x+1:Nat),step hlt' (by simp[jc,hb]),mu hlt',?_⟩
     repeat' (first|exact trivial|exact rfl|((conv=>whnf);first|(apply aJ<;>intro)|apply And.intro))
   case' wc=>
     have hb:(nB y[x]==32)=false:=hb
     (conv=>whnf)
     refine au.2 ⟨_,cE hlt',?_⟩
     (conv=>whnf)
     refine ag.2 ⟨fun hc=> ?wd,fun hc=> ?wf⟩
     case wd=>
       have hc:(nB y[x]==9)=true:=hc
       (conv=>whnf)
       refine af.2 ⟨ch x (by omega),?_⟩
       (conv=>whnf)
       refine⟨(x+1:Nat),step hlt' (by simp only[jc,hb,hc,EL]),mu hlt',?_⟩
       repeat' (first|exact trivial|exact rfl|((conv=>whnf);first|(apply aJ<;>intro)|apply And.intro))
     case' wf=>
       have hc:(nB y[x]==9)=false:=hc;have hL:y.drop x=jf y:=stop hlt' (by simp only[jc,hb,hc,EC])
 all_goals
   clear step mu stop
   (conv=>whnf)
   refine⟨⟨((x,y.length):Nat×Nat),⟨h1,Ai _,by show jM ((y.drop x).take (y.length - x))=jM (jf y);rw[<-hL,As (by simp)]⟩,?_⟩,?_⟩
   . repeat' (first|exact trivial|exact rfl|((conv=>whnf);first|(apply aJ<;>intro)|apply And.intro))
   rintro⟨a,b⟩ ⟨k1,k2,k3⟩;have k1:a<=b:=k1;have k2:b<=y.length:=k2;have k3:jM ((y.drop a).take (b - a))=kx y:=k3
   (conv=>whnf)
   refine aJ (fun hlt=>?_) fun hge=>?_
   . have hab:a<b:=by
       have hlt:bw (a:Int) (b:Int)=true:=hlt;rw[cj,Ab]at hlt;omega
     have hl:=VF hab k2;have hbl:b - 1<y.length:=by omega
     have hget:y[((b:Int) - 1).toNat]? =some y[b - 1]:=by
       rw[show((b:Int) - 1).toNat=b - 1 by omega,Af hbl]
     have hir:bp .i64 ((b:Int) - 1)=true:=by rw[gU];omega
     have hnn:nn ((b:Int) - 1)=true:=by rw[lC,Ab];omega
     have hb1:((b:Int) - 1)=((b - 1:Nat):Int):=by omega
     have step:jc y[b - 1]=true->(LM y).ok ((a,b - 1):Nat×Nat):=fun hb=>⟨by show a<=b - 1;omega,by show b - 1<=y.length;omega,by show jM ((y.drop a).take (b - 1 - a))=kx y;rw[<-k3,hl,Jj hb]⟩
     have stop:jc y[b - 1]=false->(y.drop a).take (b - a)=kx y:=fun hb=>by rw[<-k3,hl,Jk hb]
     have mu:b - 1<b:=by omega
     repeat (first|((conv=>whnf);refine af.2 ⟨hir,?_⟩)|((conv=>whnf);refine af.2 ⟨hnn,?_⟩)|((conv=>whnf);refine au.2 ⟨_,hget,?_⟩))
     (conv=>whnf)
     refine aJ (fun hb=>?_) fun hb=>?_
     . have hb:(nB y[b - 1]==32)=true:=hb
       repeat (first|((conv=>whnf);refine af.2 ⟨hir,?_⟩))
       (conv=>whnf)
       refine⟨((a,b - 1):Nat×Nat),step (by simp only[jc,hb,D9]),mu,?_⟩
       repeat' (first|exact trivial|exact rfl|((conv=>whnf);first|(apply aJ<;>intro)|apply And.intro))
       all_goals ((conv=>whnf);exact hb1)
     . have hb:(nB y[b - 1]==32)=false:=hb
       repeat (first|((conv=>whnf);refine af.2 ⟨hir,?_⟩)|((conv=>whnf);refine af.2 ⟨hnn,?_⟩)|((conv=>whnf);refine au.2 ⟨_,hget,?_⟩))
       (conv=>whnf)
       refine aJ (fun hc=>?_) fun hc=>?_
       . have hc:(nB y[b - 1]==9)=true:=hc
         repeat (first|((conv=>whnf);refine af.2 ⟨hir,?_⟩))
         (conv=>whnf)
         refine⟨((a,b - 1):Nat×Nat),step (by simp only[jc,hb,hc,EL]),mu,?_⟩
         repeat' (first|exact trivial|exact rfl|((conv=>whnf);first|(apply aJ<;>intro)|apply And.intro))
         all_goals ((conv=>whnf);exact hb1)
       . have hc:(nB y[b - 1]==9)=false:=hc;have:=stop (by simp only[jc,hb,hc,EC])
         (conv=>whnf)
         refine af.2 ⟨by show(Nat.ble a b&&Nat.ble b y.length)=true;rw[Ac,AA,AA];omega,?_⟩
         (conv=>whnf)
         refine⟨this,?_⟩
         repeat' (first|exact trivial|exact rfl|((conv=>whnf);first|(apply aJ<;>intro)|apply And.intro))
   . have hab:a=b:=by
       have hge:bw (a:Int) (b:Int)=false:=hge;rw[cj,Ah]at hge;omega
     subst hab
     (conv=>whnf)
     refine af.2 ⟨by show(Nat.ble a a&&Nat.ble a y.length)=true;rw[Ac,AA,AA];omega,?_⟩
     (conv=>whnf)
     refine⟨?_,?_⟩
     . show(y.drop a).take (a - a)=kx y
       rw[<-k3,Nat.sub_self,DK];rfl
     repeat' (first|exact trivial|exact rfl|((conv=>whnf);first|(apply aJ<;>intro)|apply And.intro)))
theorem KB:∀g C,F1 g=some C->CO g C:=bG YT (bG XQ Cc)
end
section
variable [Inhabited aL]
def jz (s:Bs) (most:Int) (signs:Bs):Bool:=bU (Int.ofNat s.length) most&& !s.any ef&&decide (kx s=s)&&signs.all fun c=>(cQ s (nB c)).isNone
def Mu:aM:={Y:=Bs×Int×Bs,pre:=fun y=>y.1.length<=1000000/\y.2.2.length<=100,args:=fun y=>[.str y.1,i64 y.2.1, .aj UInt8 y.2.2 dh],res:=fun y=> .bool (jz y.1 y.2.1 y.2.2)}
def YH (y:Bs×Int×Bs):aH:={α:=Nat,ok:=fun i=>i<=y.2.2.length/\(y.2.2.take i).all (fun c=>(cQ y.1 (nB c)).isNone)=true,μ:=fun i=>y.2.2.length - i,aW:=[],aN:=fun i=>[(0, .str y.1),(26, .aj UInt8 y.2.2 dh),(27,i64 (Int.ofNat y.2.2.length)),(28,i64 i)],bn:=fun _=>[]}
theorem Xu {a b:Int} (h:bw a b=true):bU b a=false:=by
 rw[cj,Ab]at h;rw[fi,Ah];omega
theorem Xv {a b:Int} (h:bw a b=false):bU b a=true:=by
 rw[cj,Ah]at h;rw[fi,Ab];omega
theorem JG (s:Bs) (c:Int):(dP s c).2.2=(cQ s c).isSome:=by
 unfold dP
 cases cQ s c<;>rfl
theorem Ys:CO qQ Mu:=bO (cfg:=fun y=>cg F1 (cr qQ 4 (YH y))) bA (fun _=>rfl) (fun _=>KB) (n:=600) (by
 rintro⟨s,m,g⟩ ⟨(hs:s.length<=1000000),(hg:g.length<=100)⟩;have yes:(jz s m g=false)-> .bool false=SV.bool (jz s m g):=fun h=>by rw[h]
 (conv=>whnf)
 refine aJ (fun h=>?_) fun h=>?_
 . have h:bU (Int.ofNat s.length) m=false:=Xu h;have:jz s m g=false:=by simp only[jz,h,Bg]
   (conv=>whnf)
   refine⟨this.symm,?_⟩
   repeat' (first|exact trivial|exact rfl|((conv=>whnf);first|(apply aJ<;>intro)|apply And.intro))
 have h1:bU (Int.ofNat s.length) m=true:=Xv h
 (conv=>whnf)
 refine⟨s,?_⟩
 repeat ((conv=>whnf);first|refine⟨rfl,?_⟩|refine⟨hs,?_⟩)
 (conv=>whnf)
 refine aJ (fun h=>?_) fun h=>?_
 . have h:s.any ef=true:=h;have:jz s m g=false:=by simp only[jz,h,BV,BW,Bg]
   (conv=>whnf)
   refine⟨this.symm,?_⟩
   repeat' (first|exact trivial|exact rfl|((conv=>whnf);first|(apply aJ<;>intro)|apply And.intro))
 have h2:s.any ef=false:=h
 (conv=>whnf)
 refine⟨s,?_⟩
 repeat ((conv=>whnf);first|refine⟨rfl,?_⟩|refine⟨hs,?_⟩)
 (conv=>whnf)
 refine aJ (fun h=>?_) fun h=>?_
 . have h:decide (kx s=s)=false:=by
     have h:(!(kx s==s))=true:=h;simpa using h
   have:jz s m g=false:=by simp only[jz,h,BW,Bg]
   (conv=>whnf)
   refine⟨this.symm,?_⟩
   repeat' (first|exact trivial|exact rfl|((conv=>whnf);first|(apply aJ<;>intro)|apply And.intro))
 have h3:decide (kx s=s)=true:=by
   have h:(!(kx s==s))=false:=h;simpa using h
 have hp:jz s m g=g.all fun c=>(cQ s (nB c)).isNone:=by simp only[jz,h1,h2,h3,Du,Bp]
 (conv=>whnf)
 refine⟨⟨(0:Nat),⟨Au _,by simp⟩,?_⟩,?_⟩
 . repeat' (first|exact trivial|exact rfl|((conv=>whnf);first|(apply aJ<;>intro)|apply And.intro))
 intro (x:Nat) hx;obtain⟨hx,hn⟩:=hx;have hx:x<=g.length:=hx;have hn:(g.take x).all (fun c=>(cQ s (nB c)).isNone)=true:=hn
 (conv=>whnf)
 refine aJ (fun hlt=>?_) fun hge=>?_
 . have hlt':x<g.length:=cq hlt
   (conv=>whnf)
   refine au.2 ⟨_,cE hlt',?_⟩
   (conv=>whnf)
   refine⟨(s,nB g[x]),?_⟩
   repeat ((conv=>whnf);first|refine⟨rfl,?_⟩|refine⟨hs,?_⟩)
   (conv=>whnf)
   refine aJ (fun h=>?_) fun h=>?_
   . have h:(cQ s (nB g[x])).isSome=true:=by rw[<-JG];exact h
     have:jz s m g=false:=by
       rw[hp,List.all_eq_false];exact⟨g[x],AI hlt',by simp[Option.isNone_iff_eq_none,Eg.1 h]⟩
     (conv=>whnf)
     refine⟨this.symm,?_⟩
     repeat' (first|exact trivial|exact rfl|((conv=>whnf);first|(apply aJ<;>intro)|apply And.intro))
   . have h:(cQ s (nB g[x])).isSome=false:=by rw[<-JG];exact h
     (conv=>whnf)
     refine af.2 ⟨ch x (by omega),?_⟩
     (conv=>whnf)
     refine⟨(x+1:Nat),⟨hlt',?_⟩,by show g.length - (x+1)<g.length - x;omega,?_⟩
     . show(g.take (x+1)).all (fun c=>(cQ s (nB c)).isNone)=true
       rw[Aw hlt',List.all_append,hn];simpa using h
     . repeat' (first|exact trivial|exact rfl|((conv=>whnf);first|(apply aJ<;>intro)|apply And.intro))
 . have hge':g.length<=x:=gf hge;rw[As hge']at hn
   (conv=>whnf)
   refine⟨by show true=jz s m g;rw[hp,hn],?_⟩
   repeat' (first|exact trivial|exact rfl|((conv=>whnf);first|(apply aJ<;>intro)|apply And.intro)))
end
section
variable [Inhabited aL]
def jr (b:UInt8):UInt8:=if 65<=b.toNat/\b.toNat<=90 then b+32 else b
def eY (s:Bs):Bs:=s.map jr
def iT (w:World) (b:Nat) (l:Bs):Prop:=∃arr,w.heap[b]? =some (.cells arr 5 (arr.size,arr.size+1))/\l.length<=arr.size/\ ∀j (h:j<l.length),arr[j]? =some (.int .u8 l[j].toNat)
theorem iT.cell {w:World} {b:Nat} {l:Bs} (h:iT w b l) {j:Nat} (hj:j<l.length):w.cell? ⟨b,j,none⟩=some (.int .u8 l[j].toNat):=by
 obtain⟨arr,h1,_,h3⟩:=h;simp[World.cell?,h1,h3 j hj]
theorem iT.free {w:World} {b:Nat} {l:Bs} (h:iT w b l) {j:Nat} (hj:j<l.length):w.frozen? ⟨b,j,none⟩=false:=by
 obtain⟨arr,h1,h2,_⟩:=h;simp[World.frozen?,h1];omega
theorem iT.set {w:World} {b:Nat} {l:Bs} (h:iT w b l) (k:Nat) (c:UInt8):iT (w.setCell ⟨b,k,none⟩ (.int .u8 c.toNat)) b (l.set k c):=by
 obtain⟨arr,h1,h2,h3⟩:=h;have hlt:=(Ad.1 h1).1;refine⟨arr.setIfInBounds k (.int .u8 c.toNat),?_,by simpa using h2,fun j hj=>?_⟩
 . have h4:=(Ad.1 h1).2;simp only[World.setCell,Di,h1];simp
 . have hj':j<l.length:=by simpa using hj
   rw[B9,List.getElem_set];by_cases e:k=j
   . subst e;simp;omega
   . simp only[e,AK];exact h3 j hj'
theorem Qh (b:UInt8) (w:World):Calls Tryz.prog 220 #[.int .u8 b.toNat] w fun e w'=>e= .returned (.int .u8 (jr b).toNat)/\w'=w:=by
 have hb:=b.toNat_lt;by_cases h1:65<=b.toNat
 . by_cases h2:b.toNat<=90
   . go_enter Tryz.func220,Tryz.ntmps220
     go_wp2;go_ret;refine⟨?_,rfl⟩;unfold jr;rw[An ⟨h1,h2⟩];have e:(b+32).toNat=b.toNat+32:=by
      rw[UInt8.toNat_add,show(32:UInt8).toNat=32 from rfl];omega
     rw[e];simp;omega
   . go_enter Tryz.func220,Tryz.ntmps220
     go_wp2;go_ret;refine⟨?_,rfl⟩;unfold jr;rw[Aj (fun h=>h2 h.2)];rfl
 . go_enter Tryz.func220,Tryz.ntmps220
   go_wp2;go_ret;refine⟨?_,rfl⟩;unfold jr;rw[Aj (fun h=>h1 h.1)];rfl
theorem Ph (s:Bs) (w:World) (hl:s.length<=1000000):Calls Tryz.prog 172 #[.string ⟨s.toArray⟩] w fun e w'=>e= .returned (.string ⟨(eY s).toArray⟩)/\Below w.heap.size w w'/\w.drawn<=w'.drawn:=by
 have hcv:= @run_bytes_of_string Tryz.prog;have hcb:= @run_convert_bytes_back Tryz.prog;go_enter Tryz.func172,Tryz.ntmps172
 go_wp2;have hrow0:∀c,iT (w.drew.alloc (.cells (bytesRow ⟨s.toArray⟩ c) 5 ((bytesRow ⟨s.toArray⟩ c).size,(bytesRow ⟨s.toArray⟩ c).size+1))) w.heap.size s:=fun c=>by
  refine⟨bytesRow ⟨s.toArray⟩ c,?_,?_,fun j hj=>?_⟩
  . show(w.heap.push _)[w.heap.size]? =_
    simp
  . simp[bytesRow]
  . rw[bytesRow_at _ _ _ (by simpa using hj)];simp
 go_loopw [9] (fun i wr=>∃k:Nat,k<=s.length/\i= .int .i64 k/\iT wr w.heap.size ((eY s).take k++s.drop k)/\Below w.heap.size w wr/\w.drawn<=wr.drawn) (fun i _=>s.length - (intOf i).toNat)
 case atStart=>exact⟨0,Au _,rfl,hrow0 _,((Below.refl _ _).drew).alloc (Ai _) _,Fk _⟩
 case round=>
  obtain⟨k,hk,rfl,hrow,hbel,hdr⟩:=hrel;by_cases hlt:k<s.length
  . have hlen:((eY s).take k++s.drop k).length=s.length:=by simp[eY];omega
    have hk2:k<((eY s).take k++s.drop k).length:=by omega
    have hc:=hrow.cell hk2;have hf:=hrow.free hk2;have hel:((eY s).take k++s.drop k)[k]=s[k]:=by
     rw[List.getElem_append_right (by simp[eY];omega)];simp[eY,Nat.min_eq_left (Nat.le_of_lt hlt)]
    rw[hel]at hc;have hcall:=Qh s[k] wr;go_wp2_with (go_at_call 220;refine hcall.mono ?_;rintro e w1 ⟨rfl,rfl⟩)
    have hset:((eY s).take k++s.drop k).set k (jr s[k])=(eY s).take (k+1)++s.drop (k+1):=by
     have hz:k - ((eY s).take k).length=0:=by simp[eY];omega
     rw[List.set_append_right _ _ (by simp[eY];omega),hz,Dj hlt,Aw (by simpa [eY]using hlt),List.set_cons_zero];simp[eY]
    refine⟨⟨k+1,hlt,by go_num,?_,hbel.setCell (Ai _) _,hdr⟩,by simp[intOf];omega⟩;rw[<-hset];exact hrow.set k _
  . have hkl:k=s.length:=by omega
    subst hkl;have hrow':iT wr w.heap.size (eY s):=by
     rw[List.drop_length,A9,As (by simp[eY])]at hrow;exact hrow
    have hback:∀c,(convert 199 9 (.slice (some ⟨w.heap.size,0,none⟩) s.length c)).run Tryz.prog wr= .ok (.string ⟨(eY s).toArray⟩) wr:=fun c=>by
     have:=hcb wr 199 9 5 ⟨w.heap.size,0,none⟩ c (eY s) Tryz.underlying199 Tryz.underlying5 Tryz.underlying9 (fun j hj=>by
      have:=hrow'.cell hj;unfold Addr.add;split
      . rename_i h0;subst h0;exact this
      . simpa using this)
     simpa [eY]using this
    clear hcb hcv hrow0;go_wp2;go_ret;exact⟨rfl,hbel,hdr⟩
theorem Ym:CO Hj {Y:=Bs,pre:=fun y=>y.length<=1000000,args:=fun y=>[.str y],res:=fun y=> .str (eY y)}:=kk bA.ok (by
 rintro s hs w args - ⟨h1,h2⟩;match args,h1 with
 |[v],_=>
 have hv:v= .string ⟨s.toArray⟩:=by
  have:=h2 0 _ _ rfl rfl
  cases this;rfl
 subst hv;refine(Ph s w hs).mono ?_;rintro e w' ⟨rfl,hb,hd⟩;exact⟨_,rfl, .inr (.str _),hb,fun _=>hd⟩)
end
end Go.Proofs
namespace Go.Proofs
open Go Go.Am Go.RowKit Go.Sy Go.Gm
def eH (a:Int×Int):Value:= .agg #[.int .i64 a.1, .int .i64 a.2]
def bT (d:ar):Value:= .agg #[.int .i64 d.dev, .int .i64 d.inc, .int .i64 d.seq]
def dw (k:aA):Value:= .agg #[.string ⟨k.name.toArray⟩, .string ⟨k.domain.toArray⟩, .string ⟨k.path.toArray⟩]
def cN (n:Int):Value:= .int .i64 n
theorem Qo (x y:Int×Int) (w:World):(Op.equal u9 (eH x) (eH y)).run Tryz.prog w= .ok (decide (x=y)) w:=by
 letI:Inhabited aL:=⟨⟨True,#[]⟩⟩
 have h0:eqT Tryz.tab 8 u9 (.agg [.int .i64 x.1, .int .i64 x.2]) (.agg [.int .i64 y.1, .int .i64 y.2])=(if(x.1==y.1)=true then(if(x.2==y.2)=true then .ok true else .ok false)else .ok false:R Bool):=by kernel_rfl
 have h:eqT Tryz.tab 8 u9 (.agg [.int .i64 x.1, .int .i64 x.2]) (.agg [.int .i64 y.1, .int .i64 y.2])= .ok (decide (x=y)):=by
  rw[h0];by_cases e1:x.1=y.1<;>by_cases e2:x.2=y.2<;>simp[e1,e2,Prod.ext_iff]
 exact qi Tryz.kj (E:=⟨fun i=>i,fun _=>0⟩) 8 u9 _ _ _ h 9992 w
theorem Qp (x y:ar) (w:World):(Op.equal Ty.kN (bT x) (bT y)).run Tryz.prog w= .ok (decide (x=y)) w:=by
 letI:Inhabited aL:=⟨⟨True,#[]⟩⟩
 have h0:eqT Tryz.tab 8 Ty.kN (.agg [.int .i64 x.dev, .int .i64 x.inc, .int .i64 x.seq]) (.agg [.int .i64 y.dev, .int .i64 y.inc, .int .i64 y.seq])=(do if(<-(if(x.dev==y.dev)=true then(if(x.inc==y.inc)=true then .ok true else .ok false)else .ok false:R Bool))=true then(if(x.seq==y.seq)=true then .ok true else .ok false)else .ok false:R Bool):=by kernel_rfl
 have h:eqT Tryz.tab 8 Ty.kN (.agg [.int .i64 x.dev, .int .i64 x.inc, .int .i64 x.seq]) (.agg [.int .i64 y.dev, .int .i64 y.inc, .int .i64 y.seq])= .ok (decide (x=y)):=by
  rw[h0];by_cases e1:x.dev=y.dev<;>by_cases e2:x.inc=y.inc<;>by_cases e3:x.seq=y.seq
  all_goals first|(rw[Bj (ar.ext_iff.2 ⟨e1,e2,e3⟩)];simp only[e1,e2,e3,Em,Bb];rfl)|(rw[Bq (fun h=>by rw[ar.ext_iff]at h;simp_all)];simp[e1,e2,e3];try rfl)
 exact qi Tryz.kj (E:=⟨fun i=>i,fun _=>0⟩) 8 Ty.kN _ _ _ h 9992 w
theorem Xr (x y:aA):x=y↔x.name=y.name/\x.domain=y.domain/\x.path=y.path:=by
 cases x;cases y;simp
theorem Qq (x y:aA) (w:World):(Op.equal ve (dw x) (dw y)).run Tryz.prog w= .ok (decide (x=y)) w:=by
 letI:Inhabited aL:=⟨⟨True,#[]⟩⟩
 have h0:eqT Tryz.tab 8 ve (.agg [.str x.name, .str x.domain, .str x.path]) (.agg [.str y.name, .str y.domain, .str y.path])=(if(x.name==y.name)=true then(if(x.domain==y.domain)=true then(if(x.path==y.path)=true then .ok true else .ok false)else .ok false)else .ok false:R Bool):=by kernel_rfl
 have h:eqT Tryz.tab 8 ve (.agg [.str x.name, .str x.domain, .str x.path]) (.agg [.str y.name, .str y.domain, .str y.path])= .ok (decide (x=y)):=by
  rw[h0];by_cases e1:x.name=y.name<;>by_cases e2:x.domain=y.domain<;>by_cases e3:x.path=y.path<;>simp[e1,e2,e3,Xr]
 exact qi Tryz.kj (E:=⟨fun i=>i,fun _=>0⟩) 8 ve _ _ _ h 9992 w
theorem Gq:KeyLaw Tryz.prog u9 eH:=⟨fun b k w=>by kernel_rfl,Qo,fun k=>by simp[Instr.sameBits,eH],⟨_,Tryz.underlying33⟩⟩
theorem iF:KeyLaw Tryz.prog Ty.kN bT:=⟨fun b k w=>by kernel_rfl,Qp,fun k=>by simp[Instr.sameBits,bT],⟨_,Tryz.underlying35⟩⟩
theorem CW (a:ByteArray):(a==a)=true:=by
 rw[beq_toListBytes];simp
theorem yy:KeyLaw Tryz.prog ve dw:=⟨fun b k w=>by kernel_rfl,Qq,fun k=>by(simp[Instr.sameBits,dw];exact⟨CW _,CW _,CW _⟩),⟨_,Tryz.underlying24⟩⟩
theorem u4 (w:World):(zeroValue 3).run Tryz.prog w= .ok (cN 0) w:=by kernel_rfl
theorem lM {w:World} {bs bv:Nat} {L:List ((Int×Int)×Int)} (hs:w.cell? ⟨bs,0,none⟩=some (.map (some bv))) (hm:aC w bv eH cN L) (a i:Int):
  Calls Tryz.prog 67 #[.pointer (some ⟨bs,0,none⟩), .agg #[.int .i64 a, .int .i64 i]] w fun e w'=>e= .returned (.int .i64 ((aE L (a,i)).getD 0))/\Below w.heap.size w w':=by
 have hlk:∀w':World,w'.heap[bv]? =w.heap[bv]? ->(Instr.lookup 147 (.map (some bv)) (.agg #[.int .i64 a, .int .i64 i]) false).run Tryz.prog w'= .ok (.int .i64 ((aE L (a,i)).getD 0)) w':=fun w' h=>by
  have:=(hm.same h).lookup Gq Tryz.underlying147 (u4 w') (a,i) false;simp only[Ao,AK]at this;rw[show eH (a,i)= .agg #[.int .i64 a, .int .i64 i]from rfl]at this;rw[this]
  cases aE L (a,i)<;>rfl
 have hbv:bv<w.heap.size:=by
  obtain⟨es,clk,h,_⟩:=hm.at_;exact(Ad.1 h).1
 have hbs:bs<w.heap.size:=by
  unfold World.cell? at hs
  cases h:w.heap[bs]? with
  |none=>simp[h]at hs
  |some o=>exact(Ad.1 h).1
 go_enter Tryz.func67,Tryz.ntmps67
 go_wp2;have hl2:=hlk (w.alloc (.cells #[.int .i64 a, .int .i64 i] 33)).drew (Below.heap_alloc w _ bv hbv);have hs2:(w.alloc (.cells #[.int .i64 a, .int .i64 i] 33)).cell? ⟨bs,0,none⟩=some (.map (some bv)):=by
  rw[<-hs];exact((Below.refl w.heap.size w).alloc (Ai _) _).cell hbs
 clear hlk;go_region
 go_wp2;go_ret;exact⟨rfl,((Below.refl w.heap.size w).alloc (Ai _) _).drew⟩
end Go.Proofs
namespace Go.Proofs
open Go Go.Am Go.RowKit Go.Sy
section
variable [Inhabited aL]
theorem Lz {c:az} {l:List aa} {now:Int} (h:eL c≠0):dI (c,l,now)=([],eL c):=by unfold dI;rw[An h]
theorem MA {c:az} {l:List aa} {now:Int} (h:eL c=0) (hr:gS l=true):dI (c,l,now)=(fo (aD c) (cA c) l now,0):=by unfold dI;rw[Aj (by simpa using h)];simp[hr]
theorem Xi (c:az) (l:List aa) (now:Int):(dI (c,l,now)).1.length<=l.length:=by
 unfold dI;split
 . simp
 . split
   . exact Lp _ _ _ _
   . simp
theorem Tq {c:az} (h:eL c=0):1<=c.domain/\1<=c.total:=by
 unfold eL at h;split at h
 . cases h
 . omega
theorem CL {y:az×List aa×Int} (h:(dI y).2≠0):gX y=([],(dI y).2):=by unfold gX;rw[An h]
theorem FA {y:az×List aa×Int} (h:(dI y).2=0):gX y=(jg y.2.1 (dI y).1,0):=by unfold gX;rw[Aj (by simpa using h)]
theorem Ma (l k:List aa):(jg l k).length<=l.length:=AF _ _
theorem Zc (hG:∀g C,yn g=some C->CO g C):CO mU FU:=bO (cfg:=fun y=>bE yn (cr mU 6 (sL y))) bA (fun _=>rfl) (fun _=>hG) (n:=800) (by
 rw[N3];rintro⟨c,l,now⟩ ⟨hr,hl,hsh⟩;have hl:l.length<=10000:=hl;have hk:=Xi c l now;refine⟨(c,l,now),rfl,rfl,rfl,rfl,rfl,rfl,⟨hr,hl,hsh⟩,ag.2 ⟨fun hc=>?_,fun hc=>?_⟩⟩
 . have hc:(dI (c,l,now)).2≠0:=by simpa using hc
   have he:=CL hc;exact⟨by rw[he],by show(dI (c,l,now)).2=_;rw[he],trivial⟩
 have hc:(dI (c,l,now)).2=0:=by simpa using hc
 have he:=FA hc;refine⟨⟨0,Au _,?_⟩,?_⟩
 . (repeat' (first|exact trivial|exact rfl|exact(fun _=>rfl)|apply And.intro))
 intro x hx;refine ag.2 ⟨fun hlt=>?_,fun hge=>⟨?_,by rw[he],trivial⟩⟩
 . have hlt':x<l.length:=cq hlt;have hlen:=Ma (l.take x) (dI (c,l,now)).1;have hx2:(l.take x).length<=x:=by simp;omega
   have hf:jg (l.take (x+1)) (dI (c,l,now)).1=jg (l.take x) (dI (c,l,now)).1++if decide (l[x]∉(dI (c,l,now)).1)then[l[x]]else[]:=kR (p:=fun z=>decide (z∉(dI (c,l,now)).1)) hlt'
   have hmu:l.length - (x+1)<l.length - x:=by omega
   refine au.2 ⟨_,cE hlt',((dI (c,l,now)).1,l[x]),rfl,rfl,rfl,rfl,rfl,rfl,rfl,rfl,rfl,rfl,rfl,rfl,by show(dI (c,l,now)).1.length<=10000;omega,ag.2 ⟨fun h1=>⟨l[x],rfl,af.2 ⟨by simp only[Ac,AA,Az,AG];omega,af.2 ⟨ch x (by omega),x+1,hlt',hmu,?_⟩⟩⟩,fun h1=>af.2 ⟨ch x (by omega),x+1,hlt',hmu,?_⟩⟩⟩
   . have h1:l[x]∉(dI (c,l,now)).1:=by simpa using h1
     simp only[h1,Bl,decide_true,Bb]at hf
     (repeat' (first|exact trivial|exact rfl|exact(fun _=>rfl)|apply And.intro))
     all_goals (rw[hf])
   . have h1:l[x]∈(dI (c,l,now)).1:=by simpa using h1
     simp only[h1,Dp,E7,Ao,AK,A9]at hf
     (repeat' (first|exact trivial|exact rfl|exact(fun _=>rfl)|apply And.intro))
     all_goals (rw[hf])
 . rw[he];show SV.aj aa (jg (l.take x) (dI (c,l,now)).1) aa.enc=SV.aj aa (jg l (dI (c,l,now)).1) aa.enc
   rw[rI (gz hge)])
theorem Xx {n:Nat} (h:bw 300 (Int.ofNat n)=true):¬n<=300:=by rw[cj,Ab,Aa]at h;omega
theorem Vz {n:Nat} (h:bw 300 (Int.ofNat n)=false):n<=300:=by rw[cj,Ah,Aa]at h;omega
theorem Vu (hG:∀g C,qt g=some C->CO g C):∀g C,yn g=some C->CO g C:=bG (L8 (wE hG)) (bG (Zi (wE hG)) (wE hG))
end
section
abbrev dR (s:Bs):Value:= .string ⟨s.toArray⟩
def fm (x:aa):List Value:=[dR x.key.name,dR x.key.domain,dR x.key.path,dR x.ab.value, .bool x.ab.aF, .bool x.ab.aV, .bool x.ab.aG, .bool x.ab.persistent, .int .i64 x.ab.aP, .int .i64 x.ab.aq, .int .i64 x.ab.access]
theorem Tw (x:aa):(fm x).length=11:=rfl
def rowAt (w:World) (b off:Nat) (l:List aa):Prop:=∀(i:Nat) x (j:Nat) v,l[i]? =some x->(fm x)[j]? =some v->w.cell? ⟨b,off+i*11+j,none⟩=some v
theorem rowAt.range {w:World} {b off:Nat} {l:List aa} (h:rowAt w b off l) {i:Nat} {x:aa} (hx:l[i]? =some x):w.rangeAt b (off+i*11) (fm x):=fun j v hv=>h i x j v hx hv
theorem rowAt.below {w w':World} {b off:Nat} {l:List aa} (h:rowAt w b off l) {B:Nat} (hb:Below B w w') (hlt:b<B):rowAt w' b off l:=fun i x j v hx hv=>by
 have h1:=h i x j v hx hv;unfold World.cell? at h1⊢;rw[hb.block b hlt];exact h1
theorem Y0 {w:World} {p:Nat->Prop} {a:Bool} {s:Bs} {v:Value} (h:Rd w p a (.str s) v):v=dR s:=by cases h;rfl
theorem XU {w:World} {p:Nat->Prop} {a:Bool} {b:Bool} {v:Value} (h:Rd w p a (.bool b) v):v= .bool b:=by cases h;rfl
theorem FF {w:World} {p:Nat->Prop} {a:Bool} {k:IntKind} {n:Int} {v:Value} (h:Rd w p a (.int k n) v):v= .int k n:=by cases h;rfl
theorem LZ {w:World} {p:Nat->Prop} {a:Bool} {x:aa} {j:Nat} {s:SV} {v u:Value} (hs:x.enc[j]? =some s) (hv:(fm x)[j]? =some v) (h:Rd w p a s u):u=v:=by
 unfold aa.enc at hs;unfold fm at hv;have hj:j<11:=(Ae.1 hv).1;match j,hj with
 |0,_|1,_|2,_|3,_=>cases hs;cases hv;exact Y0 h
 |4,_|5,_|6,_|7,_=>cases hs;cases hv;exact XU h
 |8,_|9,_|10,_=>cases hs;cases hv;exact FF h
theorem LJ {x:aa} {j:Nat} (h:j<11):∃s,x.enc[j]? =some s:=⟨_,Af (by exact h)⟩
theorem K6 {w:World} {p:Nat->Prop} {l:List aa} {v:Value} (h:Rd w p true (items l) v):
  (l=[]/\ ∃a c,v= .slice a 0 c)\/ ∃b off cap,v= .slice (some ⟨b,off,none⟩) l.length cap/\b<w.heap.size/\rowAt w b off l/\l.length<=cap/\ ∃arr e fz,w.heap[b]? =some (.cells arr e fz)/\off+l.length*11<=arr.size:=by
 unfold items at h
 cases h with
 |fU h0=>exact .inl ⟨AQ.1 h0,none,0,rfl⟩
 |cf _ h0 a c=>exact .inl ⟨AQ.1 h0,a,c,rfl⟩
 |aj b off cap arr e fz sz u hp hb hs hl hn hc h1 h2=>
  refine .inr ⟨b,off,cap,rfl,(Ad.1 hb).1,fun i x j v hx hv=>?_,hc,arr,e,fz,hb,?_⟩;rotate_left
  . cases hL:l with
    |nil=>simp;omega
    |cons x l'=>
     have:sz=11:=(hn 0 x (by rw[hL];rfl)).symm;rw[<-hL];rw[<-this];exact hl
  have hj:j<11:=(Ae.1 hv).1;obtain⟨s,hs'⟩:=LJ (x:=x) hj;have hsz:sz=11:=(hn i x hx).symm;subst hsz;have e1:=h1 i x j s hx hs';have e2:=LZ hs' hv (h2 i x j s hx hs');unfold World.cell?
  simp only[hb,A2,Ao,AK];rw[e1,e2]
theorem Mg {w:World} {base:Nat} {e:TypeId} {v:Value} {l:List Bs} (h:w.ownsRow base e 1 v l.length (l.map dR)):Up w base (strs l) v:=by
 obtain⟨h1,⟨rfl,h0⟩|⟨g,cap,cur,rfl,hb,hg,hn,_,hcs,htk⟩⟩:=h
 . exact .fU h0
 . have hl:l.length<=cur.size:=by omega
   refine .aj g 0 cap cur e (0,0) 1 (fun i _=>dR (l[i]?.getD [])) hb hg (by omega) (by omega) (fun _ _ _=>rfl) hn (fun i x j s _ hs=>?_) (fun i x j s hx hs=>?_) (fun i x j s hx hs=>?_)
   . cases j with
     |zero=>cases hs;rfl
     |succ j=>cases hs
   . cases j with
     |zero=>
      have h2:=Ap (fun l=>l[i]?) htk;have hi:=(Ae.1 hx).1;simp only[Nat.mul_one,Bc,An hi,AR,hx,Bh]at h2;rw[show 0+i*1+0=i by omega,<-Ba,h2,hx];rfl
     |succ j=>cases hs
   . cases j with
     |zero=>cases hs;rw[hx];exact .str _
     |succ j=>cases hs
theorem WE {w:World} {n b off cap:Nat} {arr:Array Value} {e:TypeId} {fz:Nat×Nat} {l:List aa} (hp:n<=b) (hb:w.heap[b]? =some (.cells arr e fz)) (hc:l.length<=cap) (hl:off+l.length*11<=arr.size)
   (h:∀(i:Nat) x (j:Nat) v,l[i]? =some x->(fm x)[j]? =some v->arr[off+i*11+j]? =some v):Up w n (items l) (.slice (some ⟨b,off,none⟩) l.length cap):=by
 refine .aj b off cap arr e fz 11 (fun i j=>((l[i]?.map fm).getD [])[j]?.getD (.bool false)) hp hb (by omega) hl (fun _ _ _=>rfl) hc (fun i x j s hx hs=>?_) (fun i x j s hx hs=>?_) (fun i x j s hx hs=>?_)
 . have hj:j<11:=(Ae.1 hs).1;unfold aa.enc at hs;match j,hj with
   |0,_|1,_|2,_|3,_|4,_|5,_|6,_|7,_|8,_|9,_|10,_=>cases hs;rfl
 . have hj:j<11:=(Ae.1 hs).1;have hv:(fm x)[j]? =some ((fm x)[j]'hj):=Af hj;rw[h i x j _ hx hv,hx];simp[hv]
 . have hj:j<11:=(Ae.1 hs).1;rw[hx];unfold aa.enc at hs;match j,hj with
   |0,_|1,_|2,_|3,_=>cases hs;exact .str _
   |4,_|5,_|6,_|7,_=>cases hs;exact .bool _
   |8,_|9,_|10,_=>cases hs;exact .int _ _
variable [Inhabited aL]
theorem UO {tab:bC} {w:World} {b off cap:Nat} {l:List aa} (hc:l.length<=cap) (hb:∃arr e fz,w.heap[b]? =some (.cells arr e fz)/\off+l.length*11<=arr.size) (h:rowAt w b off l):
  aT (bW tab w).get (items l) (cU w.heap.size (.slice (some ⟨b,off,none⟩) l.length cap)):=by
 obtain⟨arr,e,fz,hb,hl⟩:=hb;refine wU hb (sz:=11) (by omega) (fun _ _=>rfl) hl rfl hc fun i x j s hx hs=>?_
 have hj:j<11:=(Ae.1 hs).1;have hv:(fm x)[j]? =some ((fm x)[j]'hj):=Af hj;have h1:=h i x j _ hx hv;unfold World.cell? at h1;simp only[hb,A2,Ao,AK]at h1;refine⟨_,h1,?_⟩;unfold aa.enc at hs;match j,hj with
 |0,_|1,_|2,_|3,_=>cases hs;exact .str _
 |4,_|5,_|6,_|7,_=>cases hs;exact .bool _
 |8,_|9,_|10,_=>cases hs;exact .int _ _
end
section
variable [Inhabited aL]
theorem MI:∀a b:Bs,lt a b=decide (a<b)
 |[],[]=>by decide
 |[],b::l=>by simp[lt,Op.bytesLess]
 |a::l,[]=>by simp[lt,Op.bytesLess]
 |a::l,b::m=>by
  have:=MI l m;rw[AN];simp only[lt,Op.bytesLess,BF,Ab,Ac,BM,List.cons_lt_cons_iff]at this⊢;rw[this];simp
def SK {H:Type} (D:DataW H) (L:List Bs):Prop:=∃es,D= .map es/\(∀p∈es,∃x,p.1= .string x)/\(es.map fun p=>strOf p.1).Nodup/\ ∀x,x∈es.map (fun p=>strOf p.1)↔x∈L
theorem jZ {H:Type} {x p:Lit×DataW H}:∀{es:List (Lit×DataW H)},p∈DataW.insert x es↔p=x\/p∈es
 |[]=>by simp[DataW.insert]
 |y::r=>by
  unfold DataW.insert;split
  . simp
  . rw[Ak,jZ (es:=r),Ak];constructor
    . rintro(h|h|h)
      . exact .inr (.inl h)
      . exact .inl h
      . exact .inr (.inr h)
    . rintro(h|h|h)
      . exact .inr (.inl h)
      . exact .inl h
      . exact .inr (.inr h)
theorem iq {H:Type} {x:Lit×DataW H}:∀{es:List (Lit×DataW H)},(DataW.insert x es).Perm (x::es)
 |[]=>List.Perm.refl _
 |y::r=>by
  unfold DataW.insert;split
  . exact List.Perm.refl _
  . exact((iq (es:=r)).cons y).trans (List.Perm.swap x y r)
theorem SK.start {H:Type}:SK (.map []:DataW H) []:=⟨[],rfl,by simp,by simp,by simp⟩
theorem SK.put {H:Type} {D:DataW H} {L:List Bs} (h:SK D L) (k:Bs) (d:DataW H) {L':List Bs} (hL:∀x,x∈L'↔x=k\/x∈L):SK (D.put (.string k) d) L':=by
 obtain⟨es,rfl,h1,h2,h3⟩:=h;refine⟨_,rfl,fun p hp=>?_,?_,fun x=>?_⟩
 . rcases jZ.1 hp with rfl|hp
   . exact⟨k,rfl⟩
   . exact h1 p (AE.1 hp).1
 . have hp:=(iq (x:=(.string k,d)) (es:=es.filter fun p=> !p.1.sameKey (.string k))).map (fun p:Lit×DataW H=>strOf p.1);rw[hp.nodup_iff,A4,B7];refine⟨fun hm=>?_,Ed (List.filter_sublist.map _) h2⟩;obtain⟨p,hp,he⟩:=Av.1 hm;obtain⟨hp1,hp2⟩:=AE.1 hp;obtain⟨y,hy⟩:=h1 p hp1;rw[hy]at hp2 he;have he:y=k:=he;subst he;simp[Lit.sameKey]at hp2
 . rw[hL,<-h3,(iq.map (fun p:Lit×DataW H=>strOf p.1)).mem_iff,A4,Ak];constructor
   . rintro(h|h)
     . exact .inl h
     . obtain⟨p,hp,he⟩:=Av.1 h;exact .inr (Av.2 ⟨p,(AE.1 hp).1,he⟩)
   . rintro(h|h)
     . exact .inl h
     . by_cases e:x=k
       . exact .inl e
       . obtain⟨p,hp,he⟩:=Av.1 h;refine .inr (Av.2 ⟨p,AE.2 ⟨hp,?_⟩,he⟩);obtain⟨y,hy⟩:=h1 p hp;rw[hy]at he⊢;have he:y=x:=he;subst he;simp[Lit.sameKey,e]
theorem SK.keys {H:Type} {D:DataW H} {L:List Bs} (h:SK D L):(strKeys D).Nodup/\ ∀x,x∈strKeys D↔x∈L:=by
 obtain⟨es,rfl,_,h2,h3⟩:=h;exact⟨h2,h3⟩
theorem Rz {L:List Bs} {d:Bs} (h:L.Pairwise (fun a b=>lt a b=true)):(fS L d).Pairwise (fun a b=>lt a b=true):=by
 unfold fS;split
 . exact h
 . rename_i hne;have hd:∀x∈L.drop (dU L d),lt d x=true:=by
     intro x hx;have hlt:dU L d<L.length:=by
       apply Bf;intro hn;rw[DT (by omega)]at hx
       cases hx
     have h0:lt L[dU L d] d=false:=yx (p:=fun x=>lt x d) (l:=L) hlt;have h1:lt d L[dU L d]=true:=by
       rcases xQ L[dU L d] d with h|h|h
       . rw[h0]at h;cases h
       . exact absurd (by rw[Af hlt,h]) hne
       . exact h
     rw[Dj hlt]at hx;rcases Ak.1 hx with rfl|hx
     . exact h1
     . have h2:(L.drop (dU L d)).Pairwise (fun a b=>lt a b=true):=h.sublist (List.drop_sublist _ _);rw[Dj hlt]at h2;exact lt_trans _ _ _ h1 ((BA.1 h2).1 x hx)
   have ht:∀x∈L.take (dU L d),lt x d=true:=by
     intro x hx;obtain⟨j,hj,rfl⟩:=Bd hx;have hj2:j<dU L d:=by simp at hj;omega
     obtain⟨g1,g2⟩:=xK (p:=fun x=>lt x d) (l:=L) (j:=j) hj2;simpa using g2
   rw[D3];refine⟨h.sublist (List.take_sublist _ _),BA.2 ⟨hd,h.sublist (List.drop_sublist _ _)⟩,fun a ha b hb=>?_⟩;rcases Ak.1 hb with rfl|hb
   . exact ht a ha
   . exact lt_trans _ _ _ (ht a ha) (hd b hb)
theorem HV (l:List aa):(bj l).Pairwise (fun a b=>lt a b=true):=by
 have:∀(l:List aa) (a:List Bs),a.Pairwise (fun a b=>lt a b=true)->(l.foldl (fun a x=>fS a x.key.domain) a).Pairwise (fun a b=>lt a b=true):=by
  intro l;induction l with
  |nil=>intro a h;exact h
  |cons x l ih=>intro a h;exact ih _ (Rz h)
 exact this l [] List.Pairwise.nil
theorem H9 {H:Type} {D:DataW H} {l:List aa} (h:SK D (l.map fun x=>x.key.domain)) {ss:List Bs} (hs:ss.Perm (strKeys D)):ss.mergeSort (fun x y=>decide (x<=y))=bj l:=by
 obtain⟨h1,h2⟩:=h.keys;have hdn:(bj l).Nodup:=by
  rw[Dt];exact(HV l).imp fun hab e=>by rw[e,lt_irrefl]at hab;cases hab
 have hp:ss.Perm (bj l):=hs.trans ((List.perm_ext_iff_of_nodup h1 hdn).2 fun x=>by rw[h2,Rn,Av]);rw[show(ss.mergeSort fun x y=>decide (x<=y))=(bj l).mergeSort leB from mergeSort_of_perm hp];apply List.mergeSort_of_pairwise;refine(HV l).imp fun hab=>?_
 rw[MI,Ab]at hab;simp only[leB,Ab];exact List.le_of_lt hab
end
theorem NZ:(bV (fun(y:aM.Y uK)=>bE nL (cS y)) 400 Hp)=(∀(y:aa×aa),
 True->
 ∃(y_1:aa×aa),
 y.1.key.name=y_1.1.key.name/\
 y.1.key.domain=y_1.1.key.domain/\
 y.1.key.path=y_1.1.key.path/\
 y.1.ab.value=y_1.1.ab.value/\
 y.1.ab.aF=y_1.1.ab.aF/\
 y.1.ab.aV=y_1.1.ab.aV/\
 y.1.ab.aG=y_1.1.ab.aG/\
 y.1.ab.persistent=y_1.1.ab.persistent/\
 ai y.1.ab.aP y_1.1.ab.aP/\
 ai y.1.ab.aq y_1.1.ab.aq/\
 ai y.1.ab.access y_1.1.ab.access/\
 y.2.key.name=y_1.2.key.name/\
 y.2.key.domain=y_1.2.key.domain/\
 y.2.key.path=y_1.2.key.path/\
 y.2.ab.value=y_1.2.ab.value/\
 y.2.ab.aF=y_1.2.ab.aF/\
 y.2.ab.aV=y_1.2.ab.aV/\
 y.2.ab.aG=y_1.2.ab.aG/\
 y.2.ab.persistent=
 y_1.2.ab.persistent/\
 ai y.2.ab.aP
 y_1.2.ab.aP/\
 ai y.2.ab.aq
 y_1.2.ab.aq/\
 ai y.2.ab.access
 y_1.2.ab.access/\
 True/\ai (hZ y_1.1 y_1.2) (hZ y.1 y.2)/\True):=by kernel_rfl
theorem Sl:(pK (fun(y:List aa×aA)=>iH y.1) (aM.args bL) aa (fun(y:List aa×aA)=>eP y.1 y.2) aa.enc (fun(y:List aa×aA)=>bE bZ (cr lF 3 (jN y.1 fun(x:aa)=>Decidable.decide (x.key≠y.2)))) 600 mO)=(∀(y:List aa×aA),
 y.1.length<=10000->
 (∃(x:Nat),
 x<=y.1.length/\
 (SV.fn 98 [] [SV.ptr (SH.next (St.h {ts:=Fr.of (aM.args bL y) 0,h:={next:=0,os:=[]},log:=[]})) 0]=
 SV.fn 98 []
 [SV.ptr (SH.next (St.h {ts:=Fr.of (aM.args bL y) 0,h:={next:=0,os:=[]},log:=[]})) 0]/\
 SV.aj aa y.1 aa.enc=SV.aj aa y.1 aa.enc/\
 ai (Int.ofNat y.1.length) (Int.ofNat y.1.length)/\ai 0 ↑x/\True/\True)/\
 ((List.filter (fun(x:aa)=>Decidable.decide (x.key≠y.2)) (List.take x y.1)=[]/\
 ∀(x:aa),List.length (aa.enc x)=11)/\
 (y.2.name=y.2.name/\
 y.2.domain=y.2.domain/\y.2.path=y.2.path/\True)/\
 True)/\
 True)/\
 ∀(x:Nat),
 x<=y.1.length->
 br (bw (↑x) (Int.ofNat y.1.length))
 (so y.1[Int.toNat ↑x]? fun(val:aa)=>
 br
 (!(val.key.name==y.2.name&&
 (val.key.domain==y.2.domain&&
 (val.key.path==y.2.path&&true))))
 (∃(x_1:aa),
 (aa.enc x_1)=
 (aa.enc val)/\
 ck
 (Nat.ble
 ((List.length (List.filter (fun(x:aa)=>Decidable.decide (x.key≠y.2)) (List.take x y.1))+
 List.length [x_1])*
 96)
 16777216&&
 Nat.ble
 (List.length (List.filter (fun(x:aa)=>Decidable.decide (x.key≠y.2)) (List.take x y.1))+
 List.length [x_1])
 16777216)
 (ck (bp .i64 (↑x+1))
 (∃(y_1:Nat),
 y_1<=y.1.length/\
 aH.μ (jN y.1 fun(x:aa)=>Decidable.decide (x.key≠y.2)) y_1<
 aH.μ (jN y.1 fun(x:aa)=>Decidable.decide (x.key≠y.2)) x/\
 (SV.fn 98 []
 [SV.ptr
 (SH.next (St.h {ts:=Fr.of (aM.args bL y) 0,h:={next:=0,os:=[]},log:=[]})) 0]=
 SV.fn 98 []
 [SV.ptr
 (SH.next (St.h {ts:=Fr.of (aM.args bL y) 0,h:={next:=0,os:=[]},log:=[]})) 0]/\
 SV.aj aa y.1 aa.enc=SV.aj aa y.1 aa.enc/\
 ai (Int.ofNat y.1.length) (Int.ofNat y.1.length)/\ai (↑x+1) ↑y_1/\True/\True)/\
 (SV.aj aa
 (List.filter (fun(x:aa)=>Decidable.decide (x.key≠y.2)) (List.take x y.1)++[x_1])
 aa.enc=
 SV.aj aa
 (List.filter (fun(x:aa)=>Decidable.decide (x.key≠y.2)) (List.take y_1 y.1))
 aa.enc/\
 (y.2.name=y.2.name/\
 y.2.domain=y.2.domain/\
 y.2.path=y.2.path/\True)/\
 True)/\
 True)))
 (ck (bp .i64 (↑x+1))
 (∃(y_1:Nat),
 y_1<=y.1.length/\
 aH.μ (jN y.1 fun(x:aa)=>Decidable.decide (x.key≠y.2)) y_1<
 aH.μ (jN y.1 fun(x:aa)=>Decidable.decide (x.key≠y.2)) x/\
 (SV.fn 98 []
 [SV.ptr (SH.next (St.h {ts:=Fr.of (aM.args bL y) 0,h:={next:=0,os:=[]},log:=[]}))
 0]=
 SV.fn 98 []
 [SV.ptr (SH.next (St.h {ts:=Fr.of (aM.args bL y) 0,h:={next:=0,os:=[]},log:=[]}))
 0]/\
 SV.aj aa y.1 aa.enc=SV.aj aa y.1 aa.enc/\
 ai (Int.ofNat y.1.length) (Int.ofNat y.1.length)/\ai (↑x+1) ↑y_1/\True/\True)/\
 (SV.aj aa
 (List.filter (fun(x:aa)=>Decidable.decide (x.key≠y.2)) (List.take x y.1))
 aa.enc=
 SV.aj aa
 (List.filter (fun(x:aa)=>Decidable.decide (x.key≠y.2)) (List.take y_1 y.1))
 aa.enc/\
 (y.2.name=y.2.name/\
 y.2.domain=y.2.domain/\
 y.2.path=y.2.path/\True)/\
 True)/\
 True)))
 (SV.aj aa (List.filter (fun(x:aa)=>Decidable.decide (x.key≠y.2)) (List.take x y.1))
 aa.enc=
 SV.aj aa (eP y.1 y.2) aa.enc)):=by kernel_rfl
end Go.Proofs
