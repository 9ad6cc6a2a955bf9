/- Part 6: an evaluator, proved sound, and its use at this seat; no condition. -/
import Derived.Lib.Bytealg
import Derived.KernelRfl
import Derived.WalkKit
import Derived.Laws.IdiomStrings
import Derived.Sort.LotA
import Derived.Shelf.SlSortCmp.KitK
import Derived.Deep.MidRow
import Derived.Laws.AppendOwn
import Derived.Maps.Own
import Derived.Maps.OwnOps
import Derived.Sort.KeysCollected
import Derived.Sort.EncStr
import Derived.Shelf.SlSortCmp.WholeK
import Derived.Shelf.SlIter.Nil
import Derived.Shelf.SortM.Plain
import Derived.Shelf.SortM.SortNone
import Derived.Shelf.SlicesE.Clone
import Derived.Test.YtcnemjkdbaicnaaGreatProg
import Derived.Sort.WalkB2
import Derived.Sort.WalkB12
import Derived.Deep.LoopGhost
import Derived.LoopTactic
import Derived.Shelf.Strings.OnBuilder
import Derived.Shelf.Strings.IndexAnyAll
import Derived.Test.YtcnemjkdbaicnaaGreatP1
import Derived.Test.YtcnemjkdbaicnaaGreatP2
import Derived.Test.YtcnemjkdbaicnaaGreatP3
import Derived.Test.YtcnemjkdbaicnaaGreatP5
set_option linter.unusedSimpArgs false
set_option linter.unusedVariables false
set_option linter.unusedSectionVars false
set_option linter.deprecated false
set_option maxRecDepth 100000
set_option maxHeartbeats 40000000
namespace Go.Proofs
open Go Go.Am Go.RowKit Go.Sy Go.Lib
structure aD where
 name:Bs
 domain:Bs
 path:Bs
deriving DecidableEq,Inhabited
structure db where
 value:Bs
 aH:Bool
 aR:Bool
 aI:Bool
 persistent:Bool
 aW:Int
 aj:Int
 access:Int
deriving DecidableEq,Inhabited
structure ab where
 key:aD
 aa:db
deriving DecidableEq,Inhabited
structure ar where
 aS:Int
 domain:Int
 total:Int
 rules:List Bs
def aD.enc (x:aD):List SV:=[.str x.name, .str x.domain, .str x.path]
def db.enc (x:db):List SV:=[.str x.value, .bool x.aH, .bool x.aR, .bool x.aI, .bool x.persistent, .int .i64 x.aW, .int .i64 x.aj, .int .i64 x.access]
def ab.enc (x:ab):List SV:=[.str x.key.name, .str x.key.domain, .str x.key.path, .str x.aa.value, .bool x.aa.aH, .bool x.aa.aR, .bool x.aa.aI, .bool x.aa.persistent, .int .i64 x.aa.aW, .int .i64 x.aa.aj, .int .i64 x.aa.access]
def ar.enc (x:ar):List SV:=[.int .i64 x.aS, .int .i64 x.domain, .int .i64 x.total, .bh Bs x.rules kV]
abbrev lt (a b:Bs):Bool:=Op.bytesLess a b
theorem lt_irrefl:∀a,lt a a=false
 |[]=>rfl
 |a::l=>by simp[lt,Op.bytesLess];exact lt_irrefl l
theorem lt_trans:∀a b c,lt a b=true->lt b c=true->lt a c=true:=by
 intro a;induction a with
 |nil=>intro b c h1 h2;cases c with
  |nil=>cases b<;>simp[lt,Op.bytesLess]at h1 h2
  |cons=>rfl
 | cons x a ih=>
  intro b c h1 h2
  cases b with
  |nil=>grind [Op.bytesLess]
  | cons y b=>cases c with
   |nil=>grind [Op.bytesLess]
   |cons z c=>
    grind [Op.bytesLess]
theorem yc:∀a b,lt a b=true\/a=b\/lt b a=true:=by
 intro a;induction a with
 |nil=>intro b;cases b<;>simp[lt,Op.bytesLess]
 | cons x a ih=>
  intro b
  cases b with
  |nil=>grind [Op.bytesLess]
  |cons y b=>
   grind [Op.bytesLess]
def eQ (a b:Bs):Int:=if lt a b then -1 else if a=b then 0 else 1
theorem Q4:∀(a b:Bs),compareBytes a b=eQ a b:=by
 intro a;induction a with
 |nil=>intro b;cases b<;>simp[compareBytes,eQ,lt,Op.bytesLess]
 | cons x a ih=>
  intro b
  cases b with
  |nil=>grind [compareBytes,eQ,Op.bytesLess]
  |cons y b=>
   grind [compareBytes,eQ,Op.bytesLess]
theorem UJ (a b:Bs):Extern.BytealgCompare.cmp ⟨a.toArray⟩ ⟨b.toArray⟩=eQ a b:=by
 rw[cmp_eq,Q4]
theorem UI (a b:Bs):eQ a b=0↔a=b:=by
 grind [eQ,lt_irrefl]
theorem VA (a b:Bs):eQ a b<0↔lt a b=true:=by
 grind [eQ]
def cF (a b:Int):Int:=if a<b then -1 else if b<a then 1 else 0
theorem CA (a b:Int):cF a b=0↔a=b:=by
 grind [cF]
theorem C3 (a b:Int):cF a b<0↔a<b:=by
 grind [cF]
def lP (a b:aD):Int:=let n:=eQ a.name b.name;if n≠0 then n else let d:=eQ a.domain b.domain;if d≠0 then d else eQ a.path b.path
def fj (a b:aD):Bool:=decide (lP a b<0)
theorem zU (a b:aD):fj a b=if a.name≠b.name then lt a.name b.name else if a.domain≠b.domain then lt a.domain b.domain else lt a.path b.path:=by
 rw[AA];grind [fj,lP,UI,VA]
theorem qA (a:aD):fj a a=false:=by simp[zU,lt_irrefl]
theorem oL (a b c:aD) (h1:fj a b=true) (h2:fj b c=true):fj a c=true:=by
 rw[zU]at*;grind [lt_trans,lt_irrefl]
theorem sB (a b:aD):fj a b=true\/a=b\/fj b a=true:=by
 simp only[zU];by_cases h1:a.name=b.name
 . by_cases h2:a.domain=b.domain
   . simp only[h1,h2,DU,D5,Bh];rcases yc a.path b.path with h|h|h
     . grind
     . exact .inr (.inl (by cases a;simp_all))
     grind
   grind [yc]
 grind [yc]
end Go.Proofs
namespace Go.Proofs
open Go Go.Am Go.RowKit Go.Sy
section
variable [Inhabited aF]
theorem Tryz.tV:Tryz.tab.fns.get y6=some Tryz.f231:=by kernel_rfl
theorem Qo (a b:List UInt8):run Tryz.tab 200 {fr:=ag.enter Tryz.f231 y6 (Tryz.f231.body.getD .skip) [.str a, .str b] .normal,cs:=[],h:=fm}= .ok [(.int .i64 (Extern.BytealgCompare.cmp ⟨a.toArray⟩ ⟨b.toArray⟩),fm)]:=by kernel_rfl
noncomputable def p8:aK:={Y:=Bs×Bs,pre:=fun _=>True,args:=fun y=>[.str y.1, .str y.2],res:=fun y=> .int .i64 (eQ y.1 y.2)}
theorem qzh:CO y6 p8:=by
 refine cA.shut bu fun fn body hfn hb y _ avs Fz hav=>?_
 rw[Tryz.tV]at hfn
 cases hfn;obtain⟨a,b⟩:=y;have hl:avs=[.str a, .str b]:=by
   obtain⟨h1,h2⟩:=hav
   cases avs with
   |nil=>grind [p8]
   | cons u avs=>cases avs with
    |nil=>grind [p8]
    | cons w avs=>cases avs with
     |cons=>grind [p8]
     |nil=>
      have e1:=h2 0 _ u rfl rfl;have e2:=h2 1 _ w rfl rfl;simp only at e1 e2
      cases e1
      cases e2;rfl
 subst hl;refine⟨fun _ _=>rfl,fun v _=>v= .int .i64 (eQ a b),?_,?_⟩
 . have ho:=Qo a b;rw[hb]at ho;refine(eR.run bu ho).mono fun v h' hm=>?_
   grind [UJ]
 . rintro v h' rfl;exact⟨fun _ _=>rfl, .int _ _⟩
end
section
variable [Inhabited aF]
def iY (x:db) (now:Int):Bool:=x.persistent&&decide (x.aW<=now)
def iG (a b:ab):Int:=
 let n:=if cF a.aa.access b.aa.access≠0 then cF a.aa.access b.aa.access else cF a.aa.aj b.aa.aj
 if n≠0\/a.key=b.key then n else if fj a.key b.key then -1 else 1
def gC (a b:ab):Bool:=decide (iG a b<0)
def ir:List ab->Bool
 |x::y::l=>fj x.key y.key&&ir (y::l)
 |_=>true
def ff (l:List ab) (k:aD):List ab:=l.filter fun x=>decide (x.key≠k)
def fN (l:List ab) (d:Bs):List ab:=l.filter fun x=>decide (x.key.domain=d)
def u9:aD:=⟨[],[],[]⟩
def nJ:ab:=⟨u9,⟨[],false,false,false,false,0,0,0⟩⟩
def ji (l:List Bs) (d:Bs):Nat:=(l.takeWhile fun x=>lt x d).length
def iA (l:List Bs) (d:Bs):List Bs:=if l[ji l d]? =some d then l else l.take (ji l d)++d::l.drop (ji l d)
def dc (l:List ab):List Bs:=l.foldl (fun a x=>iA a x.key.domain) []
def qX (l:List ab) (d:Bs) (all:Bool):Option ab:=l.foldl (fun b x=>if all||decide (x.key.domain=d)then(match b with|none=>some x|some y=>if gC x y then some x else some y)else b) none
def l7 (l:List ab) (d:Bs) (all:Bool):aD:=match qX l d all with|some x=>x.key|none=>u9
def iE (c:ar):Int:=if c.aS<1\/c.aS>64\/c.domain<1\/c.domain>2048\/c.total<1\/c.total>2048 then 4 else oZ c.rules
noncomputable def vwI:TypeId->Option View:=fun t=>bif Nat.beq t Ty.string then some ⟨Bs,kV⟩else bif Nat.beq t Gu then some ⟨ab,ab.enc⟩else none
noncomputable def cp (gL:FuncId->Option aK) (l5:FuncId->Nat->Option aL):iw:={tab:=ph,view:=vwI,gL,l5}
def items (l:List ab):SV:= .bh ab l ab.enc
def ye (l:List ab):SO:= .arr ab l ab.enc Gu
def uR (f r:Nat) (A:aL) (a:FuncId->Nat->Option aL):FuncId->Nat->Option aL:=fun g s=>bif Nat.beq g f&&Nat.beq s r then some A else a g s
def yC:aK:={Y:=db×Int,pre:=fun _=>True,args:=fun y=>[.agg y.1.enc,i64 y.2],res:=fun y=> .bool (iY y.1 y.2)}
def FR:aK:={Y:=Int×Int,pre:=fun _=>True,args:=fun y=>[i64 y.1,i64 y.2],res:=fun y=>i64 (cF y.1 y.2)}
def FT:aK:={Y:=aD×aD,pre:=fun _=>True,args:=fun y=>[.agg y.1.enc, .agg y.2.enc],res:=fun y=>i64 (lP y.1 y.2)}
def FI:aK:={Y:=aD×aD,pre:=fun _=>True,args:=fun y=>[.agg y.1.enc, .agg y.2.enc],res:=fun y=> .bool (fj y.1 y.2)}
def vi:aK:={Y:=ab×ab,pre:=fun _=>True,args:=fun y=>[.agg y.1.enc, .agg y.2.enc],res:=fun y=>i64 (iG y.1 y.2)}
def mA (l:List ab):Prop:=l.length<=10000
def E7:aK:={Y:=List ab,pre:=mA,args:=fun y=>[items y],res:=fun y=> .bool (ir y)}
def xS (y:List ab):aL:={α:=Nat,ok:=fun i=>1<=i/\i<=y.length+1/\ ∀j (h:j+1<y.length),j+1<i->fj (y[j]'(by omega)).key y[j+1].key=true,μ:=fun i=>y.length+1 - i,bn:=[],bc:=fun i=>[(0,items y),(3,i64 i)],bV:=fun _=>[]}
def bT:aK:={Y:=List ab×aD,pre:=fun y=>mA y.1,args:=fun y=>[items y.1, .agg y.2.enc],res:=fun y=>items (ff y.1 y.2)}
def oS:aK:={Y:=List ab×Bs,pre:=fun y=>mA y.1,args:=fun y=>[items y.1, .str y.2],res:=fun y=>items (fN y.1 y.2)}
def ke (l:List ab) (p:ab->Bool):aL:={α:=Nat,ok:=fun i=>i<=l.length,μ:=fun i=>l.length - i,bn:=[1],bc:=fun i=>[(8,items l),(9,i64 (Int.ofNat l.length)),(10,i64 i),(5, .own 1)],bV:=fun i=>[(1,ye ((l.take i).filter p))]}
def Cw:aK:={Y:=List ab×ab,pre:=fun y=>mA y.1,args:=fun y=>[items y.1, .agg y.2.enc],res:=fun y=> .bool (decide (y.2∈y.1))}
def x6 (y:List ab×ab):aL:={α:=Nat,ok:=fun i=>i<=y.1.length/\ ∀j (h:j<y.1.length),j<i->y.1[j]≠y.2,μ:=fun i=>y.1.length - i,bn:=[3],bc:=fun i=>[(0,items y.1),(7,i64 (Int.ofNat y.1.length)),(8,i64 i)],bV:=fun _=>[]}
def pR (c:ar):Prop:=c.rules.length<=100000/\ ∀s∈c.rules,s.length<=100000
def xT:aK:={Y:=ar,pre:=pR,args:=fun y=>[.agg y.enc],res:=fun y=>i64 (iE y)}
noncomputable def yu (f:FuncId):Option aK:=bif Nat.beq f y6 then some p8 else Nn f
noncomputable def yv (f:FuncId):Option aK:=bif Nat.beq f pz then some yC else bif Nat.beq f rB then some FR else bif Nat.beq f rC then some p8 else yu f
noncomputable def vx (f:FuncId):Option aK:=bif Nat.beq f Gp then some FT else yv f
noncomputable def tA (f:FuncId):Option aK:=bif Nat.beq f rZ then some FI else vx f
noncomputable def tB (f:FuncId):Option aK:=bif Nat.beq f rO then some vi else tA f
noncomputable def Np (f:FuncId):Option aK:=bif Nat.beq f mX then some E7 else bif Nat.beq f ng then some bT else bif Nat.beq f rU then some oS else bif Nat.beq f rr then some Cw else bif Nat.beq f pA then some xT else tB f
noncomputable def FO (f:FuncId):Option aK:=Np f
end
section
variable [Inhabited aF]
theorem ZY:(cy (fun(y:aK.Y yC)=>cp bU (cV y)) 400 pz)=(∀(y:db×Int),True->br y.1.persistent (bO y.1.aW y.2=iY y.1 y.2/\True) (false=iY y.1 y.2/\True)):=by kernel_rfl
theorem qzW:(cy (fun(y:aK.Y FR)=>cp bU (cV y)) 400 rB)=(∀(y:Int×Int),True->br (!y.1==y.1) (br (!y.2==y.2) (ax 0 (cF y.1 y.2)/\True) (ax (-1) (cF y.1 y.2)/\True)) (br (!y.2==y.2) (ax 1 (cF y.1 y.2)/\True) (br (bK y.1 y.2) (ax (-1) (cF y.1 y.2)/\True) (br (bK y.2 y.1) (ax 1 (cF y.1 y.2)/\True) (ax 0 (cF y.1 y.2)/\True))))):=by kernel_rfl
theorem qzX:(cy (fun(y:aK.Y p8)=>cp yu (cV y)) 400 rC)=(∀(y:Bs×Bs),True->∃(z:Bs×Bs),y.1=z.1/\y.2=z.2/\True/\ax (eQ z.1 z.2) (eQ y.1 y.2)/\True):=by kernel_rfl
theorem ZT:(cy (fun(y:aK.Y FT)=>cp yv (cV y)) 600 Gp)=(∀(y:aD×aD),True->∃(u:Bs×Bs),y.1.name=u.1/\y.2.name=u.2/\True/\ ∃(v:Bs×Bs),y.1.domain=v.1/\y.2.domain=v.2/\True/\ ∃(z:Bs×Bs),y.1.path=z.1/\y.2.path=z.2/\True/\br (!eQ u.1 u.2==0) (ax (eQ u.1 u.2) (lP y.1 y.2)/\True) (br (!eQ v.1 v.2==0) (ax (eQ v.1 v.2) (lP y.1 y.2)/\True) (br (!eQ z.1 z.2==0) (ax (eQ z.1 z.2) (lP y.1 y.2)/\True) (ax 0 (lP y.1 y.2)/\True)))):=by kernel_rfl
theorem ZV:(cy (fun(y:aK.Y FI)=>cp vx (cV y)) 400 rZ)=(∀(y:aD×aD),True->∃(z:aD×aD),y.1.name=z.1.name/\y.1.domain=z.1.domain/\y.1.path=z.1.path/\y.2.name=z.2.name/\y.2.domain=z.2.domain/\y.2.path=z.2.path/\True/\bK (lP z.1 z.2) 0=fj y.1 y.2/\True):=by kernel_rfl
theorem Y1:(cy (fun(y:aK.Y vi)=>cp tA (cV y)) 600 rO)=(∀(y:ab×ab),True->∃(u:Int×Int),ax y.1.aa.access u.1/\ax y.2.aa.access u.2/\True/\ ∃(v:Int×Int),ax y.1.aa.aj v.1/\ax y.2.aa.aj v.2/\True/\br (!cF u.1 u.2==0) (br (!cF u.1 u.2==0) (ax (cF u.1 u.2) (iG y.1 y.2)/\True) (br (y.1.key.name==y.2.key.name&&(y.1.key.domain==y.2.key.domain&&(y.1.key.path==y.2.key.path&&true))) (ax (cF u.1 u.2) (iG y.1 y.2)/\True) (∃(z:aD×aD),y.1.key.name=z.1.name/\y.1.key.domain=z.1.domain/\y.1.key.path=z.1.path/\y.2.key.name=z.2.name/\y.2.key.domain=z.2.domain/\y.2.key.path=z.2.path/\True/\br (fj z.1 z.2) (ax (-1) (iG y.1 y.2)/\True) (ax 1 (iG y.1 y.2)/\True)))) (br (!cF v.1 v.2==0) (br (!cF v.1 v.2==0) (ax (cF v.1 v.2) (iG y.1 y.2)/\True) (br (y.1.key.name==y.2.key.name&&(y.1.key.domain==y.2.key.domain&&(y.1.key.path==y.2.key.path&&true))) (ax (cF v.1 v.2) (iG y.1 y.2)/\True) (∃(z:aD×aD),y.1.key.name=z.1.name/\y.1.key.domain=z.1.domain/\y.1.key.path=z.1.path/\y.2.key.name=z.2.name/\y.2.key.domain=z.2.domain/\y.2.key.path=z.2.path/\True/\br (fj z.1 z.2) (ax (-1) (iG y.1 y.2)/\True) (ax 1 (iG y.1 y.2)/\True)))) (br (y.1.key.name==y.2.key.name&&(y.1.key.domain==y.2.key.domain&&(y.1.key.path==y.2.key.path&&true))) (ax 0 (iG y.1 y.2)/\True) (∃(z:aD×aD),y.1.key.name=z.1.name/\y.1.key.domain=z.1.domain/\y.1.key.path=z.1.path/\y.2.key.name=z.2.name/\y.2.key.domain=z.2.domain/\y.2.key.path=z.2.path/\True/\br (fj z.1 z.2) (ax (-1) (iG y.1 y.2)/\True) (ax 1 (iG y.1 y.2)/\True))))):=by kernel_rfl
theorem WL:(cy (fun(y:aK.Y E7)=>cp tA (cT mX 2 (xS y))) 400 mX)=(∀(y:List ab),y.length<=10000->(∃(x:Nat),(1<=x/\x<=y.length+1/\ ∀(j:Nat) (h:j+1<y.length),j+1<x->fj y[j].key y[j+1].key=true)/\(items y=items y/\ax 1 ↑x/\True)/\True/\True)/\ ∀(x:Nat),(1<=x/\x<=y.length+1/\ ∀(j:Nat) (h:j+1<y.length),j+1<x->fj y[j].key y[j+1].key=true)->br (bK (↑x) (Int.ofNat y.length)) (ck (bD .i64 (↑x - 1)) (ck (nn (↑x - 1)) (so y[Int.toNat (↑x - 1)]? fun(val:ab)=>so y[Int.toNat ↑x]? fun(v:ab)=>∃(z:aD×aD),val.key.name=z.1.name/\val.key.domain=z.1.domain/\val.key.path=z.1.path/\v.key.name=z.2.name/\v.key.domain=z.2.domain/\v.key.path=z.2.path/\True/\br (!fj z.1 z.2) (false=ir y/\True) (ck (bD .i64 (↑x+1)) (∃(u:Nat),(1<=u/\u<=y.length+1/\ ∀(j:Nat) (h:j+1<y.length),j+1<u->fj y[j].key y[j+1].key=true)/\aL.μ (xS y) u<aL.μ (xS y) x/\(items y=items y/\ax (↑x+1) ↑u/\True)/\True/\True))))) (true=ir y/\True)):=by kernel_rfl
theorem VL:(cy (fun(y:aK.Y bT)=>cp bU (cT lW 3 (ke y.1 fun(x:ab)=>decide (x.key≠y.2)))) 600 ng)=(∀(y:List ab×aD),y.1.length<=10000->(∃(x:Nat),x<=y.1.length/\(SV.fn 166 [] [SV.ptr (SH.next (St.h {ts:=Fr.of (aK.args bT y) 0,h:={next:=0,os:=[]},log:=[]})) 0]=SV.fn 166 [] [SV.ptr (SH.next (St.h {ts:=Fr.of (aK.args bT y) 0,h:={next:=0,os:=[]},log:=[]})) 0]/\items y.1=items y.1/\ax (Int.ofNat y.1.length) (Int.ofNat y.1.length)/\ax 0 ↑x/\True/\True)/\(((y.1.take x).filter (fun(x:ab)=>decide (x.key≠y.2))=[]/\ ∀(x:ab),(ab.enc x).length=11)/\(y.2.name=y.2.name/\y.2.domain=y.2.domain/\y.2.path=y.2.path/\True)/\True)/\True)/\ ∀(x:Nat),x<=y.1.length->br (bK (↑x) (Int.ofNat y.1.length)) (so y.1[Int.toNat ↑x]? fun(val:ab)=>br (!(val.key.name==y.2.name&&(val.key.domain==y.2.domain&&(val.key.path==y.2.path&&true)))) (∃(u:ab),(ab.enc u)=(ab.enc val)/\ck (Nat.ble ((((y.1.take x).filter (fun(x:ab)=>decide (x.key≠y.2))).length+[u].length)*96) 16777216&&Nat.ble (((y.1.take x).filter (fun(x:ab)=>decide (x.key≠y.2))).length+[u].length) 16777216) (ck (bD .i64 (↑x+1)) (∃(z:Nat),z<=y.1.length/\aL.μ (ke y.1 fun(x:ab)=>decide (x.key≠y.2)) z<aL.μ (ke y.1 fun(x:ab)=>decide (x.key≠y.2)) x/\(SV.fn 166 [] [SV.ptr (SH.next (St.h {ts:=Fr.of (aK.args bT y) 0,h:={next:=0,os:=[]},log:=[]})) 0]=SV.fn 166 [] [SV.ptr (SH.next (St.h {ts:=Fr.of (aK.args bT y) 0,h:={next:=0,os:=[]},log:=[]})) 0]/\items y.1=items y.1/\ax (Int.ofNat y.1.length) (Int.ofNat y.1.length)/\ax (↑x+1) ↑z/\True/\True)/\(items ((y.1.take x).filter (fun(x:ab)=>decide (x.key≠y.2))++[u])=items ((y.1.take z).filter (fun(x:ab)=>decide (x.key≠y.2)))/\(y.2.name=y.2.name/\y.2.domain=y.2.domain/\y.2.path=y.2.path/\True)/\True)/\True))) (ck (bD .i64 (↑x+1)) (∃(z:Nat),z<=y.1.length/\aL.μ (ke y.1 fun(x:ab)=>decide (x.key≠y.2)) z<aL.μ (ke y.1 fun(x:ab)=>decide (x.key≠y.2)) x/\(SV.fn 166 [] [SV.ptr (SH.next (St.h {ts:=Fr.of (aK.args bT y) 0,h:={next:=0,os:=[]},log:=[]})) 0]=SV.fn 166 [] [SV.ptr (SH.next (St.h {ts:=Fr.of (aK.args bT y) 0,h:={next:=0,os:=[]},log:=[]})) 0]/\items y.1=items y.1/\ax (Int.ofNat y.1.length) (Int.ofNat y.1.length)/\ax (↑x+1) ↑z/\True/\True)/\(items ((y.1.take x).filter (fun(x:ab)=>decide (x.key≠y.2)))=items ((y.1.take z).filter (fun(x:ab)=>decide (x.key≠y.2)))/\(y.2.name=y.2.name/\y.2.domain=y.2.domain/\y.2.path=y.2.path/\True)/\True)/\True))) (items ((y.1.take x).filter (fun(x:ab)=>decide (x.key≠y.2)))=items (ff y.1 y.2)/\True)):=by kernel_rfl
theorem Xm:(cy (fun(y:aK.Y oS)=>cp bU (cT lW 3 (ke y.1 fun(x:ab)=>decide (x.key.domain=y.2)))) 600 rU)=(∀(y:List ab×Bs),y.1.length<=10000->(∃(x:Nat),x<=y.1.length/\(SV.fn 161 [] [SV.ptr (SH.next (St.h {ts:=Fr.of (aK.args oS y) 0,h:={next:=0,os:=[]},log:=[]})) 0]=SV.fn 161 [] [SV.ptr (SH.next (St.h {ts:=Fr.of (aK.args oS y) 0,h:={next:=0,os:=[]},log:=[]})) 0]/\items y.1=items y.1/\ax (Int.ofNat y.1.length) (Int.ofNat y.1.length)/\ax 0 ↑x/\True/\True)/\(((y.1.take x).filter (fun(x:ab)=>decide (x.key.domain=y.2))=[]/\ ∀(x:ab),(ab.enc x).length=11)/\(y.2=y.2/\True)/\True)/\True)/\ ∀(x:Nat),x<=y.1.length->br (bK (↑x) (Int.ofNat y.1.length)) (so y.1[Int.toNat ↑x]? fun(val:ab)=>br (val.key.domain==y.2) (∃(u:ab),(ab.enc u)=(ab.enc val)/\ck (Nat.ble ((((y.1.take x).filter (fun(x:ab)=>decide (x.key.domain=y.2))).length+[u].length)*96) 16777216&&Nat.ble (((y.1.take x).filter (fun(x:ab)=>decide (x.key.domain=y.2))).length+[u].length) 16777216) (ck (bD .i64 (↑x+1)) (∃(z:Nat),z<=y.1.length/\aL.μ (ke y.1 fun(x:ab)=>decide (x.key.domain=y.2)) z<aL.μ (ke y.1 fun(x:ab)=>decide (x.key.domain=y.2)) x/\(SV.fn 161 [] [SV.ptr (SH.next (St.h {ts:=Fr.of (aK.args oS y) 0,h:={next:=0,os:=[]},log:=[]})) 0]=SV.fn 161 [] [SV.ptr (SH.next (St.h {ts:=Fr.of (aK.args oS y) 0,h:={next:=0,os:=[]},log:=[]})) 0]/\items y.1=items y.1/\ax (Int.ofNat y.1.length) (Int.ofNat y.1.length)/\ax (↑x+1) ↑z/\True/\True)/\(items ((y.1.take x).filter (fun(x:ab)=>decide (x.key.domain=y.2))++[u])=items ((y.1.take z).filter (fun(x:ab)=>decide (x.key.domain=y.2)))/\(y.2=y.2/\True)/\True)/\True))) (ck (bD .i64 (↑x+1)) (∃(z:Nat),z<=y.1.length/\aL.μ (ke y.1 fun(x:ab)=>decide (x.key.domain=y.2)) z<aL.μ (ke y.1 fun(x:ab)=>decide (x.key.domain=y.2)) x/\(SV.fn 161 [] [SV.ptr (SH.next (St.h {ts:=Fr.of (aK.args oS y) 0,h:={next:=0,os:=[]},log:=[]})) 0]=SV.fn 161 [] [SV.ptr (SH.next (St.h {ts:=Fr.of (aK.args oS y) 0,h:={next:=0,os:=[]},log:=[]})) 0]/\items y.1=items y.1/\ax (Int.ofNat y.1.length) (Int.ofNat y.1.length)/\ax (↑x+1) ↑z/\True/\True)/\(items ((y.1.take x).filter (fun(x:ab)=>decide (x.key.domain=y.2)))=items ((y.1.take z).filter (fun(x:ab)=>decide (x.key.domain=y.2)))/\(y.2=y.2/\True)/\True)/\True))) (items ((y.1.take x).filter (fun(x:ab)=>decide (x.key.domain=y.2)))=items (fN y.1 y.2)/\True)):=by kernel_rfl
theorem TG:(cy (fun(y:aK.Y Cw)=>cp bU (cT vS 2 (x6 y))) 400 rr)=(∀(y:List ab×ab),y.1.length<=10000->(∃(x:Nat),(x<=y.1.length/\ ∀(j:Nat) (h:j<y.1.length),j<x->y.1[j]=y.2->False)/\(True/\items y.1=items y.1/\ax (Int.ofNat y.1.length) (Int.ofNat y.1.length)/\ax 0 ↑x/\True)/\((y.2.key.name=y.2.key.name/\y.2.key.domain=y.2.key.domain/\y.2.key.path=y.2.key.path/\y.2.aa.value=y.2.aa.value/\y.2.aa.aH=y.2.aa.aH/\y.2.aa.aR=y.2.aa.aR/\y.2.aa.aI=y.2.aa.aI/\y.2.aa.persistent=y.2.aa.persistent/\ax y.2.aa.aW y.2.aa.aW/\ax y.2.aa.aj y.2.aa.aj/\ax y.2.aa.access y.2.aa.access/\True)/\(y.2.key.name=y.2.key.name/\y.2.key.domain=y.2.key.domain/\y.2.key.path=y.2.key.path/\y.2.aa.value=y.2.aa.value/\y.2.aa.aH=y.2.aa.aH/\y.2.aa.aR=y.2.aa.aR/\y.2.aa.aI=y.2.aa.aI/\y.2.aa.persistent=y.2.aa.persistent/\ax y.2.aa.aW y.2.aa.aW/\ax y.2.aa.aj y.2.aa.aj/\ax y.2.aa.access y.2.aa.access/\True)/\True)/\True)/\ ∀(x:Nat),(x<=y.1.length/\ ∀(j:Nat) (h:j<y.1.length),j<x->y.1[j]=y.2->False)->br (bK (↑x) (Int.ofNat y.1.length)) (so y.1[Int.toNat ↑x]? fun(val:ab)=>br (y.2.key.name==val.key.name&&(y.2.key.domain==val.key.domain&&(y.2.key.path==val.key.path&&true))&&(y.2.aa.value==val.aa.value&&(y.2.aa.aH==val.aa.aH&&(y.2.aa.aR==val.aa.aR&&(y.2.aa.aI==val.aa.aI&&(y.2.aa.persistent==val.aa.persistent&&(y.2.aa.aW==val.aa.aW&&(y.2.aa.aj==val.aa.aj&&(y.2.aa.access==val.aa.access&&true)))))))&&true)) (bO 0 ↑x=decide (y.2∈y.1)/\True) (ck (bD .i64 (↑x+1)) (∃(z:Nat),(z<=y.1.length/\ ∀(j:Nat) (h:j<y.1.length),j<z->y.1[j]=y.2->False)/\aL.μ (x6 y) z<aL.μ (x6 y) x/\(True/\items y.1=items y.1/\ax (Int.ofNat y.1.length) (Int.ofNat y.1.length)/\ax (↑x+1) ↑z/\True)/\((y.2.key.name=y.2.key.name/\y.2.key.domain=y.2.key.domain/\y.2.key.path=y.2.key.path/\y.2.aa.value=y.2.aa.value/\y.2.aa.aH=y.2.aa.aH/\y.2.aa.aR=y.2.aa.aR/\y.2.aa.aI=y.2.aa.aI/\y.2.aa.persistent=y.2.aa.persistent/\ax y.2.aa.aW y.2.aa.aW/\ax y.2.aa.aj y.2.aa.aj/\ax y.2.aa.access y.2.aa.access/\True)/\(y.2.key.name=y.2.key.name/\y.2.key.domain=y.2.key.domain/\y.2.key.path=y.2.key.path/\y.2.aa.value=y.2.aa.value/\y.2.aa.aH=y.2.aa.aH/\y.2.aa.aR=y.2.aa.aR/\y.2.aa.aI=y.2.aa.aI/\y.2.aa.persistent=y.2.aa.persistent/\ax y.2.aa.aW y.2.aa.aW/\ax y.2.aa.aj y.2.aa.aj/\ax y.2.aa.access y.2.aa.access/\True)/\True)/\True))) (bO 0 (-1)=decide (y.2∈y.1)/\True)):=by kernel_rfl
theorem Xk:(cy (fun(y:aK.Y xT)=>cp tB (cV y)) 600 pA)=(∀(y:ar),(y.rules.length<=100000/\ ∀(s:Bs),s∈y.rules->s.length<=100000)->br (bO 1 y.aS) (br (!bO y.aS 64) (ax 4 (iE y)/\True) (br (bO 1 y.domain) (br (!bO y.domain 2048) (ax 4 (iE y)/\True) (br (bO 1 y.total) (br (!bO y.total 2048) (ax 4 (iE y)/\True) (∃(z:List Bs),strs y.rules=strs z/\(z.length<=100000/\ ∀(s:Bs),s∈z->s.length<=100000)/\ax (oZ z) (iE y)/\True)) (ax 4 (iE y)/\True))) (ax 4 (iE y)/\True))) (ax 4 (iE y)/\True)):=by kernel_rfl
end
section
variable [Inhabited aF]
theorem Lh:∀g C,yu g=some C->CO g C:=bM qzh Vq
theorem uT (a b:aD):(a.name==b.name&&(a.domain==b.domain&&(a.path==b.path&&true)))=decide (a=b):=by
 rw[AA]
 cases a;cases b;simp
section
variable {l:List ab} {p:ab->Bool} {x:Nat}
theorem qz (h:x<l.length):(l.take (x+1)).filter p=(l.take x).filter p++if p l[x]then[l[x]]else[]:=by
 rw[Av h,Dy];by_cases hp:p l[x]=true<;>simp[hp]
theorem wO:((l.take x).filter p).length<=x:=Ar (A2 _ _) (by grind)
theorem filter_all (h:¬(x:Int)<Int.ofNat l.length):(l.take x).filter p=l.filter p:=by
 rw[Ay (by grind)]
end
theorem Mz:CO pz yC:=bR (cfg:=fun y=>cp bU (cV y)) bu (fun _=>rfl) (fun _=>gn) (n:=400) (by
 rw[ZY];grind [ai,iY,ed])
theorem qzg:CO rB FR:=bR (cfg:=fun y=>cp bU (cV y)) bu (fun _=>rfl) (fun _=>gn) (n:=400) (by
 rw[qzW];grind [ai,ch,cF])
theorem Yq:CO rC p8:=bR (cfg:=fun y=>cp yu (cV y)) bu (fun _=>rfl) (fun _=>Lh) (n:=400) (by
 rw[qzX];simp_all)
theorem Li:∀g C,yv g=some C->CO g C:=bM Mz (bM qzg (bM Yq Lh))
theorem qzv:CO Gp FT:=bR (cfg:=fun y=>cp yv (cV y)) bu (fun _=>rfl) (fun _=>Li) (n:=600) (by
 rw[ZT];rintro⟨a,b⟩ -;refine⟨(_,_),rfl,rfl,trivial,⟨(_,_),rfl,rfl,trivial,⟨(_,_),rfl,rfl,trivial,?_⟩⟩⟩;grind [ai,lP])
theorem C9:∀g C,vx g=some C->CO g C:=bM qzv Li
theorem qzx:CO rZ FI:=bR (cfg:=fun y=>cp vx (cV y)) bu (fun _=>rfl) (fun _=>C9) (n:=400) (by
 rw[ZV];rintro⟨a,b⟩ -;refine⟨(a,b),rfl,rfl,rfl,rfl,rfl,rfl,trivial,?_,trivial⟩;grind [ch,fj])
theorem EM:∀g C,tA g=some C->CO g C:=bM qzx C9
theorem Zi:CO rO vi:=bR (cfg:=fun y=>cp tA (cV y)) bu (fun _=>rfl) (fun _=>EM) (n:=600) (by
 rw[Y1];rintro⟨a,b⟩ -;refine⟨(_,_),rfl,rfl,trivial,⟨(_,_),rfl,rfl,trivial,?_⟩⟩;simp only[uT,ai,iG];generalize cF a.aa.access b.aa.access=n
 generalize cF a.aa.aj b.aa.aj=m
 refine⟨fun hn=>⟨fun _=>?_,fun hn2=>?_⟩,fun hn=>⟨fun hm=>⟨fun _=>?_,fun hm2=>?_⟩,fun hm=>⟨fun hkk=>?_,fun hkk=>⟨(a.key,b.key),rfl,rfl,rfl,rfl,rfl,rfl,trivial,fun hl=>?_,fun hl=>?_⟩⟩⟩⟩
 all_goals grind)
theorem EN:∀g C,tB g=some C->CO g C:=bM Zi EM
theorem zI:∀l:List ab,ir l=true↔∀(j:Nat) (h:j+1<l.length),fj (l[j]'(by omega)).key l[j+1].key=true
 |[]=>by simp[ir]
 |[x]=>by simp[ir]
 |x::y::l=>by
  rw[ir,Ac,zI (y::l)];constructor
  . grind
  . intro h;exact⟨h 0 (by simp),fun j hj=>h (j+1) (by grind)⟩
theorem XG:CO mX E7:=bR (cfg:=fun y=>cp tA (cT mX 2 (xS y))) bu (fun _=>rfl) (fun _=>EM) (n:=400) (by
 rw[WL];intro l hpre;have hpre:l.length<=10000:=hpre;refine⟨⟨1,⟨by omega,by omega,fun j h hj=>by omega⟩,⟨rfl,rfl,trivial⟩,trivial,trivial⟩,?_⟩;rintro x ⟨h1,hx,hall⟩;refine ai.2 ⟨fun hlt=>?_,fun hge=>⟨?_,trivial⟩⟩
 . have hlt':=cP hlt;have e:Int.toNat ((x:Int) - 1)=x - 1:=by omega
   refine ah.2 ⟨by rw[hZ];omega,ah.2 ⟨by rw[mP,Aa];omega,az.2 ⟨l[x - 1],by rw[e];grind,az.2 ⟨l[x],eA hlt',((l[x - 1]).key,(l[x]).key),rfl,rfl,rfl,rfl,rfl,rfl,trivial,ai.2 ⟨fun h=>⟨?_,trivial⟩,fun h=>ah.2 ⟨cW x (by omega),x+1,⟨by omega,by omega,fun j hj hjx=>?_⟩,?_,⟨rfl,rfl,trivial⟩,trivial,trivial⟩⟩⟩⟩⟩⟩
   . grind [zI]
   . grind
   . show l.length+1 - (x+1)<l.length+1 - x
     omega
 . symm;rw[zI];intro j hj;have:=jK hge;grind)
theorem UW:CO ng bT:=bR (cfg:=fun y=>cp bU (cT lW 3 (ke (y:List ab×aD).1 fun x=>decide (x.key≠(y:List ab×aD).2)))) bu (fun _=>rfl) (fun _=>gn) (n:=600) (by
 rw[VL];rintro⟨l,k⟩ hpre;have hpre:l.length<=10000:=hpre;refine⟨⟨0,by simp,?_⟩,?_⟩
 . (repeat' (first|exact trivial|exact rfl|exact(fun _=>rfl)|apply And.intro))
 intro x hx;refine ai.2 ⟨fun hlt=>az.2 ⟨_,eA (cP hlt),?_⟩,fun hge=>⟨by rw[filter_all (jK hge)];rfl,trivial⟩⟩;have hlt':x<l.length:=cP hlt;have hlen:=wO (l:=l) (x:=x) (p:=fun z:ab=>decide (z.key≠k));refine ai.2 ⟨fun h=>⟨l[x],rfl,ah.2 ⟨by grind [Nat.ble_eq],ah.2 ⟨cW x (by omega),x+1,hlt',?_,?_⟩⟩⟩,fun h=>ah.2 ⟨cW x (by omega),x+1,hlt',?_,?_⟩⟩
 . show l.length - (x+1)<l.length - x
   omega
 . have hp:(fun z:ab=>decide (z.key≠k)) l[x]=true:=by rw[uT]at h;grind
   have hf:=qz (p:=fun z:ab=>decide (z.key≠k)) hlt';rw[Al hp]at hf;grind
 . show l.length - (x+1)<l.length - x
   omega
 grind [uT,qz])
theorem Xx:CO rU oS:=bR (cfg:=fun y=>cp bU (cT lW 3 (ke (y:List ab×Bs).1 fun x=>decide (x.key.domain=(y:List ab×Bs).2)))) bu (fun _=>rfl) (fun _=>gn) (n:=600) (by
 rw[Xm];rintro⟨l,k⟩ hpre;have hpre:l.length<=10000:=hpre;refine⟨⟨0,by simp,?_⟩,?_⟩
 . (repeat' (first|exact trivial|exact rfl|exact(fun _=>rfl)|apply And.intro))
 intro x hx;refine ai.2 ⟨fun hlt=>az.2 ⟨_,eA (cP hlt),?_⟩,fun hge=>⟨by rw[filter_all (jK hge)];rfl,trivial⟩⟩;have hlt':x<l.length:=cP hlt;have hlen:=wO (l:=l) (x:=x) (p:=fun z:ab=>decide (z.key.domain=k));refine ai.2 ⟨fun h=>⟨l[x],rfl,ah.2 ⟨by grind [Nat.ble_eq],ah.2 ⟨cW x (by omega),x+1,hlt',?_,?_⟩⟩⟩,fun h=>ah.2 ⟨cW x (by omega),x+1,hlt',?_,?_⟩⟩
 . show l.length - (x+1)<l.length - x
   omega
 . have hp:(fun z:ab=>decide (z.key.domain=k)) l[x]=true:=by grind
   have hf:=qz (p:=fun z:ab=>decide (z.key.domain=k)) hlt';rw[Al hp]at hf;grind
 . show l.length - (x+1)<l.length - x
   omega
 grind [qz])
theorem jz {x n:Nat} (h:bK (x:Int) (Int.ofNat n)=false):n<=x:=by
 have:=jK h;grind
theorem KT (a b:ab):(a.key.name==b.key.name&&(a.key.domain==b.key.domain&&(a.key.path==b.key.path&&true))&&(a.aa.value==b.aa.value&&(a.aa.aH==b.aa.aH&&(a.aa.aR==b.aa.aR&&(a.aa.aI==b.aa.aI&&(a.aa.persistent==b.aa.persistent&&(a.aa.aW==b.aa.aW&&(a.aa.aj==b.aa.aj&&(a.aa.access==b.aa.access&&true)))))))&&true))=decide (a=b):=by
 rw[AA];obtain⟨⟨a1,a2,a3⟩,⟨a4,a5,a6,a7,a8,a9,a10,a11⟩⟩:=a;obtain⟨⟨b1,b2,b3⟩,⟨b4,b5,b6,b7,b8,b9,b10,b11⟩⟩:=b;grind
theorem T8:CO rr Cw:=bR (cfg:=fun y=>cp bU (cT vS 2 (x6 y))) bu (fun _=>rfl) (fun _=>gn) (n:=400) (by
 rw[TG];rintro⟨l,k⟩ hpre;have hpre:l.length<=10000:=hpre;refine⟨⟨0,⟨by simp,fun j h hj=>by omega⟩,?_⟩,?_⟩
 . grind
 rintro x ⟨hx,hall⟩;refine ai.2 ⟨fun hlt=>az.2 ⟨_,eA (cP hlt),?_⟩,fun hge=>⟨?_,trivial⟩⟩
 . have hlt':x<l.length:=cP hlt;refine ai.2 ⟨fun h=>⟨?_,trivial⟩,fun h=>ah.2 ⟨cW x (by omega),x+1,⟨hlt',fun j hj hjx he=>?_⟩,?_,?_⟩⟩
   . rw[KT]at h;have h:k=l[x]:=by grind
     rw[ed,AA];have hm:k∈l:=by rw[h];grind
     grind
   . rw[KT]at h;have h:¬k=l[x]:=by grind
     grind
   . show l.length - (x+1)<l.length - x
     omega
   grind
 . rw[ed];symm;have hm:¬k∈l:=by
     intro hm;obtain⟨j,hj,he⟩:=AG hm;exact hall j hj (by have:l.length<=x:=jz hge;omega) he
   grind)
theorem Lr:CO pA xT:=bR (cfg:=fun y=>cp tB (cV y)) bu (fun _=>rfl) (fun _=>EN) (n:=600) (by
 rw[Xk];grind [iE,ed,ai])
theorem mF {α β:Type} (f:β->α->β) (b:β) {l:List α} {x:Nat} (h:x<l.length):(l.take (x+1)).foldl f b=f ((l.take x).foldl f b) l[x]:=by
 rw[Av h,List.foldl_append];rfl
theorem Ci {α:Type} {l:List α} {x:Nat} (h:¬(x:Int)<Int.ofNat l.length):l.take x=l:=Ay (by grind)
theorem Vr:∀g C,Np g=some C->CO g C:=bM XG (bM UW (bM Xx (bM T8 (bM Lr EN))))
theorem FF {α:Type} {p:α->Bool}:∀{l:List α} {j:Nat} (_:j<(l.takeWhile p).length),∃h:j<l.length,p l[j]=true
 |[],j,hj=>by simp_all
 | a ::l,j,hj=>by
  by_cases hb:p a=true
  . rw[Bl,Al hb]at hj
    cases j with
    |zero=>exact⟨by simp,by simpa using hb⟩
    |succ j=>
     obtain⟨h1,h2⟩:=FF (l:=l) (j:=j) (by simpa using hj);exact⟨by simpa using h1,by simpa using h2⟩
  . rw[Bl,An hb]at hj;simp at hj
theorem Gl {α:Type} {p:α->Bool}:∀{l:List α} (h:(l.takeWhile p).length<l.length),p (l[(l.takeWhile p).length])=false
 |[],h=>by grind
 |a::l,h=>by
  by_cases hb:p a=true
  . have e:((a::l).takeWhile p).length=(l.takeWhile p).length+1:=by rw[Bl,Al hb];rfl
    simp only[e,List.getElem_cons_succ];exact Gl (by rw[e]at h;simpa using h)
  . have e:((a::l).takeWhile p).length=0:=by rw[Bl,An hb];rfl
    simp only[e,List.getElem_cons_zero];exact Ao.2 hb
theorem V6 (L:List Bs) (d:Bs):(iA L d).length<=L.length+1:=by
 grind [iA]
theorem IZ:∀(l:List ab) (a:List Bs),(l.foldl (fun a x=>iA a x.key.domain) a).length<=a.length+l.length
 |[],a=>by simp
 |x::l,a=>by
  have h1:=IZ l (iA a x.key.domain);have h2:=V6 a x.key.domain;grind
theorem Lj:∀g C,FO g=some C->CO g C:=Vr
end
section
variable [Inhabited aF]
structure aq where
 dev:Int
 inc:Int
 seq:Int
deriving DecidableEq,Inhabited
structure dO where
 wall:Int
 count:Int
 dev:Int
deriving DecidableEq,Inhabited
def aq.enc (x:aq):List SV:=[.int .i64 x.dev, .int .i64 x.inc, .int .i64 x.seq]
def dO.enc (x:dO):List SV:=[.int .i64 x.wall, .int .i64 x.count, .int .i64 x.dev]
def vt (d i:Int):Bool:=bO 0 d&&bO d 63&&bO 1 i&&bO i 1048576
def fg (x:aq):Bool:=vt x.dev x.inc&&bO 1 x.seq&&bO x.seq 4294967296
def within (a b c:Int):Bool:=bO b a&&bO a c
def mI (x:dO):Bool:=within x.wall 0 4398046511104&&within x.count 0 65535&&within x.dev 0 63
def l6 (a b:Int):Int:=if a=0 then b else a
def x9 (x y:aq):Int:=l6 (cF x.dev y.dev) (cF x.inc y.inc)
def nR (x y:aq):Int:=l6 (x9 x y) (cF x.seq y.seq)
def cg (x y:aq):Bool:=decide (nR x y<0)
def Fs (x y:dO):Int:=l6 (cF x.wall y.wall) (cF x.count y.count)
def oQ (x y:dO):Bool:=decide (l6 (Fs x y) (cF x.dev y.dev)<0)
def ow:aK:={Y:=Int×Int,pre:=fun _=>True,args:=fun y=>[.agg [i64 y.1,i64 y.2]],res:=fun y=> .bool (vt y.1 y.2)}
def vv (p:aq->Bool):aK:={Y:=aq,pre:=fun _=>True,args:=fun y=>[.agg y.enc],res:=fun y=> .bool (p y)}
def xV (p:dO->Bool):aK:={Y:=dO,pre:=fun _=>True,args:=fun y=>[.agg y.enc],res:=fun y=> .bool (p y)}
def xW:aK:={Y:=Int×Int×Int,pre:=fun _=>True,args:=fun y=>[i64 y.1,i64 y.2.1,i64 y.2.2],res:=fun y=> .bool (within y.1 y.2.1 y.2.2)}
def NH:aK:={Y:=aq×aq,pre:=fun _=>True,args:=fun y=>[.agg [i64 y.1.dev,i64 y.1.inc], .agg [i64 y.2.dev,i64 y.2.inc]],res:=fun y=>i64 (x9 y.1 y.2)}
def yA:aK:={Y:=aq×aq,pre:=fun _=>True,args:=fun y=>[.agg y.1.enc, .agg y.2.enc],res:=fun y=>i64 (nR y.1 y.2)}
def yB:aK:={Y:=aq×aq,pre:=fun _=>True,args:=fun y=>[.agg y.1.enc, .agg y.2.enc],res:=fun y=> .bool (cg y.1 y.2)}
def MU:aK:={Y:=dO×dO,pre:=fun _=>True,args:=fun y=>[.agg y.1.enc, .agg y.2.enc],res:=fun y=>i64 (Fs y.1 y.2)}
def L0:aK:={Y:=dO×dO,pre:=fun _=>True,args:=fun y=>[.agg y.1.enc, .agg y.2.enc],res:=fun y=> .bool (oQ y.1 y.2)}
noncomputable def pX (f:FuncId):Option aK:=bif Nat.beq f G6 then some ow else bif Nat.beq f HF then some ow else bif Nat.beq f v7 then some xW else bif Nat.beq f Ho then some xW else FO f
noncomputable def yJ (f:FuncId):Option aK:=bif Nat.beq f G7 then some (vv fg)else bif Nat.beq f HH then some (vv fg)else bif Nat.beq f Hu then some (xV mI)else bif Nat.beq f HJ then some (xV mI)else bif Nat.beq f Hx then some NH else bif Nat.beq f Hv then some MU else pX f
noncomputable def yK (f:FuncId):Option aK:=bif Nat.beq f G8 then some yA else bif Nat.beq f HW then some L0 else yJ f
noncomputable def qV (f:FuncId):Option aK:=bif Nat.beq f GH then some yB else bif Nat.beq f GW then some yB else yK f
theorem zp (a:Int):bK a 64=bO a 63:=by
 rw[ch,ed,AA,Aa,Aa];omega
theorem Zm {a b:Int}:l6 a b<0↔a<0\/(a=0/\b<0):=by
 grind [l6]
theorem XM {a b:Int}:l6 a b=0↔a=0/\b=0:=by
 grind [l6]
theorem uj (x y:aq):cg x y=true↔x.dev<y.dev\/(x.dev=y.dev/\(x.inc<y.inc\/(x.inc=y.inc/\x.seq<y.seq))):=by
 grind [cg,nR,x9,Zm,XM,C3,CA]
theorem aq.ext' {x y:aq} (h1:x.dev=y.dev) (h2:x.inc=y.inc) (h3:x.seq=y.seq):x=y:=by cases x;simp_all
theorem sq (x:aq):cg x x=false:=by
 rw[Ao,DU,uj];omega
theorem sk {x y z:aq} (h1:cg x y=true) (h2:cg y z=true):cg x z=true:=by
 rw[uj]at*;omega
theorem zK (x y:aq):cg x y=true\/x=y\/cg y x=true:=by
 grind [uj,aq.ext']
theorem Yj:CO G6 ow:=bR (cfg:=fun y=>cp bU (cV y)) bu (fun _=>rfl) (fun _=>sN) (n:=400) (by
 rintro⟨a,b⟩ -
 repeat' first|exact trivial|exact rfl|refine aG (fun _=>?_) fun _=>?_|apply And.intro
 all_goals grind [vt,zp])
theorem Xq:CO HF ow:=bR (cfg:=fun y=>cp bU (cV y)) bu (fun _=>rfl) (fun _=>sN) (n:=400) (by
 rintro⟨a,b⟩ -
 repeat' first|exact trivial|exact rfl|refine aG (fun _=>?_) fun _=>?_|apply And.intro
 all_goals grind [vt])
theorem XL:CO v7 xW:=bR (cfg:=fun y=>cp bU (cV y)) bu (fun _=>rfl) (fun _=>sN) (n:=400) (by
 rintro⟨a,b⟩ -
 repeat' first|exact trivial|exact rfl|refine aG (fun _=>?_) fun _=>?_|apply And.intro
 all_goals grind [within])
theorem Vp:CO Ho xW:=bR (cfg:=fun y=>cp bU (cV y)) bu (fun _=>rfl) (fun _=>sN) (n:=400) (by
 rintro⟨a,b⟩ -
 repeat' first|exact trivial|exact rfl|refine aG (fun _=>?_) fun _=>?_|apply And.intro
 all_goals grind [within])
theorem qH:∀g C,pX g=some C->CO g C:=bM Yj (bM Xq (bM XL (bM Vp Lj)))
theorem NR:CO G7 (vv fg):=bR (cfg:=fun y=>cp pX (cV y)) bu (fun _=>rfl) (fun _=>qH) (n:=400) (by
 rintro⟨a,b,c⟩ -;refine⟨(a,b),?_⟩
 repeat' first|exact trivial|exact rfl|refine aG (fun _=>?_) fun _=>?_|apply And.intro
 all_goals grind [fg])
theorem qzo:CO HH (vv fg):=bR (cfg:=fun y=>cp pX (cV y)) bu (fun _=>rfl) (fun _=>qH) (n:=400) (by
 rintro⟨a,b,c⟩ -;refine⟨(a,b),?_⟩
 repeat' first|exact trivial|exact rfl|refine aG (fun _=>?_) fun _=>?_|apply And.intro
 all_goals grind [fg])
theorem Yp:CO Hu (xV mI):=bR (cfg:=fun y=>cp pX (cV y)) bu (fun _=>rfl) (fun _=>qH) (n:=400) (by
 rintro⟨a,b,c⟩ -
 repeat' first|exact trivial|exact rfl|refine aG (fun _=>?_) fun _=>?_|apply And.intro
 all_goals grind [mI,within])
theorem Xw:CO HJ (xV mI):=bR (cfg:=fun y=>cp pX (cV y)) bu (fun _=>rfl) (fun _=>qH) (n:=400) (by
 rintro⟨a,b,c⟩ -
 repeat' first|exact trivial|exact rfl|refine aG (fun _=>?_) fun _=>?_|apply And.intro
 all_goals grind [mI,within])
theorem qzd:CO Hx NH:=bR (cfg:=fun y=>cp pX (cV y)) bu (fun _=>rfl) (fun _=>qH) (n:=400) (by
 rintro⟨⟨a,b,c⟩,d,e,f⟩ -;refine⟨(a,d),?_⟩
 repeat first|refine⟨rfl,?_⟩|refine⟨trivial,?_⟩
 refine⟨(b,e),?_⟩
 repeat' first|exact trivial|exact rfl|refine aG (fun _=>?_) fun _=>?_|apply And.intro
 all_goals grind [x9,l6])
theorem X4:CO Hv MU:=bR (cfg:=fun y=>cp pX (cV y)) bu (fun _=>rfl) (fun _=>qH) (n:=400) (by
 rintro⟨⟨a,b,c⟩,d,e,f⟩ -;refine⟨(a,d),?_⟩
 repeat first|refine⟨rfl,?_⟩|refine⟨trivial,?_⟩
 refine⟨(b,e),?_⟩
 repeat' first|exact trivial|exact rfl|refine aG (fun _=>?_) fun _=>?_|apply And.intro
 all_goals grind [Fs,l6])
theorem C6:∀g C,yJ g=some C->CO g C:=bM NR (bM qzo (bM Yp (bM Xw (bM qzd (bM X4 qH)))))
theorem Y4:CO G8 yA:=bR (cfg:=fun y=>cp yJ (cV y)) bu (fun _=>rfl) (fun _=>C6) (n:=400) (by
 rintro⟨x,y⟩ -;refine⟨(x,y),?_⟩
 repeat first|refine⟨rfl,?_⟩|refine⟨trivial,?_⟩
 refine⟨(x.seq,y.seq),?_⟩
 repeat' first|exact trivial|exact rfl|refine aG (fun _=>?_) fun _=>?_|apply And.intro
 all_goals grind [nR,l6])
theorem XJ:CO HW L0:=bR (cfg:=fun y=>cp yJ (cV y)) bu (fun _=>rfl) (fun _=>C6) (n:=400) (by
 rintro⟨x,y⟩ -;refine⟨(x,y),?_⟩
 repeat first|refine⟨rfl,?_⟩|refine⟨trivial,?_⟩
 refine⟨(x.dev,y.dev),?_⟩
 repeat' first|exact trivial|exact rfl|refine aG (fun _=>?_) fun _=>?_|apply And.intro
 all_goals grind [oQ,l6,ch])
theorem C7:∀g C,yK g=some C->CO g C:=bM Y4 (bM XJ C6)
theorem qzn:CO GH yB:=bR (cfg:=fun y=>cp yK (cV y)) bu (fun _=>rfl) (fun _=>C7) (n:=400) (by
 rintro⟨x,y⟩ -;refine⟨(x,y),?_⟩
 repeat' first|exact trivial|exact rfl|refine aG (fun _=>?_) fun _=>?_|apply And.intro
 grind [cg,ch])
theorem XW:CO GW yB:=bR (cfg:=fun y=>cp yK (cV y)) bu (fun _=>rfl) (fun _=>C7) (n:=400) (by
 rintro⟨⟨a,b,c⟩,d,e,f⟩ -
 repeat' first|exact trivial|exact rfl|refine aG (fun _=>?_) fun _=>?_|apply And.intro
 all_goals grind [uj,ch])
theorem sL:∀g C,qV g=some C->CO g C:=bM qzn (bM XW C7)
end
theorem uv (a b:ab):gC a b=true↔a.aa.access<b.aa.access\/(a.aa.access=b.aa.access/\(a.aa.aj<b.aa.aj\/(a.aa.aj=b.aa.aj/\fj a.key b.key=true))):=by
 grind [gC,iG,cF,qA]
theorem Ih (a:ab):gC a a=false:=by
 grind [uv,qA]
theorem zL {a b c:ab} (h1:gC a b=true) (h2:gC b c=true):gC a c=true:=by
 rw[uv]at*;have ht:=oL a.key b.key c.key;rcases h1 with h1|⟨h1,h1'|⟨h1',h1''⟩⟩<;>rcases h2 with h2|⟨h2,h2'|⟨h2',h2''⟩⟩
 all_goals grind
theorem Ca {a b:ab} (h1:gC a b=false) (h2:gC b a=false):a.key=b.key:=by
 have h1:=Ao.1 h1;have h2:=Ao.1 h2;rw[DU,uv]at h1 h2;grind [sB]
theorem Ii {a b c:ab} (h1:gC a b=false) (h2:gC b c=false):gC a c=false:=by
 grind [Ca,uv,zL]
abbrev KN (l:List ab):Prop:=(l.map fun x=>x.key).Nodup
theorem KN.sub {l l':List ab} (h:KN l) (hs:l'.Sublist l):KN l':=Dz (hs.map _) h
theorem KN.nodup {l:List ab} (h:KN l):l.Nodup:=by
 unfold KN at h;rw[B8,Dm]at h;rw[B8];exact h.imp fun hab e=>hab (by rw[e])
theorem KN.inj:∀{l:List ab},KN l->∀{a b:ab},a∈l->b∈l->a.key=b.key->a=b
 |[],_,a,b,ha,_,_=>by cases ha
 |x::l,h,a,b,ha,hb,hk=>by
  have h0:x.key∉l.map (fun x=>x.key)/\KN l:=by grind
  rcases Ap.1 ha with rfl|ha'<;>rcases Ap.1 hb with rfl|hb'
  . rfl
  . grind
  . grind
  . exact h0.2.inj ha' hb' hk
def ij (l:List ab) (d:Bs) (all:Bool):List ab:=l.filter fun x=>all||decide (x.key.domain=d)
theorem uF (l:List ab) (d:Bs):ij l d true=l:=by simp[ij]
theorem Cu (l:List ab) (d:Bs):ij l d false=fN l d:=by simp[ij,fN]
abbrev vq (P:ab->Bool) (b:Option ab) (x:ab):Option ab:=if P x then(match b with|none=>some x|some y=>if gC x y then some x else some y)else b
theorem J0 (P:ab->Bool):∀(l:List ab) (b:Option ab),l.foldl (vq P) b=none->b=none/\ ∀x∈l,P x=false
 |[],b,h=>⟨h,by simp⟩
 |x::l,b,h=>by
  obtain⟨h1,h2⟩:=J0 P l _ h;by_cases hx:P x=true
  . exfalso;simp only[vq,hx,BB]at h1
    cases b with
    |none=>cases h1
    |some y=>by_cases hs:gC x y=true<;>simp[hs]at h1
  grind
theorem J1 (P:ab->Bool):∀(l:List ab) (b:Option ab) (z:ab),l.foldl (vq P) b=some z->(b=some z\/(z∈l/\P z=true))/\(∀y,b=some y->gC y z=false)/\ ∀x∈l,P x=true->gC x z=false
 |[],b,z,h=>⟨.inl h,fun y e=>by have h:b=some z:=h;rw[h]at e;grind [Ih],by simp⟩
 | x ::l,b,z,h=>by
  obtain⟨i1,i2,i3⟩:=J1 P l _ z h;have hmem:z∈l/\P z=true->z∈x::l/\P z=true:=fun h=>⟨AS _ h.1,h.2⟩
  by_cases hx:P x=true
  . have all:gC x z=false->∀w∈x::l,P w=true->gC w z=false:=by
     grind
    simp only[vq,hx,BB]at i1 i2
    cases b with
    |none=>
     grind
    |some y0=>
     by_cases hs:gC x y0=true
     all_goals grind [zL,Ii]
  grind
theorem K3 (l:List ab) (d:Bs) (all:Bool):qX l d all=l.foldl (vq fun x=>all||decide (x.key.domain=d)) none:=rfl
theorem ui {l:List ab} {d:Bs} {all:Bool} (h:ij l d all≠[]):∃b∈ij l d all,l7 l d all=b.key/\qX l d all=some b/\ ∀x∈ij l d all,gC x b=false:=by
 cases hb:qX l d all with
 |none=>
  exfalso;have:=(J0 _ l none (by rw[<-K3];exact hb)).2;grind [ij,List.filter_eq_nil_iff]
 |some b=>
  obtain⟨i1,_,i3⟩:=J1 _ l none b (by rw[<-K3];exact hb);rcases i1 with e|⟨i1,i2⟩
  . cases e
  . refine⟨b,As.2 ⟨i1,i2⟩,by grind [l7],rfl,fun x hx=>?_⟩;obtain⟨h1,h2⟩:=As.1 hx;grind
theorem Vx (l:List ab) (d:Bs):qX l d false=qX (fN l d) [] true:=by
 grind [qX,fN,List.foldl_filter]
theorem Jc {l:List ab} {x:ab} (h:x∈l):(ff l x.key).length<l.length:=by
 grind [ff,List.length_filter_eq_length_iff]
theorem Cb {l:List ab} {d:Bs} {all:Bool} {m:Nat} (h:m<(ij l d all).length):(ff l (l7 l d all)).length<l.length:=by
 obtain⟨b,hb,he,_⟩:=ui (l:=l) (d:=d) (all:=all) (by grind);rw[he];exact Jc (As.1 hb).1
def jQ (m:Nat) (d:Bs) (all:Bool) (l:List ab):List ab:=
 if h:m<(ij l d all).length then jQ m d all (ff l (l7 l d all))else l
 termination_by l.length
 decreasing_by exact Cb h
theorem pJ {m:Nat} {d:Bs} {all:Bool} {l:List ab} (h:m<(ij l d all).length):jQ m d all l=jQ m d all (ff l (l7 l d all)):=by
 grind [jQ]
theorem sx {m:Nat} {d:Bs} {all:Bool} {l:List ab} (h:(ij l d all).length<=m):jQ m d all l=l:=by
 grind [jQ]
abbrev fC (m:Nat) (l:List ab):List ab:=jQ m [] true l
theorem Ce {m:Nat} {l:List ab} (h:l.length<=m):fC m l=l:=sx (by rw[uF];exact h)
theorem TF {m:Nat} {l:List ab} (h:m<l.length):fC m l=fC m (ff l (l7 l [] true)):=pJ (by rw[uF];exact h)
theorem VJ (m:Nat) (d:Bs) (all:Bool):∀(n:Nat) (l:List ab),l.length<=n->(jQ m d all l).Sublist l:=by
 intro n;induction n with
 |zero=>grind [sx,ij]
 |succ n ih=>
  intro l h;by_cases hm:m<(ij l d all).length
  . rw[pJ hm];exact(ih _ (by have:=Cb hm;omega)).trans AI
  grind [sx]
theorem oP (m:Nat) (d:Bs) (all:Bool) (l:List ab):(jQ m d all l).Sublist l:=VJ m d all l.length l (Ad _)
theorem RO {l s:List ab} {x:ab} (hk:KN l) (hp:(x::s).Perm l):s.Perm (ff l x.key):=by
 have h1:(ff (x::s) x.key).Perm (ff l x.key):=hp.filter _;have hk2:KN (x::s):=(hp.map _).nodup_iff.2 hk;have h0:x.key∉s.map (fun x=>x.key):=by grind
 have h2:ff (x::s) x.key=s:=by
  grind [ff,List.filter_eq_self]
 rw[h2]at h1;exact h1
theorem ZC (m:Nat):∀(n:Nat) (l s:List ab),l.length<=m+n->KN l->s.Perm l->s.Pairwise (fun a b=>gC b a=false)->(s.take (l.length - m)).foldl (fun a x=>ff a x.key) l=fC m l:=by
 intro n;induction n with
 |zero=>
  simp_all[Ce]
 |succ n ih=>
  intro l s hl hk hp hs;by_cases hm:l.length<=m
  . rw[show l.length - m=0 by omega];grind
  . cases s with
    |nil=>have:=hp.length_eq;grind
    | cons x s=>
     obtain⟨b,hb,he,_,hall⟩:=ui (l:=l) (d:=[]) (all:=true) (by rw[uF];grind);rw[uF]at hb hall;have hx:x∈l:=hp.subset Aq;have hbx:gC b x=false:=by
      grind [List.pairwise_cons]
     have hxb:=hall x hx;have:b=x:=hk.inj hb hx (Ca hbx hxb);subst this;rw[show l.length - m=(l.length - 1 - m)+1 by omega,List.take_succ_cons,Bb];have hp2:=RO hk hp;have hlen:(ff l b.key).length=l.length - 1:=by
      have h1:=hp2.length_eq;have h2:=hp.length_eq;grind
     rw[<-hlen,ih (ff l b.key) s (by rw[hlen];omega) (hk.sub AI) hp2 (Bg.1 hs).2,TF (l:=l) (by omega),he]
theorem Ie (l:List ab) (d:Bs) (k:aD):fN (ff l k) d=ff (fN l d) k:=by
 simp_all[fN,ff,Bool.and_comm]
theorem Su (m:Nat) (d:Bs):∀(n:Nat) (l:List ab),l.length<=n->jQ m d false l=l.filter fun x=>decide (x.key.domain≠d)||decide (x∈fC m (fN l d)):=by
 intro n;have done:∀l:List ab,(fN l d).length<=m->jQ m d false l=l.filter fun x=>decide (x.key.domain≠d)||decide (x∈fC m (fN l d)):=by
  grind [sx,Cu,Ce,List.filter_eq_self,fN]
 induction n with
 |zero=>intro l h;exact done l (Ar (A2 _ _) (by omega))
 |succ n ih=>
  intro l h;by_cases hm:m<(fN l d).length
  . have hm1:m<(ij l d false).length:=by rw[Cu];exact hm
    have hm2:m<(ij (fN l d) [] true).length:=by rw[uF];exact hm
    have hk:l7 l d false=l7 (fN l d) [] true:=by grind [l7,Vx]
    obtain⟨b,hb,he,_⟩:=ui (l:=l) (d:=d) (all:=false) (by grind);rw[Cu]at hb;have hbd:b.key.domain=d:=by simpa using(As.1 hb).2
    rw[pJ hm1,ih _ (by have:=Cb hm1;omega),show fC m (fN l d)=fC m (ff (fN l d) (l7 (fN l d) [] true))from pJ hm2,<-hk,<-Ie];conv=>lhs;arg 2;unfold ff
    rw[List.filter_filter];apply B5;intro x hx;by_cases hq:(decide (x.key.domain≠d)||decide (x∈fC m (fN (ff l (l7 l d false)) d)))=true
    . rw[hq,Bq,Aa];simp only[BJ,Aa]at hq;rcases hq with hq|hq
      . rw[he];grind
      . have h1:=(oP m [] true _).subset hq;rw[Ie]at h1;simpa using(As.1 h1).2
    grind
  grind
def kc (T:List ab) (a:List ab) (x:ab):List ab:=if x∈T then a else ff a x.key
theorem Cc (T:List ab):∀(o l:List ab),o.foldl (kc T) l=l.filter fun y=>decide (∀x∈o,x∉T->y.key≠x.key)
 |[],l=>(Bn.2 fun y _=>by simp).symm
 |x::o,l=>by
  rw[Bb,Cc T o];unfold kc;by_cases hx:x∈T
  all_goals simp_all[ff,Bool.and_comm]
theorem step_eq {l:List ab} (hk:KN l) (m:Nat) (d:Bs):(fN l d).foldl (kc (fC m (fN l d))) l=jQ m d false l:=by
 rw[Cc,Su m d l.length l (Ad _)];apply B5;intro y hy;rw[AA];simp only[Aa,BJ];constructor
 . intro h;by_cases hd:y.key.domain=d
   . right;apply Bk;intro hn;exact h y (As.2 ⟨hy,by grind⟩) hn rfl
   grind
 . intro h x hx hxT e;obtain⟨hx1,hx2⟩:=As.1 hx;have:y=x:=hk.inj hy hx1 e;grind
def bE (l:List ab) (now:Int):List ab:=l.filter fun x=> !iY x.aa now
def oc (cap:Nat) (l:List ab) (ds:List Bs):List ab:=ds.foldl (fun b d=>jQ cap d false b) l
def pV (cap total:Nat) (l:List ab) (now:Int):List ab:=fC total (oc cap (bE l now) (dc (bE l now)))
theorem sG (cap:Nat):∀(ds:List Bs) (l:List ab),(oc cap l ds).Sublist l
 |[],l=>List.Sublist.refl _
 |d::ds,l=>(sG cap ds _).trans (oP cap d false l)
theorem Wf (cap total:Nat) (l:List ab) (now:Int):(pV cap total l now).Sublist l:=(oP _ _ _ _).trans ((sG _ _ _).trans AI)
theorem VT {L:List Bs} {d e:Bs}:e∈iA L d↔e=d\/e∈L:=by
 grind [iA,List.take_append_drop]
theorem Kw:∀(l:List ab) (a:List Bs) (d:Bs),d∈l.foldl (fun a x=>iA a x.key.domain) a↔d∈a\/ ∃x∈l,x.key.domain=d
 |[],a,d=>by simp
 |x::l,a,d=>by
  rw[Bb,Kw l,VT];grind
theorem RX {l:List ab} {d:Bs}:d∈dc l↔∃x∈l,x.key.domain=d:=by
 grind [dc,Kw]
def Pc (l k:List ab):List ab:=l.filter fun x=>decide (x∉k)
theorem dU:∀{l:List ab},ir l=true↔l.Pairwise (fun a b=>fj a.key b.key=true)
 |[]=>by simp[ir]
 |[x]=>by simp[ir]
 |x::y::l=>by
  simp only[ir,Ac];rw[dU (l:=y::l),Bg (a:=x)];constructor
  . rintro⟨h1,h2⟩;refine⟨fun z hz=>?_,h2⟩;rcases Ap.1 hz with rfl|hz
    . exact h1
    . exact oL _ _ _ h1 ((Bg.1 h2).1 z hz)
  . rintro⟨h1,h2⟩;exact⟨h1 y Aq,h2⟩
theorem uC {l:List ab} (h:ir l=true):KN l:=by
 have h:=dU.1 h;grind [qA]
theorem Yx {l:List ab} (hk:KN l) (cap:Nat):∀ds:List Bs,ds.foldl (fun b d=>(fN b d).foldl (kc (fC cap (fN b d))) b) l=oc cap l ds:=by
 intro ds;induction ds generalizing l with
 |nil=>rfl
 |cons d ds ih=>
  rw[Bb,step_eq hk,ih (hk.sub (oP _ _ _ _))];rfl
section
variable [Inhabited aF]
abbrev aQ (c:ar):Nat:=c.domain.toNat
abbrev rn (c:ar):Nat:=c.total.toNat
def NJ:aK:={Y:=List ab×Int,pre:=fun y=>mA y.1/\KN y.1/\0<=y.2,args:=fun y=>[items y.1,i64 y.2],res:=fun y=>items (fC y.2.toNat y.1)}
def yl (l:List ab):Prop:=∀x∈l,x.key.domain.length<=1000000
def MO:aK:={Y:=List ab,pre:=fun y=>mA y/\yl y,args:=fun y=>[items y],res:=fun y=>strs (dc y)}
noncomputable def yL (f:FuncId):Option aK:=bif Nat.beq f Hq then some MO else bif Nat.beq f G9 then some NJ else FO f
abbrev Nc (cap:Nat) (l:List ab) (i:Nat):List ab:=oc cap l ((dc l).take i)
noncomputable def vw (f:FuncId):Option aK:=yL f
def iz (y:ar×List ab×Int):List ab×Int:=if iE y.1≠0 then([],iE y.1)else if ir y.2.1 then(pV (aQ y.1) (rn y.1) y.2.1 y.2.2,0)else([],6)
def FH:aK:={Y:=ar×List ab×Int,pre:=fun y=>pR y.1/\mA y.2.1/\yl y.2.1,args:=fun y=>[.agg y.1.enc,items y.2.1,i64 y.2.2],res:=fun y=> .bA [items (iz y).1,i64 (iz y).2]}
def vg (y:ar×List ab×Int):aL:={α:=Nat,ok:=fun i=>i<=y.2.1.length,μ:=fun i=>y.2.1.length - i,bn:=[2,3,6,7],bc:=fun i=>[(25,items y.2.1),(26,i64 (Int.ofNat y.2.1.length)),(27,i64 i),(9, .own 1)],bV:=fun i=>[(1,ye ((y.2.1.take i).filter fun x=> !iY x.aa y.2.2))]}
abbrev hU (cap:Nat) (l:List ab) (i:Nat):List ab:=((dc l).take i).foldl (fun b d=>(fN b d).foldl (kc (fC cap (fN b d))) b) l
def Fp (y:ar×List ab×Int):aL:=let l:=bE y.2.1 y.2.2;{α:=Nat,ok:=fun i=>i<=(dc l).length,μ:=fun i=>(dc l).length - i,bn:=[3,6,7],bc:=fun i=>[(9,items (hU (aQ y.1) l i)),(41,strs (dc l)),(42,i64 (Int.ofNat (dc l).length)),(43,i64 i)],bV:=fun _=>[],ft:=[9]}
abbrev dw (cap:Nat) (l:List ab) (i:Nat):List ab:=fN (hU cap l i) ((dc l)[i]?.getD [])
def vh (y:ar×List ab×Int):aL:=let l:=bE y.2.1 y.2.2;{α:=Nat×Nat,ok:=fun x=>∃_:x.1<(dc l).length,x.2<=(dw (aQ y.1) l x.1).length,μ:=fun x=>(dw (aQ y.1) l x.1).length - x.2,bn:=[3,6,7],bc:=fun x=>[(9,items (((dw (aQ y.1) l x.1).take x.2).foldl (kc (fC (aQ y.1) (dw (aQ y.1) l x.1))) (hU (aQ y.1) l x.1))),(14,items (dw (aQ y.1) l x.1)),(41,strs (dc l)),(42,i64 (Int.ofNat (dc l).length)),(43,i64 x.1),(50,items (dw (aQ y.1) l x.1)),(51,i64 (Int.ofNat (dw (aQ y.1) l x.1).length)),(52,i64 x.2)],bV:=fun _=>[],link:=some fun a b=>b.1=a.1}
noncomputable def LI (y:ar×List ab×Int):FuncId->Nat->Option aL:=uR lX 8 (vg y) (uR lX 14 (Fp y) (cT lX 18 (vh y)))
noncomputable def yM (f:FuncId):Option aK:=bif Nat.beq f lX then some FH else vw f
def NW (y:ar×List ab×Int):List ab×Int:=if(iz y).2≠0 then([],(iz y).2)else(Pc y.2.1 (iz y).1,0)
def Fx:aK:={Y:=ar×List ab×Int,pre:=fun y=>pR y.1/\mA y.2.1/\yl y.2.1,args:=fun y=>[.agg y.1.enc,items y.2.1,i64 y.2.2],res:=fun y=>items (iz y).1}
end
theorem ZU:(cy (fun(y:aK.Y FH)=>cp vw (LI y)) 800 lX)=(∀(y:ar×List ab×Int),((y.1.rules.length<=100000/\ ∀(s:Bs),s∈y.1.rules->s.length<=100000)/\y.2.1.length<=10000/\ ∀(x:ab),x∈y.2.1->x.key.domain.length<=1000000)->∃(f:ar),ax y.1.aS f.aS/\ax y.1.domain f.domain/\ax y.1.total f.total/\strs y.1.rules=strs f.rules/\(f.rules.length<=100000/\ ∀(s:Bs),s∈f.rules->s.length<=100000)/\br (!iE f==0) ((iz y).1=[]/\ax (iE f) ((iz y).2)/\True) (∃(g:List ab),items y.2.1=items g/\g.length<=10000/\br (!ir g) ((iz y).1=[]/\ax 6 ((iz y).2)/\True) ((∃(x:Nat),x<=y.2.1.length/\(ax y.2.2 y.2.2/\True/\True/\ax 0 0/\items y.2.1=items y.2.1/\ax (Int.ofNat y.2.1.length) (Int.ofNat y.2.1.length)/\ax 0 ↑x/\True/\True)/\(((y.2.1.take x).filter (fun(x:ab)=> !iY x.aa y.2.2)=[]/\ ∀(x:ab),(ab.enc x).length=11)/\(ax y.1.aS y.1.aS/\ax y.1.domain y.1.domain/\ax y.1.total y.1.total/\strs y.1.rules=strs y.1.rules/\True)/\True)/\True)/\ ∀(x:Nat),x<=y.2.1.length->br (bK (↑x) (Int.ofNat y.2.1.length)) (so y.2.1[Int.toNat ↑x]? fun(val:ab)=>∃(w:db×Int),val.aa.value=w.1.value/\val.aa.aH=w.1.aH/\val.aa.aR=w.1.aR/\val.aa.aI=w.1.aI/\val.aa.persistent=w.1.persistent/\ax val.aa.aW w.1.aW/\ax val.aa.aj w.1.aj/\ax val.aa.access w.1.access/\ax y.2.2 w.2/\True/\br (iY w.1 w.2) (ck (bD .i64 (↑x+1)) (∃(u:Nat),u<=y.2.1.length/\aL.μ (vg y) u<aL.μ (vg y) x/\(ax y.2.2 y.2.2/\True/\True/\ax 0 0/\items y.2.1=items y.2.1/\ax (Int.ofNat y.2.1.length) (Int.ofNat y.2.1.length)/\ax (↑x+1) ↑u/\True/\True)/\(items ((y.2.1.take x).filter (fun(x:ab)=> !iY x.aa y.2.2))=items ((y.2.1.take u).filter (fun(x:ab)=> !iY x.aa y.2.2))/\(ax y.1.aS y.1.aS/\ax y.1.domain y.1.domain/\ax y.1.total y.1.total/\strs y.1.rules=strs y.1.rules/\True)/\True)/\True)) (∃(z:ab),(ab.enc z)=(ab.enc val)/\ck (Nat.ble ((((y.2.1.take x).filter (fun(x:ab)=> !iY x.aa y.2.2)).length+[z].length)*96) 16777216&&Nat.ble (((y.2.1.take x).filter (fun(x:ab)=> !iY x.aa y.2.2)).length+[z].length) 16777216) (ck (bD .i64 (↑x+1)) (∃(u:Nat),u<=y.2.1.length/\aL.μ (vg y) u<aL.μ (vg y) x/\(ax y.2.2 y.2.2/\True/\True/\ax 0 0/\items y.2.1=items y.2.1/\ax (Int.ofNat y.2.1.length) (Int.ofNat y.2.1.length)/\ax (↑x+1) ↑u/\True/\True)/\(items ((y.2.1.take x).filter (fun(x:ab)=> !iY x.aa y.2.2)++[z])=items ((y.2.1.take u).filter (fun(x:ab)=> !iY x.aa y.2.2))/\(ax y.1.aS y.1.aS/\ax y.1.domain y.1.domain/\ax y.1.total y.1.total/\strs y.1.rules=strs y.1.rules/\True)/\True)/\True)))) (∃(w:List ab),items ((y.2.1.take x).filter (fun(x:ab)=> !iY x.aa y.2.2))=items w/\(w.length<=10000/\ ∀(x:ab),x∈w->x.key.domain.length<=1000000)/\(∃(z:Nat),z<=(dc (bE y.2.1 y.2.2)).length/\(True/\True/\ax 0 0/\items ((y.2.1.take x).filter (fun(x:ab)=> !iY x.aa y.2.2))=items (hU (aQ y.1) (bE y.2.1 y.2.2) z)/\strs (dc w)=strs (dc (bE y.2.1 y.2.2))/\ax (Int.ofNat ((dc w).length)) (Int.ofNat ((dc (bE y.2.1 y.2.2)).length))/\ax 0 ↑z/\True)/\(True/\(ax y.1.aS y.1.aS/\ax y.1.domain y.1.domain/\ax y.1.total y.1.total/\strs y.1.rules=strs y.1.rules/\True)/\True)/\True)/\ ∀(x:Nat),x<=(dc (bE y.2.1 y.2.2)).length->br (bK (↑x) (Int.ofNat ((dc (bE y.2.1 y.2.2)).length))) (so (dc (bE y.2.1 y.2.2))[Int.toNat ↑x]? fun(val:Bs)=>∃(u:List ab×Bs),items (hU (aQ y.1) (bE y.2.1 y.2.2) x)=items u.1/\val=u.2/\u.1.length<=10000/\ ∃(x0:Nat×Nat),(∃(z:Nat×Nat),((∃(x:z.1<(dc (bE y.2.1 y.2.2)).length),z.2<=(dw (aQ y.1) (bE y.2.1 y.2.2) z.1).length)/\z.1=x0.1)/\(True/\True/\ax 0 0/\items (hU (aQ y.1) (bE y.2.1 y.2.2) x)=items (List.foldl (kc (fC (aQ y.1) (dw (aQ y.1) (bE y.2.1 y.2.2) z.1))) (hU (aQ y.1) (bE y.2.1 y.2.2) z.1) ((dw (aQ y.1) (bE y.2.1 y.2.2) z.1).take z.2))/\items (fN u.1 u.2)=items (dw (aQ y.1) (bE y.2.1 y.2.2) z.1)/\strs (dc (bE y.2.1 y.2.2))=strs (dc (bE y.2.1 y.2.2))/\ax (Int.ofNat ((dc (bE y.2.1 y.2.2)).length)) (Int.ofNat ((dc (bE y.2.1 y.2.2)).length))/\ax ↑x ↑z.1/\items (fN u.1 u.2)=items (dw (aQ y.1) (bE y.2.1 y.2.2) z.1)/\ax (Int.ofNat ((fN u.1 u.2).length)) (Int.ofNat ((dw (aQ y.1) (bE y.2.1 y.2.2) z.1).length))/\ax 0 ↑z.2/\True)/\(True/\(ax y.1.aS y.1.aS/\ax y.1.domain y.1.domain/\ax y.1.total y.1.total/\strs y.1.rules=strs y.1.rules/\True)/\True)/\True)/\ ∀(z:Nat×Nat),(∃(x:z.1<(dc (bE y.2.1 y.2.2)).length),z.2<=(dw (aQ y.1) (bE y.2.1 y.2.2) z.1).length)/\z.1=x0.1->br (bK (↑z.2) (Int.ofNat ((dw (aQ y.1) (bE y.2.1 y.2.2) z.1).length))) (so (dw (aQ y.1) (bE y.2.1 y.2.2) z.1)[Int.toNat ↑z.2]? fun(val:ab)=>∃(e:List ab×Int),items (dw (aQ y.1) (bE y.2.1 y.2.2) z.1)=items e.1/\ax y.1.domain e.2/\(e.1.length<=10000/\List.Pairwise (fun(x1 x2:aD)=>x1≠x2) (e.1.map (fun(x:ab)=>x.key))/\0<=e.2)/\ ∃(c:List ab×ab),items (fC e.2.toNat e.1)=items c.1/\val.key.name=c.2.key.name/\val.key.domain=c.2.key.domain/\val.key.path=c.2.key.path/\val.aa.value=c.2.aa.value/\val.aa.aH=c.2.aa.aH/\val.aa.aR=c.2.aa.aR/\val.aa.aI=c.2.aa.aI/\val.aa.persistent=c.2.aa.persistent/\ax val.aa.aW c.2.aa.aW/\ax val.aa.aj c.2.aa.aj/\ax val.aa.access c.2.aa.access/\c.1.length<=10000/\br (!decide (c.2∈c.1)) (∃(v:List ab×aD),items (List.foldl (kc (fC (aQ y.1) (dw (aQ y.1) (bE y.2.1 y.2.2) z.1))) (hU (aQ y.1) (bE y.2.1 y.2.2) z.1) ((dw (aQ y.1) (bE y.2.1 y.2.2) z.1).take z.2))=items v.1/\val.key.name=v.2.name/\val.key.domain=v.2.domain/\val.key.path=v.2.path/\v.1.length<=10000/\ck (bD .i64 (↑z.2+1)) (∃(d:Nat×Nat),((∃(x:d.1<(dc (bE y.2.1 y.2.2)).length),d.2<=(dw (aQ y.1) (bE y.2.1 y.2.2) d.1).length)/\d.1=x0.1)/\aL.μ (aL.when (vh y) (fun(a b:Nat×Nat)=>b.1=a.1) x0) d<aL.μ (aL.when (vh y) (fun(a b:Nat×Nat)=>b.1=a.1) x0) z/\(True/\True/\ax 0 0/\items (ff v.1 v.2)=items (List.foldl (kc (fC (aQ y.1) (dw (aQ y.1) (bE y.2.1 y.2.2) d.1))) (hU (aQ y.1) (bE y.2.1 y.2.2) d.1) ((dw (aQ y.1) (bE y.2.1 y.2.2) d.1).take d.2))/\items (dw (aQ y.1) (bE y.2.1 y.2.2) z.1)=items (dw (aQ y.1) (bE y.2.1 y.2.2) d.1)/\strs (dc (bE y.2.1 y.2.2))=strs (dc (bE y.2.1 y.2.2))/\ax (Int.ofNat ((dc (bE y.2.1 y.2.2)).length)) (Int.ofNat ((dc (bE y.2.1 y.2.2)).length))/\ax ↑z.1 ↑d.1/\items (dw (aQ y.1) (bE y.2.1 y.2.2) z.1)=items (dw (aQ y.1) (bE y.2.1 y.2.2) d.1)/\ax (Int.ofNat ((dw (aQ y.1) (bE y.2.1 y.2.2) z.1).length)) (Int.ofNat ((dw (aQ y.1) (bE y.2.1 y.2.2) d.1).length))/\ax (↑z.2+1) ↑d.2/\True)/\(True/\(ax y.1.aS y.1.aS/\ax y.1.domain y.1.domain/\ax y.1.total y.1.total/\strs y.1.rules=strs y.1.rules/\True)/\True)/\True)) (ck (bD .i64 (↑z.2+1)) (∃(v:Nat×Nat),((∃(x:v.1<(dc (bE y.2.1 y.2.2)).length),v.2<=(dw (aQ y.1) (bE y.2.1 y.2.2) v.1).length)/\v.1=x0.1)/\aL.μ (aL.when (vh y) (fun(a b:Nat×Nat)=>b.1=a.1) x0) v<aL.μ (aL.when (vh y) (fun(a b:Nat×Nat)=>b.1=a.1) x0) z/\(True/\True/\ax 0 0/\items (List.foldl (kc (fC (aQ y.1) (dw (aQ y.1) (bE y.2.1 y.2.2) z.1))) (hU (aQ y.1) (bE y.2.1 y.2.2) z.1) ((dw (aQ y.1) (bE y.2.1 y.2.2) z.1).take z.2))=items (List.foldl (kc (fC (aQ y.1) (dw (aQ y.1) (bE y.2.1 y.2.2) v.1))) (hU (aQ y.1) (bE y.2.1 y.2.2) v.1) ((dw (aQ y.1) (bE y.2.1 y.2.2) v.1).take v.2))/\items (dw (aQ y.1) (bE y.2.1 y.2.2) z.1)=items (dw (aQ y.1) (bE y.2.1 y.2.2) v.1)/\strs (dc (bE y.2.1 y.2.2))=strs (dc (bE y.2.1 y.2.2))/\ax (Int.ofNat ((dc (bE y.2.1 y.2.2)).length)) (Int.ofNat ((dc (bE y.2.1 y.2.2)).length))/\ax ↑z.1 ↑v.1/\items (dw (aQ y.1) (bE y.2.1 y.2.2) z.1)=items (dw (aQ y.1) (bE y.2.1 y.2.2) v.1)/\ax (Int.ofNat ((dw (aQ y.1) (bE y.2.1 y.2.2) z.1).length)) (Int.ofNat ((dw (aQ y.1) (bE y.2.1 y.2.2) v.1).length))/\ax (↑z.2+1) ↑v.2/\True)/\(True/\(ax y.1.aS y.1.aS/\ax y.1.domain y.1.domain/\ax y.1.total y.1.total/\strs y.1.rules=strs y.1.rules/\True)/\True)/\True))) (ck (bD .i64 (↑z.1+1)) (∃(e:Nat),e<=(dc (bE y.2.1 y.2.2)).length/\aL.μ (Fp y) e<aL.μ (Fp y) x/\(True/\True/\ax 0 0/\items (List.foldl (kc (fC (aQ y.1) (dw (aQ y.1) (bE y.2.1 y.2.2) z.1))) (hU (aQ y.1) (bE y.2.1 y.2.2) z.1) ((dw (aQ y.1) (bE y.2.1 y.2.2) z.1).take z.2))=items (hU (aQ y.1) (bE y.2.1 y.2.2) e)/\strs (dc (bE y.2.1 y.2.2))=strs (dc (bE y.2.1 y.2.2))/\ax (Int.ofNat ((dc (bE y.2.1 y.2.2)).length)) (Int.ofNat ((dc (bE y.2.1 y.2.2)).length))/\ax (↑z.1+1) ↑e/\True)/\(True/\(ax y.1.aS y.1.aS/\ax y.1.domain y.1.domain/\ax y.1.total y.1.total/\strs y.1.rules=strs y.1.rules/\True)/\True)/\True))) (∃(u:List ab×Int),items (hU (aQ y.1) (bE y.2.1 y.2.2) x)=items u.1/\ax y.1.total u.2/\(u.1.length<=10000/\List.Pairwise (fun(x1 x2:aD)=>x1≠x2) (u.1.map (fun(x:ab)=>x.key))/\0<=u.2)/\items (fC u.2.toNat u.1)=items ((iz y).1)/\ax 0 ((iz y).2)/\True))))):=by kernel_rfl
theorem YY:(cy (fun(y:aK.Y Fx)=>cp yM (cV y)) 400 rN)=(∀(y:ar×List ab×Int),((y.1.rules.length<=100000/\ ∀(s:Bs),s∈y.1.rules->s.length<=100000)/\y.2.1.length<=10000/\ ∀(x:ab),x∈y.2.1->x.key.domain.length<=1000000)->∃(z:ar×List ab×Int),ax y.1.aS z.1.aS/\ax y.1.domain z.1.domain/\ax y.1.total z.1.total/\strs y.1.rules=strs z.1.rules/\items y.2.1=items z.2.1/\ax y.2.2 z.2.2/\((z.1.rules.length<=100000/\ ∀(s:Bs),s∈z.1.rules->s.length<=100000)/\z.2.1.length<=10000/\ ∀(x:ab),x∈z.2.1->x.key.domain.length<=1000000)/\items ((iz z).1)=items ((iz y).1)/\True):=by kernel_rfl
section
variable [Inhabited aF]
theorem Wi (l:List ab) (now:Int):(bE l now).length<=l.length:=A2 _ _
theorem UK (cap:Nat) (l:List ab) (i:Nat):(Nc cap l i).Sublist l:=sG cap _ l
theorem R7 (l:List ab) (k:aD):(ff l k).length<=l.length:=A2 _ _
theorem Ld (hG:∀g C,yL g=some C->CO g C):∀g C,vw g=some C->CO g C:=hG
theorem KE {l:List ab} (hk:KN l) (cap i:Nat):hU cap l i=Nc cap l i:=Yx hk cap _
theorem Tk {cap:Nat} {l:List ab} {i:Nat} (h:i<(dc l).length):hU cap l (i+1)=(dw cap l i).foldl (kc (fC cap (dw cap l i))) (hU cap l i):=by
 have h1:=mF (fun b d=>(fN b d).foldl (kc (fC cap (fN b d))) b) l h;grind
theorem qzw (hG:∀g C,vw g=some C->CO g C):CO lX FH:=bR (cfg:=fun y=>cp vw (LI y)) bu (fun _=>rfl) (fun _=>hG) (n:=800) (by
 rw[ZU];rintro⟨c,l,now⟩ ⟨hr,hl,hsh⟩;have hl:l.length<=10000:=hl;refine⟨c,rfl,rfl,rfl,rfl,hr,ai.2 ⟨fun hc=>?_,fun hc=>?_⟩⟩
 . have hc:iE c≠0:=by grind
   have he:iz (c,l,now)=([],iE c):=by grind [iz]
   grind
 have hc:¬iE c≠0:=by grind
 refine⟨l,rfl,hl,ai.2 ⟨fun hri=>?_,fun hri=>?_⟩⟩
 . have hri:ir l=false:=by grind
   have he:iz (c,l,now)=([],6):=by grind [iz]
   grind
 have hri:ir l=true:=by grind
 have he:iz (c,l,now)=(pV (aQ c) (rn c) l now,0):=by grind [iz]
 have hchk:1<=c.domain/\1<=c.total:=by
   have hc:iE c=0:=Bk hc;grind [iE]
 have hkn:=uC hri;refine⟨⟨0,Au _,?_⟩,?_⟩
 . (repeat' (first|exact trivial|exact rfl|exact(fun _=>rfl)|apply And.intro))
 intro x hx;refine aG (fun hlt=>?_) fun hge=>?_
 . have hlt':x<l.length:=cP hlt;have hlen:=wO (l:=l) (x:=x) (p:=fun z:ab=> !iY z.aa now);have hf:=qz (p:=fun z:ab=> !iY z.aa now) hlt';have hmu:l.length - (x+1)<l.length - x:=by omega
   refine az.2 ⟨_,eA hlt',(l[x].aa,now),rfl,rfl,rfl,rfl,rfl,rfl,rfl,rfl,rfl,trivial,ai.2 ⟨fun h1=>ah.2 ⟨cW x (by omega),x+1,hlt',hmu,?_⟩,fun h1=>⟨l[x],rfl,ah.2 ⟨by grind [Nat.ble_eq],ah.2 ⟨cW x (by omega),x+1,hlt',hmu,?_⟩⟩⟩⟩⟩
   all_goals grind
 have hall:(l.take x).filter (fun z:ab=> !iY z.aa now)=bE l now:=filter_all (jK hge);have hlive:=Wi l now;have hkl:KN (bE l now):=hkn.sub AI;refine⟨bE l now,by rw[hall],⟨by omega,fun z hz=>hsh z (As.1 hz).1⟩,⟨0,Au _,?_⟩,?_⟩
 . grind
 clear hall hge hx x;have hdl:∀i,(hU (aQ c) (bE l now) i).Sublist (bE l now):=fun i=>by rw[KE hkl];grind [UK]
 have hdoms:(dc (bE l now)).length<=10000:=by
   have:=IZ (bE l now) [];grind [dc]
 intro x hx;refine aG (fun hlt=>?_) fun hge=>?_
 . have hlt':x<(dc (bE l now)).length:=cP hlt;have hof:dw (aQ c) (bE l now) x=fN (hU (aQ c) (bE l now) x) (dc (bE l now))[x]:=by grind
   refine az.2 ⟨_,eA hlt',(hU (aQ c) (bE l now) x,(dc (bE l now))[x]),rfl,rfl,by have:=(hdl x).length_le;grind,(x,0),⟨(x,0),⟨⟨hlt',Au _⟩,rfl⟩,?_⟩,?_⟩
   . grind
   rintro⟨i,j⟩ ⟨⟨h1,h2⟩,hi⟩;have hi:i=x:=hi;subst hi;have h2:j<=(dw (aQ c) (bE l now) i).length:=h2;have hofs:(dw (aQ c) (bE l now) i).Sublist (bE l now):=AI.trans (hdl i);have hofl:=hofs.length_le;have hmu:(dc (bE l now)).length - (i+1)<(dc (bE l now)).length - i:=by omega
   have hcur:∀j,(((dw (aQ c) (bE l now) i).take j).foldl (kc (fC (aQ c) (dw (aQ c) (bE l now) i))) (hU (aQ c) (bE l now) i)).length<=10000:=by
     grind [Cc]
   refine aG (fun hlt2=>?_) fun hge2=>?_
   . have hlt2':j<(dw (aQ c) (bE l now) i).length:=cP hlt2;have hn:=mF (kc (fC (aQ c) (dw (aQ c) (bE l now) i))) (hU (aQ c) (bE l now) i) hlt2';have hmu2:(dw (aQ c) (bE l now) i).length - (j+1)<(dw (aQ c) (bE l now) i).length - j:=by omega
     have htl:(fC (aQ c) (dw (aQ c) (bE l now) i)).length<=10000:=Ar (oP (aQ c) [] true (dw (aQ c) (bE l now) i)).length_le (by omega);refine az.2 ⟨_,eA hlt2',(dw (aQ c) (bE l now) i,c.domain),rfl,rfl,⟨by grind,hkl.sub hofs,by omega⟩,(fC (aQ c) (dw (aQ c) (bE l now) i),(dw (aQ c) (bE l now) i)[j]),rfl,rfl,rfl,rfl,rfl,rfl,rfl,rfl,rfl,rfl,rfl,rfl,htl,ai.2 ⟨fun hin=>?_,fun hin=>?_⟩⟩
     . have hin:(dw (aQ c) (bE l now) i)[j]∉fC (aQ c) (dw (aQ c) (bE l now) i):=by grind
       unfold kc at hn;rw[An hin]at hn;refine⟨(_,(dw (aQ c) (bE l now) i)[j].key),rfl,rfl,rfl,rfl,hcur j,ah.2 ⟨cW j (by omega),(i,j+1),⟨⟨h1,hlt2'⟩,rfl⟩,hmu2,?_⟩⟩
       (repeat' (first|exact trivial|exact rfl|exact(fun _=>rfl)|apply And.intro))
       all_goals (exact Aj (fun a=>SV.bh ab a ab.enc) hn.symm)
     . have hin:(dw (aQ c) (bE l now) i)[j]∈fC (aQ c) (dw (aQ c) (bE l now) i):=by grind
       unfold kc at hn;rw[Al hin]at hn;refine ah.2 ⟨cW j (by omega),(i,j+1),⟨⟨h1,hlt2'⟩,rfl⟩,hmu2,?_⟩
       (repeat' (first|exact trivial|exact rfl|exact(fun _=>rfl)|apply And.intro))
       all_goals (exact Aj (fun a=>SV.bh ab a ab.enc) hn.symm)
   . have hn:=Tk (cap:=aQ c) hlt';refine ah.2 ⟨cW i (by omega),i+1,hlt',hmu,?_⟩;grind [Ci,jK]
 have hfull:hU (aQ c) (bE l now) x=oc (aQ c) (bE l now) (dc (bE l now)):=by
   rw[KE hkl];grind [Ci,jK]
 refine⟨(hU (aQ c) (bE l now) x,c.total),rfl,rfl,⟨by have:=(hdl x).length_le;grind,hkl.sub (hdl x),by omega⟩,?_,?_,trivial⟩
 . rw[he];show SV.bh ab (fC (rn c) (hU (aQ c) (bE l now) x)) ab.enc=_
   rw[hfull];rfl
 grind)
end
section
variable [Inhabited aF]
theorem _root_.Go.Proofs.aq.ext_iff {x y:aq}:x=y↔x.dev=y.dev/\x.inc=y.inc/\x.seq=y.seq:=⟨fun h=>by grind,fun h=>aq.ext' h.1 h.2.1 h.2.2⟩
theorem Yy (a b:aq):(a.dev==b.dev&&(a.inc==b.inc&&true)&&(a.seq==b.seq&&true))=decide (a=b):=by
 rw[AA];grind [aq.ext_iff]
structure ae where
 dot:aq
 bL:dO
 kind:Int
 key:aD
 aa:db
 over:List aq
deriving DecidableEq,Inhabited
def cL (l:List aq):SV:= .bh aq l aq.enc
def ae.enc (x:ae):List SV:=[.int .i64 x.dot.dev, .int .i64 x.dot.inc, .int .i64 x.dot.seq, .int .i64 x.bL.wall, .int .i64 x.bL.count, .int .i64 x.bL.dev, .int .i64 x.kind, .str x.key.name, .str x.key.domain, .str x.key.path,
 .str x.aa.value, .bool x.aa.aH, .bool x.aa.aR, .bool x.aa.aI, .bool x.aa.persistent, .int .i64 x.aa.aW, .int .i64 x.aa.aj, .int .i64 x.aa.access,cL x.over]
def ae.item (x:ae):ab:=⟨x.key,x.aa⟩
structure aN where
 ctx:List aq
 kept:List ae
 dead:List aq
def dG (l:List ae):SV:= .bh ae l ae.enc
def aN.enc (x:aN):List SV:=[cL x.ctx,dG x.kept,cL x.dead]
noncomputable def NU:TypeId->Option View:=fun t=>bif Nat.beq t Ty.string then some ⟨Bs,kV⟩else bif Nat.beq t Gu then some ⟨ab,ab.enc⟩else bif Nat.beq t Ty.nF then some ⟨aq,aq.enc⟩else bif Nat.beq t H7 then some ⟨aq,aq.enc⟩else bif Nat.beq t H6 then some ⟨ae,ae.enc⟩else none
noncomputable def cm (gL:FuncId->Option aK) (l5:FuncId->Nat->Option aL):iw:={tab:=ph,view:=NU,gL,l5}
section
variable {α:Type} [DecidableEq α] (less:α->α->Bool)
def dB (l:List α) (d:α):Nat:=(l.takeWhile fun x=>less x d).length
def fM (l:List α) (d:α):List α:=if l[dB less l d]? =some d then l else l.take (dB less l d)++d::l.drop (dB less l d)
def dy (l:List α):List α:=l.foldl (fM less) []
variable {less}
omit [DecidableEq α] in
theorem L7 (L:List α) (d:α):dB less L d<=L.length:=(DM _).length_le
omit [DecidableEq α] in
theorem Ki {L:List α} {d:α} {k:Nat} (hk:k<=dB less L d) (h:k<L.length) (hl:less L[k] d=true):k+1<=dB less L d:=by
 grind [dB,Gl]
omit [DecidableEq α] in
theorem Kj {L:List α} {d:α} {k:Nat} (hk:k<=dB less L d) (h:k<L.length) (hl:less L[k] d=false):k=dB less L d:=by
 grind [FF,dB]
theorem V7 (L:List α) (d:α):(fM less L d).length<=L.length+1:=by
 grind [fM]
theorem xe:∀(l a:List α),(l.foldl (fM less) a).length<=a.length+l.length
 |[],a=>by simp
 |x::l,a=>by
  have h1:=xe l (fM less a x);have h2:=V7 (less:=less) a x;grind
end
def MZ:aK:={Y:=List aq,pre:=fun y=>y.length<=300000,args:=fun y=>[cL y],res:=fun y=>cL (dy cg y)}
def ZL (y:List aq):aL:={α:=Nat,ok:=fun i=>i<=y.length,μ:=fun i=>y.length - i,bn:=[],bc:=fun i=>[(0,cL y),(3,cL (dy cg (y.take i))),(4,i64 i)],bV:=fun _=>[],ft:=[3]}
def XS (y:List aq):aL:={α:=Nat×Nat,ok:=fun x=>∃h:x.1<y.length,x.2<=dB cg (dy cg (y.take x.1)) y[x.1],μ:=fun x=>(dy cg (y.take x.1)).length - x.2,bn:=[],bc:=fun x=>[(0,cL y),(3,cL (dy cg (y.take x.1))),(4,i64 x.1),(5,i64 x.2)],bV:=fun _=>[],link:=some fun a b=>b.1=a.1}
theorem Zf:CO pD MZ:=bR (cfg:=fun y=>cm qV (uR pD 6 (XS y) (cT pD 3 (ZL y)))) bu (fun _=>rfl) (fun _=>sL) (n:=600) (by
 intro (l:List aq) hpre;have hpre:l.length<=300000:=hpre;refine⟨⟨(0:Nat),Au _,?_⟩,?_⟩
 . repeat' first|exact trivial|exact rfl|refine aG (fun _=>?_) fun _=>?_|apply And.intro
 intro (x:Nat) hx;refine aG (fun hlt=>?_) fun hge=>?_
 . have hlt':x<l.length:=cP hlt;refine⟨((x,0):Nat×Nat),⟨((x,0):Nat×Nat),⟨⟨hlt',Au _⟩,rfl⟩,?_⟩,?_⟩
   . repeat' first|exact trivial|exact rfl|refine aG (fun _=>?_) fun _=>?_|apply And.intro
   rintro⟨x1,k⟩ ⟨⟨h1,h2⟩,hx1⟩;have hx1:x1=x:=hx1;subst hx1;have hn:dy cg (l.take (x1+1))=fM cg (dy cg (l.take x1)) l[x1]:=mF (fM cg) ([]:List aq) hlt';have hlen:(dy cg (l.take x1)).length<=x1:=by have:=xe (less:=cg) (l.take x1) [];grind [dy]
   have hk:k<=dB cg (dy cg (l.take x1)) l[x1]:=h2;have hkp:=L7 (less:=cg) (dy cg (l.take x1)) l[x1];have hkl:k<=(dy cg (l.take x1)).length:=by omega
   have hmu:l.length - (x1+1)<l.length - x1:=by omega
   refine aG (fun hlt2=>?_) fun hge2=>?_
   . have hlt2':k<(dy cg (l.take x1)).length:=cP hlt2;refine az.2 ⟨_,eA hlt2',?_⟩;refine az.2 ⟨_,eA hlt',?_⟩;refine⟨((dy cg (l.take x1))[k],l[x1]),?_⟩
     repeat first|refine⟨rfl,?_⟩|refine⟨trivial,?_⟩
     refine aG (fun hl=>?_) fun hl=>?_
     . have hl:cg (dy cg (l.take x1))[k] l[x1]=true:=hl;refine ah.2 ⟨cW k (by omega),?_⟩;refine⟨((x1,k+1):Nat×Nat),⟨⟨hlt',Ki hk hlt2' hl⟩,rfl⟩,by show(dy cg (l.take x1)).length - (k+1)<(dy cg (l.take x1)).length - k;omega,?_⟩
       repeat' first|exact trivial|exact rfl|refine aG (fun _=>?_) fun _=>?_|apply And.intro
     . have hl:cg (dy cg (l.take x1))[k] l[x1]=false:=hl;have hkk:k=dB cg (dy cg (l.take x1)) l[x1]:=Kj hk hlt2' hl;refine ai.2 ⟨fun he=>absurd he (by grind),fun he=>?_⟩;refine az.2 ⟨_,eA hlt2',?_⟩;refine az.2 ⟨_,eA hlt',?_⟩;refine aG (fun hne=>?_) fun hne=>?_
       . repeat (first|((conv=>whnf);refine⟨fun _=>rfl,?_⟩)|((conv=>whnf);refine⟨fun _=>⟨rfl,rfl⟩,?_⟩)|((conv=>whnf);refine ah.2 ⟨by(simp only[Ac,AF,Bu,Bc,Bt,DH,BM];omega),?_⟩)|((conv=>whnf);refine ah.2 ⟨cW _ (by omega),?_⟩)|((conv=>whnf);refine az.2 ⟨_,eA (by assumption),?_⟩)|((conv=>whnf);refine⟨_,rfl,?_⟩))
         refine⟨(x1+1:Nat),hlt',hmu,?_⟩
         repeat' first|exact trivial|exact rfl|refine aG (fun _=>?_) fun _=>?_|apply And.intro
         all_goals ((conv=>whnf);rw[hn];unfold fM;rw[<-hkk,An (by rw[Ag hlt2'];grind)];first|(simp;done)|(simp[cL];done)|(simp;rfl))
       . (conv=>whnf)
         refine ah.2 ⟨cW x1 (by omega),?_⟩;refine⟨(x1+1:Nat),hlt',hmu,?_⟩
         repeat' first|exact trivial|exact rfl|refine aG (fun _=>?_) fun _=>?_|apply And.intro
         all_goals ((conv=>whnf);rw[hn];grind [fM,Yy])
   . have hge2':(dy cg (l.take x1)).length<=k:=jz hge2;have hkk:k=dB cg (dy cg (l.take x1)) l[x1]:=by omega
     refine ai.2 ⟨fun he=>?_,fun he=>absurd he (by grind)⟩
     repeat (first|((conv=>whnf);refine⟨fun _=>rfl,?_⟩)|((conv=>whnf);refine⟨fun _=>⟨rfl,rfl⟩,?_⟩)|((conv=>whnf);refine ah.2 ⟨by(simp only[Ac,AF,Bu,Bc,Bt,DH,BM];omega),?_⟩)|((conv=>whnf);refine ah.2 ⟨cW _ (by omega),?_⟩)|((conv=>whnf);refine az.2 ⟨_,eA (by assumption),?_⟩)|((conv=>whnf);refine⟨_,rfl,?_⟩))
     refine⟨(x1+1:Nat),hlt',hmu,?_⟩
     repeat' first|exact trivial|exact rfl|refine aG (fun _=>?_) fun _=>?_|apply And.intro
     all_goals ((conv=>whnf);rw[hn];unfold fM;rw[<-hkk,An (by rw[BC hge2'];simp)];first|(simp;done)|(simp[cL];done)|(simp;rfl))
 . (conv=>whnf)
   refine⟨by rw[Ci (jK hge)],?_⟩
   (conv=>whnf)
   trivial)
noncomputable def tv (f:FuncId):Option aK:=bif Nat.beq f pD then some MZ else qV f
theorem uO:∀g C,tv g=some C->CO g C:=bM Zf sL
end
section
variable [Inhabited aF]
def dY (b:UInt8):Bool:=(bK (nB b) 32&& !(nB b==9))||nB b==127
def jy (b:UInt8):Bool:=nB b==32||nB b==9
def jW (s:Bs):Bs:=s.dropWhile jy
def ka (s:Bs):Bs:=(s.reverse.dropWhile jy).reverse
def trimB (s:Bs):Bs:=ka (jW s)
def oA:aK:={Y:=Bs,pre:=fun y=>y.length<=1000000,args:=fun y=>[.str y],res:=fun y=> .bool (y.any dY)}
def y9 (y:Bs):aL:={α:=Nat,ok:=fun i=>i<=y.length/\(y.take i).any dY=false,μ:=fun i=>y.length - i,bn:=[],bc:=fun i=>[(0, .str y),(5,i64 (Int.ofNat y.length)),(6,i64 i)],bV:=fun _=>[]}
def O0 (y:Bs):aL:={α:=Nat,ok:=fun i=>i<=y.length,μ:=fun i=>y.length - i,bn:=[],bc:=fun i=>[(0, .str y),(3, .bool ((y.take i).any dY)),(4,i64 i)],bV:=fun _=>[]}
def MM:aK:={Y:=UInt8,pre:=fun _=>True,args:=fun y=>[.int .u8 (nB y)],res:=fun y=> .bool (jy y)}
def yD:aK:={Y:=Bs,pre:=fun y=>y.length<=1000000,args:=fun y=>[.str y],res:=fun y=> .str (trimB y)}
def ZN (y:Bs):aL:={α:=Bs,ok:=fun x=>jW x=jW y/\x.length<=y.length,μ:=fun x=>x.length,bn:=[],bc:=fun x=>[(0, .str x)],bV:=fun _=>[]}
def ZO (y:Bs):aL:={α:=Bs,ok:=fun x=>ka x=trimB y/\x.length<=y.length,μ:=fun x=>x.length,bn:=[],bc:=fun x=>[(0, .str x)],bV:=fun _=>[]}
def LL (y:Bs):aL:={α:=Nat,ok:=fun i=>i<=y.length/\jW (y.drop i)=jW y,μ:=fun i=>y.length - i,bn:=[],bc:=fun i=>[(0, .str y),(3,i64 i),(4,i64 (Int.ofNat y.length))],bV:=fun _=>[]}
def LM (y:Bs):aL:={α:=Nat×Nat,ok:=fun x=>x.1<=x.2/\x.2<=y.length/\ka ((y.drop x.1).take (x.2 - x.1))=trimB y,μ:=fun x=>x.2,bn:=[],bc:=fun x=>[(0, .str y),(3,i64 x.1),(4,i64 x.2)],bV:=fun _=>[]}
noncomputable def yI (f:FuncId):Option aK:=bif Nat.beq f Ht then some MM else bif Nat.beq f rF then some oA else bif Nat.beq f rG then some oA else tv f
noncomputable def FM (f:FuncId):Option aK:=bif Nat.beq f pB then some yD else bif Nat.beq f pC then some yD else yI f
theorem KZ {α:Type} {p:α->Bool} {l:List α} {x:Nat} (h:x<l.length):(l.take (x+1)).any p=((l.take x).any p||p l[x]):=by
 rw[Av h,List.any_append];simp
theorem KY {α:Type} {p:α->Bool} {l:List α} {x:Nat} (h:l.length<=x):(l.take x).any p=l.any p:=by rw[Ay h]
theorem ZP {α:Type} {p:α->Bool} {l:List α} {x:Nat} (h:x<l.length) (hp:p l[x]=true):l.any p=true:=List.any_eq_true.2 ⟨_,AN h,hp⟩
theorem Ph:CO rF oA:=bR (cfg:=fun y=>cm tv (cT rF 2 (y9 y))) bu (fun _=>rfl) (fun _=>uO) (n:=600) (by
 intro (s:Bs) (hpre:s.length<=1000000);refine⟨⟨(0:Nat),⟨Au _,by simp⟩,?_⟩,?_⟩
 . repeat' first|exact trivial|exact rfl|refine aG (fun _=>?_) fun _=>?_|apply And.intro
 intro (x:Nat) hx;obtain⟨hx,hn⟩:=hx;refine aG (fun hlt=>?_) fun hge=>?_
 . have hlt':x<s.length:=cP hlt;have e:dY s[x]=((bK (nB s[x]) 32&& !(nB s[x]==9))||nB s[x]==127):=rfl;have yes:dY s[x]=true->s.any dY=true:=ZP hlt';have no:dY s[x]=false->(s.take (x+1)).any dY=false:=fun h=>by rw[KZ hlt',hn,h];rfl
   repeat' (first|exact trivial|exact rfl|((conv=>whnf);refine az.2 ⟨_,eA (by assumption),?_⟩)|((conv=>whnf);refine ah.2 ⟨cW _ (by omega),?_⟩)|((conv=>whnf);refine ah.2 ⟨?_,?_⟩)|((conv=>whnf);first|(apply aG<;>intro)|apply And.intro))
   all_goals first
    |(refine(yes ?_).symm;clear yes no e hn;simp_all[dY,nB])
    |((conv=>whnf);refine⟨(x+1:Nat),⟨hlt',no (by clear yes no e hn;simp_all[dY,nB])⟩,by show s.length - (x+1)<s.length - x;omega,?_⟩;repeat' first|exact trivial|exact rfl|refine aG (fun _=>?_) fun _=>?_|apply And.intro)
 . have hge':s.length<=x:=jz hge;rw[KY hge']at hn;refine⟨hn.symm,?_⟩
   repeat' first|exact trivial|exact rfl|refine aG (fun _=>?_) fun _=>?_|apply And.intro)
theorem qzi:CO rG oA:=bR (cfg:=fun y=>cm tv (cT rG 3 (O0 y))) bu (fun _=>rfl) (fun _=>uO) (n:=600) (by
 intro (s:Bs) (hpre:s.length<=1000000);refine⟨⟨(0:Nat),Au _,?_⟩,?_⟩
 . repeat' first|exact trivial|exact rfl|refine aG (fun _=>?_) fun _=>?_|apply And.intro
 intro (x:Nat) hx;have hx:x<=s.length:=hx;refine aG (fun hlt=>?_) fun hge=>?_
 . have hlt':x<s.length:=cP hlt;have fin:∀b:Bool,b=((s.take x).any dY||dY s[x])->b=(s.take (x+1)).any dY:=fun b h=>by rw[KZ hlt',h]
   repeat' (first|exact trivial|exact rfl|((conv=>whnf);refine az.2 ⟨_,eA (by assumption),?_⟩)|((conv=>whnf);refine ah.2 ⟨cW _ (by omega),?_⟩)|((conv=>whnf);refine ah.2 ⟨?_,?_⟩)|((conv=>whnf);first|(apply aG<;>intro)|apply And.intro))
   all_goals ((conv=>whnf);refine⟨(x+1:Nat),hlt',by show s.length - (x+1)<s.length - x;omega,?_⟩;repeat' first|exact trivial|exact rfl|refine aG (fun _=>?_) fun _=>?_|apply And.intro)
   all_goals (refine fin _ ?_;clear fin;generalize (s.take x).any dY=P at*;simp_all[dY,nB])
 . have hge':s.length<=x:=jz hge;refine⟨KY hge',?_⟩
   repeat' first|exact trivial|exact rfl|refine aG (fun _=>?_) fun _=>?_|apply And.intro)
theorem Ym:CO Ht MM:=bR (cfg:=fun y=>cm tv (cV y)) bu (fun _=>rfl) (fun _=>uO) (n:=400) (by
 intro (b:UInt8) _
 repeat' first|exact trivial|exact rfl|refine aG (fun _=>?_) fun _=>?_|apply And.intro
 all_goals grind [jy])
theorem C5:∀g C,yI g=some C->CO g C:=bM Ym (bM Ph (bM qzi uO))
theorem Jm {b:UInt8} {s:Bs} (h:jy b=true):jW (b::s)=jW s:=by grind [jW,List.dropWhile_cons]
theorem Jn {b:UInt8} {s:Bs} (h:jy b=false):jW (b::s)=b::s:=by grind [jW,List.dropWhile_cons]
theorem Jw {b:UInt8} {s:Bs} (h:jy b=true):ka (s++[b])=ka s:=by grind [ka,List.dropWhile_cons]
theorem I5 {b:UInt8} {s:Bs} (h:jy b=false):ka (s++[b])=s++[b]:=by grind [ka,List.dropWhile_cons]
theorem Jv {s:Bs} (h:s≠[]):(jy (s.getLast h)=true->ka s.dropLast=ka s)/\(jy (s.getLast h)=false->ka s=s):=by
 have e:=List.dropLast_concat_getLast h;grind [Jw,I5]
theorem Z9:CO pB yD:=bR (cfg:=fun y=>cm yI (uR pB 1 (ZN y) (cT pB 3 (ZO y)))) bu (fun _=>rfl) (fun _=>C5) (n:=600) (by
 intro (y:Bs) (hpre:y.length<=1000000);refine⟨⟨y,⟨rfl,Ad _⟩,?_⟩,?_⟩
 . repeat' first|exact trivial|exact rfl|refine aG (fun _=>?_) fun _=>?_|apply And.intro
 intro (x:Bs) hx;obtain⟨h1,h2⟩:=hx;have h2:x.length<=y.length:=h2;refine ai.2 ⟨fun hne=> ?ne,fun he=> ?eq⟩
 case' eq=>
   have hL:jW x=x:=by
     have he:(!(x==[]))=false:=he;simp at he;subst he;rfl
 case' ne=>
   obtain⟨b,x',rfl⟩:∃b x',x=b::x':=by
     cases x with
     |nil=>grind
     |cons b x=>grind
   refine⟨b,?_⟩
   repeat first|refine⟨rfl,?_⟩|refine⟨trivial,?_⟩
   refine ai.2 ⟨fun hb=> ?bt,fun hb=> ?bf⟩
   case' bf=>have hL:=Jn (s:=x') hb
   case bt=>
     (conv=>whnf)
     refine ah.2 ⟨rfl,?_⟩;refine⟨x',⟨by grind [Jm],by grind⟩,by show x'.length<(b::x').length;simp,?_⟩
     repeat' first|exact trivial|exact rfl|refine aG (fun _=>?_) fun _=>?_|apply And.intro
 all_goals
   rw[hL]at h1;refine⟨⟨_,⟨by show _=ka (jW y);rw[<-h1],h2⟩,?_⟩,?_⟩
   . repeat' first|exact trivial|exact rfl|refine aG (fun _=>?_) fun _=>?_|apply And.intro
   clear h2;intro (z:Bs) hz;obtain⟨z1,z2⟩:=hz;have z2:z.length<=y.length:=z2;have z1:ka z=trimB y:=z1;refine aG (fun hz0=>?_) fun hz0=>?_
   . have hz0:z≠[]:=by
       have hz0:(!(z==[]))=true:=hz0;simpa using hz0
     have hpos:=A7.2 hz0;have hlast:z[(Int.ofNat z.length - 1).toNat]? =some (z.getLast hz0):=by
       rw[List.getLast_eq_getElem,show(Int.ofNat z.length - 1).toNat=z.length - 1 by simp only[Ah];omega,Ag (by omega)]
     have hdrop:z.take (Int.ofNat z.length - 1).toNat=z.dropLast:=by
       rw[show(Int.ofNat z.length - 1).toNat=z.length - 1 by simp only[Ah];omega,List.dropLast_eq_take]
     have hir:bD .i64 (Int.ofNat z.length - 1)=true:=by rw[hZ];simp only[Ah];omega
     (conv=>whnf)
     refine ah.2 ⟨hir,?_⟩
     (conv=>whnf)
     refine ah.2 ⟨by rw[mP,Aa];simp only[Ah];omega,?_⟩
     (conv=>whnf)
     refine az.2 ⟨_,hlast,?_⟩;refine⟨z.getLast hz0,?_⟩
     repeat first|refine⟨rfl,?_⟩|refine⟨trivial,?_⟩
     refine aG (fun hb=>?_) fun hb=>?_
     . (conv=>whnf)
       refine ah.2 ⟨hir,?_⟩
       (conv=>whnf)
       refine ah.2 ⟨by rw[mP,Aa];simp only[Ah];omega,?_⟩
       (conv=>whnf)
       refine ah.2 ⟨by rw[AF];simp only[Ah];omega,?_⟩;refine⟨z.take (Int.ofNat z.length - 1).toNat,⟨?_,?_⟩,?_,?_⟩
       . show ka (z.take (Int.ofNat z.length - 1).toNat)=trimB y
         rw[hdrop,(Jv hz0).1 hb];exact z1
       . show(z.take (Int.ofNat z.length - 1).toNat).length<=y.length
         rw[hdrop,EI];omega
       . show(z.take (Int.ofNat z.length - 1).toNat).length<z.length
         rw[hdrop,EI];omega
       . repeat' first|exact trivial|exact rfl|refine aG (fun _=>?_) fun _=>?_|apply And.intro
     . have:=(Jv hz0).2 hb;refine⟨by rw[<-this];exact z1,?_⟩
       repeat' first|exact trivial|exact rfl|refine aG (fun _=>?_) fun _=>?_|apply And.intro
   . have hz0:z=[]:=by
       have hz0:(!(z==[]))=false:=hz0;simpa using hz0
     subst hz0;refine⟨z1,?_⟩
     repeat' first|exact trivial|exact rfl|refine aG (fun _=>?_) fun _=>?_|apply And.intro)
theorem Iv {s:Bs} {x:Nat} (h:x<s.length):s.drop x=s[x]::s.drop (x+1):=BO h
theorem Xe {s:Bs} {a b:Nat} (h1:a<b) (h2:b<=s.length):(s.drop a).take (b - a)=(s.drop a).take (b - 1 - a)++[s[b - 1]'(by omega)]:=by
 have:b - a=b - 1 - a+1:=by omega
 rw[this,Av (by grind)];grind
theorem Zl:CO pC yD:=bR (cfg:=fun y=>cm yI (uR pC 3 (LL y) (cT pC 5 (LM y)))) bu (fun _=>rfl) (fun _=>C5) (n:=600) (by
 intro (y:Bs) (hpre:y.length<=1000000);refine⟨⟨(0:Nat),⟨Au _,rfl⟩,?_⟩,?_⟩
 . repeat' first|exact trivial|exact rfl|refine aG (fun _=>?_) fun _=>?_|apply And.intro
 intro (x:Nat) hx;obtain⟨h1,h2⟩:=hx;have h1:x<=y.length:=h1;have h2:jW (y.drop x)=jW y:=h2;have step:∀hx:x<y.length,jy y[x]=true->(LL y).ok (x+1:Nat):=fun hx hb=>⟨hx,by rw[<-h2,Iv hx,Jm hb]⟩
 have mu:∀hx:x<y.length,y.length - (x+1)<y.length - x:=fun hx=>by omega
 have stop:∀hx:x<y.length,jy y[x]=false->y.drop x=jW y:=fun hx hb=>by
   rw[<-h2,Iv hx,Jn hb]
 refine ai.2 ⟨fun hlt=> ?wa,fun hge=> ?we⟩
 case' we=>
   have hL:y.drop x=jW y:=by
     have hge:y.length<=x:=jz hge;rw[<-h2,EA hge];rfl
 case' wa=>
   have hlt':x<y.length:=cP hlt
   (conv=>whnf)
   refine az.2 ⟨_,eA hlt',?_⟩;refine ai.2 ⟨fun hb=> ?wb,fun hb=> ?wc⟩
   case wb=>
     have hb:nB y[x]=32:=by
       have hb:(nB y[x]==32)=true:=hb;grind
     (conv=>whnf)
     refine ah.2 ⟨cW x (by omega),?_⟩;refine⟨(x+1:Nat),step hlt' (by grind [jy]),mu hlt',?_⟩
     repeat' first|exact trivial|exact rfl|refine aG (fun _=>?_) fun _=>?_|apply And.intro
   case' wc=>
     have hb:(nB y[x]==32)=false:=hb
     (conv=>whnf)
     refine az.2 ⟨_,eA hlt',?_⟩;refine ai.2 ⟨fun hc=> ?wd,fun hc=> ?wf⟩
     case wd=>
       have hc:(nB y[x]==9)=true:=hc
       (conv=>whnf)
       refine ah.2 ⟨cW x (by omega),?_⟩;refine⟨(x+1:Nat),step hlt' (by grind [jy]),mu hlt',?_⟩
       repeat' first|exact trivial|exact rfl|refine aG (fun _=>?_) fun _=>?_|apply And.intro
     case' wf=>
       have hc:(nB y[x]==9)=false:=hc;have hL:y.drop x=jW y:=stop hlt' (by grind [jy])
 all_goals
   clear step mu stop;refine⟨⟨((x,y.length):Nat×Nat),⟨h1,Ad _,by show ka ((y.drop x).take (y.length - x))=ka (jW y);rw[<-hL,Ay (by simp)]⟩,?_⟩,?_⟩
   . repeat' first|exact trivial|exact rfl|refine aG (fun _=>?_) fun _=>?_|apply And.intro
   rintro⟨a,b⟩ ⟨k1,k2,k3⟩;have k1:a<=b:=k1;have k2:b<=y.length:=k2;have k3:ka ((y.drop a).take (b - a))=trimB y:=k3;refine aG (fun hlt=>?_) fun hge=>?_
   . have hab:a<b:=by
       have hlt:bK (a:Int) (b:Int)=true:=hlt;rw[ch,Aa]at hlt;omega
     have hl:=Xe hab k2;have hbl:b - 1<y.length:=by omega
     have hget:y[((b:Int) - 1).toNat]? =some y[b - 1]:=by
       rw[show((b:Int) - 1).toNat=b - 1 by omega,Ag hbl]
     have hir:bD .i64 ((b:Int) - 1)=true:=by rw[hZ];omega
     have hnn:nn ((b:Int) - 1)=true:=by rw[mP,Aa];omega
     have hb1:((b:Int) - 1)=((b - 1:Nat):Int):=by omega
     have step:jy y[b - 1]=true->(LM y).ok ((a,b - 1):Nat×Nat):=fun hb=>⟨by show a<=b - 1;omega,by show b - 1<=y.length;omega,by show ka ((y.drop a).take (b - 1 - a))=trimB y;rw[<-k3,hl,Jw hb]⟩
     have stop:jy y[b - 1]=false->(y.drop a).take (b - a)=trimB y:=fun hb=>by rw[<-k3,hl,I5 hb]
     have mu:b - 1<b:=by omega
     repeat (first|((conv=>whnf);refine ah.2 ⟨hir,?_⟩)|((conv=>whnf);refine ah.2 ⟨hnn,?_⟩)|((conv=>whnf);refine az.2 ⟨_,hget,?_⟩))
     refine aG (fun hb=>?_) fun hb=>?_
     . have hb:(nB y[b - 1]==32)=true:=hb
       repeat (first|((conv=>whnf);refine ah.2 ⟨hir,?_⟩))
       refine⟨((a,b - 1):Nat×Nat),step (by simp only[jy,hb,D9]),mu,?_⟩
       repeat' first|exact trivial|exact rfl|refine aG (fun _=>?_) fun _=>?_|apply And.intro
       all_goals ((conv=>whnf);exact hb1)
     . have hb:(nB y[b - 1]==32)=false:=hb
       repeat (first|((conv=>whnf);refine ah.2 ⟨hir,?_⟩)|((conv=>whnf);refine ah.2 ⟨hnn,?_⟩)|((conv=>whnf);refine az.2 ⟨_,hget,?_⟩))
       refine aG (fun hc=>?_) fun hc=>?_
       . have hc:(nB y[b - 1]==9)=true:=hc
         repeat (first|((conv=>whnf);refine ah.2 ⟨hir,?_⟩))
         refine⟨((a,b - 1):Nat×Nat),step (by simp only[jy,hb,hc,Bool.or_true]),mu,?_⟩
         repeat' first|exact trivial|exact rfl|refine aG (fun _=>?_) fun _=>?_|apply And.intro
         all_goals ((conv=>whnf);exact hb1)
       . have hc:(nB y[b - 1]==9)=false:=hc;have:=stop (by simp only[jy,hb,hc,Eu])
         (conv=>whnf)
         refine ah.2 ⟨by show(Nat.ble a b&&Nat.ble b y.length)=true;rw[Ac,AF,AF];omega,?_⟩;refine⟨this,?_⟩
         repeat' first|exact trivial|exact rfl|refine aG (fun _=>?_) fun _=>?_|apply And.intro
   . have hab:a=b:=by
       have hge:bK (a:Int) (b:Int)=false:=hge;rw[ch,Ai]at hge;omega
     subst hab
     (conv=>whnf)
     refine ah.2 ⟨by show(Nat.ble a a&&Nat.ble a y.length)=true;rw[Ac,AF,AF];omega,?_⟩;refine⟨?_,?_⟩
     . show(y.drop a).take (a - a)=trimB y
       rw[<-k3,Nat.sub_self,DQ];rfl
     repeat' first|exact trivial|exact rfl|refine aG (fun _=>?_) fun _=>?_|apply And.intro)
theorem Lb:∀g C,FM g=some C->CO g C:=bM Z9 (bM Zl C5)
end
section
variable [Inhabited aF]
def jZ (s:Bs) (most:Int) (signs:Bs):Bool:=bO (Int.ofNat s.length) most&& !s.any dY&&decide (trimB s=s)&&signs.all fun c=>(dA s (nB c)).isNone
def MW:aK:={Y:=Bs×Int×Bs,pre:=fun y=>y.1.length<=1000000/\y.2.2.length<=100,args:=fun y=>[.str y.1,i64 y.2.1, .bh UInt8 y.2.2 cQ],res:=fun y=> .bool (jZ y.1 y.2.1 y.2.2)}
def ZJ (y:Bs×Int×Bs):aL:={α:=Nat,ok:=fun i=>i<=y.2.2.length/\(y.2.2.take i).all (fun c=>(dA y.1 (nB c)).isNone)=true,μ:=fun i=>y.2.2.length - i,bn:=[],bc:=fun i=>[(0, .str y.1),(26, .bh UInt8 y.2.2 cQ),(27,i64 (Int.ofNat y.2.2.length)),(28,i64 i)],bV:=fun _=>[]}
theorem Yb {a b:Int} (h:bK a b=true):bO b a=false:=by
 rw[ch,Aa]at h;rw[ed,Ai];omega
theorem Yc {a b:Int} (h:bK a b=false):bO b a=true:=by
 rw[ch,Ai]at h;rw[ed,Aa];omega
theorem JN (s:Bs) (c:Int):(eH s c).2.2=(dA s c).isSome:=by
 grind [eH]
theorem Y8:CO rJ MW:=bR (cfg:=fun y=>cm FM (cT rJ 4 (ZJ y))) bu (fun _=>rfl) (fun _=>Lb) (n:=600) (by
 rintro⟨s,m,g⟩ ⟨(hs:s.length<=1000000),(hg:g.length<=100)⟩;have yes:(jZ s m g=false)-> .bool false=SV.bool (jZ s m g):=fun h=>by rw[h]
 refine aG (fun h=>?_) fun h=>?_
 . have h:bO (Int.ofNat s.length) m=false:=Yb h;have:jZ s m g=false:=by grind [jZ]
   refine⟨this.symm,?_⟩
   repeat' first|exact trivial|exact rfl|refine aG (fun _=>?_) fun _=>?_|apply And.intro
 have h1:bO (Int.ofNat s.length) m=true:=Yc h;refine⟨s,?_⟩
 repeat ((conv=>whnf);first|refine⟨rfl,?_⟩|refine⟨hs,?_⟩)
 refine aG (fun h=>?_) fun h=>?_
 . have h:s.any dY=true:=h;have:jZ s m g=false:=by grind [jZ]
   refine⟨this.symm,?_⟩
   repeat' first|exact trivial|exact rfl|refine aG (fun _=>?_) fun _=>?_|apply And.intro
 have h2:s.any dY=false:=h;refine⟨s,?_⟩
 repeat ((conv=>whnf);first|refine⟨rfl,?_⟩|refine⟨hs,?_⟩)
 refine aG (fun h=>?_) fun h=>?_
 . have h:decide (trimB s=s)=false:=by
     have h:(!(trimB s==s))=true:=h;grind
   have:jZ s m g=false:=by grind [jZ]
   refine⟨this.symm,?_⟩
   repeat' first|exact trivial|exact rfl|refine aG (fun _=>?_) fun _=>?_|apply And.intro
 have h3:decide (trimB s=s)=true:=by
   have h:(!(trimB s==s))=false:=h;grind
 have hp:jZ s m g=g.all fun c=>(dA s (nB c)).isNone:=by grind [jZ]
 refine⟨⟨(0:Nat),⟨Au _,by simp⟩,?_⟩,?_⟩
 . repeat' first|exact trivial|exact rfl|refine aG (fun _=>?_) fun _=>?_|apply And.intro
 intro (x:Nat) hx;obtain⟨hx,hn⟩:=hx;have hx:x<=g.length:=hx;have hn:(g.take x).all (fun c=>(dA s (nB c)).isNone)=true:=hn;refine aG (fun hlt=>?_) fun hge=>?_
 . have hlt':x<g.length:=cP hlt;refine az.2 ⟨_,eA hlt',?_⟩;refine⟨(s,nB g[x]),?_⟩
   repeat ((conv=>whnf);first|refine⟨rfl,?_⟩|refine⟨hs,?_⟩)
   refine aG (fun h=>?_) fun h=>?_
   . have h:(dA s (nB g[x])).isSome=true:=by rw[<-JN];exact h
     have:jZ s m g=false:=by
       rw[hp,List.all_eq_false];grind
     refine⟨this.symm,?_⟩
     repeat' first|exact trivial|exact rfl|refine aG (fun _=>?_) fun _=>?_|apply And.intro
   . have h:(dA s (nB g[x])).isSome=false:=by rw[<-JN];exact h
     refine ah.2 ⟨cW x (by omega),?_⟩;refine⟨(x+1:Nat),⟨hlt',?_⟩,by show g.length - (x+1)<g.length - x;omega,?_⟩
     . grind [dA,List.take_succ_eq_append_getElem]
     . repeat' first|exact trivial|exact rfl|refine aG (fun _=>?_) fun _=>?_|apply And.intro
 . have hge':g.length<=x:=jz hge;rw[Ay hge']at hn;refine⟨by grind,?_⟩
   repeat' first|exact trivial|exact rfl|refine aG (fun _=>?_) fun _=>?_|apply And.intro)
end
section
variable [Inhabited aF]
def jF (b:UInt8):UInt8:=if 65<=b.toNat/\b.toNat<=90 then b+32 else b
def lowerB (s:Bs):Bs:=s.map jF
def jf (w:World) (b:Nat) (l:Bs):Prop:=∃arr,w.heap[b]? =some (.cells arr 5 (arr.size,arr.size+1))/\l.length<=arr.size/\ ∀j (h:j<l.length),arr[j]? =some (.int .u8 l[j].toNat)
theorem jf.cell {w:World} {b:Nat} {l:Bs} (h:jf w b l) {j:Nat} (hj:j<l.length):w.cell? ⟨b,j,none⟩=some (.int .u8 l[j].toNat):=by
 obtain⟨arr,h1,_,h3⟩:=h;grind [World.cell?]
theorem jf.free {w:World} {b:Nat} {l:Bs} (h:jf w b l) {j:Nat} (hj:j<l.length):w.frozen? ⟨b,j,none⟩=false:=by
 obtain⟨arr,h1,h2,_⟩:=h;grind [World.frozen?]
theorem jf.set {w:World} {b:Nat} {l:Bs} (h:jf w b l) (k:Nat) (c:UInt8):jf (w.setCell ⟨b,k,none⟩ (.int .u8 c.toNat)) b (l.set k c):=by
 obtain⟨arr,h1,h2,h3⟩:=h;have hlt:=(Ab.1 h1).1;refine⟨arr.setIfInBounds k (.int .u8 c.toNat),?_,by grind,fun j hj=>?_⟩
 all_goals grind [World.setCell]
theorem QF (b:UInt8) (w:World):Calls Tryz.prog 184 #[.int .u8 b.toNat] w fun e w'=>e= .returned (.int .u8 (jF b).toNat)/\w'=w:=by
 have hb:=b.toNat_lt;by_cases h1:65<=b.toNat
 . by_cases h2:b.toNat<=90
   . go_enter Tryz.func184,Tryz.ntmps184
     go_wp2;go_ret;refine⟨?_,rfl⟩;unfold jF;rw[Al ⟨h1,h2⟩];have e:(b+32).toNat=b.toNat+32:=by
      rw[UInt8.toNat_add,show(32:UInt8).toNat=32 from rfl];omega
     rw[e];simp;omega
   . go_enter Tryz.func184,Tryz.ntmps184
     go_wp2;go_ret;refine⟨?_,rfl⟩;simp_all[jF,An]
 . go_enter Tryz.func184,Tryz.ntmps184
   go_wp2;go_ret;refine⟨?_,rfl⟩;unfold jF;rw[An (fun h=>h1 h.1)];rfl
theorem Qt (s:Bs) (w:World) (hl:s.length<=1000000):Calls Tryz.prog 142 #[.string ⟨s.toArray⟩] w fun e w'=>e= .returned (.string ⟨(lowerB s).toArray⟩)/\Below w.heap.size w w'/\w.drawn<=w'.drawn:=by
 have hcv:= @run_bytes_of_string Tryz.prog;have hcb:= @run_convert_bytes_back Tryz.prog;go_enter Tryz.func142,Tryz.ntmps142
 go_wp2;have hrow0:∀c,jf (w.drew.alloc (.cells (bytesRow ⟨s.toArray⟩ c) 5 ((bytesRow ⟨s.toArray⟩ c).size,(bytesRow ⟨s.toArray⟩ c).size+1))) w.heap.size s:=fun c=>by
  refine⟨bytesRow ⟨s.toArray⟩ c,?_,?_,fun j hj=>?_⟩
  . show(w.heap.push _)[w.heap.size]? =_
    simp
  all_goals grind [bytesRow]
 go_loopw [9] (fun i wr=>∃k:Nat,k<=s.length/\i= .int .i64 k/\jf wr w.heap.size ((lowerB s).take k++s.drop k)/\Below w.heap.size w wr/\w.drawn<=wr.drawn) (fun i _=>s.length - (intOf i).toNat)
 case atStart=>exact⟨0,Au _,rfl,hrow0 _,((Below.refl _ _).drew).alloc (Ad _) _,Ee _⟩
 case round=>
  obtain⟨k,hk,rfl,hrow,hbel,hdr⟩:=hrel;by_cases hlt:k<s.length
  . have hlen:((lowerB s).take k++s.drop k).length=s.length:=by grind [lowerB]
    have hk2:k<((lowerB s).take k++s.drop k).length:=by omega
    have hc:=hrow.cell hk2;have hf:=hrow.free hk2;have hel:((lowerB s).take k++s.drop k)[k]=s[k]:=by
     rw[List.getElem_append_right (by grind)];grind
    rw[hel]at hc;have hcall:=QF s[k] wr;go_wp2_with (go_at_call 184;refine hcall.mono ?_;rintro e w1 ⟨rfl,rfl⟩)
    have hset:((lowerB s).take k++s.drop k).set k (jF s[k])=(lowerB s).take (k+1)++s.drop (k+1):=by
     have hz:k - ((lowerB s).take k).length=0:=by grind
     rw[List.set_append_right _ _ (by grind),hz,BO hlt,Av (by grind [lowerB]),List.set_cons_zero];simp[lowerB]
    refine⟨⟨k+1,hlt,by go_num,?_,hbel.setCell (Ad _) _,hdr⟩,by grind [intOf]⟩;rw[<-hset];exact hrow.set k _
  . have hkl:k=s.length:=by omega
    subst hkl;have hrow':jf wr w.heap.size (lowerB s):=by
     rw[List.drop_length,BQ,Ay (by simp[lowerB])]at hrow;omega
    have hback:∀c,(convert 152 9 (.slice (some ⟨w.heap.size,0,none⟩) s.length c)).run Tryz.prog wr= .ok (.string ⟨(lowerB s).toArray⟩) wr:=fun c=>by
     have:=hcb wr 152 9 5 ⟨w.heap.size,0,none⟩ c (lowerB s) Tryz.underlying152 Tryz.underlying5 Tryz.underlying9 (fun j hj=>by
      have:=hrow'.cell hj;grind [Addr.add])
     grind [lowerB]
    clear hcb hcv hrow0;go_wp2;go_ret;simp_all
theorem X5:CO Hr {Y:=Bs,pre:=fun y=>y.length<=1000000,args:=fun y=>[.str y],res:=fun y=> .str (lowerB y)}:=jS bu.ok (by
 rintro s hs w args - ⟨h1,h2⟩;match args,h1 with
 |[v],_=>
 have hv:v= .string ⟨s.toArray⟩:=by
  have:=h2 0 _ _ rfl rfl
  cases this;rfl
 subst hv;refine(Qt s w hs).mono ?_;rintro e w' ⟨rfl,hb,hd⟩;exact⟨_,rfl, .inr (.str _),hb,fun _=>hd⟩)
end
section
variable [Inhabited aF]
def ZB:aK:={Y:=Bs,pre:=fun y=>y.length<=1000000,args:=fun y=>[.str y],res:=fun y=> .str (lowerB y)}
noncomputable def vy (f:FuncId):Option aK:=bif Nat.beq f Hr then some ZB else bif Nat.beq f rJ then some MW else FM f
theorem xw:∀g C,vy g=some C->CO g C:=bM X5 (bM Y8 Lb)
def jn (s:Bs):Bs×Int:=if 256<s.length then([],3)else if dQ (lowerB s)||gy (lowerB s)then(lowerB s,0)else([],1)
def gP (s:Bs):Bool:=bO (Int.ofNat s.length) 256&&(dQ s||gy s)
def MN:aK:={Y:=Bs,pre:=fun _=>True,args:=fun y=>[.str y],res:=fun y=> .bA [.str (jn y).1,i64 (jn y).2]}
def LW:aK:={Y:=Bs,pre:=fun _=>True,args:=fun y=>[.str y],res:=fun y=> .bool (gP y)}
def lQ (s:Bs):Bool:= !s.any dY&&(dA s 59).isNone&&decide (trimB s=s)
def LZ:aK:={Y:=Bs,pre:=fun y=>y.length<=1000000,args:=fun y=>[.str y],res:=fun y=> .bool (lQ y)}
def u7 (x:db):Bool:=within x.aW (-1099511627776) 1099511627776&&within x.aj 0 1099511627776&&within x.access 0 1099511627776&&(x.persistent||x.aW==1099511627776)
def nX (x:ab):Bool:= !(x.key.name==[])&&bO (Int.ofNat x.key.name.length) 256&&lQ x.key.name&&(dA x.key.name 61).isNone&&bO (Int.ofNat x.aa.value.length) 1024&&lQ x.aa.value&&gP x.key.domain&&decide (x.key.path.head? =some 47)&&bO (Int.ofNat x.key.path.length) 256&&u7 x.aa
def xU:aK:={Y:=ab,pre:=fun y=>y.key.name.length<=1000000/\y.aa.value.length<=1000000,args:=fun y=>[.agg y.enc],res:=fun y=> .bool (nX y)}
theorem Ve (s:Bs):(lowerB s).length=s.length:=by simp[lowerB]
theorem Yo:CO H3 MN:=bR (cfg:=fun y=>cm vy (cV y)) bu (fun _=>rfl) (fun _=>xw) (n:=600) (by
 intro (s:Bs) _
 (conv=>whnf)
 refine aG (fun h=>?_) fun h=>?_
 . have h:256<s.length:=by
     have h:bK 256 (Int.ofNat s.length)=true:=h;rw[ch,Aa,Ah]at h;omega
   have e:jn s=([],3):=by unfold jn;rw[Al h]
   (conv=>whnf)
   refine⟨by rw[e],?_⟩
   (conv=>whnf)
   refine⟨by rw[e],?_⟩
   repeat' (first|exact trivial|exact rfl|((conv=>whnf);first|(apply aG<;>intro)|apply And.intro))
 have h:¬256<s.length:=by
   have h:bK 256 (Int.ofNat s.length)=false:=h;rw[ch,Ai,Ah]at h;omega
 have hl:=Ve s
 (conv=>whnf)
 refine⟨s,?_⟩
 repeat ((conv=>whnf);first|refine⟨rfl,?_⟩|refine⟨trivial,?_⟩)
 refine⟨by show s.length<=1000000;omega,?_⟩
 (conv=>whnf)
 refine⟨lowerB s,?_⟩
 repeat ((conv=>whnf);first|refine⟨rfl,?_⟩|refine⟨trivial,?_⟩)
 refine⟨by show(lowerB s).length<=100000;omega,?_⟩;have bad:(dQ (lowerB s)||gy (lowerB s))=false->jn s=([],1):=fun hn=>by unfold jn;rw[An h,hn];rfl
 have good:(dQ (lowerB s)||gy (lowerB s))=true->jn s=(lowerB s,0):=fun hn=>by unfold jn;rw[An h,hn];rfl
 (conv=>whnf)
 refine aG (fun hn=>?_) fun hn=>?_
 . have hn:dQ (lowerB s)=false:=by simpa using hn
   rw[hn,DY]at bad good
   (conv=>whnf)
   refine⟨lowerB s,?_⟩
   repeat ((conv=>whnf);first|refine⟨rfl,?_⟩|refine⟨trivial,?_⟩)
   refine⟨by show(lowerB s).length<=100000;omega,?_⟩
   (conv=>whnf)
   refine aG (fun ha=>?_) fun ha=>?_
   . have e:=bad (by simpa using ha)
     (conv=>whnf)
     refine⟨by rw[e],?_⟩
     (conv=>whnf)
     refine⟨by rw[e],?_⟩
     repeat' (first|exact trivial|exact rfl|((conv=>whnf);first|(apply aG<;>intro)|apply And.intro))
   . have e:=good (by simpa using ha)
     (conv=>whnf)
     refine⟨by rw[e],?_⟩
     (conv=>whnf)
     refine⟨by rw[e],?_⟩
     repeat' (first|exact trivial|exact rfl|((conv=>whnf);first|(apply aG<;>intro)|apply And.intro))
 . have hn:dQ (lowerB s)=true:=by simpa using hn
   have e:=good (by rw[hn];rfl)
   (conv=>whnf)
   refine⟨by rw[e],?_⟩
   (conv=>whnf)
   refine⟨by rw[e],?_⟩
   repeat' (first|exact trivial|exact rfl|((conv=>whnf);first|(apply aG<;>intro)|apply And.intro)))
theorem Xu:CO vV LW:=bR (cfg:=fun y=>cm vy (cV y)) bu (fun _=>rfl) (fun _=>xw) (n:=600) (by
 intro (s:Bs) _
 (conv=>whnf)
 refine aG (fun h=>?_) fun h=>?_
 . have h:bO (Int.ofNat s.length) 256=true:=h;have hl:s.length<=100000:=by rw[ed,Aa,Ah]at h;omega
   (conv=>whnf)
   refine⟨s,?_⟩
   repeat ((conv=>whnf);first|refine⟨rfl,?_⟩|refine⟨trivial,?_⟩)
   refine⟨hl,?_⟩
   (conv=>whnf)
   refine aG (fun hn=>?_) fun hn=>?_
   . have hn:dQ s=true:=hn
     (conv=>whnf)
     refine⟨by show true=gP s;simp only[gP,h,hn,D9,Bool.and_self],?_⟩
     repeat' (first|exact trivial|exact rfl|((conv=>whnf);first|(apply aG<;>intro)|apply And.intro))
   . have hn:dQ s=false:=hn
     (conv=>whnf)
     refine⟨s,?_⟩
     repeat ((conv=>whnf);first|refine⟨rfl,?_⟩|refine⟨trivial,?_⟩)
     refine⟨hl,?_⟩
     (conv=>whnf)
     refine⟨by show gy s=gP s;simp only[gP,h,hn,DY,Bq],?_⟩
     repeat' (first|exact trivial|exact rfl|((conv=>whnf);first|(apply aG<;>intro)|apply And.intro))
 . have h:bO (Int.ofNat s.length) 256=false:=h
   (conv=>whnf)
   refine⟨by show false=gP s;simp only[gP,h,Dn],?_⟩
   repeat' (first|exact trivial|exact rfl|((conv=>whnf);first|(apply aG<;>intro)|apply And.intro)))
theorem XC:CO HD LZ:=bR (cfg:=fun y=>cm vy (cV y)) bu (fun _=>rfl) (fun _=>xw) (n:=600) (by
 intro (s:Bs) (hs:s.length<=1000000)
 (conv=>whnf)
 refine⟨s,?_⟩
 repeat ((conv=>whnf);first|refine⟨rfl,?_⟩|refine⟨trivial,?_⟩)
 refine⟨hs,?_⟩
 (conv=>whnf)
 refine aG (fun h=>?_) fun h=>?_
 . have h:s.any dY=false:=by
     have h:(!s.any dY)=true:=h
     cases e:s.any dY with
     |false=>rfl
     |true=>rw[e]at h;cases h
   (conv=>whnf)
   refine⟨(s,59),?_⟩
   repeat ((conv=>whnf);first|refine⟨rfl,?_⟩|refine⟨trivial,?_⟩)
   refine⟨hs,?_⟩;have hf:bK (iK s 59) 0=(dA s 59).isNone:=by
     rcases Cj s 59 with⟨i,h1,h2,h3⟩|⟨h1,h2⟩
     . rw[h1,h2,ch,A5];rfl;omega
     . rw[h1,h2];rfl
   (conv=>whnf)
   refine aG (fun h2=>?_) fun h2=>?_
   . have h2:(dA s 59).isNone=true:=by rw[<-hf];exact h2
     (conv=>whnf)
     refine⟨s,?_⟩
     repeat ((conv=>whnf);first|refine⟨rfl,?_⟩|refine⟨trivial,?_⟩)
     refine⟨hs,?_⟩
     (conv=>whnf)
     refine⟨?_,?_⟩
     . show(trimB s==s)=lQ s
       simp only[lQ,h,h2,DR,Bq];rw[AA];simp
     . repeat' (first|exact trivial|exact rfl|((conv=>whnf);first|(apply aG<;>intro)|apply And.intro))
   . have h2:(dA s 59).isNone=false:=by rw[<-hf];exact h2
     (conv=>whnf)
     refine⟨by show false=lQ s;simp only[lQ,h2,DA,Dn],?_⟩
     repeat' (first|exact trivial|exact rfl|((conv=>whnf);first|(apply aG<;>intro)|apply And.intro))
 . have h:s.any dY=true:=by
     have h:(!s.any dY)=false:=h
     cases e:s.any dY with
     |true=>rfl
     |false=>rw[e]at h;cases h
   (conv=>whnf)
   refine⟨by show false=lQ s;simp only[lQ,h,Dp,Dn],?_⟩
   repeat' (first|exact trivial|exact rfl|((conv=>whnf);first|(apply aG<;>intro)|apply And.intro)))
theorem wS {b:UInt8} {c:Int}:∀{s:Bs},b∈s->nB b=c\/ ∃p∈splitB s c,b∈p
 | x :: s,h=>by
  simp only[splitB];by_cases hx:nB x=c
  . rw[Al hx];rcases Ap.1 h with rfl|h
    . exact .inl hx
    . rcases wS (c:=c) h with h|⟨p,hp,hb⟩
      . exact .inl h
      . exact .inr ⟨p,AS _ hp,hb⟩
  . rw[An hx];have ih:b∈s->nB b=c\/ ∃p∈splitB s c,b∈p:=fun h=>wS h
    cases e:splitB s c with
    |nil=>exact absurd e (Kp s c)
    | cons q t=>
      rw[e]at ih;rcases Ap.1 h with rfl|h
      . exact .inr ⟨b::q,Aq,Aq⟩
      . rcases ih h with h|⟨p,hp,hb⟩
        . exact .inl h
        . rcases Ap.1 hp with rfl|hp
          . exact .inr ⟨x::p,Aq,AS _ hb⟩
          . exact .inr ⟨p,AS _ hp,hb⟩
theorem Wk {b:UInt8} (h:nB b<65\/90<nB b):jF b=b:=by
 unfold jF;unfold nB at h;simp only[Ah]at h;rw[An (by omega)]
theorem zW {s:Bs} (h:∀b∈s,nB b<65\/90<nB b):lowerB s=s:=by
 have e:s.map jF=s.map id:=By fun b hb=>Wk (h b hb)
 rw[EH]at e;exact e
theorem T6 {s:Bs} (h:dQ s=true):lowerB s=s:=by
 simp only[dQ,Ac,AB]at h;refine zW fun b hb=>?_
 rcases wS (c:=46) hb with h1|⟨p,hp,hb⟩
 . omega
 . have h2:=h.2 p hp;simp only[fa,Ac,AB]at h2;have h3:=h2.1.1.2 b hb;simp only[iu,BJ,Ac,Aa,BD]at h3;omega
theorem Ta {s:Bs} (h:gy s=true):lowerB s=s:=by
 unfold gy at h;rcases BJ .. ▸h with h|h
 . simp only[fx,Ac,AB]at h;refine zW fun b hb=>?_
   rcases wS (c:=46) hb with h1|⟨p,hp,hb⟩
   . omega
   . have h2:=h.2 p hp;simp only[gU,Ac,Aa]at h2;have h3:=xi (s:=p) (by omega) b hb;simp only[dD,Ac,Aa]at h3;omega
 . simp only[fi,Ac,AB,Aa,BD]at h;obtain⟨⟨⟨⟨h1,h2⟩,h3⟩,h4⟩,h5⟩:=h
   cases s with
   |nil=>simp at h1
   | cons x s=>
     simp only[List.head?_cons,Bo]at h3;subst h3;rcases List.eq_nil_or_concat s with rfl|⟨t,z,rfl⟩
     . simp at h1
     . have hz:z=93:=by
         rw[show(91::t.concat z:Bs)=(91::t)++[z] by simp,List.getLast?_concat]at h4;simpa using h4
       subst hz;have e:((91::t.concat 93:Bs).drop 1).take ((91::t.concat 93:Bs).length - 2)=t:=by simp[EC]
       rw[e]at h5;refine zW fun b hb=>?_
       simp only[Ap,EC,Di,BE,Dq]at hb;rcases hb with rfl|hb|rfl
       . right;decide
       . have h6:=h5 b hb;simp only[cS,BJ,Ac,Aa,BD]at h6;omega
       . right;decide
theorem J7 (s:Bs):(decide ((jn s).2=0)&&decide ((jn s).1=s))=gP s:=by
 rw[AA];unfold jn gP;simp only[Ac,Aa,ed,Ah];by_cases h:256<s.length
 . rw[Al h];simp;omega
 . rw[An h];constructor
   . intro hh;split at hh
     . rename_i hn;have e:lowerB s=s:=hh.2;rw[e]at hn;exact⟨by omega,hn⟩
     . simp at hh
   . rintro⟨_,hn⟩;have e:lowerB s=s:=by
       rcases BJ .. ▸hn with hn|hn
       . exact T6 hn
       . exact Ta hn
     rw[e,Al hn];exact⟨rfl,rfl⟩
noncomputable def vz (f:FuncId):Option aK:=bif Nat.beq f H3 then some MN else bif Nat.beq f vV then some LW else bif Nat.beq f HD then some LZ else vy f
theorem xx:∀g C,vz g=some C->CO g C:=bM Yo (bM Xu (bM XC xw))
def FD (x:ab):Bool:= !(x.key.name==[])&&jZ x.key.name 256 [59,61]&&jZ x.aa.value 1024 [59]&&((jn x.key.domain).2==0)&&((jn x.key.domain).1==x.key.domain)&&decide (x.key.path.head? =some 47)&&bO (Int.ofNat x.key.path.length) 256&&u7 x.aa
theorem U7 (x:ab):FD x=nX x:=by
 have h1:∀(s:Bs) (m:Int),jZ s m [59]=(bO (Int.ofNat s.length) m&&lQ s):=fun s m=>by
  unfold jZ lQ;rw[AA];simp[nB];grind
 have h2:jZ x.key.name 256 [59,61]=(bO (Int.ofNat x.key.name.length) 256&&lQ x.key.name&&(dA x.key.name 61).isNone):=by
  unfold jZ lQ;rw[AA];simp[nB];grind
 have h3:=J7 x.key.domain;unfold FD nX;rw[h1,h2,<-h3];rw[AA];simp;grind
theorem NT (b:UInt8):b=47↔(b.toNat:Int)=47:=by
 constructor
 . rintro rfl;rfl
 . intro h;exact UInt8.toNat_inj.1 (by rw[show(47:UInt8).toNat=47 from rfl];omega)
theorem XE:CO Hn xU:=bR (cfg:=fun y=>cm vz (cV y)) bu (fun _=>rfl) (fun _=>xx) (n:=800) (by
 rintro⟨⟨n,d,p⟩,v,b1,b2,b3,b4,e,c,a⟩ ⟨(hn:n.length<=1000000),(hv:v.length<=1000000)⟩;rcases p with _|⟨p0,p⟩
 all_goals
  (conv=>whnf)
  refine⟨d,?_⟩
  repeat ((conv=>whnf);first|refine⟨rfl,?_⟩|refine⟨trivial,?_⟩)
  (conv=>whnf)
  refine⟨(e, -1099511627776,1099511627776),?_⟩
  repeat' (first|exact trivial|(with_reducible exact rfl)|((conv=>whnf);first|(apply aG<;>intro)|apply And.intro)|((conv=>whnf);refine⟨(c,0,1099511627776),?_⟩;(conv=>whnf);refine⟨rfl,?_⟩)|((conv=>whnf);refine⟨(a,0,1099511627776),?_⟩;(conv=>whnf);refine⟨rfl,?_⟩)|((conv=>whnf);refine⟨(n,256,[59,61]),?_⟩;(conv=>whnf);refine⟨rfl,?_⟩)|((conv=>whnf);refine⟨(v,1024,[59]),?_⟩;(conv=>whnf);refine⟨rfl,?_⟩))
 all_goals first|exact hn|exact hv|exact rfl|(show(2:Nat)<=100;decide)|(show(1:Nat)<=100;decide)|skip
 all_goals (rw[<-U7])
 all_goals (simp_all[FD,u7,NT]))
end
section
variable [Inhabited aF]
def om (b:UInt8):Bool:=decide (32<nB b)&&decide (nB b<127)
def lh (s:Bs):Bool:=s.all om
def Ni:aK:={Y:=UInt8,pre:=fun _=>True,args:=fun y=>[.int .u8 (nB y)],res:=fun y=> .bool (om y)}
theorem Z4:CO rI Ni:=bR (cfg:=fun(_:UInt8)=>bC bU (fun _ _=>none)) bu (fun _=>rfl) (fun _=>gn) (n:=300) (by
 intro b _;have e1:decide (32<nB b)=bK 32 (nB b):=(ch _ _).symm;have e2:decide (nB b<127)=bK (nB b) 127:=(ch _ _).symm;refine aG (fun h=>?_) fun h=>?_
 . have h:bK 32 (nB b)=true:=h;refine⟨?_,trivial⟩;grind [om]
 . have h:bK 32 (nB b)=false:=h;refine⟨?_,trivial⟩;grind [om])
noncomputable def Nv (f:FuncId):Option aK:=bif Nat.beq f rI then some Ni else bU f
theorem Wq:∀f C,Nv f=some C->CO f C:=bM Z4 gn
def za (y:Bs):aL:={α:=Nat,ok:=fun i=>i<=y.length/\ ∀j (h:j<y.length),j<i->om y[j]=true,μ:=fun i=>y.length - i,bn:=[],bc:=fun i=>[(0, .str y),(3, .fn rI [] []),(6,i64 (Int.ofNat y.length)),(7,i64 i)],bV:=fun _=>[]}
theorem Pp:CO rT (fS lh):=bR (cfg:=fun(y:Bs)=>bC Nv (cT rT 3 (za y))) bu (fun _=>rfl) (fun _=>Wq) (n:=600) (by
 intro (s:Bs) (hs:s.length<=100000);refine⟨⟨(0:Nat),⟨Au _,fun j _ hj=>absurd hj (A3 _)⟩,?_⟩,?_⟩
 . repeat' first|exact trivial|exact rfl|refine aG (fun _=>?_) fun _=>?_|apply And.intro
 intro (i:Nat) hi;obtain⟨hi,hall⟩:=hi;have hi:i<=s.length:=hi;refine aG (fun hlt=>?_) fun hge=>?_
 . have hlt':i<s.length:=cP hlt;refine az.2 ⟨_,eA hlt',?_⟩;refine⟨s[i],?_⟩
   repeat first|refine⟨rfl,?_⟩|refine⟨trivial,?_⟩
   refine aG (fun h=>?_) fun h=>?_
   . have h:om s[i]=false:=by have h:(!om s[i])=true:=h;grind
     refine⟨?_,trivial⟩;exact(CY hlt' h).symm
   . have h:om s[i]=true:=by have h:(!om s[i])=false:=h;grind
     refine ah.2 ⟨cW i (by omega),?_⟩;refine⟨(i+1:Nat),⟨hlt',pO hall hlt' h⟩,by show s.length - (i+1)<s.length - i;omega,?_⟩
     repeat' first|exact trivial|exact rfl|refine aG (fun _=>?_) fun _=>?_|apply And.intro
 . (conv=>whnf)
   refine⟨?_,trivial⟩;exact(pN hall (jK hge)).symm)
def yg (b:Bool):Bs:=if b then[104,116,116,112,115,58,47,47]else[104,116,116,112,58,47,47]
def ML:aK:={Y:=Bool,pre:=fun _=>True,args:=fun y=>[.bool y],res:=fun y=> .str (yg y)}
theorem Yl:CO Hd ML:=bR (cfg:=fun(_:Bool)=>bC bU (fun _ _=>none)) bu (fun _=>rfl) (fun _=>gn) (n:=300) (by
 intro b _
 cases b
 . repeat' first|exact trivial|exact rfl|refine aG (fun _=>?_) fun _=>?_|apply And.intro
 . repeat' first|exact trivial|exact rfl|refine aG (fun _=>?_) fun _=>?_|apply And.intro)
def FW (b:UInt8):Bool:=nB b==63||nB b==35
def qU (s:Bs):Bool:=s.all fun b=> !FW b
def oB:aK:={Y:=Bs×Bs,pre:=fun y=>y.1.length<=1000000/\y.2.length<=1000000,args:=fun y=>[.str y.1, .str y.2],res:=fun y=> .bool (y.2.isSuffixOf y.1)}
theorem Z7:CO vO oB:=bR (cfg:=fun(_:Bs×Bs)=>bC bU (fun _ _=>none)) bu (fun _=>rfl) (fun _=>gn) (n:=600) (by
 rintro⟨s,t⟩ ⟨hs,ht⟩;have hs:s.length<=1000000:=hs;have ht:t.length<=1000000:=ht;refine aG (fun h=>?_) fun h=>?_
 . (conv=>whnf)
   repeat' (first|exact trivial|exact rfl|((conv=>whnf);refine ah.2 ⟨?_,?_⟩)|((conv=>whnf);apply And.intro))
   all_goals (have h:bO (Int.ofNat t.length) (Int.ofNat s.length)=true:=h;rw[ed,Aa]at h;simp only[Ah]at h⊢)
   all_goals grind [hZ,mP,Nat.ble_eq,List.suffix_iff_eq_drop]
 . (conv=>whnf)
   refine⟨?_,trivial⟩;have h:bO (Int.ofNat t.length) (Int.ofNat s.length)=false:=h;rw[ed,Ai]at h;grind)
theorem Pn:CO vT oB:=bR (cfg:=fun(_:Bs×Bs)=>bC (fun f=>bif Nat.beq f vO then some oB else bU f) (fun _ _=>none)) bu (fun _=>rfl) (fun _=>bM Z7 gn) (n:=600) (by
 rintro⟨s,t⟩ h;refine⟨(s,t),?_⟩
 repeat first|refine⟨rfl,?_⟩|refine⟨trivial,?_⟩
 refine⟨h,?_⟩
 repeat' first|exact trivial|exact rfl|refine aG (fun _=>?_) fun _=>?_|apply And.intro)
end
section
structure bG where
 host:Bs
 path:Bs
 aR:Bool
 iN:Bool
def bG.enc (r:bG):List SV:=[.str r.host, .str r.path, .bool r.aR, .bool r.iN]
def lB (r:bG):Prop:=r.host.length<=5000/\r.path.length<=5000
def iQ (r:bG):Bool:=gP r.host&&decide (r.path.head? =some 47)&&lh r.path&&qU r.path&&bO (Int.ofNat (yg r.aR).length+Int.ofNat r.host.length+Int.ofNat r.path.length) 1024
section
variable [Inhabited aF]
def tL:aK:={Y:=bG,pre:=lB,args:=fun y=>[.agg y.enc],res:=fun y=> .bool (iQ y)}
def oz:aK:={Y:=Bs,pre:=fun y=>y.length<=100000/\lh y=true,args:=fun y=>[.str y, .str [63,35]],res:=fun y=> .bool (!qU y)}
noncomputable def vA (f:FuncId):Option aK:=bif Nat.beq f rT then some (fS lh)else bif Nat.beq f Hd then some ML else bif Nat.beq f vT then some oB else vz f
theorem xy:∀f C,vA f=some C->CO f C:=bM Pp (bM Yl (bM Pn xx))
noncomputable def Nw (f:FuncId):Option aK:=bif Nat.beq f pw then some oz else vA f
theorem Wr (hA:CO pw oz):∀f C,Nw f=some C->CO f C:=bM hA xy
theorem take_one (p:Bs):decide (p.take ([47]:Bs).length=[47])=decide (p.head? =some 47):=by
 cases p with
 |nil=>rfl
 |cons b p=>simp
theorem Po (hA:CO pw oz):CO Hc tL:=bR (cfg:=fun(_:bG)=>cm Nw (fun _ _=>none)) bu (fun _=>rfl) (fun _=>Wr hA) (n:=900) (by
 rintro r ⟨h1,h2⟩;have h1:r.host.length<=5000:=h1;have h2:r.path.length<=5000:=h2;have hcan:=J7 r.host;have e2:decide ((jn r.host).2=0)=((jn r.host).2==0):=by rw[AA,Aa,BD]
 have e3:decide ((jn r.host).1=r.host)=((jn r.host).1==r.host):=by rw[AA,Aa,BD]
 rw[e2,e3]at hcan;refine⟨r.host,?_⟩
 repeat first|refine⟨rfl,?_⟩|refine⟨trivial,?_⟩
 refine aG (fun h=>?_) fun h=>?_;rotate_left
 . have h:((jn r.host).2==0)=false:=h;refine⟨?_,trivial⟩;grind [iQ]
 have h:((jn r.host).2==0)=true:=h;rw[h,Bq]at hcan;refine aG (fun h3=>?_) fun h3=>?_;rotate_left
 . have h3:((jn r.host).1==r.host)=false:=h3;refine⟨?_,trivial⟩;grind [iQ]
 have h3:((jn r.host).1==r.host)=true:=h3;rw[h3]at hcan;refine⟨(r.path,[47]),?_⟩
 repeat first|refine⟨rfl,?_⟩|refine⟨trivial,?_⟩
 refine⟨⟨by grind,by grind⟩,?_⟩;refine aG (fun h4=>?_) fun h4=>?_;rotate_left
 . have h4:decide (r.path.take ([47]:Bs).length=[47])=false:=h4;rw[take_one]at h4;refine⟨?_,trivial⟩;grind [iQ]
 have h4:decide (r.path.take ([47]:Bs).length=[47])=true:=h4;rw[take_one]at h4;refine⟨r.path,?_⟩
 repeat first|refine⟨rfl,?_⟩|refine⟨trivial,?_⟩
 refine⟨by show r.path.length<=100000;omega,?_⟩;refine aG (fun h5=>?_) fun h5=>?_;rotate_left
 . have h5:lh r.path=false:=h5;refine⟨?_,trivial⟩;grind [iQ]
 have h5:lh r.path=true:=h5;refine⟨r.path,?_⟩
 repeat first|refine⟨rfl,?_⟩|refine⟨trivial,?_⟩
 refine⟨⟨by omega,h5⟩,?_⟩;refine aG (fun h6=>?_) fun h6=>?_;rotate_left
 . have h6:(!(!qU r.path))=false:=h6;rw[Bool.not_not]at h6;refine⟨?_,trivial⟩;grind [iQ]
 have h6:(!(!qU r.path))=true:=h6;rw[Bool.not_not]at h6;refine⟨r.aR,?_⟩
 repeat first|refine⟨rfl,?_⟩|refine⟨trivial,?_⟩
 (conv=>whnf)
 have hbl:(yg r.aR).length<=8:=by grind [yg]
 repeat' (first|exact trivial|((conv=>whnf);refine ah.2 ⟨?_,?_⟩)|((conv=>whnf);apply And.intro))
 all_goals grind [hZ,iQ])
end
end
section
section
variable [Inhabited aF]
def qY (p c:Bs):Bool:=decide (p.take c.length=c)&&(decide (p.length=c.length)||([47]:Bs).isSuffixOf c||decide (p[c.length]? =some 47))
def MV:aK:={Y:=Bs×Bs,pre:=fun y=>y.1.length<=100000/\y.2.length<=100000,args:=fun y=>[.str y.1, .str y.2],res:=fun y=> .bool (qY y.1 y.2)}
theorem Y7:CO GV MV:=bR (cfg:=fun(_:Bs×Bs)=>cm vA (fun _ _=>none)) bu (fun _=>rfl) (fun _=>xy) (n:=600) (by
 rintro⟨p,c⟩ ⟨h1,h2⟩;have h1:p.length<=100000:=h1;have h2:c.length<=100000:=h2;refine aG (fun h=>?_) fun h=>?_
 . have h:(p==c)=true:=h;have e:p=c:=BD.1 h;subst e;refine⟨?_,trivial⟩;grind [qY]
 have hne:p≠c:=by have h:(p==c)=false:=h;grind
 refine⟨(p,c),?_⟩
 repeat first|refine⟨rfl,?_⟩|refine⟨trivial,?_⟩
 refine⟨⟨h1,h2⟩,?_⟩;refine aG (fun h=>?_) fun h=>?_
 . have h:decide (p.take c.length=c)=false:=by have h:(!decide (p.take c.length=c))=true:=h;grind
   refine⟨?_,trivial⟩;grind [qY]
 have h:decide (p.take c.length=c)=true:=by have h:(!decide (p.take c.length=c))=false:=h;grind
 have hlt:c.length<p.length:=by
   rw[Aa]at h;grind
 refine⟨(c,[47]),?_⟩
 repeat first|refine⟨rfl,?_⟩|refine⟨trivial,?_⟩
 refine⟨⟨by grind,by grind⟩,?_⟩;have hnl:decide (p.length=c.length)=false:=A5 (by omega);refine aG (fun s=>?_) fun s=>?_
 . have s:([47]:Bs).isSuffixOf c=true:=s;refine⟨?_,trivial⟩;grind [qY]
 . have s:([47]:Bs).isSuffixOf c=false:=s
   (conv=>whnf)
   refine az.2 ⟨p[c.length],by grind,?_⟩;refine⟨?_,trivial⟩;show(nB p[c.length]==47)=qY p c
   unfold qY;rw[h,s,hnl];rw[Ag hlt,Bq,DY,DY,AA,BD,Aa];exact⟨fun e=>by rw[pS (a:=p[c.length]) (b:=47) (by rw[e];rfl)],fun e=>by rw[Eh e];rfl⟩)
end
end
section
theorem VX {s:Bs} (h:dQ s=true):s.length<=256:=by
 grind [dQ]
def rh (h d:Bs):Bool:=gP h&&gP d&&(decide (h=d)||(dQ h&&(46::d:Bs).isSuffixOf h))
section
variable [Inhabited aF]
theorem TN {s:Bs} (h:gy s=true):dQ s=false:=by
 grind [gy,Cr,Jp]
def NI:aK:={Y:=Bs,pre:=fun y=>y.length<=100000,args:=fun y=>[.str y],res:=fun y=> .bool (gP y)}
theorem qzf:CO vW NI:=bR (cfg:=fun(_:Bs)=>cm vA (fun _ _=>none)) bu (fun _=>rfl) (fun _=>xy) (n:=600) (by
 intro (s:Bs) (hs:s.length<=100000);refine⟨s,?_⟩
 repeat first|refine⟨rfl,?_⟩|refine⟨trivial,?_⟩
 refine⟨hs,?_⟩;refine aG (fun h=>?_) fun h=>?_
 . have h:dQ s=true:=h;have hl:=VX h;refine⟨?_,trivial⟩;grind [gP,ed]
 have h:dQ s=false:=h;refine⟨s,?_⟩
 repeat first|refine⟨rfl,?_⟩|refine⟨trivial,?_⟩
 refine⟨hs,?_⟩;refine aG (fun a=>?_) fun a=>?_
 . have a:gy s=true:=a;refine⟨?_,trivial⟩;grind [gP]
 . have a:gy s=false:=a;refine⟨?_,trivial⟩;grind [gP])
noncomputable def F1 (f:FuncId):Option aK:=bif Nat.beq f vW then some NI else bif Nat.beq f GV then some MV else vA f
theorem Kz:∀f C,F1 f=some C->CO f C:=bM qzf (bM Y7 xy)
def MT:aK:={Y:=Bs×Bs,pre:=fun y=>y.1.length<=100000/\y.2.length<=100000,args:=fun y=>[.str y.1, .str y.2],res:=fun y=> .bool (rh y.1 y.2)}
theorem K7 {h:Bs} (hc:gP h=true):(!gy h)=dQ h:=by
 grind [gP,TN]
theorem X2:CO GS MT:=bR (cfg:=fun(_:Bs×Bs)=>cm F1 (fun _ _=>none)) bu (fun _=>rfl) (fun _=>Kz) (n:=600) (by
 rintro⟨h,d⟩ ⟨h1,h2⟩;have h1:h.length<=100000:=h1;have h2:d.length<=100000:=h2;refine⟨h,?_⟩
 repeat first|refine⟨rfl,?_⟩|refine⟨trivial,?_⟩
 refine⟨h1,?_⟩;refine aG (fun a=>?_) fun a=>?_
 . have a:(!gP h)=true:=a;have a:gP h=false:=by grind
   refine⟨?_,trivial⟩;grind [rh]
 have a:(!gP h)=false:=a;have a:gP h=true:=by grind
 refine⟨d,?_⟩
 repeat first|refine⟨rfl,?_⟩|refine⟨trivial,?_⟩
 refine⟨h2,?_⟩;refine aG (fun b=>?_) fun b=>?_
 . have b:(!gP d)=true:=b;have b:gP d=false:=by grind
   refine⟨?_,trivial⟩;grind [rh]
 have b:(!gP d)=false:=b;have b:gP d=true:=by grind
 refine aG (fun e=>?_) fun e=>?_
 . have e:(h==d)=true:=e;refine⟨?_,trivial⟩;grind [rh]
 have e:(h==d)=false:=e;have e:decide (h=d)=false:=A5 (De.1 e);refine⟨h,?_⟩
 repeat first|refine⟨rfl,?_⟩|refine⟨trivial,?_⟩
 refine⟨h1,?_⟩;refine aG (fun n=>?_) fun n=>?_
 . have n:(!gy h)=true:=n;rw[K7 a]at n;have hd:(46::d:Bs).length<=1000000:=by grind
   (conv=>whnf)
   refine ah.2 ⟨by grind [Nat.ble_eq],?_⟩;refine⟨(h,46::d),?_⟩
   repeat first|refine⟨rfl,?_⟩|refine⟨trivial,?_⟩
   refine⟨⟨by grind,hd⟩,?_⟩;refine⟨?_,trivial⟩;grind [rh]
 . have n:(!gy h)=false:=n;rw[K7 a]at n;refine⟨?_,trivial⟩;grind [rh])
end
end
section
def qw (x:ab):Prop:=x.key.domain.length<=100000/\x.key.path.length<=100000
def lE (x:ab) (r:bG) (now:Int):Bool:=(decide (r.host=x.key.domain)||(!x.aa.aH&&rh r.host x.key.domain))&& !iY x.aa now&&qY r.path x.key.path&&(!x.aa.aR||r.aR)&&(!x.aa.aI|| !r.iN)
section
variable [Inhabited aF]
noncomputable def Nx (f:FuncId):Option aK:=bif Nat.beq f GS then some MT else bif Nat.beq f pz then some yC else F1 f
theorem Ws:∀f C,Nx f=some C->CO f C:=bM X2 (bM Mz Kz)
def MR:aK:={Y:=ab×bG×Int,pre:=fun y=>qw y.1/\lB y.2.1,args:=fun y=>[.agg y.1.enc, .agg y.2.1.enc,i64 y.2.2],res:=fun y=> .bool (lE y.1 y.2.1 y.2.2)}
theorem X0:CO Hw MR:=bR (cfg:=fun(_:ab×bG×Int)=>cm Nx (fun _ _=>none)) bu (fun _=>rfl) (fun _=>Ws) (n:=900) (by
 rintro⟨⟨⟨kn,kd,kp⟩,⟨v,ho,se,ht,pe,ex,cr,ac⟩⟩,⟨H,P,s,sc⟩,now⟩ ⟨⟨h1,h2⟩,⟨h3,h4⟩⟩;have h1:kd.length<=100000:=h1;have h2:kp.length<=100000:=h2;have h3:H.length<=5000:=h3;have h4:P.length<=5000:=h4
 (conv=>whnf)
 repeat' (first
  |exact trivial
  |((conv=>whnf);refine aG (fun _=>?_) fun _=>?_)
  |((conv=>whnf);refine⟨((H,kd):Bs×Bs),⟨rfl,⟨rfl,⟨⟨by show H.length<=100000;omega,h1⟩,?_⟩⟩⟩⟩)
  |((conv=>whnf);refine⟨((P,kp):Bs×Bs),⟨rfl,⟨rfl,⟨⟨by show P.length<=100000;omega,h2⟩,?_⟩⟩⟩⟩)
  |((conv=>whnf);refine⟨((⟨v,ho,se,ht,pe,ex,cr,ac⟩,now):db×Int),?_⟩;repeat first|refine⟨rfl,?_⟩|refine⟨trivial,?_⟩)
  |((conv=>whnf);refine And.intro ?_ trivial))
 all_goals grind [lE])
end
end
end Go.Proofs
namespace Go.Sym
section
variable {α:Type} (le:α->α->Prop)
def Ord (f:Nat->α) (a b:Nat):Prop:=∀i j,a<=i->i<=j->j<b->le (f i) (f j)
variable {le}
theorem Ord.congr {f g:Nat->α} {a b:Nat} (h:Ord le f a b) (e:∀i,a<=i->i<b->g i=f i):Ord le g a b:=fun i j h1 h2 h3=>by rw[e i h1 (by omega),e j (by omega) h3];exact h i j h1 h2 h3
theorem Ord.join {f:Nat->α} {a m b:Nat} (h1:Ord le f a m) (h2:Ord le f m b) (hc:∀i j,a<=i->i<m->m<=j->j<b->le (f i) (f j)):Ord le f a b:=fun i j k1 k2 k3=>by
 by_cases p:j<m
 . exact h1 i j k1 k2 p
 . by_cases q:i<m
   . grind
   . exact h2 i j (by omega) k2 k3
def fI (f:Nat->α) (s m e:Nat) (i:Nat):α:=if i<s then f i else if i<s+(e - m)then f (m+(i - s))else if i<e then f (s+(i - (s+(e - m))))else f i
theorem Nb (tr:∀x y z,le x y->le y z->le x z) {f:Nat->α} {a m b s e bW:Nat} (h1:Ord le f a m) (h2:Ord le f m b) (has:a<=s) (hsm:s<=m) (hme:m<=e) (heb:e<=b) (hse:s+(e - m)=bW)
   (hL:a<s->e<b->le (f (s - 1)) (f e)) (hR:s<m->m<e->le (f (e - 1)) (f s)):
   Ord le (fI f s m e) a s/\Ord le (fI f s m e) s bW/\Ord le (fI f s m e) bW e/\Ord le (fI f s m e) e b/\ ∀i j,a<=i->i<bW->bW<=j->j<b->le (fI f s m e i) (fI f s m e j):=by
 have r1:∀i,i<s->fI f s m e i=f i:=fun i h=>by grind [fI]
 have r2:∀i,s<=i->i<bW->fI f s m e i=f (m+(i - s)):=fun i h h'=>by grind [fI]
 have r3:∀i,bW<=i->i<e->fI f s m e i=f (s+(i - bW)):=fun i h h'=>by grind [fI]
 have r4:∀i,e<=i->fI f s m e i=f i:=fun i h=>by unfold fI;rw[An (by omega),An (by omega),An (by omega)]
 refine⟨fun i j k1 k2 k3=>?_,fun i j k1 k2 k3=>?_,fun i j k1 k2 k3=>?_,fun i j k1 k2 k3=>?_,fun i j k1 k2 k3 k4=>?_⟩
 . rw[r1 i (by omega),r1 j k3];exact h1 i j k1 k2 (by omega)
 . rw[r2 i k1 (by omega),r2 j (by omega) k3];exact h2 _ _ (by omega) (by omega) (by omega)
 . rw[r3 i k1 (by omega),r3 j (by omega) k3];exact h1 _ _ (by omega) (by omega) (by omega)
 . rw[r4 i k1,r4 j (by omega)];exact h2 i j (by omega) k2 k3
 . by_cases p:i<s
   . rw[r1 i p];by_cases q:j<e
     . rw[r3 j k3 q];exact h1 _ _ k1 (by omega) (by omega)
     . rw[r4 j (by omega)];exact tr _ _ _ (h1 i (s - 1) k1 (by omega) (by omega)) (tr _ _ _ (hL (by omega) (by omega)) (h2 e j (by omega) (by omega) k4))
   . rw[r2 i (by omega) k2];by_cases q:j<e
     . rw[r3 j k3 q];exact tr _ _ _ (h2 (m+(i - s)) (e - 1) (by omega) (by omega) (by omega)) (tr _ _ _ (hR (by omega) (by omega)) (h1 s _ has (by omega) (by omega)))
     . rw[r4 j (by omega)];exact h2 _ _ (by omega) (by omega) k4
def lT (f:Nat->α) (x y n i:Nat):α:=if x<=i/\i<x+n then f (y+(i - x))else if y<=i/\i<y+n then f (x+(i - y))else f i
theorem WW (f:Nat->α) {i j m:Nat} (hm:i<=m) (h:j<i) (h0:0<j):fI f (m - i) m (m+j)=fI (lT f (m - i) m j) (m - (i - j)) m (m+j):=by
 funext k
 grind [fI,lT]
theorem WV (f:Nat->α) {i j m:Nat} (hm:i<=m) (h:i<j) (h0:0<i):fI f (m - i) m (m+j)=fI (lT f (m - i) (m+j - i) i) (m - i) m (m+(j - i)):=by
 funext k
 grind [fI,lT]
theorem WX (f:Nat->α) {i m:Nat} (hm:i<=m):fI f (m - i) m (m+i)=lT f (m - i) m i:=by
 funext k
 grind [fI,lT]
def lA (f:Nat->α) (a i k:Nat):α:=if a<=k/\k+1<i then f (k+1)else if k+1=i/\a<=k then f a else f k
theorem Vl {le:α->α->Prop} (rf:∀x,le x x) (tr:∀x y z,le x y->le y z->le x z) {f:Nat->α} {a b i:Nat} (h2:Ord le f (a+1) b) (hi:a+1<=i) (hib:i<=b)
   (hl:a+1<i->le (f (i - 1)) (f a)) (hr:i<b->le (f a) (f i)):Ord le (lA f a i) a b:=by
 have r1:∀k,a<=k->k+1<i->lA f a i k=f (k+1):=fun k h h'=>by grind [lA]
 have r2:lA f a i (i - 1)=f a:=by grind [lA]
 have r3:∀k,i<=k->lA f a i k=f k:=fun k h=>by grind [lA]
 intro p q h h' h3;by_cases p1:p+1<i
 . rw[r1 p h p1];by_cases q1:q+1<i
   . rw[r1 q (by omega) q1];exact h2 _ _ (by omega) (by omega) (by omega)
   . by_cases q2:q=i - 1
     . subst q2;rw[r2];exact tr _ _ _ (h2 (p+1) (i - 1) (by omega) (by omega) (by omega)) (hl (by omega))
     . rw[r3 q (by omega)];exact h2 _ _ (by omega) (by omega) h3
 . by_cases p2:p=i - 1
   . subst p2;rw[r2];by_cases q2:q=i - 1
     . grind
     . rw[r3 q (by omega)];exact tr _ _ _ (hr (by omega)) (h2 i q (by omega) (by omega) h3)
   . rw[r3 p (by omega),r3 q (by omega)];exact h2 _ _ (by omega) h' h3
def lz (f:Nat->α) (i m k:Nat):α:=if i<k/\k<=m then f (k - 1)else if k=i then f m else f k
theorem Vk {le:α->α->Prop} (rf:∀x,le x x) (tr:∀x y z,le x y->le y z->le x z) {f:Nat->α} {a m i:Nat} (h1:Ord le f a m) (hi:a<=i) (him:i<=m)
   (hl:a<i->le (f (i - 1)) (f m)) (hr:i<m->le (f m) (f i)):Ord le (lz f i m) a (m+1):=by
 have r1:∀k,i<k->k<=m->lz f i m k=f (k - 1):=fun k h h'=>by grind [lz]
 have r2:lz f i m i=f m:=by grind [lz]
 have r3:∀k,k<i->lz f i m k=f k:=fun k h=>by grind [lz]
 intro p q h h' h3;by_cases p1:p<i
 . rw[r3 p p1];by_cases q1:q<i
   . rw[r3 q q1];exact h1 _ _ h h' (by omega)
   . by_cases q2:q=i
     . subst q2;rw[r2];exact tr _ _ _ (h1 p (q - 1) h (by omega) (by omega)) (hl (by omega))
     . rw[r1 q (by omega) (by omega)];exact h1 _ _ h (by omega) (by omega)
 . by_cases p2:p=i
   . subst p2;rw[r2];by_cases q2:q=p
     . grind
     . rw[r1 q (by omega) (by omega)];exact tr _ _ _ (hr (by omega)) (h1 p (q - 1) hi (by omega) (by omega))
   . rw[r1 p (by omega) (by omega),r1 q (by omega) (by omega)];exact h1 _ _ (by omega) (by omega) (by omega)
end
end Go.Sym
namespace Go.Sym
open Go.Sort
section
variable {α:Type} [Inhabited α] {lt:α->α->Bool}
def kP (lt:α->α->Bool) (x y:α):Prop:=lt y x=false
theorem Cq (h:SWO lt) (x:α):kP lt x x:=h.irrefl x
theorem wQ (h:SWO lt) (x y z:α) (h1:kP lt x y) (h2:kP lt y z):kP lt x z:=h.ntrans _ _ _ h2 h1
theorem xJ (h:SWO lt) {x y:α} (h1:lt x y=true):kP lt x y:=by
 unfold kP
 cases hh:lt y x with
 |false=>rfl
 |true=>have:=h.trans _ _ _ h1 hh;rw[h.irrefl]at this;grind
theorem kG (h:SWO lt) {d:Array α} {a b:Nat}:SortedIn lt a b d↔Ord (kP lt) (fun i=>d[i]!) a b:=by
 constructor
 . intro hs i j h1 h2 h3;by_cases e:i=j
   . grind [Cq]
   . exact hs i j h1 (by omega) h3
 . intro hs i j h1 h2 h3;exact hs i j h1 (by omega) h3
theorem CJ (f:Nat->α) {s m e:Nat} (h1:s<=m) (h2:m<=e) (h:¬(s<m/\m<e)):fI f s m e=f:=by
 funext k
 grind [fI]
theorem qS (hS:SWO lt) {d d1:Array α} {a m b s e bW:Nat} (h1:SortedIn lt a m d) (h2:SortedIn lt m b d) (has:a<=s) (hsm:s<=m) (hme:m<=e) (heb:e<=b) (hse:s+(e - m)=bW)
  (hL:a<s->e<b->lt d[e]! d[s - 1]! =false) (hR:s<m->m<e->lt d[e - 1]! d[s]! =true) (r1:∀i,d1[i]! =fI (fun i=>d[i]!) s m e i):
  SortedIn lt a s d1/\SortedIn lt s bW d1/\SortedIn lt bW e d1/\SortedIn lt e b d1:=by
 have hf:(fun i=>d1[i]!)=fI (fun i=>d[i]!) s m e:=funext r1;obtain⟨o1,o2,o3,o4,_⟩:=Nb (wQ hS) ((kG hS).1 h1) ((kG hS).1 h2) has hsm hme heb hse hL (fun x y=>xJ hS (hR x y));rw[<-hf]at o1 o2 o3 o4;grind [kG]
theorem ln {d d':Array α} {a b x y:Nat} (hp:PermIn a b d d') (hx:b<=x) (h:SortedIn lt x y d):SortedIn lt x y d':=fun i j h1 h2 h3=>by
 rw[hp.2.1 i (.inr (by omega)),hp.2.1 j (.inr (by omega))];exact h i j h1 h2 h3
theorem pK {d:Array α} {a s b:Nat} (h1:SortedIn lt a s d) (h2:SortedIn lt s b d) (hs:a<=s) (hb:s<=b) (h:¬(a<s/\s<b)):SortedIn lt a b d:=by
 grind
theorem merged (hS:SWO lt) {d d1 d2 d3:Array α} {a m b s e bW:Nat} (hb:b<=d.size) (h1:SortedIn lt a m d) (h2:SortedIn lt m b d) (has:a<=s) (hsm:s<=m) (hme:m<=e) (heb:e<=b) (hse:s+(e - m)=bW)
  (hL:a<s->e<b->lt d[e]! d[s - 1]! =false) (hR:s<m->m<e->lt d[e - 1]! d[s]! =true)
  (p1:PermIn a b d d1) (r1:∀i,d1[i]! =fI (fun i=>d[i]!) s m e i) (ham:a<=bW) (hmb:bW<=b)
  (p2:PermIn a bW d1 d2) (q2:(SortedIn lt a s d1->SortedIn lt s bW d1->SortedIn lt a bW d2)) (p3:PermIn bW b d2 d3) (q3:SortedIn lt bW e d2->SortedIn lt e b d2->SortedIn lt bW b d3):
  PermIn a b d d3/\SortedIn lt a b d3:=by
 have hf:(fun i=>d1[i]!)=fI (fun i=>d[i]!) s m e:=funext r1;obtain⟨o1,o2,o3,o4,o5⟩:=Nb (wQ hS) ((kG hS).1 h1) ((kG hS).1 h2) has hsm hme heb hse hL (fun x y=>xJ hS (hR x y));rw[<-hf]at o1 o2 o3 o4 o5;have s2:=q2 ((kG hS).2 o1) ((kG hS).2 o2);have hz1:d1.size=d.size:=p1.1;have hz2:d2.size=d1.size:=p2.1;have hz3:d3.size=d2.size:=p3.1;have e2:∀i,bW<=i->d2[i]! =d1[i]! :=fun i h=>p2.2.1 i (.inr h)
 have o3':SortedIn lt bW e d2:=(kG hS).2 (o3.congr fun i h _=>e2 i h);have o4':SortedIn lt e b d2:=(kG hS).2 (o4.congr fun i h _=>e2 i (by omega));have s3:=q3 o3' o4';have e3:∀i,i<bW->d3[i]! =d2[i]! :=fun i h=>p3.2.1 i (.inl h)
 refine⟨permIn_trans _ _ _ _ _ p1 (permIn_trans _ _ _ _ _ (permIn_mono _ _ _ _ a b (Ad _) hmb (by omega) p2) (permIn_mono _ _ _ _ a b ham (Ad _) (by omega) p3)),?_⟩;refine(kG hS).2 (Ord.join (m:=bW) (((kG hS).1 s2).congr fun i _ h=>e3 i h) ((kG hS).1 s3) ?_);intro i j k1 k2 k3 k4;show lt d3[j]! d3[i]! =false
 rw[e3 i k2];have hl:∀y,(∀i,a<=i->i<bW->lt y d1[i]! =false)->∀i,a<=i->i<bW->lt y d2[i]! =false:=fun y hy=>permIn_all d1 d2 a bW (fun x=>lt y x=false) (by omega) p2 hy
 have hr:∀x,(∀j,bW<=j->j<b->lt d2[j]! x=false)->∀j,bW<=j->j<b->lt d3[j]! x=false:=fun x hx=>permIn_all d2 d3 bW b (fun y=>lt y x=false) (by omega) p3 hx
 refine hr _ (fun j j1 j2=>?_) j k3 k4;rw[e2 j j1];exact hl _ (fun i i1 i2=>o5 i j i1 i2 j1 j2) i k1 k2
theorem Fe (d:Array α) {i j:Nat} (hi:i<d.size) (hj:j<d.size) (k:Nat):(swp d i j)[k]! =if k=j then d[i]! else if k=i then d[j]! else d[k]! :=swp_get d hi hj k
theorem T5 (d dk:Array α) {a k:Nat} (hz:dk.size=d.size) (hak:a<=k) (hk:k+1<d.size) (h:∀i,dk[i]! =lA (fun i=>d[i]!) a (k+1) i):∀i,(swp dk k (k+1))[i]! =lA (fun i=>d[i]!) a (k+2) i:=by
 grind [Fe,lA]
theorem T3 (d dk:Array α) {m k:Nat} (hz:dk.size=d.size) (hk1:k+1<=m) (hk:m<d.size) (h:∀i,dk[i]! =lz (fun i=>d[i]!) (k+1) m i):∀i,(swp dk (k+1) k)[i]! =lz (fun i=>d[i]!) k m i:=by
 grind [Fe,lz]
theorem T4 (f:Nat->α) (a i:Nat):lA f a (a+1) i=f i:=by
 grind [lA]
theorem TZ (f:Nat->α) (m i:Nat):lz f m m i=f i:=by
 grind [lz]
theorem UT (hS:SWO lt) {d d':Array α} {a b i:Nat} (h2:SortedIn lt (a+1) b d) (hi:a+1<=i) (hib:i<=b) (hl:a+1<i->lt d[i - 1]! d[a]! =true) (hr:i<b->lt d[i]! d[a]! =false) (e:∀k,d'[k]! =lA (fun i=>d[i]!) a i k):SortedIn lt a b d':=
 (kG hS).2 ((Vl (Cq hS) (wQ hS) ((kG hS).1 h2) hi hib (fun h=>xJ hS (hl h)) hr).congr fun k _ _=>e k)
theorem US (hS:SWO lt) {d d':Array α} {a m i:Nat} (h1:SortedIn lt a m d) (hi:a<=i) (him:i<=m) (hl:a<i->lt d[m]! d[i - 1]! =false) (hr:i<m->lt d[m]! d[i]! =true) (e:∀k,d'[k]! =lz (fun i=>d[i]!) i m k):SortedIn lt a (m+1) d':=
 (kG hS).2 ((Vk (Cq hS) (wQ hS) ((kG hS).1 h1) hi him hl (fun h=>xJ hS (hr h))).congr fun k _ _=>e k)
theorem TA (d dk:Array α) {x y i:Nat} (hz:dk.size=d.size) (hxy:x+i<y) (hy:y+i<d.size) (h:∀k,dk[k]! =lT (fun i=>d[i]!) x y i k):∀k,(swp dk (x+i) (y+i))[k]! =lT (fun i=>d[i]!) x y (i+1) k:=by
 grind [Fe,lT]
theorem TB (f:Nat->α) (x y k:Nat):lT f x y 0 k=f k:=by
 grind [lT]
theorem iP {l l':List α} (hp:l.Perm l') (hs:∀x∈l,∀y∈l,lt x y=false->lt y x=false->x=y) (h1:l.Pairwise fun x y=>lt y x=false) (h2:l'.Pairwise fun x y=>lt y x=false):l=l':=by
 grind [List.Perm.eq_of_pairwise]
end
end Go.Sym
namespace Go.Proofs
open Go Go.Am Go.RowKit Go.Sy Go.Sort
section
def jX (a b:ab):Int:=
 let n:=cF (Int.ofNat b.key.path.length) (Int.ofNat a.key.path.length)
 if n≠0 then n else let c:=cF a.aa.aj b.aa.aj;if c≠0 then c else lP a.key b.key
def gY (a b:ab):Bool:=decide (jX a b<0)
theorem Cv (a b:ab):gY a b=if a.key.path.length≠b.key.path.length then decide (b.key.path.length<a.key.path.length)else if a.aa.aj≠b.aa.aj then decide (a.aa.aj<b.aa.aj)else fj a.key b.key:=by
 unfold gY jX;have e1:=CA (Int.ofNat b.key.path.length) (Int.ofNat a.key.path.length);have e2:=CA a.aa.aj b.aa.aj;have e3:=C3 (Int.ofNat b.key.path.length) (Int.ofNat a.key.path.length);have e4:=C3 a.aa.aj b.aa.aj;generalize cF (Int.ofNat b.key.path.length) (Int.ofNat a.key.path.length)=n at e1 e3⊢
 generalize cF a.aa.aj b.aa.aj=m at e2 e4⊢
 simp only[Ah]at e1 e3;by_cases h1:a.key.path.length=b.key.path.length
 . have h5:n=0:=e1.2 (by omega);simp only[h1,h5,DU,D5,Bh];by_cases h2:a.aa.aj=b.aa.aj
   . have h6:m=0:=e2.2 h2;simp only[h2,h6,D5,Bh];rfl
   grind
 grind
theorem wL (a b:ab):gY a b=true↔b.key.path.length<a.key.path.length\/(a.key.path.length=b.key.path.length/\(a.aa.aj<b.aa.aj\/(a.aa.aj=b.aa.aj/\fj a.key b.key=true))):=by
 rw[Cv];grind
theorem S9 {a b c:aD} (h1:fj a b=false) (h2:fj b c=false):fj a c=false:=by
 rw[Ao];grind [sB,oL]
theorem fh:SWO (Go.Proofs.ltOf jX) where
 irrefl x:=by
  show gY x x=false
  rw[Ao,DU,wL];grind [qA]
 trans x y z h1 h2:=by
  have h1:gY x y=true:=h1;have h2:gY y z=true:=h2;show gY x z=true
  rw[wL]at*;grind [oL]
 ntrans x y z h1 h2:=by
  have h1:gY x y=false:=h1;have h2:gY y z=false:=h2;show gY x z=false
  rw[Ao,DU,wL]at*;have k:fj x.key y.key=false->fj y.key z.key=false->fj x.key z.key=false:=S9;grind
theorem UX {x y:ab} (h1:gY x y=false) (h2:gY y x=false):x.key=y.key:=by
 rw[Ao,DU,wL]at*;have e1:x.key.path.length=y.key.path.length:=by
  omega
 have e2:x.aa.aj=y.aa.aj:=by
  omega
 grind [sB]
def fY (x:ab) (L:List ab):Nat->Nat
 |0=>0
 |k+1=>if gY x ((L[k]?).getD nJ)then fY x L k else k+1
theorem L4 (x:ab) (L:List ab):∀k,fY x L k<=k
 |0=>Ad _
 |k+1=>by
  unfold fY;split
  . exact Ar (L4 x L k) (Ee k)
  . exact Ad _
def oJ (L:List ab) (x:ab):Nat:=fY x L L.length
def gX (L:List ab) (x:ab):List ab:=L.take (oJ L x)++x::L.drop (oJ L x)
def fD (l:List ab):List ab:=l.foldl gX []
theorem Ui (L:List ab) (x:ab):(gX L x).Perm (x::L):=by
 grind [gX,List.take_append_drop]
theorem zY:∀(l a:List ab),(l.foldl gX a).Perm (l++a)
 |[],a=>En _
 |x::l,a=>by
  rw[Bb];refine(zY l _).trans ?_;exact(ED l (Ui a x)).trans List.perm_middle
theorem Jg (x:ab) (L:List ab):∀(k j:Nat),fY x L k<=j->j<k->gY x ((L[j]?).getD nJ)=true
 |0,j,_,h=>absurd h (A3 _)
 |k+1,j,h1,h2=>by
  unfold fY at h1;split at h1
  . rename_i hb;by_cases e:j=k
    . subst e;exact hb
    . exact Jg x L k j h1 (by omega)
  . omega
theorem JM (x:ab) (L:List ab):∀(k:Nat),fY x L k≠0->gY x ((L[fY x L k - 1]?).getD nJ)=false
 |0,h=>absurd rfl h
 |k+1,h=>by
  unfold fY at h⊢;split
  . rename_i hb;rw[Al hb]at h;exact JM x L k h
  . rename_i hb;simpa using hb
theorem SC {L:List ab} {x:ab} (h:L.Pairwise fun a b=>gY b a=false):(gX L x).Pairwise fun a b=>gY b a=false:=by
 have hle:=L4 x L L.length;have hlt:∀{a b:ab},gY a b=true->gY b a=false:=fun{a b} h=>by
   rw[Ao];intro h2;have:=fh.trans a b a h h2;rw[fh.irrefl]at this;grind
 unfold gX oJ;rw[Ds];refine⟨h.sublist (List.take_sublist _ _),Bg.2 ⟨fun y hy=>?_,h.sublist (List.drop_sublist _ _)⟩,fun a ha b hb=>?_⟩
 . obtain⟨j,hj,rfl⟩:=AG hy;rw[BM]at hj;rw[BR];have:=Jg x L L.length (fY x L L.length+j) (by omega) (by omega);rw[Ag (by omega)]at this;grind
 . obtain⟨i,hi,rfl⟩:=AG ha;rw[DH]at hi;rw[D7];have hx:gY x (L[i]'(by omega))=false:=by
     have hs:=JM x L L.length (by omega);rw[Ag (by omega),Bi]at hs;by_cases e:i=fY x L L.length - 1
     . grind
     . have:=AK.1 h i (fY x L L.length - 1) (by omega) (by omega) (by omega);exact fh.ntrans _ _ _ hs this
   rcases Ap.1 hb with rfl|hb
   . exact hx
   grind [List.getElem_of_mem,List.pairwise_iff_getElem]
theorem IA:∀(l a:List ab),(a.Pairwise fun a b=>gY b a=false)->(l.foldl gX a).Pairwise fun a b=>gY b a=false
 |[],_,h=>h
 |_::l,_,h=>IA l _ (SC h)
section
variable [Inhabited aF]
def E6:aK:={Y:=ab×ab,pre:=fun _=>True,args:=fun y=>[.agg y.1.enc, .agg y.2.enc],res:=fun y=>i64 (jX y.1 y.2)}
theorem XB:CO HA E6:=bR (cfg:=fun(_:ab×ab)=>cp vx (fun _ _=>none)) bu (fun _=>rfl) (fun _=>C9) (n:=600) (by
 rintro⟨a,b⟩ -;refine⟨(Int.ofNat b.key.path.length,Int.ofNat a.key.path.length),?_⟩
 repeat first|refine⟨rfl,?_⟩|refine⟨trivial,?_⟩
 refine⟨(a.aa.aj,b.aa.aj),?_⟩
 repeat first|refine⟨rfl,?_⟩|refine⟨trivial,?_⟩
 refine⟨(a.key,b.key),?_⟩
 repeat first|refine⟨rfl,?_⟩|refine⟨trivial,?_⟩
 have key:∀v:Int,v=jX a b->ax v (jX a b):=fun v h=>h
 (conv=>whnf)
 refine aG (fun h=>?_) fun h=>?_
 . (conv=>whnf)
   refine⟨?_,trivial⟩;grind [jX]
 (conv=>whnf)
 have h:(!(cF (Int.ofNat b.key.path.length) (Int.ofNat a.key.path.length)==0))=false:=h;have h:cF (Int.ofNat b.key.path.length) (Int.ofNat a.key.path.length)=0:=by grind
 refine aG (fun h2=>?_) fun h2=>?_
 . (conv=>whnf)
   refine⟨?_,trivial⟩;grind [jX]
 (conv=>whnf)
 have h2:(!(cF a.aa.aj b.aa.aj==0))=false:=h2;have h2:cF a.aa.aj b.aa.aj=0:=by grind
 have hk:jX a b=lP a.key b.key:=by
   grind [jX]
 refine aG (fun h3=>?_) fun h3=>?_
 . (conv=>whnf)
   exact⟨key _ hk.symm,trivial⟩
 . (conv=>whnf)
   have h3:(!(lP a.key b.key==0))=false:=h3;have h3:lP a.key b.key=0:=by grind
   exact⟨key _ (by rw[hk,h3]),trivial⟩)
theorem Vm:CO OM E6:=bR (cfg:=fun(_:ab×ab)=>cp (fun f=>bif Nat.beq f HA then some E6 else bU f) (fun _ _=>none)) bu (fun _=>rfl) (fun _=>bM XB gn) (n:=400) (by
 rintro⟨a,b⟩ -;refine⟨(a,b),?_⟩
 repeat first|refine⟨rfl,?_⟩|refine⟨trivial,?_⟩
 repeat' first|exact trivial|exact rfl|refine aG (fun _=>?_) fun _=>?_|apply And.intro)
end
end
end Go.Proofs
namespace Go.Proofs
open Go Go.Am Go.RowKit Go.Sy
section
abbrev dL (s:Bs):Value:= .string ⟨s.toArray⟩
def ew (x:ab):List Value:=[dL x.key.name,dL x.key.domain,dL x.key.path,dL x.aa.value, .bool x.aa.aH, .bool x.aa.aR, .bool x.aa.aI, .bool x.aa.persistent, .int .i64 x.aa.aW, .int .i64 x.aa.aj, .int .i64 x.aa.access]
theorem UM (x:ab):(ew x).length=11:=rfl
def rowAt (w:World) (b off:Nat) (l:List ab):Prop:=∀(i:Nat) x (j:Nat) v,l[i]? =some x->(ew x)[j]? =some v->w.cell? ⟨b,off+i*11+j,none⟩=some v
theorem rowAt.range {w:World} {b off:Nat} {l:List ab} (h:rowAt w b off l) {i:Nat} {x:ab} (hx:l[i]? =some x):w.rangeAt b (off+i*11) (ew x):=fun j v hv=>h i x j v hx hv
theorem rowAt.below {w w':World} {b off:Nat} {l:List ab} (h:rowAt w b off l) {B:Nat} (hb:Below B w w') (hlt:b<B):rowAt w' b off l:=fun i x j v hx hv=>by
 have h1:=h i x j v hx hv;unfold World.cell? at h1⊢;rw[hb.block b hlt];exact h1
theorem qR {w:World} {p:Nat->Prop} {a:Bool} {s:Bs} {v:Value} (h:Rd w p a (.str s) v):v=dL s:=by cases h;rfl
theorem Fa {w:World} {p:Nat->Prop} {a:Bool} {b:Bool} {v:Value} (h:Rd w p a (.bool b) v):v= .bool b:=by cases h;rfl
theorem yi {w:World} {p:Nat->Prop} {a:Bool} {k:IntKind} {n:Int} {v:Value} (h:Rd w p a (.int k n) v):v= .int k n:=by cases h;rfl
theorem L8 {w:World} {p:Nat->Prop} {a:Bool} {x:ab} {j:Nat} {s:SV} {v u:Value} (hs:x.enc[j]? =some s) (hv:(ew x)[j]? =some v) (h:Rd w p a s u):u=v:=by
 unfold ab.enc at hs;unfold ew at hv;have hj:j<11:=(Ae.1 hv).1;match j,hj with
 |0,_|1,_|2,_|3,_=>cases hs;cases hv;exact qR h
 |4,_|5,_|6,_|7,_=>cases hs;cases hv;exact Fa h
 |8,_|9,_|10,_=>cases hs;cases hv;exact yi h
theorem LO {x:ab} {j:Nat} (h:j<11):∃s,x.enc[j]? =some s:=⟨_,Ag (by exact h)⟩
theorem CI {w:World} {p:Nat->Prop} {l:List ab} {v:Value} (h:Rd w p true (items l) v):
  (l=[]/\ ∃a c,v= .slice a 0 c)\/ ∃b off cap,v= .slice (some ⟨b,off,none⟩) l.length cap/\b<w.heap.size/\rowAt w b off l/\l.length<=cap/\ ∃arr e fz,w.heap[b]? =some (.cells arr e fz)/\off+l.length*11<=arr.size:=by
 unfold items at h
 cases h with
 |fu h0=>grind
 |bP _ h0 a c=>grind
 |bh b off cap arr e fz sz u hp hb hs hl hn hc h1 h2=>
  refine .inr ⟨b,off,cap,rfl,(Ab.1 hb).1,fun i x j v hx hv=>?_,hc,arr,e,fz,hb,?_⟩;rotate_left
  . cases hL:l with
    |nil=>grind
    |cons x l'=>
     have:sz=11:=(hn 0 x (by rw[hL];rfl)).symm;rw[<-hL];rw[<-this];exact hl
  have hj:j<11:=(Ae.1 hv).1;obtain⟨s,hs'⟩:=LO (x:=x) hj;have hsz:sz=11:=(hn i x hx).symm;grind [L8,World.cell?]
theorem Mr {w:World} {base:Nat} {e:TypeId} {v:Value} {l:List Bs} (h:w.ownsRow base e 1 v l.length (l.map dL)):Up w base (strs l) v:=by
 obtain⟨h1,⟨rfl,h0⟩|⟨g,cap,cur,rfl,hb,hg,hn,_,hcs,htk⟩⟩:=h
 . exact .fu h0
 . have hl:l.length<=cur.size:=by omega
   refine .bh g 0 cap cur e (0,0) 1 (fun i _=>dL (l[i]?.getD [])) hb hg (by omega) (by omega) (fun _ _ _=>rfl) hn (fun i x j s _ hs=>?_) (fun i x j s hx hs=>?_) (fun i x j s hx hs=>?_)
   . cases j with
     |zero=>cases hs;rfl
     |succ j=>cases hs
   . cases j with
     |zero=>
      have h2:=Aj (fun l=>l[i]?) htk;have hi:=(Ae.1 hx).1;grind
     |succ j=>cases hs
   . cases j with
     |zero=>cases hs;rw[hx];exact .str _
     |succ j=>cases hs
theorem ES {w:World} {n b off cap:Nat} {arr:Array Value} {e:TypeId} {fz:Nat×Nat} {l:List ab} (hp:n<=b) (hb:w.heap[b]? =some (.cells arr e fz)) (hc:l.length<=cap) (hl:off+l.length*11<=arr.size)
   (h:∀(i:Nat) x (j:Nat) v,l[i]? =some x->(ew x)[j]? =some v->arr[off+i*11+j]? =some v):Up w n (items l) (.slice (some ⟨b,off,none⟩) l.length cap):=by
 refine .bh b off cap arr e fz 11 (fun i j=>((l[i]?.map ew).getD [])[j]?.getD (.bool false)) hp hb (by omega) hl (fun _ _ _=>rfl) hc (fun i x j s hx hs=>?_) (fun i x j s hx hs=>?_) (fun i x j s hx hs=>?_)
 . have hj:j<11:=(Ae.1 hs).1;unfold ab.enc at hs;match j,hj with
   |0,_|1,_|2,_|3,_|4,_|5,_|6,_|7,_|8,_|9,_|10,_=>cases hs;rfl
 . have hj:j<11:=(Ae.1 hs).1;have hv:(ew x)[j]? =some ((ew x)[j]'hj):=Ag hj;rw[h i x j _ hx hv,hx];grind
 . have hj:j<11:=(Ae.1 hs).1;rw[hx];unfold ab.enc at hs;match j,hj with
   |0,_|1,_|2,_|3,_=>cases hs;exact .str _
   |4,_|5,_|6,_|7,_=>cases hs;exact .bool _
   |8,_|9,_|10,_=>cases hs;exact .int _ _
variable [Inhabited aF]
theorem UO {tab:bm} {w:World} {b off cap:Nat} {l:List ab} (hc:l.length<=cap) (hb:∃arr e fz,w.heap[b]? =some (.cells arr e fz)/\off+l.length*11<=arr.size) (h:rowAt w b off l):
  aO (bQ tab w).get (items l) (dK w.heap.size (.slice (some ⟨b,off,none⟩) l.length cap)):=by
 obtain⟨arr,e,fz,hb,hl⟩:=hb;refine xo hb (sz:=11) (by omega) (fun _ _=>rfl) hl rfl hc fun i x j s hx hs=>?_
 have hj:j<11:=(Ae.1 hs).1;have hv:(ew x)[j]? =some ((ew x)[j]'hj):=Ag hj;have h1:=h i x j _ hx hv;unfold World.cell? at h1;simp only[hb,DZ,Az,Bh]at h1;refine⟨_,h1,?_⟩;unfold ab.enc at hs;match j,hj with
 |0,_|1,_|2,_|3,_=>cases hs;exact .str _
 |4,_|5,_|6,_|7,_=>cases hs;exact .bool _
 |8,_|9,_|10,_=>cases hs;exact .int _ _
end
section
variable [Inhabited aF]
theorem Mx:∀a b:Bs,lt a b=decide (a<b)
 |[],[]=>by decide
 |[],b::l=>by simp[lt,Op.bytesLess]
 |a::l,[]=>by simp[lt,Op.bytesLess]
 |a::l,b::m=>by
  have:=Mx l m;rw[AA];grind [Op.bytesLess,List.cons_lt_cons_iff]
def SK {H:Type} (D:DataW H) (L:List Bs):Prop:=∃es,D= .map es/\(∀p∈es,∃x,p.1= .string x)/\(es.map fun p=>strOf p.1).Nodup/\ ∀x,x∈es.map (fun p=>strOf p.1)↔x∈L
theorem Ln {H:Type} {x p:Lit×DataW H}:∀{es:List (Lit×DataW H)},p∈DataW.insert x es↔p=x\/p∈es
 |[]=>by simp[DataW.insert]
 |y::r=>by
  unfold DataW.insert;split
  . simp
  . rw[Ap,Ln (es:=r),Ap];constructor
    . rintro(h|h|h)
      . exact .inr (.inl h)
      . exact .inl h
      . exact .inr (.inr h)
    . rintro(h|h|h)
      . exact .inr (.inl h)
      . exact .inl h
      . exact .inr (.inr h)
theorem iB {H:Type} {x:Lit×DataW H}:∀{es:List (Lit×DataW H)},(DataW.insert x es).Perm (x::es)
 |[]=>En _
 |y::r=>by
  unfold DataW.insert;split
  . exact En _
  . exact((iB (es:=r)).cons y).trans (List.Perm.swap x y r)
theorem SK.start {H:Type}:SK (.map []:DataW H) []:=⟨[],rfl,by simp,by simp,by simp⟩
theorem SK.put {H:Type} {D:DataW H} {L:List Bs} (h:SK D L) (k:Bs) (d:DataW H) {L':List Bs} (hL:∀x,x∈L'↔x=k\/x∈L):SK (D.put (.string k) d) L':=by
 obtain⟨es,rfl,h1,h2,h3⟩:=h;refine⟨_,rfl,fun p hp=>?_,?_,fun x=>?_⟩
 . grind [Ln]
 . have hp:=(iB (x:=(.string k,d)) (es:=es.filter fun p=> !p.1.sameKey (.string k))).map (fun p:Lit×DataW H=>strOf p.1);rw[hp.nodup_iff,AW,Du];refine⟨fun hm=>?_,Dz (List.filter_sublist.map _) h2⟩;obtain⟨p,hp,he⟩:=Aw.1 hm;obtain⟨hp1,hp2⟩:=As.1 hp;obtain⟨y,hy⟩:=h1 p hp1;rw[hy]at hp2 he;have he:y=k:=he;grind [Lit.sameKey]
 . rw[hL,<-h3,(iB.map (fun p:Lit×DataW H=>strOf p.1)).mem_iff,AW,Ap];constructor
   . rintro(h|h)
     . exact .inl h
     grind
   . rintro(h|h)
     . exact .inl h
     . by_cases e:x=k
       . exact .inl e
       . obtain⟨p,hp,he⟩:=Aw.1 h;grind [Lit.sameKey]
theorem SK.keys {H:Type} {D:DataW H} {L:List Bs} (h:SK D L):(strKeys D).Nodup/\ ∀x,x∈strKeys D↔x∈L:=by
 obtain⟨es,rfl,_,h2,h3⟩:=h;exact⟨h2,h3⟩
theorem SB {L:List Bs} {d:Bs} (h:L.Pairwise (fun a b=>lt a b=true)):(iA L d).Pairwise (fun a b=>lt a b=true):=by
 unfold iA;split
 . exact h
 . rename_i hne;have hd:∀x∈L.drop (ji L d),lt d x=true:=by
    intro x hx;have hlt:ji L d<L.length:=by
      grind [List.drop_eq_nil_of_le]
    have h0:lt L[ji L d] d=false:=Gl (p:=fun x=>lt x d) (l:=L) hlt;have h1:lt d L[ji L d]=true:=by
      grind [yc]
    rw[BO hlt]at hx;rcases Ap.1 hx with rfl|hx
    . exact h1
    . have h2:(L.drop (ji L d)).Pairwise (fun a b=>lt a b=true):=h.sublist (List.drop_sublist _ _);rw[BO hlt]at h2;grind [lt_trans,List.pairwise_cons]
   have ht:∀x∈L.take (ji L d),lt x d=true:=by
    intro x hx;obtain⟨j,hj,rfl⟩:=AG hx;have hj2:j<ji L d:=by grind
    obtain⟨g1,g2⟩:=FF (p:=fun x=>lt x d) (l:=L) (j:=j) hj2;grind
   rw[Ds];grind [List.pairwise_cons,lt_trans]
theorem H9 (l:List ab):(dc l).Pairwise (fun a b=>lt a b=true):=by
 have:∀(l:List ab) (a:List Bs),a.Pairwise (fun a b=>lt a b=true)->(l.foldl (fun a x=>iA a x.key.domain) a).Pairwise (fun a b=>lt a b=true):=by
  intro l;induction l with
  |nil=>grind
  |cons x l ih=>grind [SB]
 exact this l [] List.Pairwise.nil
theorem Ib {H:Type} {D:DataW H} {l:List ab} (h:SK D (l.map fun x=>x.key.domain)) {ss:List Bs} (hs:ss.Perm (strKeys D)):ss.mergeSort (fun x y=>decide (x<=y))=dc l:=by
 obtain⟨h1,h2⟩:=h.keys;have hdn:(dc l).Nodup:=by
  rw[B8];exact(H9 l).imp fun hab e=>by rw[e,lt_irrefl]at hab;grind
 have hp:ss.Perm (dc l):=hs.trans ((List.perm_ext_iff_of_nodup h1 hdn).2 fun x=>by rw[h2,RX,Aw]);rw[show(ss.mergeSort fun x y=>decide (x<=y))=(dc l).mergeSort leB from mergeSort_of_perm hp];apply List.mergeSort_of_pairwise;refine(H9 l).imp fun hab=>?_
 rw[Mx,Aa]at hab;grind
end
end Go.Proofs
namespace Go.Proofs
open Go.Shelf
def py:Go.Shelf.Ren:=⟨fun|6=>163|15=>168|14=>203|28=>212|29=>213|20=>194|21=>234|22=>235|23=>236|24=>237|25=>238|26=>239|27=>240|46=>262|47=>242|48=>243|49=>263|50=>264|57=>273|n=>n,fun|22=>39|24=>61|25=>150|3=>3|39=>198|0=>0|53=>229|55=>231|4=>4|46=>223|45=>222|50=>139|5=>5|9=>9|66=>248|70=>252|76=>263|77=>264|n=>n,fun|n=>n⟩
theorem G4:Go.Proofs.SlLaysF0.n6 Tryz.prog py:={
 mixed:=by kernel_rfl
 f6:=⟨Tryz.f163.name,by decide,Tryz.func163.trans (Aj some (by kernel_rfl))⟩
 f14:=⟨Tryz.f203.name,by decide,Tryz.func203.trans (Aj some (by kernel_rfl))⟩
 f15:=Tryz.func168.trans (Aj some (by kernel_rfl))
 f20:=⟨Tryz.f194.name,by decide,Tryz.func194.trans (Aj some (by kernel_rfl))⟩
 f21:=⟨Tryz.f234.name,by decide,Tryz.func234.trans (Aj some (by kernel_rfl))⟩
 f22:=⟨Tryz.f235.name,by decide,Tryz.func235.trans (Aj some (by kernel_rfl))⟩
 f23:=⟨Tryz.f236.name,by decide,Tryz.func236.trans (Aj some (by kernel_rfl))⟩
 f24:=⟨Tryz.f237.name,by decide,Tryz.func237.trans (Aj some (by kernel_rfl))⟩
 f25:=⟨Tryz.f238.name,by decide,Tryz.func238.trans (Aj some (by kernel_rfl))⟩
 f26:=⟨Tryz.f239.name,by decide,Tryz.func239.trans (Aj some (by kernel_rfl))⟩
 f27:=⟨Tryz.f240.name,by decide,Tryz.func240.trans (Aj some (by kernel_rfl))⟩
 f28:=Tryz.func212.trans (Aj some (by kernel_rfl))
 f29:=Tryz.func213.trans (Aj some (by kernel_rfl))
 f46:=⟨Tryz.f262.name,by decide,Tryz.func262.trans (Aj some (by kernel_rfl))⟩
 f47:=Tryz.func242.trans (Aj some (by kernel_rfl))
 f48:=Tryz.func243.trans (Aj some (by kernel_rfl))
 f49:=⟨Tryz.f263.name,by decide,Tryz.func263.trans (Aj some (by kernel_rfl))⟩
 f50:=⟨Tryz.f264.name,by decide,Tryz.func264.trans (Aj some (by kernel_rfl))⟩
 f57:=⟨Tryz.f273.name,by decide,Tryz.func273.trans (Aj some (by kernel_rfl))⟩
 t0:=Tryz.underlying0
 a0:=Tryz.isAgg0
 z0:=Tryz.sizeOf0
 v0:=Tryz.zeroValue0
 t3:=Tryz.underlying3
 a3:=Tryz.isAgg3
 z3:=Tryz.sizeOf3
 v3:=Tryz.zeroValue3
 t4:=Tryz.underlying4
 a4:=Tryz.isAgg4
 z4:=Tryz.sizeOf4
 v4:=Tryz.zeroValue4
 t5:=Tryz.underlying5
 a5:=Tryz.isAgg5
 z5:=Tryz.sizeOf5
 v5:=Tryz.zeroValue5
 t9:=Tryz.underlying9
 a9:=Tryz.isAgg9
 z9:=Tryz.sizeOf9
 v9:=Tryz.zeroValue9
 t22:=Tryz.underlying39
 a22:=Tryz.isAgg39
 z22:=Tryz.sizeOf39
 v22:=Tryz.zeroValue39
 t25:=Tryz.underlying150
 a25:=Tryz.isAgg150
 z25:=Tryz.sizeOf150
 v25:=Tryz.zeroValue150
 t39:=Tryz.underlying198
 a39:=Tryz.isAgg198
 z39:=Tryz.sizeOf198
 v39:=Tryz.zeroValue198
 t45:=Tryz.underlying222
 a45:=Tryz.isAgg222
 z45:=Tryz.sizeOf222
 v45:=Tryz.zeroValue222
 t46:=Tryz.underlying223
 a46:=Tryz.isAgg223
 z46:=Tryz.sizeOf223
 v46:=Tryz.zeroValue223
 t50:=Tryz.underlying139
 a50:=Tryz.isAgg139
 z50:=Tryz.sizeOf139
 v50:=Tryz.zeroValue139
 t53:=Tryz.underlying229
 a53:=Tryz.isAgg229
 z53:=Tryz.sizeOf229
 v53:=Tryz.zeroValue229
 t55:=Tryz.underlying231
 a55:=Tryz.isAgg231
 z55:=Tryz.sizeOf231
 v55:=Tryz.zeroValue231
 t66:=Tryz.underlying248
 a66:=Tryz.isAgg248
 z66:=Tryz.sizeOf248
 v66:=Tryz.zeroValue248
 t70:=Tryz.underlying252
 a70:=Tryz.isAgg252
 z70:=Tryz.sizeOf252
 v70:=Tryz.zeroValue252
 t76:=Tryz.underlying263
 a76:=Tryz.isAgg263
 z76:=Tryz.sizeOf263
 v76:=Tryz.zeroValue263
 t77:=Tryz.underlying264
 a77:=Tryz.isAgg264
 z77:=Tryz.sizeOf264
 v77:=Tryz.zeroValue264}
def OE:Go.Shelf.Ren:=⟨fun|41=>103|n=>n,fun|22=>39|23=>61|4=>4|n=>n,fun|n=>n⟩
theorem HV:Go.Proofs.SlLaysE0.n41 Tryz.prog OE:={
 mixed:=by kernel_rfl
 f41:=⟨Tryz.f103.name,by decide,Tryz.func103.trans (Aj some (by kernel_rfl))⟩
 t4:=Tryz.underlying4
 a4:=Tryz.isAgg4
 z4:=Tryz.sizeOf4
 v4:=Tryz.zeroValue4
 t22:=Tryz.underlying39
 a22:=Tryz.isAgg39
 z22:=Tryz.sizeOf39
 v22:=Tryz.zeroValue39}
def vY:Go.Shelf.Ren:=⟨fun|7=>159|10=>202|n=>n,fun|23=>189|26=>9|3=>3|28=>192|0=>0|27=>191|33=>120|4=>4|n=>n,fun|n=>n⟩
theorem G1:Go.Proofs.SlLaysZ.n7 Tryz.prog vY:={
 mixed:=by kernel_rfl
 f7:=⟨Tryz.f159.name,by decide,Tryz.func159.trans (Aj some (by kernel_rfl))⟩
 f10:=⟨Tryz.f202.name,by decide,Tryz.func202.trans (Aj some (by kernel_rfl))⟩
 t0:=Tryz.underlying0
 a0:=Tryz.isAgg0
 z0:=Tryz.sizeOf0
 v0:=Tryz.zeroValue0
 t4:=Tryz.underlying4
 a4:=Tryz.isAgg4
 z4:=Tryz.sizeOf4
 v4:=Tryz.zeroValue4
 t23:=Tryz.underlying189
 a23:=Tryz.isAgg189
 z23:=Tryz.sizeOf189
 v23:=Tryz.zeroValue189
 t26:=Tryz.underlying9
 a26:=Tryz.isAgg9
 z26:=Tryz.sizeOf9
 v26:=Tryz.zeroValue9
 t27:=Tryz.underlying191
 a27:=Tryz.isAgg191
 z27:=Tryz.sizeOf191
 v27:=Tryz.zeroValue191
 t28:=Tryz.underlying192
 a28:=Tryz.isAgg192
 z28:=Tryz.sizeOf192
 v28:=Tryz.zeroValue192
 t33:=Tryz.underlying120
 a33:=Tryz.isAgg120
 z33:=Tryz.sizeOf120
 v33:=Tryz.zeroValue120}
def vU:Go.Shelf.Ren:=⟨fun|6=>158|8=>200|9=>201|11=>232|13=>168|12=>233|23=>212|24=>213|14=>253|15=>254|16=>255|17=>256|18=>257|19=>258|20=>259|21=>260|22=>261|25=>269|26=>242|27=>243|28=>270|29=>271|30=>272|31=>282|n=>n,fun|26=>9|28=>192|24=>22|0=>0|3=>3|37=>198|48=>229|50=>231|4=>4|40=>223|39=>222|45=>139|5=>5|9=>9|51=>248|55=>252|57=>263|58=>264|33=>120|n=>n,fun|n=>n⟩
theorem OR:Go.Proofs.SlLaysZ.n6 Tryz.prog vU:={
 mixed:=by kernel_rfl
 f6:=⟨Tryz.f158.name,by decide,Tryz.func158.trans (Aj some (by kernel_rfl))⟩
 f8:=⟨Tryz.f200.name,by decide,Tryz.func200.trans (Aj some (by kernel_rfl))⟩
 f11:=⟨Tryz.f232.name,by decide,Tryz.func232.trans (Aj some (by kernel_rfl))⟩
 t0:=Tryz.underlying0
 a0:=Tryz.isAgg0
 z0:=Tryz.sizeOf0
 v0:=Tryz.zeroValue0
 t24:=Tryz.underlying22
 a24:=Tryz.isAgg22
 z24:=Tryz.sizeOf22
 v24:=Tryz.zeroValue22
 t26:=Tryz.underlying9
 a26:=Tryz.isAgg9
 z26:=Tryz.sizeOf9
 v26:=Tryz.zeroValue9
 t28:=Tryz.underlying192
 a28:=Tryz.isAgg192
 z28:=Tryz.sizeOf192
 v28:=Tryz.zeroValue192
 i26:=by kernel_rfl}
def OJ:Go.Shelf.Ren:=⟨fun|6=>201|8=>168|9=>233|19=>212|20=>213|21=>253|22=>254|23=>255|24=>256|25=>257|26=>258|27=>259|28=>260|29=>261|36=>269|31=>242|32=>243|37=>270|38=>271|39=>272|41=>282|n=>n,fun|27=>22|29=>9|3=>3|32=>198|26=>22|0=>0|44=>229|46=>231|4=>4|36=>223|35=>222|41=>139|5=>5|9=>9|53=>248|57=>252|63=>263|64=>264|n=>n,fun|n=>n⟩
theorem G5:Go.Proofs.SlLaysM.n6 Tryz.prog OJ:={
 mixed:=by kernel_rfl
 f6:=⟨Tryz.f201.name,by decide,Tryz.func201.trans (Aj some (by kernel_rfl))⟩
 f8:=Tryz.func168.trans (Aj some (by kernel_rfl))
 f9:=⟨Tryz.f233.name,by decide,Tryz.func233.trans (Aj some (by kernel_rfl))⟩
 f19:=Tryz.func212.trans (Aj some (by kernel_rfl))
 f20:=Tryz.func213.trans (Aj some (by kernel_rfl))
 f21:=⟨Tryz.f253.name,by decide,Tryz.func253.trans (Aj some (by kernel_rfl))⟩
 f22:=⟨Tryz.f254.name,by decide,Tryz.func254.trans (Aj some (by kernel_rfl))⟩
 f23:=⟨Tryz.f255.name,by decide,Tryz.func255.trans (Aj some (by kernel_rfl))⟩
 f24:=⟨Tryz.f256.name,by decide,Tryz.func256.trans (Aj some (by kernel_rfl))⟩
 f25:=⟨Tryz.f257.name,by decide,Tryz.func257.trans (Aj some (by kernel_rfl))⟩
 f26:=⟨Tryz.f258.name,by decide,Tryz.func258.trans (Aj some (by kernel_rfl))⟩
 f27:=⟨Tryz.f259.name,by decide,Tryz.func259.trans (Aj some (by kernel_rfl))⟩
 f28:=⟨Tryz.f260.name,by decide,Tryz.func260.trans (Aj some (by kernel_rfl))⟩
 f29:=⟨Tryz.f261.name,by decide,Tryz.func261.trans (Aj some (by kernel_rfl))⟩
 f31:=Tryz.func242.trans (Aj some (by kernel_rfl))
 f32:=Tryz.func243.trans (Aj some (by kernel_rfl))
 f36:=⟨Tryz.f269.name,by decide,Tryz.func269.trans (Aj some (by kernel_rfl))⟩
 f37:=⟨Tryz.f270.name,by decide,Tryz.func270.trans (Aj some (by kernel_rfl))⟩
 f38:=⟨Tryz.f271.name,by decide,Tryz.func271.trans (Aj some (by kernel_rfl))⟩
 f39:=⟨Tryz.f272.name,by decide,Tryz.func272.trans (Aj some (by kernel_rfl))⟩
 f41:=⟨Tryz.f282.name,by decide,Tryz.func282.trans (Aj some (by kernel_rfl))⟩
 t0:=Tryz.underlying0
 a0:=Tryz.isAgg0
 z0:=Tryz.sizeOf0
 v0:=Tryz.zeroValue0
 t3:=Tryz.underlying3
 a3:=Tryz.isAgg3
 z3:=Tryz.sizeOf3
 v3:=Tryz.zeroValue3
 t4:=Tryz.underlying4
 a4:=Tryz.isAgg4
 z4:=Tryz.sizeOf4
 v4:=Tryz.zeroValue4
 t5:=Tryz.underlying5
 a5:=Tryz.isAgg5
 z5:=Tryz.sizeOf5
 v5:=Tryz.zeroValue5
 t9:=Tryz.underlying9
 a9:=Tryz.isAgg9
 z9:=Tryz.sizeOf9
 v9:=Tryz.zeroValue9
 t26:=Tryz.underlying22
 a26:=Tryz.isAgg22
 z26:=Tryz.sizeOf22
 v26:=Tryz.zeroValue22
 t27:=Tryz.underlying22
 a27:=Tryz.isAgg22
 z27:=Tryz.sizeOf22
 v27:=Tryz.zeroValue22
 t29:=Tryz.underlying9
 a29:=Tryz.isAgg9
 z29:=Tryz.sizeOf9
 v29:=Tryz.zeroValue9
 t32:=Tryz.underlying198
 a32:=Tryz.isAgg198
 z32:=Tryz.sizeOf198
 v32:=Tryz.zeroValue198
 t35:=Tryz.underlying222
 a35:=Tryz.isAgg222
 z35:=Tryz.sizeOf222
 v35:=Tryz.zeroValue222
 t36:=Tryz.underlying223
 a36:=Tryz.isAgg223
 z36:=Tryz.sizeOf223
 v36:=Tryz.zeroValue223
 t41:=Tryz.underlying139
 a41:=Tryz.isAgg139
 z41:=Tryz.sizeOf139
 v41:=Tryz.zeroValue139
 t44:=Tryz.underlying229
 a44:=Tryz.isAgg229
 z44:=Tryz.sizeOf229
 v44:=Tryz.zeroValue229
 t46:=Tryz.underlying231
 a46:=Tryz.isAgg231
 z46:=Tryz.sizeOf231
 v46:=Tryz.zeroValue231
 t53:=Tryz.underlying248
 a53:=Tryz.isAgg248
 z53:=Tryz.sizeOf248
 v53:=Tryz.zeroValue248
 t57:=Tryz.underlying252
 a57:=Tryz.isAgg252
 z57:=Tryz.sizeOf252
 v57:=Tryz.zeroValue252
 t63:=Tryz.underlying263
 a63:=Tryz.isAgg263
 z63:=Tryz.sizeOf263
 v63:=Tryz.zeroValue263
 t64:=Tryz.underlying264
 a64:=Tryz.isAgg264
 z64:=Tryz.sizeOf264
 v64:=Tryz.zeroValue264}
end Go.Proofs
namespace Go.Proofs
open Go.RowKit Go.Maps Go.Sort Go.Shelf
-- maps.Keys[map[string]int,string,int] (function 101; its iterator 140) · slices.Sorted[string] (100) · slices.Sort[[]string,string] (139) · the map's type 135, the keys' 9
theorem Om (m:Nat):AnyZ.SortsIn Tryz.prog vU Fence.wide m:=
  ⟨fun aA off cap ss W hH hblk hsz=>callsIn_wide.2 (AnyM.slices_Sort_string G5 aA off cap ss W hH hblk hsz),
   fun p cap W=>callsIn_wide.2 (AnyM.slices_Sort_string_none G5 p cap W)⟩
theorem rA (mb:Option Nat) (W:World):CallsIn Fence.wide 5 Tryz.prog 159 #[.map mb] W fun e w'=>e= .returned (.func (.func 202) #[] #[.pointer (some ⟨W.heap.size,0,none⟩)])/\w'=W.alloc (.cells #[.map mb] 189):=
 AnyZ.keys_in G1 Fence.wide 5 trivial rfl mb W
set_option maxHeartbeats 1000000 in
theorem rq {H:Type} (b nn:Nat) (D0:DataW H) (R:Value->Option (DataW H×List MemPlace)) (w:World) (hown:w.ownsMap Tryz.prog 9 R b nn D0) (hmax:Maps.size D0<=maxLen) (hbytes:Maps.size D0*16<=140737488355328):
  CallsIn Fence.wide 5 Tryz.prog 158 #[.func (.func 202) #[] #[.pointer (some ⟨w.heap.size,0,none⟩)]] (w.alloc (.cells #[.map (some b)] 189)) fun e w'=>∃(v:Value) (ss:List (List UInt8)),e= .returned v/\ss.Perm (strKeys D0)/\
   w'.ownsRow (w.alloc (.cells #[.map (some b)] 189)).heap.size 9 1 v ss.length ((ss.mergeSort (fun x y=>decide (x<=y))).map encStr)/\(v= .slice none 0 0↔ss=[])/\Below (w.alloc (.cells #[.map (some b)] 189)).heap.size (w.alloc (.cells #[.map (some b)] 189)) w':=by
 have hbl:=hown.lt;have hseq:SeqGives Fence.wide 2 Tryz.prog 202 #[.pointer (some ⟨w.heap.size,0,none⟩)] encStr (fun ss=>ss.Perm (strKeys D0)) (Maps.size D0) (w.alloc (.cells #[.map (some b)] 189)):=
  AnyZ.keys_gives (ρ:=vY) {G1 with} Fence.wide _ trivial rfl (by omega) w.heap.size b nn D0 _ (by simp) (by simp) (by
   obtain⟨es,clock,hb,Ft,hs,hD⟩:=hown;exact⟨es,clock,(Below.heap_alloc _ _ b hbl).trans hb,Ft,hs,hD⟩)
 exact AnyZ.sorted_in OR Fence.wide 5 trivial trivial trivial trivial rfl (by omega) (Om _) (enters_of Tryz.func201 (by kernel_rfl) rfl) 202 #[.pointer (some ⟨w.heap.size,0,none⟩)] trivial (enters_of Tryz.func202 (by kernel_rfl) rfl) _ _ hmax hbytes _ hseq
-- THE CALLER's WALK over 'slices.Sorted(maps.Keys(m))' (inside '(callsIn_wide (n := 6)).1'; 'have hfK : Fence.wide.fn 159 := trivial', 'have hfS : Fence.wide.fn 158 := trivial' ahead): THE TWO ARMS TO PASTE:
--   gi_wp2_with (first
--     | (gi_at_call 159; refine (rA _ _).mono ?_; rintro e w' ⟨rfl, rfl⟩)
--     | (gi_at_call 158; refine (rq b nn D0 R w hown hmax hbytes).mono ?_; rintro e w' ⟨v, ss, rfl, hS, hrow, hnil, hb⟩))
-- maps.Keys[map[biscotti/api.nF]int,biscotti/api.nF,int]: its keys are of no string's kind: not laid by this program
end Go.Proofs
namespace Go.Proofs
open Go Go.Am Go.RowKit Go.Sy Go.Maps Go.Sort Go.Shelf Go.WideMaps
section
variable [Inhabited aF]
theorem GP:Keyed Tryz.prog 9:=string_keyed Tryz.underlying9
theorem P0 (w:World):(zeroValue 3).run Tryz.prog w= .ok (.int .i64 0) w:=by simp_all
theorem X9 {s:Bs} (h:s.length<=maxLen):keyOf Tryz.prog 9 (dL s)=some (.string s):=by
 have:=keyOf_string_mk (s:=⟨s.toArray⟩) Tryz.underlying9 (by grind [ByteArray.size]);omega
theorem rowAt.cells {w:World} {b off:Nat} {l:List ab} (h:rowAt w b off l) {i:Nat} {x:ab} (hx:l[i]? =some x):
  w.cell? ⟨b,off+i*11,none⟩=some (dL x.key.name)/\w.cell? ⟨b,off+i*11+1,none⟩=some (dL x.key.domain)/\w.cell? ⟨b,off+i*11+2,none⟩=some (dL x.key.path)/\
  w.cell? ⟨b,off+i*11+3,none⟩=some (dL x.aa.value)/\w.cell? ⟨b,off+i*11+4,none⟩=some (.bool x.aa.aH)/\w.cell? ⟨b,off+i*11+5,none⟩=some (.bool x.aa.aR)/\
  w.cell? ⟨b,off+i*11+6,none⟩=some (.bool x.aa.aI)/\w.cell? ⟨b,off+i*11+7,none⟩=some (.bool x.aa.persistent)/\w.cell? ⟨b,off+i*11+8,none⟩=some (.int .i64 x.aa.aW)/\
  w.cell? ⟨b,off+i*11+9,none⟩=some (.int .i64 x.aa.aj)/\w.cell? ⟨b,off+i*11+10,none⟩=some (.int .i64 x.aa.access):=
 ⟨h i x 0 _ hx rfl,h i x 1 _ hx rfl,h i x 2 _ hx rfl,h i x 3 _ hx rfl,h i x 4 _ hx rfl,h i x 5 _ hx rfl,h i x 6 _ hx rfl,h i x 7 _ hx rfl,h i x 8 _ hx rfl,h i x 9 _ hx rfl,h i x 10 _ hx rfl⟩
theorem Qw {b off cap:Nat} {l:List ab} {w:World} (hlen:l.length<=10000) (hb:b<w.heap.size) (hrow:rowAt w b off l) (hsz:∀x∈l,x.key.domain.length<=maxLen):
  Calls Tryz.prog 114 #[.slice (some ⟨b,off,none⟩) l.length cap] w fun e w'=>∃v,e= .returned v/\w'.ownsRow w.heap.size 9 1 v (dc l).length ((dc l).map dL)/\Below w.heap.size w w':=by
 have hmm:= @run_makeMap Tryz.prog;go_enter Tryz.func114,Tryz.ntmps114
 go_wp2;go_loopw [9] (fun i wr=>∃(k:Nat) (D:DataW Unit),k<=l.length/\i= .int .i64 k/\wr.ownsMap Tryz.prog 9 (plainElem Tryz.prog 3) w.heap.size k D/\SK D ((l.take k).map fun x=>x.key.domain)/\Below w.heap.size w wr)
  (fun i _=>l.length - (intOf i).toNat)
 case atStart=>exact⟨0, .map [],Au _,rfl,World.ownsMap_made _ _ _ _,SK.start,(Below.refl _ _).alloc (Ad _) _⟩
 case round=>
  obtain⟨k,D,hk,rfl,hown,hsk,hnx⟩:=hrel;by_cases hlt:k<l.length
  . obtain⟨x,hx⟩:∃x,l[k]? =some x:=⟨_,Ag hlt⟩;obtain⟨c0,c1,c2,c3,c4,c5,c6,c7,c8,c9,c10⟩:=(hrow.below hnx hb).cells hx;have hxm:x∈l:=Bv hx;have hkey:keyOf Tryz.prog 9 (dL x.key.domain)=some (.string x.key.domain):=X9 (hsz x hxm);have hbel:∀o,Below w.heap.size w (wr.alloc o):=fun o=>hnx.alloc hnx.size o
    go_wp2_with (first
      |(at_lookup;refine wpList_lookup_own_int _ rfl _ _ 189 rfl 9 3 .i64 GP Tryz.underlying189 Tryz.underlying3 (P0 _) w.heap.size k _ rfl (hown.alloc _) _ _ rfl hkey ?_;intro c hat hwc)
      |(at_mapUpdate;refine wpList_mapUpdate_own _ rfl _ _ _ 189 rfl 9 3 GP Tryz.underlying189 _ w.heap.size k _ rfl (hown.alloc _) (by grind [maxLen]) _ _ _ rfl rfl hkey _ [] (plainElem_int Tryz.underlying3 (wrap64_wf _)) ?_;intro w1 hown1 hgrow1)
      |go_in)
    have R1:=hsk.put (x.key.domain) (.lit (.int .i64 (wrap64 (c+1)))) (L':=(l.take (k+1)).map fun x=>x.key.domain) (fun d=>by
      rw[List.take_add_one,hx];grind)
    have R2:=(hbel _).grown hgrow1 (hbel _).size (fun j hj=>by grind);grind [intOf]
  . have hkl:k=l.length:=by omega
    subst hkl;rw[A8]at hsk;have hks:=hsk.keys;have hsize:Maps.size D<=l.length:=hown.size_le;have hkeys:=fun W=>callsIn_wide.1 (rA (some w.heap.size) W)
    have hsort:=callsIn_wide.1 (rq w.heap.size l.length D (plainElem Tryz.prog 3) wr hown (by grind [maxLen]) (by omega));go_wp2_with (first
      |(go_at_call 159;refine(hkeys _).mono ?_;rintro e w1 ⟨rfl,rfl⟩)
      |(go_at_call 158;refine hsort.mono ?_;rintro e w2 ⟨v,ss,rfl,hS,hrowS,hnil,hbelS⟩))
    go_ret;have hd:=Ib hsk hS;refine⟨_,rfl,?_,?_⟩
    . rw[hd]at hrowS;have hl:ss.length=(dc l).length:=by rw[<-hd];simp
      have he:(encStr:Bs->Value)=dL:=by funext s;grind
      rw[hl,he]at hrowS;exact ownsRow_base_a hrowS (by have:=hnx.size;simp;omega)
    . exact(hnx.alloc hnx.size _).trans (hbelS.mono (by have:=hnx.size;simp;omega))
theorem PJ (a:Option Addr) (c:Nat) (w:World):Calls Tryz.prog 114 #[.slice a 0 c] w fun e w'=>∃v,e= .returned v/\w'.ownsRow w.heap.size 9 1 v 0 []/\Below w.heap.size w w':=by
 have hmm:= @run_makeMap Tryz.prog;obtain⟨D,hown0,hsk⟩:∃D:DataW Unit,(w.alloc (.map #[] 0)).ownsMap Tryz.prog 9 (plainElem Tryz.prog 3) w.heap.size 0 D/\SK D []:=⟨.map [],World.ownsMap_made _ _ _ _,SK.start⟩;have hbel0:Below w.heap.size w (w.alloc (.map #[] 0)):=(Below.refl _ _).alloc (Ad _) _;go_enter Tryz.func114,Tryz.ntmps114
 go_wp2;refine wp_loop_rounds 1 ?_;rw[rounds_succ];generalize w.alloc (.map #[] 0)=wr at*
 have hsize:Maps.size D<=0:=hown0.size_le;have hkeys:=fun W=>callsIn_wide.1 (rA (some w.heap.size) W)
 have hsort:=callsIn_wide.1 (rq w.heap.size 0 D (plainElem Tryz.prog 3) wr hown0 (by omega) (by omega));go_wp2_with (first
  |(go_at_call 159;refine(hkeys _).mono ?_;rintro e w1 ⟨rfl,rfl⟩)
  |(go_at_call 158;refine hsort.mono ?_;rintro e w2 ⟨v,ss,rfl,hS,hrowS,hnil,hbelS⟩))
 go_ret;have hd:=Ib (l:=[]) hsk hS;have hl:ss.length=0:=by
  have:=Aj List.length hd;simpa [dc]using this
 rw[hd,hl]at hrowS;exact⟨_,rfl,ownsRow_base_a hrowS (by have:=hbel0.size;simp;omega),(hbel0.alloc hbel0.size _).trans (hbelS.mono (by have:=hbel0.size;simp;omega))⟩
theorem T9 (hdr:¬(default:aF).dr):CO Hq MO:=jS bu.ok (by
 rintro l ⟨hl,hsh⟩ w args - hargs;obtain⟨h1,h2⟩:=hargs;match args,h1 with
 |[v],_=>
 rcases CI (h2 0 _ _ rfl rfl)with⟨rfl,a,c,rfl⟩|⟨b,off,cap,rfl,hb,hrow,_⟩
 . exact(PJ a c w).mono fun e w' ⟨v,he,hr,hbel⟩=>⟨v,he, .inr (Mr hr),hbel,fun h=>(hdr h).elim⟩
 . exact(Qw hl hb hrow fun x hx=>by have:=hsh x hx;grind [maxLen]).mono fun e w' ⟨v,he,hr,hbel⟩=>⟨v,he, .inr (Mr hr),hbel,fun h=>(hdr h).elim⟩)
end
end Go.Proofs
namespace Go.Proofs
open Go Go.Am Go.RowKit Go.Sy
theorem qzY:(cy (fun(y:aK.Y vi)=>cp tB (cV y)) 400 Hz)=(∀(y:ab×ab),True->∃(z:ab×ab),y.1.key.name=z.1.key.name/\y.1.key.domain=z.1.key.domain/\y.1.key.path=z.1.key.path/\y.1.aa.value=z.1.aa.value/\y.1.aa.aH=z.1.aa.aH/\y.1.aa.aR=z.1.aa.aR/\y.1.aa.aI=z.1.aa.aI/\y.1.aa.persistent=z.1.aa.persistent/\ax y.1.aa.aW z.1.aa.aW/\ax y.1.aa.aj z.1.aa.aj/\ax y.1.aa.access z.1.aa.access/\y.2.key.name=z.2.key.name/\y.2.key.domain=z.2.key.domain/\y.2.key.path=z.2.key.path/\y.2.aa.value=z.2.aa.value/\y.2.aa.aH=z.2.aa.aH/\y.2.aa.aR=z.2.aa.aR/\y.2.aa.aI=z.2.aa.aI/\y.2.aa.persistent=z.2.aa.persistent/\ax y.2.aa.aW z.2.aa.aW/\ax y.2.aa.aj z.2.aa.aj/\ax y.2.aa.access z.2.aa.access/\True/\ax (iG z.1 z.2) (iG y.1 y.2)/\True):=by kernel_rfl
theorem TH:(qk (fun(y:List ab×aD)=>mA y.1) (aK.args bT) ab (fun(y:List ab×aD)=>ff y.1 y.2) ab.enc (fun(y:List ab×aD)=>cp bU (cT lW 3 (ke y.1 fun(x:ab)=>decide (x.key≠y.2)))) 600 ng)=(∀(y:List ab×aD),y.1.length<=10000->(∃(x:Nat),x<=y.1.length/\(SV.fn 166 [] [SV.ptr (SH.next (St.h {ts:=Fr.of (aK.args bT y) 0,h:={next:=0,os:=[]},log:=[]})) 0]=SV.fn 166 [] [SV.ptr (SH.next (St.h {ts:=Fr.of (aK.args bT y) 0,h:={next:=0,os:=[]},log:=[]})) 0]/\items y.1=items y.1/\ax (Int.ofNat y.1.length) (Int.ofNat y.1.length)/\ax 0 ↑x/\True/\True)/\(((y.1.take x).filter (fun(x:ab)=>decide (x.key≠y.2))=[]/\ ∀(x:ab),(ab.enc x).length=11)/\(y.2.name=y.2.name/\y.2.domain=y.2.domain/\y.2.path=y.2.path/\True)/\True)/\True)/\ ∀(x:Nat),x<=y.1.length->br (bK (↑x) (Int.ofNat y.1.length)) (so y.1[Int.toNat ↑x]? fun(val:ab)=>br (!(val.key.name==y.2.name&&(val.key.domain==y.2.domain&&(val.key.path==y.2.path&&true)))) (∃(u:ab),(ab.enc u)=(ab.enc val)/\ck (Nat.ble ((((y.1.take x).filter (fun(x:ab)=>decide (x.key≠y.2))).length+[u].length)*96) 16777216&&Nat.ble (((y.1.take x).filter (fun(x:ab)=>decide (x.key≠y.2))).length+[u].length) 16777216) (ck (bD .i64 (↑x+1)) (∃(z:Nat),z<=y.1.length/\aL.μ (ke y.1 fun(x:ab)=>decide (x.key≠y.2)) z<aL.μ (ke y.1 fun(x:ab)=>decide (x.key≠y.2)) x/\(SV.fn 166 [] [SV.ptr (SH.next (St.h {ts:=Fr.of (aK.args bT y) 0,h:={next:=0,os:=[]},log:=[]})) 0]=SV.fn 166 [] [SV.ptr (SH.next (St.h {ts:=Fr.of (aK.args bT y) 0,h:={next:=0,os:=[]},log:=[]})) 0]/\items y.1=items y.1/\ax (Int.ofNat y.1.length) (Int.ofNat y.1.length)/\ax (↑x+1) ↑z/\True/\True)/\(items ((y.1.take x).filter (fun(x:ab)=>decide (x.key≠y.2))++[u])=items ((y.1.take z).filter (fun(x:ab)=>decide (x.key≠y.2)))/\(y.2.name=y.2.name/\y.2.domain=y.2.domain/\y.2.path=y.2.path/\True)/\True)/\True))) (ck (bD .i64 (↑x+1)) (∃(z:Nat),z<=y.1.length/\aL.μ (ke y.1 fun(x:ab)=>decide (x.key≠y.2)) z<aL.μ (ke y.1 fun(x:ab)=>decide (x.key≠y.2)) x/\(SV.fn 166 [] [SV.ptr (SH.next (St.h {ts:=Fr.of (aK.args bT y) 0,h:={next:=0,os:=[]},log:=[]})) 0]=SV.fn 166 [] [SV.ptr (SH.next (St.h {ts:=Fr.of (aK.args bT y) 0,h:={next:=0,os:=[]},log:=[]})) 0]/\items y.1=items y.1/\ax (Int.ofNat y.1.length) (Int.ofNat y.1.length)/\ax (↑x+1) ↑z/\True/\True)/\(items ((y.1.take x).filter (fun(x:ab)=>decide (x.key≠y.2)))=items ((y.1.take z).filter (fun(x:ab)=>decide (x.key≠y.2)))/\(y.2.name=y.2.name/\y.2.domain=y.2.domain/\y.2.path=y.2.path/\True)/\True)/\True))) (items ((y.1.take x).filter (fun(x:ab)=>decide (x.key≠y.2)))=items (ff y.1 y.2))):=by kernel_rfl
end Go.Proofs
namespace Go.Proofs
open Go Go.Am Go.RowKit Go.Sy Go.Maps Go.Sort Go.Shelf
section
theorem xP {Fz:Nat->Option AO} {n:Nat} (x:ab):aO Fz (.agg x.enc) (dh n (.agg (ew x).toArray)):=by
 unfold dh;refine .agg (by simp[ew,ab.enc]) fun i c v hc hv=>?_
 have hj:i<11:=(Ae.1 hc).1;unfold ab.enc at hc;unfold ew at hv;match i,hj with
 |0,_|1,_|2,_|3,_=>cases hc;cases hv;exact .str _
 |4,_|5,_|6,_|7,_=>cases hc;cases hv;exact .bool _
 |8,_|9,_|10,_=>cases hc;cases hv;exact .int _ _
theorem KR {w w':World} (h:Below w.heap.size w w') (hd:w.drawn<=w'.drawn):∃q os,w'=grow (w.drewN q) os:=by
 refine⟨w'.drawn - w.drawn,w'.heap.extract w.heap.size w'.heap.size,?_⟩;unfold grow World.drewN
 cases w' with
 |mk heap tape drawn os output=>
  obtain⟨h1,h2,h3,h4,h5⟩:=h;simp only at h1 h2 h3 h4 h5 hd⊢;subst h1;subst h2;subst h3;congr 1
  all_goals grind
section
variable [Inhabited aF]
theorem qzj:CO Hz vi:=bR (cfg:=fun y=>cp tB (cV y)) bu (fun _=>rfl) (fun _=>EN) (n:=400) (by
 rw[qzY];rintro⟨a,b⟩ -;exact⟨(a,b),rfl,rfl,rfl,rfl,rfl,rfl,rfl,rfl,rfl,rfl,rfl,rfl,rfl,rfl,rfl,rfl,rfl,rfl,rfl,rfl,rfl,rfl,trivial,rfl,trivial⟩)
theorem WO:qk (fun y:List ab×aD=>mA y.1) bT.args ab (fun y=>ff y.1 y.2) ab.enc (fun y=>cp bU (cT lW 3 (ke y.1 fun x=>decide (x.key≠y.2)))) 600 ng:=by
 rw[TH];rintro⟨l,k⟩ hpre;have hpre:l.length<=10000:=hpre;refine⟨⟨0,by simp,?_⟩,?_⟩
 . (repeat' (first|exact trivial|exact rfl|exact(fun _=>rfl)|apply And.intro))
 intro x hx;refine ai.2 ⟨fun hlt=>az.2 ⟨_,eA (cP hlt),?_⟩,fun hge=>by rw[filter_all (jK hge)];rfl⟩;have hlt':x<l.length:=cP hlt;have hlen:=wO (l:=l) (x:=x) (p:=fun z:ab=>decide (z.key≠k));refine ai.2 ⟨fun h=>⟨l[x],rfl,ah.2 ⟨by grind [Nat.ble_eq],ah.2 ⟨cW x (by omega),x+1,hlt',?_,?_⟩⟩⟩,fun h=>ah.2 ⟨cW x (by omega),x+1,hlt',?_,?_⟩⟩
 . show l.length - (x+1)<l.length - x
   omega
 . have hp:(fun z:ab=>decide (z.key≠k)) l[x]=true:=by rw[uT]at h;grind
   have hf:=qz (p:=fun z:ab=>decide (z.key≠k)) hlt';rw[Al hp]at hf;grind
 . show l.length - (x+1)<l.length - x
   omega
 grind [uT,qz]
end
theorem VF:SWO (ltOf iG) where
 irrefl x:=Ih x
 trans x y z:=zL
 ntrans x y z:=Ii
theorem Qm (aA off size:Nat) (w:World):CmpLays Tryz.prog 164 #[] ew 11 iG aA off size w:=by
 intro m os dk _ x y;letI:Inhabited aF:=⟨⟨True,#[]⟩⟩
 have h:=kE bu.ok qzj (fn:=Tryz.f164) (hfn:=by kernel_rfl) (hb:=rfl) (y:=(x,y)) trivial (args:=[.agg (ew x).toArray, .agg (ew y).toArray]) (w:=sortWorldK ew 11 w aA off m dk os) (PL.cons (xP x) (PL.cons (xP y) PL.nil)) (cI.oI rfl _);refine Calls.mono h ?_;rintro e w' ⟨v,rfl,hv,hbel,hd⟩;have hv:v= .int .i64 (iG x y):=yi hv;exact⟨by rw[hv],KR hbel (hd trivial)⟩
theorem Hf:∀w,(isAgg (py.t 24)).run Tryz.prog w= .ok true w:=fun w=>by kernel_rfl
theorem GY:∀w,(Go.sizeOf (py.t 24)).run Tryz.prog w= .ok 11 w:=fun w=>by kernel_rfl
theorem xX (x:ab):∀v∈ew x,v.oneCell'=true:=by
 intro v hv;unfold ew at hv;simp only[Ap,BE,Dq]at hv;rcases hv with rfl|rfl|rfl|rfl|rfl|rfl|rfl|rfl|rfl|rfl|rfl<;>rfl
theorem PY (aA off cap:Nat) (d:Array ab) (w:World) (hH:HoldsK ew 11 w aA off d) (hblk:aA<w.heap.size) (hsz:d.size<4611686018427387904):
  Calls Tryz.prog 163 #[.slice (some ⟨aA,off,none⟩) d.size cap, .func (.func 164) #[] #[]] w fun e w'=>e= .returned (.tuple #[])/\ ∃d' n os,PermIn 0 d.size d d'/\SortedIn (ltOf iG) 0 d.size d'/\w'=sortWorldK ew 11 w aA off n d' os:=
 AnyQ.slices_SortFunc G4 11 Hf GY ew (fun _=>rfl) xX iG VF 164 #[] aA off cap d w (enters_of Tryz.func164 (by kernel_rfl) rfl) (Qm aA off d.size w) hH hblk hsz
def jD (w:World) (v:Value) (l:List ab):Prop:=(l=[]/\ ∃a c,v= .slice a 0 c)\/
 ∃b off cap,v= .slice (some ⟨b,off,none⟩) l.length cap/\l.length<=cap/\(∃arr e fz,w.heap[b]? =some (.cells arr e fz)/\off+l.length*11<=arr.size)/\rowAt w b off l
theorem jD.below {w w':World} {v:Value} {l:List ab} (h:jD w v l) (hb:Below w.heap.size w w'):jD w' v l:=by
 rcases h with h|⟨b,off,cap,h1,h2,⟨arr,e,fz,h3,h4⟩,h5⟩
 . exact .inl h
 . have hlt:=(Ab.1 h3).1;exact .inr ⟨b,off,cap,h1,h2,⟨arr,e,fz,by rw[hb.block b hlt];exact h3,h4⟩,h5.below hb hlt⟩
section
variable [Inhabited aF]
theorem IM {w:World} {n:Nat} {l:List ab} {v:Value} (h:qQ w n l ab.enc v):jD w v l/\Up w n (items l) v:=by
 rcases h with⟨rfl,h0⟩|⟨b,cap,arr,e,fz,sz,rfl,h1,h2,h3,h4,h5,h6,h7⟩
 . exact⟨.inl ⟨AP.1 h0,none,0,rfl⟩, .fu h0⟩
 . have hsz:l≠[]->sz=11:=by
    intro hne
    cases hL:l with
    |nil=>grind
    |cons x l'=>exact(h6 0 x (by rw[hL];rfl)).symm
   have hl:0+l.length*11<=arr.size:=by
    by_cases hne:l=[]
    all_goals grind
   have hcell:∀(i:Nat) x (j:Nat) v,l[i]? =some x->(ew x)[j]? =some v->arr[0+i*11+j]? =some v:=by
    intro i x j v hx hv;have hj:j<11:=(Ae.1 hv).1;obtain⟨s,hs⟩:=LO (x:=x) hj;obtain⟨u,hu,hr⟩:=h7 i x j s hx hs;have:sz=11:=(h6 i x hx).symm;grind [L8]
   refine⟨.inr ⟨b,0,cap,rfl,h3,⟨arr,e,fz,h2,hl⟩,fun i x j v hx hv=>?_⟩,ES h1 h2 h3 hl hcell⟩;grind [World.cell?]
theorem qzK {Fz:Nat->Option AO} {n:Nat} (k:aD):aO Fz (.agg k.enc) (dh n (.agg #[dL k.name,dL k.domain,dL k.path])):=by
 unfold dh;refine .agg rfl fun i c v hc hv=>?_
 have hj:i<3:=(Ae.1 hc).1;unfold aD.enc at hc;match i,hj with
 |0,_|1,_|2,_=>cases hc;cases hv;exact .str _
theorem Xb {tab:bm} {w:World} {v:Value} {l:List ab} (h:jD w v l):aO (bQ tab w).get (items l) (dh w.heap.size v):=by
 rcases h with⟨rfl,a,c,rfl⟩|⟨b,off,cap,rfl,h2,h3,h4⟩
 . show aO _ (items []) (dK w.heap.size (.slice a 0 c))
   cases a with
   |none=>
    cases c with
    |zero=>exact .bP rfl (.inl rfl)
    |succ c=>exact .bP rfl (.inr (.inr ⟨_,_,rfl⟩))
   |some a=>rw[xu];exact .bP rfl (.inr (.inr ⟨_,_,rfl⟩))
 . exact UO h2 h3 h4
theorem Oo {l:List ab} {k:aD} {v:Value} {w:World} (hl:l.length<=10000) (h:jD w v l) (hw:cI w):
  Calls Tryz.prog 118 #[v, .agg #[dL k.name,dL k.domain,dL k.path]] w fun e w'=>∃u,e= .returned u/\jD w' u (ff l k)/\qQ w' w.heap.size (ff l k) ab.enc u/\Below w.heap.size w w':=by
 refine Calls.mono (UH bu (fun _=>rfl) (fun _=>gn) (fn:=Tryz.f118) (by kernel_rfl) WO (y:=(l,k)) hl (args:=[v, .agg #[dL k.name,dL k.domain,dL k.path]]) (w:=w) (PL.cons (Xb h) (PL.cons (qzK k) PL.nil)) hw) ?_;rintro e w' ⟨u,rfl,hu,hb,_⟩;exact⟨u,rfl,(IM hu).1,hu,hb⟩
theorem SR {w:World} {n m:Nat} {l:List ab} {v:Value} (h:qQ w n l ab.enc v) (hm:m<=n):qQ w m l ab.enc v:=by
 rcases h with h|⟨b,cap,arr,e,fz,sz,h0,h1,h2⟩
 . exact .inl h
 . exact .inr ⟨b,cap,arr,e,fz,sz,h0,by omega,h2⟩
end
theorem JA (w:World) (g off n:Nat) (d:Array ab) (os:Array Obj) {B:Nat} (hg:B<=g) (hB:B<=w.heap.size):Below B w (sortWorldK ew 11 w g off n d os):=by
 refine⟨rfl,rfl,rfl,size_sortWorldK_c ew 11 w g off n d os,fun k hk=>?_⟩;grind [sortWorldK,grow,putRowK,putRow,mapBlock,Sort.ahead]
theorem KQ (l:List ab) {t:Nat} {u:Value} (h:(flatK ew 11 l.toArray).toList[t]? =some u):∃x,l[t / 11]? =some x/\(ew x)[t % 11]? =some u:=by
 have ht:t<l.length*11:=by
  have:=(Ae.1 h).1;simp_all
 have hi:t / 11<l.length:=by omega
 refine⟨l[t / 11],Ag hi,?_⟩;have h1:=get_flatK ew 11 l.toArray t (by omega);rw[A6]at h;rw[BF _ t (by grind)]at h1;rw[AY (by grind),h1]at h;grind [UM]
theorem Sm {l:List ab} {d':Array ab} (hp:PermIn 0 l.toArray.size l.toArray d') (hs:SortedIn (ltOf iG) 0 l.toArray.size d'):d'.toList.Perm l/\d'.toList.Pairwise (fun a b=>gC b a=false)/\d'.size=l.length:=by
 obtain⟨h1,_,h3⟩:=hp;have hsz:d'.size=l.length:=by omega
 refine⟨?_,?_,hsz⟩
 . rw[show d'.extract 0 l.toArray.size=d' by rw[<-h1];simp]at h3;grind
 . rw[AK];intro i j hi hj hij;simp only[Array.length_toList]at hi hj;have:=hs i j (Au _) hij (by omega);rw[BF d' j hj,BF d' i hi]at this;simp only[EJ];exact this
theorem Hi:(Tryz.prog.info? 61).map (fun i=>(i.zero,i.size,i.bytes))=some (some (.agg (ew nJ).toArray),11,96):=by kernel_rfl
end
section
variable [Inhabited aF]
theorem GX {l:List ab} {b off cap:Nat} {w:World} (hl:l.length<=10000) (h:rowAt w b off l):
   Calls Tryz.prog 103 #[.slice (some ⟨b,off,none⟩) l.length cap] w fun e w'=>∃g c,e= .returned (.slice (some ⟨g,0,none⟩) l.length c)/\w.heap.size<=g/\g<w'.heap.size/\l.length<=c/\HoldsK ew 11 w' g 0 l.toArray/\Below w.heap.size w w':=by
 obtain⟨i0,hi,hz0,hz1,hz2⟩:=info_parts Hi;have hnl:(flatK ew 11 l.toArray).toList.length=l.length*11:=by simp
 have hc:=AnyE.slices_Clone HV i0 _ 11 96 hi hz0 hz1 hz2 rfl (by decide) (fun w=>by kernel_rfl) b off l.length cap (flatK ew 11 l.toArray).toList w hnl (by grind [maxLen]) (by omega)
   (fun j u hu=>by
    obtain⟨x,hx,hxu⟩:=KQ l hu;have:=h (j / 11) x (j % 11) u hx hxu;rw[show off+j / 11*11+j % 11=off+j by omega]at this;omega)
   (fun u hu=>by
    obtain⟨j,hj,rfl⟩:=AG hu;obtain⟨x,hx,hxu⟩:=KQ l (Ag hj);grind [xX])
 refine Calls.mono hc ?_;rintro e w' ⟨v',rfl,⟨h1,⟨rfl,_⟩|⟨g,c,cur,rfl,hg,hw,hn,_,hcs,htk⟩⟩,hne,hb⟩
 . grind
 . refine⟨g,c,rfl,hg,(Ab.1 hw).1,hn,fun j hj=>?_,hb⟩;have hj2:j<l.length*11:=by grind
   have h2:=Aj (fun l=>l[j]?) htk;simp only[A4,Al hj2,A6]at h2;have hjf:j<(flatK ew 11 l.toArray).size:=hj;rw[AY hjf]at h2;grind [World.cell?,World.frozen?]
theorem H8:∀(s l:List ab),(s.foldl (fun a x=>ff a x.key) l).length<=l.length
 |[],l=>Ad _
 |x::s,l=>Ar (H8 s _) (R7 l x.key)
theorem PA {l:List ab} {m b off cap:Nat} {w:World} (hl:l.length<=10000) (hk:KN l) (hm:m<l.length) (h:jD w (.slice (some ⟨b,off,none⟩) l.length cap) l) (hrow:rowAt w b off l) (hb:b<w.heap.size) (hw:cI w):
  Calls Tryz.prog 117 #[.slice (some ⟨b,off,none⟩) l.length cap, .int .i64 m] w fun e w'=>∃u,e= .returned u/\qQ w' w.heap.size (fC m l) ab.enc u/\Below w.heap.size w w':=by
 have hclone:=GX (cap:=cap) hl hrow;go_enter Tryz.func117,Tryz.ntmps117
 go_wp2_with (go_at_call 103;refine hclone.mono ?_;rintro e w1 ⟨g,c,rfl,hg,hg1,hlc,hH,hbel1⟩)
 have hsort:=PY g 0 c l.toArray w1 hH hg1 (by grind);rw[show l.toArray.size=l.length by simp]at hsort;refine Calls.mono hsort ?_;rintro e w2 ⟨rfl,d',n,os,hp,hs,hw2⟩;have hbel2:Below w.heap.size w w2:=hbel1.trans (by rw[hw2];grind [JA]);obtain⟨hperm,hpw,hdsz⟩:=Sm (l:=l) (d':=d') (by omega) (by omega);have hH2:HoldsK ew 11 w2 g 0 d':=by rw[hw2];grind [holdsK_sortWorldK_c]
 have hg2:g<w2.heap.size:=by rw[hw2];grind [size_sortWorldK_c]
 clear hw2 hp hs hsort hclone hH;have hlen:l.length - m<=d'.size:=by omega
 have hsub:(wrap64 ((l.length:Int) - (m:Int)))=((l.length - m:Nat):Int):=by
  rw[wrap64];omega
 go_wp2;generalize hnm:l.length - m=q at hlen hsub⊢
 go_loopw [0,24] (fun v i wr=>∃k:Nat,k<=q/\i= .int .i64 k/\jD wr v ((d'.toList.take k).foldl (fun a x=>ff a x.key) l)/\(k=0\/qQ wr w.heap.size ((d'.toList.take k).foldl (fun a x=>ff a x.key) l) ab.enc v)/\Below w2.heap.size w2 wr)
  (fun _ i _=>q - (intOf i).toNat)
 case atStart=>exact⟨0,Au _,rfl,h.below (hbel2.mono (Ad _)), .inl rfl,Below.refl _ _⟩
 case round=>
  obtain⟨k,hkq,rfl,hv,hnew,hbw⟩:=hrel;by_cases hlt:k<q
  . have hkd:k<d'.size:=by omega
    have hHw:HoldsK ew 11 wr g 0 d':=fun j hj=>by
      have:=hH2 j hj;unfold World.cell? World.frozen? at this⊢;rw[hbw.block g hg2];omega
    have hcl:∀c,c<11->wr.cell? ⟨g,0+k*11+c,none⟩=some (ew d'[k])[c]! :=fun c hc=>by
      have:=(hHw.cell (i:=k) (c:=c) hkd hc).1;rw[BF d' k hkd]at this;omega
    obtain⟨x,hx⟩:∃x,x=d'[k]:=⟨_,rfl⟩;have hcur:((d'.toList.take k).foldl (fun a x=>ff a x.key) l).length<=10000:=by
      have:=H8 (d'.toList.take k) l;omega
    have hnext:(d'.toList.take (k+1)).foldl (fun a x=>ff a x.key) l=ff ((d'.toList.take k).foldl (fun a x=>ff a x.key) l) x.key:=by
      rw[hx,mF _ _ (by omega)];simp
    have c0:wr.cell? ⟨g,k*11,none⟩=some (dL x.key.name):=by have:=hcl 0 (by omega);rw[Ax,Bx,<-hx]at this;exact this
    have c1:wr.cell? ⟨g,k*11+1,none⟩=some (dL x.key.domain):=by have:=hcl 1 (by omega);rw[Ax,<-hx]at this;exact this
    have c2:wr.cell? ⟨g,k*11+2,none⟩=some (dL x.key.path):=by have:=hcl 2 (by omega);rw[Ax,<-hx]at this;exact this
    have c3:wr.cell? ⟨g,k*11+3,none⟩=some (dL x.aa.value):=by have:=hcl 3 (by omega);rw[Ax,<-hx]at this;exact this
    have c4:wr.cell? ⟨g,k*11+4,none⟩=some (.bool x.aa.aH):=by have:=hcl 4 (by omega);rw[Ax,<-hx]at this;exact this
    have c5:wr.cell? ⟨g,k*11+5,none⟩=some (.bool x.aa.aR):=by have:=hcl 5 (by omega);rw[Ax,<-hx]at this;exact this
    have c6:wr.cell? ⟨g,k*11+6,none⟩=some (.bool x.aa.aI):=by have:=hcl 6 (by omega);rw[Ax,<-hx]at this;exact this
    have c7:wr.cell? ⟨g,k*11+7,none⟩=some (.bool x.aa.persistent):=by have:=hcl 7 (by omega);rw[Ax,<-hx]at this;exact this
    have c8:wr.cell? ⟨g,k*11+8,none⟩=some (.int .i64 x.aa.aW):=by have:=hcl 8 (by omega);rw[Ax,<-hx]at this;exact this
    have c9:wr.cell? ⟨g,k*11+9,none⟩=some (.int .i64 x.aa.aj):=by have:=hcl 9 (by omega);rw[Ax,<-hx]at this;exact this
    have c10:wr.cell? ⟨g,k*11+10,none⟩=some (.int .i64 x.aa.access):=by have:=hcl 10 (by omega);rw[Ax,<-hx]at this;exact this
    clear hx hcl hHw;have hsz0:w.heap.size<=wr.heap.size:=Ar hbel2.size hbw.size;go_wp2_with (go_at_call 118;refine(Oo (k:=x.key) hcur (hv.below ((Below.refl _ _).alloc (Ad _) _)) (((hw.below hbel2).below hbw).below ((Below.refl _ _).alloc (Ad _) _))).mono ?_;rintro e w3 ⟨u,rfl,hu1,hu2,hu3⟩)
    have R1:=hnext.symm▸hu1;have R2:=hnext.symm▸(SR hu2 (m:=w.heap.size) (by simp;omega));have R3:Below w2.heap.size w2 w3:=(hbw.alloc hbw.size _).trans (hu3.mono (by have:=hbw.size;simp;omega));grind [intOf]
  . have hkq':k=q:=by omega
    subst hkq';go_wp2;go_ret;refine⟨_,rfl,?_,hbel2.trans (hbw.mono hbel2.size)⟩;rcases hnew with h0|hnew
    . omega
    . rw[<-hnm,ZC m l.length l d'.toList (by omega) hk hperm hpw]at hnew;simp_all
theorem PH (a:Option Addr) (n cap m:Nat) (h:n<=m) (w:World):Calls Tryz.prog 117 #[.slice a n cap, .int .i64 m] w fun e w'=>e= .returned (.slice a n cap)/\w'=w:=by
 go_enter Tryz.func117,Tryz.ntmps117
 go_wp2;go_ret;simp_all
theorem qzk (hdr:¬(default:aF).dr):CO G9 NJ:=jS bu.ok (by
 rintro⟨l,m⟩ ⟨hl,hk,hm⟩ w args hold ⟨h1,h2⟩;have hm:0<=m:=hm;obtain⟨q,rfl⟩:∃q:Nat,m=(q:Int):=⟨m.toNat,by omega⟩;match args,h1 with
 |[v,u],_=>
 have hu:=yi (h2 1 _ _ rfl rfl);subst hu;have hv:=CI (h2 0 _ _ rfl rfl);have hl:l.length<=10000:=hl;have hk:KN l:=hk;by_cases hq:l.length<=q
 . obtain⟨a,cap,rfl⟩:∃a cap,v= .slice a l.length cap:=by
     grind
   refine Calls.mono (PH a l.length cap q hq w) ?_;rintro e w' ⟨rfl,rfl⟩;refine⟨_,rfl, .inl ⟨0,?_,rfl⟩,Below.refl _ _,fun h=>(hdr h).elim⟩;show some (items l)=some (items (fC ((q:Int)).toNat l))
   rw[B6,Ce hq]
 . rcases hv with⟨rfl,a,c,rfl⟩|⟨b,off,cap,rfl,hb,hrow,hcap,hcells⟩
   . grind
   . refine Calls.mono (PA (m:=q) (cap:=cap) hl hk (Nat.lt_of_not_le hq) (.inr ⟨b,off,cap,rfl,hcap,hcells,hrow⟩) hrow hb hold) ?_;rintro e w' ⟨u,rfl,hu,hbel⟩;exact⟨u,rfl, .inr (by
      show Up w' w.heap.size (items (fC ((q:Int)).toNat l)) u
      rw[B6];simp_all[IM]),hbel,fun h=>(hdr h).elim⟩)
end
end Go.Proofs
namespace Go.Proofs
open Go Go.Shelf Go.RowKit Go.Lib Go.Sort Go.Sym
section
structure ko (P:Program) (k:Nat):Prop where
 mixed:P.follows .mixedOrders=true
 f251:P.funcs[251]? =some Tryz.f251
 f230:P.funcs[230]? =some Tryz.f230
 f195:P.funcs[195]? =some Tryz.f195
 f150:P.funcs[150]? =some Tryz.f150
 f104:P.funcs[104]? =some Tryz.f104
 t0:P.underlying 0=some (TypeDesc.tuple #[])
 a0:∀w,(isAgg 0).run P w= .ok false w
 z0:∀w,(Go.sizeOf 0).run P w= .ok 1 w
 v0:∀w,(zeroValue 0).run P w= .ok (Value.tuple #[]) w
 t3:P.underlying 3=some (TypeDesc.int IntKind.i64)
 a3:∀w,(isAgg 3).run P w= .ok false w
 z3:∀w,(Go.sizeOf 3).run P w= .ok 1 w
 v3:∀w,(zeroValue 3).run P w= .ok (Value.int IntKind.i64 0) w
 t4:P.underlying 4=some (TypeDesc.bool)
 a4:∀w,(isAgg 4).run P w= .ok false w
 z4:∀w,(Go.sizeOf 4).run P w= .ok 1 w
 v4:∀w,(zeroValue 4).run P w= .ok (Value.bool false) w
 t39:P.underlying 39=some (TypeDesc.slice 61)
 a39:∀w,(isAgg 39).run P w= .ok false w
 z39:∀w,(Go.sizeOf 39).run P w= .ok 1 w
 v39:∀w,(zeroValue 39).run P w= .ok (Value.slice none 0 0) w
 t150:P.underlying 150=some (TypeDesc.func #[61,61] #[3] false)
 fW:∀w,(isAgg 150).run P w= .ok false w
 gk:∀w,(Go.sizeOf 150).run P w= .ok 1 w
 gj:∀w,(zeroValue 150).run P w= .ok (Value.nilFunc) w
 t198:P.underlying 198=some (TypeDesc.int IntKind.u64)
 a198:∀w,(isAgg 198).run P w= .ok false w
 z198:∀w,(Go.sizeOf 198).run P w= .ok 1 w
 v198:∀w,(zeroValue 198).run P w= .ok (Value.int IntKind.u64 0) w
 aE:∀w,(isAgg 61).run P w= .ok true w
 zE:∀w,(Go.sizeOf 61).run P w= .ok k w
variable {P:Program} {α:Type} [Inhabited α] {k:Nat}
set_option maxHeartbeats 4000000 in
set_option maxRecDepth 1000000 in
theorem ko.gR (L:ko P k) (enc:α->List Value) (g:Nat) (cb:Array Value) (aA off cap x y n:Nat) (d0 d:Array α) (w0 w:World)
  (R:RowK enc k w0 aA off d0) (hs:d0.size=d.size) (S:SWK enc k w0 aA off d w) (hxy:x+n<=y) (hy:y+n<=d.size) (hsz:d.size<4611686018427387904):
  Calls P 251 #[.slice (some ⟨aA,off,none⟩) d.size cap, .int .i64 x, .int .i64 y, .int .i64 n, .func (.func g) #[] cb] w fun e w'=>e= .returned (.tuple #[])/\ ∃d',SWK enc k w0 aA off d' w'/\d'.size=d.size/\(∀i,d'[i]! =lT (fun i=>d[i]!) x y n i)/\(∀a b,a<=x->y+n<=b->b<=d.size->PermIn a b d d'):=by
 have mixed:=L.mixed;have t0:=L.t0;have a0:=L.a0;have z0:=L.z0;have v0:=L.v0;have t3:=L.t3;have a3:=L.a3;have z3:=L.z3;have v3:=L.v3;have t4:=L.t4;have a4:=L.a4;have z4:=L.z4;have v4:=L.v4;have t39:=L.t39;have a39:=L.a39;have z39:=L.z39;have v39:=L.v39;have t150:=L.t150;have fW:=L.fW;have gk:=L.gk;have gj:=L.gj;have aE:=L.aE;have zE:=L.zE;have FG:=L.f251;have S0:Aside (SWK enc k w0 aA off d w):=S;clear S;go_enter FG,Tryz.ntmps251
 go_wp2;go_loopg [10] n (fun kx s10 wr=>∃(i:Nat) (dk:Array α),s10= .int .i64 i/\i<=n/\n - i<=kx/\dk.size=d.size/\Aside (SWK enc k w0 aA off dk wr)/\RowKit.Hid (∀j,dk[j]! =lT (fun i=>d[i]!) x y i j)/\RowKit.Hid (∀a b,a<=x->y+n<=b->b<=d.size->PermIn a b d dk))
 case atStart=>exact⟨0,d,rfl,Au _,Ad _,rfl,S0,fun j=>(TB _ _ _ _).symm,fun a b _ _ _=>permIn_refl _ _ _⟩
 case round=>
  clear S0;obtain⟨i,dk,rfl,hin,hkx,hds,S1,HE,HP⟩:=hrel;by_cases hlt:i<n
  . have hltz:(i:Int)<(n:Int):=by omega
    go_wp2_with fail
    have ea44:((x:Int)+(i:Int)).toNat=x+i:=by omega
    have pa44:(0:Int)<=(x:Int)+(i:Int):=by omega
    have ba44:(x:Int)+(i:Int)<(d.size:Int):=by omega
    have ra44:IntKind.i64.wrap ((x:Int)+(i:Int))=(x:Int)+(i:Int):=by rw[IntKind.wrap_i64];omega
    have ec44:((y:Int)+(i:Int)).toNat=y+i:=by omega
    have pc44:(0:Int)<=(y:Int)+(i:Int):=by omega
    have bc44:(y:Int)+(i:Int)<(d.size:Int):=by omega
    have rc44:IntKind.i64.wrap ((y:Int)+(i:Int))=(y:Int)+(i:Int):=by rw[IntKind.wrap_i64];omega
    have S2:Aside (SWK enc k w0 aA off (swp dk (x+i) (y+i)) ((wr.drew.setCells aA (off+(x+i)*k) (enc dk[y+i]!)).setCells aA (off+(y+i)*k) (enc dk[x+i]!))):=S1.out.swapped R (x+i) (y+i) (by omega) (by omega);have l44a:=S1.out.ld1 R (by omega) P (x+i) (by omega);have l44b:=S1.out.ld1 R (by omega) P (y+i) (by omega);have s44a:=S1.out.st1 R (by omega) P (x+i) (by omega) dk[y+i]!;have s44b:=S1.out.st2 R (by omega) P (x+i) (y+i) (by omega) (by omega) dk[y+i]! dk[x+i]!;have n44a:(enc dk[x+i]!).length=k:=R.hk _;have n44b:(enc dk[y+i]!).length=k:=R.hk _;generalize enc dk[x+i]! =cI44 at S2 l44a s44b n44a
    generalize enc dk[y+i]! =cJ44 at S2 l44b s44a s44b n44b
    clear S1;go_big_region_o
    clear l44a l44b s44a s44b;generalize (wr.drew.setCells aA (off+(x+i)*k) cJ44).setCells aA (off+(y+i)*k) cI44=w2 at S2⊢
    go_wp2;go_roundg (n - (i+1))
    case measure=>omega
    case rel=>exact⟨i+1,swp dk (x+i) (y+i),by simp,hlt,Ad _,by rw[size_swp];omega,S2,TA d dk hds (by omega) (by omega) HE.out,fun a b h1 h2 h3=>permIn_trans _ _ _ _ _ (HP.out a b h1 h2 h3) (swp_permIn dk a b (x+i) (y+i) (by omega) (by omega) (by omega) (by omega) (by omega))⟩
  . have hltz:¬(i:Int)<(n:Int):=by omega
    have hi:i=n:=by omega
    subst hi;go_wp2;go_end0
    exact⟨rfl,dk,S1.out,hds,HE.out,HP.out⟩
set_option maxHeartbeats 4000000 in
set_option maxRecDepth 1000000 in
theorem ko.rotate (L:ko P k) (enc:α->List Value) (g:Nat) (cb:Array Value) (aA off cap a m b:Nat) (d0 d:Array α) (w0 w:World)
  (R:RowK enc k w0 aA off d0) (hs:d0.size=d.size) (S:SWK enc k w0 aA off d w) (ham:a<m) (hmb:m<b) (hb:b<=d.size) (hsz:d.size<4611686018427387904):
  Calls P 230 #[.slice (some ⟨aA,off,none⟩) d.size cap, .int .i64 a, .int .i64 m, .int .i64 b, .func (.func g) #[] cb] w fun e w'=>e= .returned (.tuple #[])/\ ∃d',SWK enc k w0 aA off d' w'/\d'.size=d.size/\(∀i,d'[i]! =fI (fun i=>d[i]!) a m b i)/\PermIn a b d d':=by
 have mixed:=L.mixed;have t0:=L.t0;have a0:=L.a0;have z0:=L.z0;have v0:=L.v0;have t3:=L.t3;have a3:=L.a3;have z3:=L.z3;have v3:=L.v3;have t4:=L.t4;have a4:=L.a4;have z4:=L.z4;have v4:=L.v4;have t39:=L.t39;have a39:=L.a39;have z39:=L.z39;have v39:=L.v39;have t150:=L.t150;have fW:=L.fW;have gk:=L.gk;have gj:=L.gj;have FG:=L.f230;have e251:∀args w,(callFunc 251 args).run P w= .ok (.enter 251 args) w:=enters_of L.f251 (by kernel_rfl) rfl;have S0:Aside (SWK enc k w0 aA off d w):=S;clear S;go_enter FG,Tryz.ntmps230
 go_wp2;go_loopg [10,11] ((m - a)+(b - m)) (fun kx s10 s11 wr=>∃(i j:Nat) (dk:Array α),s10= .int .i64 i/\s11= .int .i64 j/\0<i/\0<j/\a+i<=m/\m+j<=b/\i+j<=kx/\dk.size=d.size/\Aside (SWK enc k w0 aA off dk wr)/\RowKit.Hid (fI (fun i=>d[i]!) a m b=fI (fun i=>dk[i]!) (m - i) m (m+j))/\RowKit.Hid (PermIn a b d dk))
 case atStart=>exact⟨m - a,b - m,d,by grind,by grind,by omega,by omega,by omega,by omega,Ad _,rfl,S0,by show _=_;congr 1<;>omega,permIn_refl _ _ _⟩
 case round=>
  clear S0;obtain⟨i,j,dk,rfl,rfl,hi0,hj0,hai,hjb,hkx,hds,S1,HE,HP⟩:=hrel;have esub:((m - i:Nat):Int)=(m:Int) - (i:Int):=by omega
  by_cases hne:i=j
  . subst hne;have hcall:=L.gR enc g cb aA off cap (m - i) m i d0 dk w0 wr R (by omega) S1.out (by omega) (by omega) (by omega);rw[hds,esub]at hcall;clear S1;go_wp2_with (go_at_fn 251;refine hcall.mono ?_;rintro e w1 ⟨rfl,d',S3,hz,hr,hp⟩)
    go_end0
    refine⟨rfl,d',S3,hz,fun z=>?_,permIn_trans _ _ _ _ _ HP.out (hp a b (by omega) (by omega) (by omega))⟩;rw[hr,HE.out,WX _ (by omega)]
  . have hnez:¬(i:Int)=(j:Int):=by omega
    by_cases hgt:j<i
    . have hgtz:(i:Int)>(j:Int):=by omega
      have hcall:=L.gR enc g cb aA off cap (m - i) m j d0 dk w0 wr R (by omega) S1.out (by omega) (by omega) (by omega);rw[hds,esub]at hcall;clear S1;go_wp2_with (go_at_fn 251;refine hcall.mono ?_;rintro e w1 ⟨rfl,d',S3,hz,hr,hp⟩)
      go_roundg (i - j+j)
      case measure=>omega
      case rel=>exact⟨i - j,j,d',by grind,rfl,by omega,hj0,by omega,hjb,Ad _,hz,S3,by show _=_;rw[HE.out,WW _ (by omega) hgt hj0,<-funext hr],permIn_trans _ _ _ _ _ HP.out (hp a b (by omega) (by omega) (by omega))⟩
    . have hgtz:¬(i:Int)>(j:Int):=by omega
      have hcall:=L.gR enc g cb aA off cap (m - i) (m+j - i) i d0 dk w0 wr R (by omega) S1.out (by omega) (by omega) (by omega);have esub2:((m+j - i:Nat):Int)=(m:Int)+(j:Int) - (i:Int):=by omega
      rw[hds,esub,esub2]at hcall;clear S1;go_wp2_with (go_at_fn 251;refine hcall.mono ?_;rintro e w1 ⟨rfl,d',S3,hz,hr,hp⟩)
      go_roundg (i+(j - i))
      case measure=>omega
      case rel=>exact⟨i,j - i,d',rfl,by grind,hi0,by omega,hai,by omega,Ad _,hz,S3,by show _=_;rw[HE.out,WV _ (by omega) (by omega) hi0,<-funext hr],permIn_trans _ _ _ _ _ HP.out (hp a b (by omega) (by omega) (by omega))⟩
end
section
variable {P:Program} {α:Type} [Inhabited α] {k:Nat}
set_option maxHeartbeats 8000000 in
set_option maxRecDepth 1000000 in
theorem ko.Gw (L:ko P k) (enc:α->List Value) (cf:α->α->Int) (hS:SWO (ltOf cf)) (g:Nat) (cb:Array Value) (aA off cap a m b:Nat) (d0 d:Array α) (w0 w:World)
  (eg:∀args w,(callFunc g args).run P w= .ok (.enter g args) w) (hcmp:CmpLays P g cb enc k cf aA off d0.size w0)
  (R:RowK enc k w0 aA off d0) (hs:d0.size=d.size) (S:SWK enc k w0 aA off d w) (ham:m=a+1) (hmb:m<b) (hb:b<=d.size) (hsz:d.size<4611686018427387904) (h2:SortedIn (ltOf cf) m b d):
  Calls P 195 #[.slice (some ⟨aA,off,none⟩) d.size cap, .int .i64 a, .int .i64 m, .int .i64 b, .func (.func g) #[] cb] w fun e w'=>e= .returned (.tuple #[])/\ ∃d',SWK enc k w0 aA off d' w'/\d'.size=d.size/\PermIn a b d d'/\SortedIn (ltOf cf) a b d':=by
 have mixed:=L.mixed;have t0:=L.t0;have a0:=L.a0;have z0:=L.z0;have v0:=L.v0;have t3:=L.t3;have a3:=L.a3;have z3:=L.z3;have v3:=L.v3;have t4:=L.t4;have a4:=L.a4;have z4:=L.z4;have v4:=L.v4;have t39:=L.t39;have a39:=L.a39;have z39:=L.z39;have v39:=L.v39;have t150:=L.t150;have fW:=L.fW;have gk:=L.gk;have gj:=L.gj;have t198:=L.t198;have a198:=L.a198;have z198:=L.z198;have v198:=L.v198;have aE:=L.aE;have zE:=L.zE;have FG:=L.f195;have HC:Aside _:=hcmp;have HS:RowKit.Hid _:=hS;have H2:RowKit.Hid _:=h2;have S0:Aside (SWK enc k w0 aA off d w):=S;clear S hcmp hS h2;have c1:(m:Int) - (a:Int)=1:=by omega
 have HM:RowKit.Hid (m=a+1):=ham;have hma:a<m:=by omega
 have hma2:m<=a+1:=by omega
 clear ham;go_enter FG,Tryz.ntmps195
 go_wp2;go_loopg [10,11] (b - m) (fun kx s10 s11 wr=>∃(i j:Nat),s10= .int .i64 i/\s11= .int .i64 j/\m<=i/\i<=j/\j<=b/\j - i<=kx/\Aside (SWK enc k w0 aA off d wr)/\RowKit.Hid (m<i->ltOf cf d[i - 1]! d[a]! =true)/\RowKit.Hid (j<b->ltOf cf d[j]! d[a]! =false))
 case atStart=>exact⟨m,b,rfl,rfl,Ad _,by omega,Ad _,Ad _,S0,fun h=>absurd h (DW _),fun h=>absurd h (DW _)⟩
 case round=>
  clear S0;obtain⟨i,j,rfl,rfl,hmi,hij,hjb,hkx,S1,HL,HR⟩:=hrel;by_cases hlt:i<j
  . have hltz:(i:Int)<(j:Int):=by omega
    obtain⟨h,hh⟩:∃h,h=(i+j) / 2:=⟨_,rfl⟩;have hz:((i:Int)+(j:Int)) / 2=(h:Int):=by omega
    have hih:i<=h:=by omega
    have hhj:h<j:=by omega
    obtain⟨x38,hx38⟩:∃x,x=d[h]! :=⟨_,rfl⟩;obtain⟨y38,hy38⟩:∃x,x=d[a]! :=⟨_,rfl⟩;have l38a:=S1.out.ld R (by omega) P h (by omega);have l38b:=S1.out.ld R (by omega) P a (by omega);rw[<-hx38]at l38a;rw[<-hy38]at l38b;have hc38:=S1.out.cmp HC.out (by omega) x38 y38;have bz1:(h:Int)<(d.size:Int):=by omega
    have bz2:(a:Int)<(d.size:Int):=by omega
    have HX:RowKit.Hid (x38=d[h]! /\y38=d[a]!):=⟨hx38,hy38⟩;clear hx38 hy38 hh;by_cases hv38:cf x38 y38<0
    . go_wp2_with fail
      go_quiet_grown (first|(go_at_fn g;refine Calls.grown_of (hc38 _ _)))
      have S2:Aside (SWK enc k w0 aA off d (grow (wr.drewN nq) osq)):=S1.out.grown nq osq;clear l38a l38b hc38 S1;generalize grow (wr.drewN nq) osq=w2 at S2⊢
      clear nq osq;go_wp2;go_roundg (j - (h+1))
      case measure=>omega
      case rel=>exact⟨h+1,j,by simp,rfl,by omega,by omega,hjb,Ad _,S2,fun _=>by rw[D2,<-HX.out.1,<-HX.out.2];exact B7 hv38,HR.out⟩
    . go_wp2_with fail
      go_quiet_grown (first|(go_at_fn g;refine Calls.grown_of (hc38 _ _)))
      have S2:Aside (SWK enc k w0 aA off d (grow (wr.drewN nq) osq)):=S1.out.grown nq osq;clear l38a l38b hc38 S1;generalize grow (wr.drewN nq) osq=w2 at S2⊢
      clear nq osq;go_wp2;go_roundg (h - i)
      case measure=>omega
      case rel=>exact⟨i,h,rfl,rfl,hmi,hih,by omega,Ad _,S2,HL.out,fun _=>by rw[<-HX.out.1,<-HX.out.2];exact A5 (by omega)⟩
  . have hltz:¬(i:Int)<(j:Int):=by omega
    have hi:j=i:=by omega
    subst hi;go_wp2;go_loopg [13] (j - m) (fun kx s13 wr2=>∃(q:Nat) (dk:Array α),s13= .int .i64 q/\a<=q/\q+1<=j/\j - (q+1)<=kx/\dk.size=d.size/\Aside (SWK enc k w0 aA off dk wr2)/\RowKit.Hid (∀z,dk[z]! =lA (fun i=>d[i]!) a (q+1) z)/\RowKit.Hid (PermIn a b d dk))
    case atStart=>exact⟨a,d,rfl,Ad _,by omega,by omega,rfl,S1,fun z=>(T4 _ _ _).symm,permIn_refl _ _ _⟩
    case round=>
      clear S1;obtain⟨q,dk,rfl,haq,hqj,hkx2,hds,S1,HE,HP⟩:=hrel;by_cases hlt2:q+1<j
      . have hltz2:(q:Int)<(j:Int) - 1:=by omega
        have bz1:(q:Int)<(d.size:Int):=by omega
        have bz2:(q:Int)+1<(d.size:Int):=by omega
        have e0:((q:Int)+1).toNat=q+1:=by omega
        have p0:(0:Int)<=(q:Int)+1:=by omega
        have S2:Aside (SWK enc k w0 aA off (swp dk q (q+1)) ((wr.drew.setCells aA (off+q*k) (enc dk[q+1]!)).setCells aA (off+(q+1)*k) (enc dk[q]!))):=S1.out.swapped R q (q+1) (by omega) (by omega);have l44a:=S1.out.ld1 R (by omega) P q (by omega);have l44b:=S1.out.ld1 R (by omega) P (q+1) (by omega);have s44a:=S1.out.st1 R (by omega) P q (by omega) dk[q+1]!;have s44b:=S1.out.st2 R (by omega) P q (q+1) (by omega) (by omega) dk[q+1]! dk[q]!;have n44a:(enc dk[q]!).length=k:=R.hk _;have n44b:(enc dk[q+1]!).length=k:=R.hk _;generalize enc dk[q]! =cI44 at S2 l44a s44b n44a
        generalize enc dk[q+1]! =cJ44 at S2 l44b s44a s44b n44b
        clear S1;go_wp2_with fail
        go_big_region_o
        clear l44a l44b s44a s44b;generalize (wr.drew.setCells aA (off+q*k) cJ44).setCells aA (off+(q+1)*k) cI44=w2 at S2⊢
        go_wp2;go_roundg (j - (q+1+1))
        case measure=>omega
        case rel=>exact⟨q+1,swp dk q (q+1),by simp,by omega,hlt2,Ad _,by rw[size_swp];omega,S2,T5 d dk hds haq (by omega) HE.out,permIn_trans _ _ _ _ _ HP.out (swp_permIn dk a b q (q+1) (by omega) (by omega) (by omega) (by omega) (by omega))⟩
      . have hltz2:¬(q:Int)<(j:Int) - 1:=by omega
        have hq:j=q+1:=by omega
        subst hq;go_wp2
        (try simp only[Exit.inBlock,Exit.then]);refine bodyPost_ret (results_none rfl _ _ _) rfl ?_
        refine⟨rfl,dk,S1.out,hds,HP.out,UT (i:=q+1) HS.out (by have:=H2.out;rwa [HM.out]at this) (by omega) hjb (fun hx=>?_) HR.out HE.out⟩;exact HL.out (by omega)
set_option maxHeartbeats 8000000 in
set_option maxRecDepth 1000000 in
theorem ko.Gx (L:ko P k) (enc:α->List Value) (cf:α->α->Int) (hS:SWO (ltOf cf)) (g:Nat) (cb:Array Value) (aA off cap a m b:Nat) (d0 d:Array α) (w0 w:World)
  (eg:∀args w,(callFunc g args).run P w= .ok (.enter g args) w) (hcmp:CmpLays P g cb enc k cf aA off d0.size w0)
  (R:RowK enc k w0 aA off d0) (hs:d0.size=d.size) (S:SWK enc k w0 aA off d w) (ham:a+1<m) (hmb:b=m+1) (hb:b<=d.size) (hsz:d.size<4611686018427387904) (h1:SortedIn (ltOf cf) a m d):
  Calls P 195 #[.slice (some ⟨aA,off,none⟩) d.size cap, .int .i64 a, .int .i64 m, .int .i64 b, .func (.func g) #[] cb] w fun e w'=>e= .returned (.tuple #[])/\ ∃d',SWK enc k w0 aA off d' w'/\d'.size=d.size/\PermIn a b d d'/\SortedIn (ltOf cf) a b d':=by
 have mixed:=L.mixed;have t0:=L.t0;have a0:=L.a0;have z0:=L.z0;have v0:=L.v0;have t3:=L.t3;have a3:=L.a3;have z3:=L.z3;have v3:=L.v3;have t4:=L.t4;have a4:=L.a4;have z4:=L.z4;have v4:=L.v4;have t39:=L.t39;have a39:=L.a39;have z39:=L.z39;have v39:=L.v39;have t150:=L.t150;have fW:=L.fW;have gk:=L.gk;have gj:=L.gj;have t198:=L.t198;have a198:=L.a198;have z198:=L.z198;have v198:=L.v198;have aE:=L.aE;have zE:=L.zE;have FG:=L.f195;have HC:Aside _:=hcmp;have HS:RowKit.Hid _:=hS;have H1:RowKit.Hid _:=h1;have S0:Aside (SWK enc k w0 aA off d w):=S;clear S hcmp hS h1;have c0:((m:Int) - (a:Int)==1)=false:=by rw[De];omega
 have c1:(b:Int) - (m:Int)=1:=by omega
 have HM:RowKit.Hid (b=m+1):=hmb;have hmb1:m<b:=by omega
 have hmb2:b<=m+1:=by omega
 clear hmb;go_enter FG,Tryz.ntmps195
 go_wp2;go_loopg [14,15] (m - a) (fun kx s10 s11 wr=>∃(i j:Nat),s10= .int .i64 i/\s11= .int .i64 j/\a<=i/\i<=j/\j<=m/\j - i<=kx/\Aside (SWK enc k w0 aA off d wr)/\RowKit.Hid (a<i->ltOf cf d[m]! d[i - 1]! =false)/\RowKit.Hid (j<m->ltOf cf d[m]! d[j]! =true))
 case atStart=>grind
 case round=>
  clear S0;obtain⟨i,j,rfl,rfl,hmi,hij,hjb,hkx,S1,HL,HR⟩:=hrel;by_cases hlt:i<j
  . have hltz:(i:Int)<(j:Int):=by omega
    obtain⟨h,hh⟩:∃h,h=(i+j) / 2:=⟨_,rfl⟩;have hz:((i:Int)+(j:Int)) / 2=(h:Int):=by omega
    have hih:i<=h:=by omega
    have hhj:h<j:=by omega
    obtain⟨x38,hx38⟩:∃x,x=d[m]! :=⟨_,rfl⟩;obtain⟨y38,hy38⟩:∃x,x=d[h]! :=⟨_,rfl⟩;have l38a:=S1.out.ld R (by omega) P m (by omega);have l38b:=S1.out.ld R (by omega) P h (by omega);rw[<-hx38]at l38a;rw[<-hy38]at l38b;have hc38:=S1.out.cmp HC.out (by omega) x38 y38;have bz1:(h:Int)<(d.size:Int):=by omega
    have bz2:(m:Int)<(d.size:Int):=by omega
    have HX:RowKit.Hid (x38=d[m]! /\y38=d[h]!):=⟨hx38,hy38⟩;clear hx38 hy38 hh;by_cases hv38:cf x38 y38<0
    . have hd38:decide (cf x38 y38<0)=true:=B7 hv38;go_wp2_with fail
      go_quiet_grown (first|(go_at_fn g;refine Calls.grown_of (hc38 _ _)))
      have S2:Aside (SWK enc k w0 aA off d (grow (wr.drewN nq) osq)):=S1.out.grown nq osq;clear l38a l38b hc38 S1;generalize grow (wr.drewN nq) osq=w2 at S2⊢
      clear nq osq;go_wp2;go_roundg (h - i)
      case measure=>omega
      case rel=>exact⟨i,h,rfl,rfl,hmi,hih,by omega,Ad _,S2,HL.out,fun _=>by rw[<-HX.out.1,<-HX.out.2];exact B7 hv38⟩
    . have hd38:decide (cf x38 y38<0)=false:=A5 (by omega);go_wp2_with fail
      go_quiet_grown (first|(go_at_fn g;refine Calls.grown_of (hc38 _ _)))
      have S2:Aside (SWK enc k w0 aA off d (grow (wr.drewN nq) osq)):=S1.out.grown nq osq;clear l38a l38b hc38 S1;generalize grow (wr.drewN nq) osq=w2 at S2⊢
      clear nq osq;go_wp2;go_roundg (j - (h+1))
      case measure=>omega
      case rel=>exact⟨h+1,j,by simp,rfl,by omega,by omega,hjb,Ad _,S2,fun _=>by rw[D2,<-HX.out.1,<-HX.out.2];exact A5 (by omega),HR.out⟩
  . have hltz:¬(i:Int)<(j:Int):=by omega
    have hi:j=i:=by omega
    subst hi;go_wp2;go_loopg [17] (m - j) (fun kx s13 wr2=>∃(q:Nat) (dk:Array α),s13= .int .i64 q/\j<=q/\q<=m/\q - j<=kx/\dk.size=d.size/\Aside (SWK enc k w0 aA off dk wr2)/\RowKit.Hid (∀z,dk[z]! =lz (fun i=>d[i]!) q m z)/\RowKit.Hid (PermIn a b d dk))
    case atStart=>exact⟨m,d,rfl,by omega,by omega,by omega,rfl,S1,fun z=>(TZ _ _ _).symm,permIn_refl _ _ _⟩
    case round=>
      clear S1;obtain⟨q,dk,rfl,haq,hqj,hkx2,hds,S1,HE,HP⟩:=hrel;by_cases hlt2:j<q
      . obtain⟨q,rfl⟩:∃p,q=p+1:=⟨q - 1,by omega⟩;have hltz2:(q:Int)+1>(j:Int):=by omega
        have bz1:(q:Int)<(d.size:Int):=by omega
        have bz2:(q:Int)+1<(d.size:Int):=by omega
        have e0:((q:Int)+1).toNat=q+1:=by omega
        have p0:(0:Int)<=(q:Int)+1:=by omega
        have wq:IntKind.i64.wrap (q:Int)=(q:Int):=by rw[IntKind.wrap_i64];omega
        have S2:Aside (SWK enc k w0 aA off (swp dk (q+1) q) ((wr.drew.setCells aA (off+(q+1)*k) (enc dk[q]!)).setCells aA (off+q*k) (enc dk[q+1]!))):=S1.out.swapped R (q+1) q (by omega) (by omega);have l44a:=S1.out.ld1 R (by omega) P q (by omega);have l44b:=S1.out.ld1 R (by omega) P (q+1) (by omega);have s44a:=S1.out.st1 R (by omega) P (q+1) (by omega) dk[q]!;have s44b:=S1.out.st2 R (by omega) P (q+1) q (by omega) (by omega) dk[q]! dk[q+1]!;have n44a:(enc dk[q]!).length=k:=R.hk _;have n44b:(enc dk[q+1]!).length=k:=R.hk _;generalize enc dk[q]! =cI44 at S2 l44a s44a s44b n44a
        generalize enc dk[q+1]! =cJ44 at S2 l44b s44b n44b
        clear S1;go_wp2_with fail
        go_big_region_o
        clear l44a l44b s44a s44b;generalize (wr.drew.setCells aA (off+(q+1)*k) cI44).setCells aA (off+q*k) cJ44=w2 at S2⊢
        go_wp2;go_roundg (q - j)
        case measure=>omega
        case rel=>exact⟨q,swp dk (q+1) q,by simp,by omega,by omega,Ad _,by rw[size_swp];omega,S2,T3 d dk hds hqj (by omega) HE.out,permIn_trans _ _ _ _ _ HP.out (swp_permIn dk a b (q+1) q (by omega) (by omega) (by omega) (by omega) (by omega))⟩
      . have hltz2:¬(q:Int)>(j:Int):=by omega
        have hq:q=j:=by omega
        subst hq;go_wp2
        (try simp only[Exit.inBlock,Exit.then]);refine bodyPost_ret (results_none rfl _ _ _) rfl ?_
        refine⟨rfl,dk,S1.out,hds,HP.out,?_⟩;rw[HM.out];exact US HS.out H1.out hmi hqj HL.out HR.out HE.out
end
section
variable {P:Program} {α:Type} [Inhabited α] {k:Nat}
def NF (P:Program) (enc:α->List Value) (k:Nat) (cf:α->α->Int) (g:Nat) (cb:Array Value) (aA off cap:Nat) (d0:Array α) (w0:World) (N:Nat):Prop:=
 ∀(a m b:Nat) (d:Array α) (w:World),b - a<N->d0.size=d.size->SWK enc k w0 aA off d w->a<m->m<b->b<=d.size->SortedIn (ltOf cf) a m d->SortedIn (ltOf cf) m b d->
  Calls P 195 #[.slice (some ⟨aA,off,none⟩) d0.size cap, .int .i64 a, .int .i64 m, .int .i64 b, .func (.func g) #[] cb] w fun e w'=>e= .returned (.tuple #[])/\ ∃d',SWK enc k w0 aA off d' w'/\d'.size=d.size/\PermIn a b d d'/\SortedIn (ltOf cf) a b d'
set_option maxHeartbeats 16000000 in
set_option maxRecDepth 1000000 in
theorem ko.Gy (L:ko P k) (enc:α->List Value) (cf:α->α->Int) (hS:SWO (ltOf cf)) (g:Nat) (cb:Array Value) (aA off cap a m b:Nat) (d0 d:Array α) (w0 w:World)
  (eg:∀args w,(callFunc g args).run P w= .ok (.enter g args) w) (hcmp:CmpLays P g cb enc k cf aA off d0.size w0)
  (R:RowK enc k w0 aA off d0) (hs:d0.size=d.size) (S:SWK enc k w0 aA off d w) (ham:a+1<m) (hmb:m+1<b) (hb:b<=d.size) (hsz:d.size<4611686018427387904) (h1:SortedIn (ltOf cf) a m d) (h2:SortedIn (ltOf cf) m b d) (IH:NF P enc k cf g cb aA off cap d0 w0 (b - a)):
  Calls P 195 #[.slice (some ⟨aA,off,none⟩) d.size cap, .int .i64 a, .int .i64 m, .int .i64 b, .func (.func g) #[] cb] w fun e w'=>e= .returned (.tuple #[])/\ ∃d',SWK enc k w0 aA off d' w'/\d'.size=d.size/\PermIn a b d d'/\SortedIn (ltOf cf) a b d':=by
 have mixed:=L.mixed;have t0:=L.t0;have a0:=L.a0;have z0:=L.z0;have v0:=L.v0;have t3:=L.t3;have a3:=L.a3;have z3:=L.z3;have v3:=L.v3;have t4:=L.t4;have a4:=L.a4;have z4:=L.z4;have v4:=L.v4;have t39:=L.t39;have a39:=L.a39;have z39:=L.z39;have v39:=L.v39;have t150:=L.t150;have fW:=L.fW;have gk:=L.gk;have gj:=L.gj;have t198:=L.t198;have a198:=L.a198;have z198:=L.z198;have v198:=L.v198;have aE:=L.aE;have zE:=L.zE;have FG:=L.f195;have e195:∀args w,(callFunc 195 args).run P w= .ok (.enter 195 args) w:=enters_of L.f195 (by kernel_rfl) rfl;have e230:∀args w,(callFunc 230 args).run P w= .ok (.enter 230 args) w:=enters_of L.f230 (by kernel_rfl) rfl;have HC:Aside _:=hcmp;have HS:RowKit.Hid _:=hS;have H1:RowKit.Hid _:=h1;have H2:RowKit.Hid _:=h2;have HI:Aside _:=IH;have HZ:RowKit.Hid _:=hs;have S0:Aside (SWK enc k w0 aA off d w):=S;clear S hcmp hS h1 h2 IH hs;have c0:((m:Int) - (a:Int)==1)=false:=by rw[De];omega
 have c1:((b:Int) - (m:Int)==1)=false:=by rw[De];omega
 obtain⟨bW,hmid⟩:∃x,x=(a+b) / 2:=⟨_,rfl⟩;have hzm:((a:Int)+(b:Int)) / 2=(bW:Int):=by omega
 have hm1:2*bW<=a+b:=by omega
 have hm2:a+b<=2*bW+1:=by omega
 clear hmid;obtain⟨s0,r0,hc⟩:∃s0 r0,(bW<m/\s0=bW+m - b/\r0=bW)\/(m<=bW/\s0=a/\r0=m):=by
  by_cases h:bW<m
  . exact⟨_,_, .inl ⟨h,rfl,rfl⟩⟩
  . exact⟨_,_, .inr ⟨by omega,rfl,rfl⟩⟩
 have f1:a<=s0:=by omega
 have f2:s0<=r0:=by omega
 have f3:r0<=m:=by omega
 have f4:r0<=bW:=by omega
 have f5:bW+m<=s0+b:=by omega
 have F6:RowKit.Hid (a<s0->bW+m=s0+b):=fun _=>by omega
 have F7:RowKit.Hid (r0<m->r0=bW):=fun _=>by omega
 have HE:RowKit.Hid _:=hc;clear hc;by_cases hgt:bW<m
 case' pos=>
  have hgtz:(m:Int)>(bW:Int):=by omega
  have hzs:(bW:Int)+(m:Int) - (b:Int)=(s0:Int):=by have:=HE.out;omega
  go_enter FG,Tryz.ntmps195
  go_wp2
 case' neg=>
  have hgtz:¬(m:Int)>(bW:Int):=by omega
  have hzs:(a:Int)=(s0:Int):=by have:=HE.out;omega
  have HZS:RowKit.Hid _:=hzs;clear hzs;go_enter FG,Tryz.ntmps195
  go_wp2
 all_goals (
  go_loopg [20,21] (r0 - s0) (fun kx s10 s11 wr=>∃(i j:Nat),s10= .int .i64 i/\s11= .int .i64 j/\s0<=i/\i<=j/\j<=r0/\j - i<=kx/\Aside (SWK enc k w0 aA off d wr)/\RowKit.Hid (s0<i->ltOf cf d[bW+m - i]! d[i - 1]! =false)/\RowKit.Hid (j<r0->ltOf cf d[bW+m - 1 - j]! d[j]! =true))
  case atStart=>exact⟨s0,r0,by have:=HE.out;first|(congr 1;omega)|congr 1,by have:=HE.out;first|(congr 1;omega)|congr 1,Ad _,f2,Ad _,Ad _,S0,fun h=>absurd h (DW _),fun h=>absurd h (DW _)⟩
  case round=>
    clear S0;obtain⟨i,j,rfl,rfl,hmi,hij,hjb,hkx,S1,HL,HR⟩:=hrel;by_cases hlt:i<j
    . have hltz:(i:Int)<(j:Int):=by omega
      obtain⟨h,hh⟩:∃h,h=(i+j) / 2:=⟨_,rfl⟩;have hz:((i:Int)+(j:Int)) / 2=(h:Int):=by omega
      have hih:i<=h:=by omega
      have hhj:h<j:=by omega
      obtain⟨q,hq⟩:∃q,q=bW+m - 1 - h:=⟨_,rfl⟩;have hq1:q+h+1=bW+m:=by omega
      have hqz:(bW:Int)+(m:Int) - 1 - (h:Int)=(q:Int):=by omega
      have hqb:q<b:=by omega
      have wq:IntKind.i64.wrap (q:Int)=(q:Int):=by rw[IntKind.wrap_i64];omega
      have pq:(0:Int)<=(q:Int):=by omega
      obtain⟨x38,hx38⟩:∃x,x=d[q]! :=⟨_,rfl⟩;obtain⟨y38,hy38⟩:∃x,x=d[h]! :=⟨_,rfl⟩;have l38a:=S1.out.ld R HZ.out.symm P q (by omega);have l38b:=S1.out.ld R HZ.out.symm P h (by omega);rw[<-hx38]at l38a;rw[<-hy38]at l38b;have hc38:=S1.out.cmp HC.out HZ.out.symm x38 y38;have bz1:(h:Int)<(d.size:Int):=by omega
      have bz2:(q:Int)<(d.size:Int):=by omega
      have HX:RowKit.Hid (x38=d[q]! /\y38=d[h]!):=⟨hx38,hy38⟩;clear hx38 hy38 hh hq;by_cases hv38:cf x38 y38<0
      . have hd38:decide (cf x38 y38<0)=true:=B7 hv38;go_wp2_with fail
        go_quiet_grown (first|(go_at_fn g;refine Calls.grown_of (hc38 _ _)))
        have S2:Aside (SWK enc k w0 aA off d (grow (wr.drewN nq) osq)):=S1.out.grown nq osq;clear l38a l38b hc38 S1;generalize grow (wr.drewN nq) osq=w2 at S2⊢
        clear nq osq;go_wp2;go_roundg (h - i)
        case measure=>omega
        case rel=>exact⟨i,h,rfl,rfl,hmi,hih,by omega,Ad _,S2,HL.out,fun _=>by rw[show bW+m - 1 - h=q by omega,<-HX.out.1,<-HX.out.2];exact B7 hv38⟩
      . have hd38:decide (cf x38 y38<0)=false:=A5 (by omega);go_wp2_with fail
        go_quiet_grown (first|(go_at_fn g;refine Calls.grown_of (hc38 _ _)))
        have S2:Aside (SWK enc k w0 aA off d (grow (wr.drewN nq) osq)):=S1.out.grown nq osq;clear l38a l38b hc38 S1;generalize grow (wr.drewN nq) osq=w2 at S2⊢
        clear nq osq;go_wp2;go_roundg (j - (h+1))
        case measure=>omega
        case rel=>exact⟨h+1,j,by simp,rfl,by omega,by omega,hjb,Ad _,S2,fun _=>by rw[D2,show bW+m - (h+1)=q by omega,<-HX.out.1,<-HX.out.2];exact A5 (by omega),HR.out⟩
    . have hltz:¬(i:Int)<(j:Int):=by omega
      have hi:j=i:=by omega
      subst hi;obtain⟨e,he⟩:∃e,e=bW+m - j:=⟨_,rfl⟩;have he1:e+j=bW+m:=by omega
      have hez:(bW:Int)+(m:Int) - (j:Int)=(e:Int):=by omega
      have hjm:j<=m:=by omega
      have hme:m<=e:=by omega
      have heb:e<=b:=by omega
      have hse:j+(e - m)=bW:=by omega
      have GL:RowKit.Hid (a<j->e<b->ltOf cf d[e]! d[j - 1]! =false):=fun x y=>by
        rw[he];exact HL.out (by have:=F6.out;omega)
      have GR:RowKit.Hid (j<m->m<e->ltOf cf d[e - 1]! d[j]! =true):=fun x y=>by
        rw[show e - 1=bW+m - 1 - j by omega];exact HR.out (by have:=F7.out;omega)
      clear he HL HR;by_cases q1:j<m/\m<e
      . by_cases q2:a<j/\j<bW
        . by_cases q3:bW<e/\e<b
          . first|(exfalso;have:=HE.out;omega)|(
           obtain⟨q1a,q1b⟩:=q1;have y1:(j:Int)<(m:Int):=by omega
           have y2:(m:Int)<(e:Int):=by omega
           obtain⟨q2a,q2b⟩:=q2;have x1:(a:Int)<(j:Int):=by omega
           have x2:(j:Int)<(bW:Int):=by omega
           obtain⟨q3a,q3b⟩:=q3;have v1:(bW:Int)<(e:Int):=by omega
           have v2:(e:Int)<(b:Int):=by omega
           have hrot:=L.rotate enc g cb aA off cap j m e d0 d w0 wr R HZ.out S1.out q1a q1b (by omega) hsz;clear S1;go_wp2_with (go_at_fn 230;refine hrot.mono ?_;clear hrot;rintro e1 w1 ⟨rfl,d1,Q2,hz1,r1,p1⟩)
           have S2:Aside (SWK enc k w0 aA off d1 w1):=Q2;have RR:RowKit.Hid _:=r1;have PP:RowKit.Hid _:=permIn_mono _ _ _ _ a b (by omega) heb hb p1;clear Q2 r1 p1;obtain⟨o1,o2,o3,o4⟩:=qS HS.out H1.out H2.out (by omega) hjm hme heb hse GL.out GR.out RR.out;have O1:RowKit.Hid _:=o1;have O2:RowKit.Hid _:=o2;have O3:RowKit.Hid _:=o3;have O4:RowKit.Hid _:=o4;clear o1 o2 o3 o4;have hm1:=HI.out a j bW d1 w1 (by omega) (by rw[hz1];exact HZ.out) S2.out q2a q2b (by omega) O1.out O2.out;rw[HZ.out]at hm1;clear S2;go_wp2_with (go_at_fn 195;refine hm1.mono ?_;clear hm1;rintro e2 w2 ⟨rfl,d2,Q3,hz2,p2,s2⟩)
           have S3:Aside (SWK enc k w0 aA off d2 w2):=Q3;have P2:RowKit.Hid _:=p2;have T2:RowKit.Hid _:=s2;clear Q3 p2 s2;have U3:RowKit.Hid _:=ln P2.out (Ad _) O3.out;have U4:RowKit.Hid _:=ln P2.out (show bW<=e by omega) O4.out;have hm3:=HI.out bW e b d2 w2 (by omega) (by rw[hz2,hz1];exact HZ.out) S3.out q3a q3b (by omega) U3.out U4.out;rw[HZ.out]at hm3;clear S3;go_wp2_with (go_at_fn 195;refine hm3.mono ?_;clear hm3;rintro e3 w3 ⟨rfl,d3,S4,hz3,p3,s3⟩)
           go_end0
           obtain⟨g1,g2⟩:=merged HS.out hb H1.out H2.out (by omega) hjm hme heb hse GL.out GR.out PP.out RR.out (by omega) (by omega) P2.out (fun _ _=>T2.out) p3 (fun _ _=>s3);exact⟨rfl,d3,S4,by omega,g1,g2⟩)
          . first|(exfalso;have:=HE.out;omega)|(
           obtain⟨q1a,q1b⟩:=q1;have y1:(j:Int)<(m:Int):=by omega
           have y2:(m:Int)<(e:Int):=by omega
           obtain⟨q2a,q2b⟩:=q2;have x1:(a:Int)<(j:Int):=by omega
           have x2:(j:Int)<(bW:Int):=by omega
           have v1:(decide ((bW:Int)<(e:Int))&&decide ((e:Int)<(b:Int)))=false:=by
            rw[Ao];intro hh;simp only[Ac,Aa]at hh;omega
           have hrot:=L.rotate enc g cb aA off cap j m e d0 d w0 wr R HZ.out S1.out q1a q1b (by omega) hsz;clear S1;go_wp2_with (go_at_fn 230;refine hrot.mono ?_;clear hrot;rintro e1 w1 ⟨rfl,d1,Q2,hz1,r1,p1⟩)
           have S2:Aside (SWK enc k w0 aA off d1 w1):=Q2;have RR:RowKit.Hid _:=r1;have PP:RowKit.Hid _:=permIn_mono _ _ _ _ a b (by omega) heb hb p1;clear Q2 r1 p1;obtain⟨o1,o2,o3,o4⟩:=qS HS.out H1.out H2.out (by omega) hjm hme heb hse GL.out GR.out RR.out;have O1:RowKit.Hid _:=o1;have O2:RowKit.Hid _:=o2;have O3:RowKit.Hid _:=o3;have O4:RowKit.Hid _:=o4;clear o1 o2 o3 o4;have hm1:=HI.out a j bW d1 w1 (by omega) (by rw[hz1];exact HZ.out) S2.out q2a q2b (by omega) O1.out O2.out;rw[HZ.out]at hm1;clear S2;go_wp2_with (go_at_fn 195;refine hm1.mono ?_;clear hm1;rintro e2 w2 ⟨rfl,d2,Q3,hz2,p2,s2⟩)
           have S3:Aside (SWK enc k w0 aA off d2 w2):=Q3;have P2:RowKit.Hid _:=p2;have T2:RowKit.Hid _:=s2;clear Q3 p2 s2;have U3:RowKit.Hid _:=ln P2.out (Ad _) O3.out;have U4:RowKit.Hid _:=ln P2.out (show bW<=e by omega) O4.out;go_wp2;go_end0
           obtain⟨g1,g2⟩:=merged HS.out hb H1.out H2.out (by omega) hjm hme heb hse GL.out GR.out PP.out RR.out (by omega) (by omega) P2.out (fun _ _=>T2.out) (permIn_refl _ _ _) (fun x y=>pK x y (by omega) (by omega) q3);exact⟨rfl,d2,S3.out,by omega,g1,g2⟩)
        . by_cases q3:bW<e/\e<b
          . first|(exfalso;have:=HE.out;omega)|(
           obtain⟨q1a,q1b⟩:=q1;have y1:(j:Int)<(m:Int):=by omega
           have y2:(m:Int)<(e:Int):=by omega
           have x1:(decide ((a:Int)<(j:Int))&&decide ((j:Int)<(bW:Int)))=false:=by
            rw[Ao];intro hh;simp only[Ac,Aa]at hh;omega
           obtain⟨q3a,q3b⟩:=q3;have v1:(bW:Int)<(e:Int):=by omega
           have v2:(e:Int)<(b:Int):=by omega
           have hrot:=L.rotate enc g cb aA off cap j m e d0 d w0 wr R HZ.out S1.out q1a q1b (by omega) hsz;clear S1;go_wp2_with (go_at_fn 230;refine hrot.mono ?_;clear hrot;rintro e1 w1 ⟨rfl,d1,Q2,hz1,r1,p1⟩)
           have S2:Aside (SWK enc k w0 aA off d1 w1):=Q2;have RR:RowKit.Hid _:=r1;have PP:RowKit.Hid _:=permIn_mono _ _ _ _ a b (by omega) heb hb p1;clear Q2 r1 p1;obtain⟨o1,o2,o3,o4⟩:=qS HS.out H1.out H2.out (by omega) hjm hme heb hse GL.out GR.out RR.out;have O1:RowKit.Hid _:=o1;have O2:RowKit.Hid _:=o2;have O3:RowKit.Hid _:=o3;have O4:RowKit.Hid _:=o4;clear o1 o2 o3 o4;obtain⟨d2,hd2⟩:∃d2,d2=d1:=⟨_,rfl⟩;have hz2:d2.size=d1.size:=by rw[hd2]
           have S3:Aside (SWK enc k w0 aA off d2 w1):=by rw[hd2];exact S2
           have P2:RowKit.Hid (PermIn a bW d1 d2):=by rw[hd2];exact permIn_refl _ _ _
           have T2:RowKit.Hid (SortedIn (ltOf cf) a bW d2):=by rw[hd2];exact pK O1.out O2.out (by omega) (by omega) q2
           obtain⟨w2,hw2⟩:∃w2,w2=w1:=⟨_,rfl⟩;rw[<-hw2]at S3⊢;clear S2 hd2 hw2;have U3:RowKit.Hid _:=ln P2.out (Ad _) O3.out;have U4:RowKit.Hid _:=ln P2.out (show bW<=e by omega) O4.out;have hm3:=HI.out bW e b d2 w2 (by omega) (by rw[hz2,hz1];exact HZ.out) S3.out q3a q3b (by omega) U3.out U4.out;rw[HZ.out]at hm3;clear S3;go_wp2_with (go_at_fn 195;refine hm3.mono ?_;clear hm3;rintro e3 w3 ⟨rfl,d3,S4,hz3,p3,s3⟩)
           go_end0
           obtain⟨g1,g2⟩:=merged HS.out hb H1.out H2.out (by omega) hjm hme heb hse GL.out GR.out PP.out RR.out (by omega) (by omega) P2.out (fun _ _=>T2.out) p3 (fun _ _=>s3);exact⟨rfl,d3,S4,by omega,g1,g2⟩)
          . first|(exfalso;have:=HE.out;omega)|(
           obtain⟨q1a,q1b⟩:=q1;have y1:(j:Int)<(m:Int):=by omega
           have y2:(m:Int)<(e:Int):=by omega
           have x1:(decide ((a:Int)<(j:Int))&&decide ((j:Int)<(bW:Int)))=false:=by
            rw[Ao];intro hh;simp only[Ac,Aa]at hh;omega
           have v1:(decide ((bW:Int)<(e:Int))&&decide ((e:Int)<(b:Int)))=false:=by
            rw[Ao];intro hh;simp only[Ac,Aa]at hh;omega
           have hrot:=L.rotate enc g cb aA off cap j m e d0 d w0 wr R HZ.out S1.out q1a q1b (by omega) hsz;clear S1;go_wp2_with (go_at_fn 230;refine hrot.mono ?_;clear hrot;rintro e1 w1 ⟨rfl,d1,Q2,hz1,r1,p1⟩)
           have S2:Aside (SWK enc k w0 aA off d1 w1):=Q2;have RR:RowKit.Hid _:=r1;have PP:RowKit.Hid _:=permIn_mono _ _ _ _ a b (by omega) heb hb p1;clear Q2 r1 p1;obtain⟨o1,o2,o3,o4⟩:=qS HS.out H1.out H2.out (by omega) hjm hme heb hse GL.out GR.out RR.out;have O1:RowKit.Hid _:=o1;have O2:RowKit.Hid _:=o2;have O3:RowKit.Hid _:=o3;have O4:RowKit.Hid _:=o4;clear o1 o2 o3 o4;obtain⟨d2,hd2⟩:∃d2,d2=d1:=⟨_,rfl⟩;have hz2:d2.size=d1.size:=by rw[hd2]
           have S3:Aside (SWK enc k w0 aA off d2 w1):=by rw[hd2];exact S2
           have P2:RowKit.Hid (PermIn a bW d1 d2):=by rw[hd2];exact permIn_refl _ _ _
           have T2:RowKit.Hid (SortedIn (ltOf cf) a bW d2):=by rw[hd2];exact pK O1.out O2.out (by omega) (by omega) q2
           obtain⟨w2,hw2⟩:∃w2,w2=w1:=⟨_,rfl⟩;rw[<-hw2]at S3⊢;clear S2 hd2 hw2;have U3:RowKit.Hid _:=ln P2.out (Ad _) O3.out;have U4:RowKit.Hid _:=ln P2.out (show bW<=e by omega) O4.out;go_wp2;go_end0
           obtain⟨g1,g2⟩:=merged HS.out hb H1.out H2.out (by omega) hjm hme heb hse GL.out GR.out PP.out RR.out (by omega) (by omega) P2.out (fun _ _=>T2.out) (permIn_refl _ _ _) (fun x y=>pK x y (by omega) (by omega) q3);exact⟨rfl,d2,S3.out,by omega,g1,g2⟩)
      . by_cases q2:a<j/\j<bW
        . by_cases q3:bW<e/\e<b
          . exfalso;have:=HE.out;omega
          . first|(exfalso;have:=HE.out;omega)|(
           have y1:(decide ((j:Int)<(m:Int))&&decide ((m:Int)<(e:Int)))=false:=by
            rw[Ao];intro hh;simp only[Ac,Aa]at hh;omega
           obtain⟨q2a,q2b⟩:=q2;have x1:(a:Int)<(j:Int):=by omega
           have x2:(j:Int)<(bW:Int):=by omega
           have v1:(decide ((bW:Int)<(e:Int))&&decide ((e:Int)<(b:Int)))=false:=by
            rw[Ao];intro hh;simp only[Ac,Aa]at hh;omega
           obtain⟨d1,hd1⟩:∃d1,d1=d:=⟨_,rfl⟩;have hz1:d1.size=d.size:=by rw[hd1]
           have S2:Aside (SWK enc k w0 aA off d1 wr):=by rw[hd1];exact S1
           have RR:RowKit.Hid (∀i,d1[i]! =fI (fun i=>d[i]!) j m e i):=fun i=>by rw[hd1,CJ _ hjm hme q1]
           have PP:RowKit.Hid (PermIn a b d d1):=by rw[hd1];exact permIn_refl _ _ _
           obtain⟨w1,hw1⟩:∃w1,w1=wr:=⟨_,rfl⟩;rw[<-hw1]at S2⊢;clear S1 hd1 hw1;obtain⟨o1,o2,o3,o4⟩:=qS HS.out H1.out H2.out (by omega) hjm hme heb hse GL.out GR.out RR.out;have O1:RowKit.Hid _:=o1;have O2:RowKit.Hid _:=o2;have O3:RowKit.Hid _:=o3;have O4:RowKit.Hid _:=o4;clear o1 o2 o3 o4;have hm1:=HI.out a j bW d1 w1 (by omega) (by rw[hz1];exact HZ.out) S2.out q2a q2b (by omega) O1.out O2.out;rw[HZ.out]at hm1;clear S2;go_wp2_with (go_at_fn 195;refine hm1.mono ?_;clear hm1;rintro e2 w2 ⟨rfl,d2,Q3,hz2,p2,s2⟩)
           have S3:Aside (SWK enc k w0 aA off d2 w2):=Q3;have P2:RowKit.Hid _:=p2;have T2:RowKit.Hid _:=s2;clear Q3 p2 s2;have U3:RowKit.Hid _:=ln P2.out (Ad _) O3.out;have U4:RowKit.Hid _:=ln P2.out (show bW<=e by omega) O4.out;go_wp2;go_end0
           obtain⟨g1,g2⟩:=merged HS.out hb H1.out H2.out (by omega) hjm hme heb hse GL.out GR.out PP.out RR.out (by omega) (by omega) P2.out (fun _ _=>T2.out) (permIn_refl _ _ _) (fun x y=>pK x y (by omega) (by omega) q3);exact⟨rfl,d2,S3.out,by omega,g1,g2⟩)
        . by_cases q3:bW<e/\e<b
          . first|(exfalso;have:=HE.out;omega)|(
           have y1:(decide ((j:Int)<(m:Int))&&decide ((m:Int)<(e:Int)))=false:=by
            rw[Ao];intro hh;simp only[Ac,Aa]at hh;omega
           have x1:(decide ((a:Int)<(j:Int))&&decide ((j:Int)<(bW:Int)))=false:=by
            rw[Ao];intro hh;simp only[Ac,Aa]at hh;omega
           obtain⟨q3a,q3b⟩:=q3;have v1:(bW:Int)<(e:Int):=by omega
           have v2:(e:Int)<(b:Int):=by omega
           obtain⟨d1,hd1⟩:∃d1,d1=d:=⟨_,rfl⟩;have hz1:d1.size=d.size:=by rw[hd1]
           have S2:Aside (SWK enc k w0 aA off d1 wr):=by rw[hd1];exact S1
           have RR:RowKit.Hid (∀i,d1[i]! =fI (fun i=>d[i]!) j m e i):=fun i=>by rw[hd1,CJ _ hjm hme q1]
           have PP:RowKit.Hid (PermIn a b d d1):=by rw[hd1];exact permIn_refl _ _ _
           obtain⟨w1,hw1⟩:∃w1,w1=wr:=⟨_,rfl⟩;rw[<-hw1]at S2⊢;clear S1 hd1 hw1;obtain⟨o1,o2,o3,o4⟩:=qS HS.out H1.out H2.out (by omega) hjm hme heb hse GL.out GR.out RR.out;have O1:RowKit.Hid _:=o1;have O2:RowKit.Hid _:=o2;have O3:RowKit.Hid _:=o3;have O4:RowKit.Hid _:=o4;clear o1 o2 o3 o4;obtain⟨d2,hd2⟩:∃d2,d2=d1:=⟨_,rfl⟩;have hz2:d2.size=d1.size:=by rw[hd2]
           have S3:Aside (SWK enc k w0 aA off d2 w1):=by rw[hd2];exact S2
           have P2:RowKit.Hid (PermIn a bW d1 d2):=by rw[hd2];exact permIn_refl _ _ _
           have T2:RowKit.Hid (SortedIn (ltOf cf) a bW d2):=by rw[hd2];exact pK O1.out O2.out (by omega) (by omega) q2
           obtain⟨w2,hw2⟩:∃w2,w2=w1:=⟨_,rfl⟩;rw[<-hw2]at S3⊢;clear S2 hd2 hw2;have U3:RowKit.Hid _:=ln P2.out (Ad _) O3.out;have U4:RowKit.Hid _:=ln P2.out (show bW<=e by omega) O4.out;have hm3:=HI.out bW e b d2 w2 (by omega) (by rw[hz2,hz1];exact HZ.out) S3.out q3a q3b (by omega) U3.out U4.out;rw[HZ.out]at hm3;clear S3;go_wp2_with (go_at_fn 195;refine hm3.mono ?_;clear hm3;rintro e3 w3 ⟨rfl,d3,S4,hz3,p3,s3⟩)
           go_end0
           obtain⟨g1,g2⟩:=merged HS.out hb H1.out H2.out (by omega) hjm hme heb hse GL.out GR.out PP.out RR.out (by omega) (by omega) P2.out (fun _ _=>T2.out) p3 (fun _ _=>s3);exact⟨rfl,d3,S4,by omega,g1,g2⟩)
          . first|(exfalso;have:=HE.out;omega)|(
           have y1:(decide ((j:Int)<(m:Int))&&decide ((m:Int)<(e:Int)))=false:=by
            rw[Ao];intro hh;simp only[Ac,Aa]at hh;omega
           have x1:(decide ((a:Int)<(j:Int))&&decide ((j:Int)<(bW:Int)))=false:=by
            rw[Ao];intro hh;simp only[Ac,Aa]at hh;omega
           have v1:(decide ((bW:Int)<(e:Int))&&decide ((e:Int)<(b:Int)))=false:=by
            rw[Ao];intro hh;simp only[Ac,Aa]at hh;omega
           obtain⟨d1,hd1⟩:∃d1,d1=d:=⟨_,rfl⟩;have hz1:d1.size=d.size:=by rw[hd1]
           have S2:Aside (SWK enc k w0 aA off d1 wr):=by rw[hd1];exact S1
           have RR:RowKit.Hid (∀i,d1[i]! =fI (fun i=>d[i]!) j m e i):=fun i=>by rw[hd1,CJ _ hjm hme q1]
           have PP:RowKit.Hid (PermIn a b d d1):=by rw[hd1];exact permIn_refl _ _ _
           obtain⟨w1,hw1⟩:∃w1,w1=wr:=⟨_,rfl⟩;rw[<-hw1]at S2⊢;clear S1 hd1 hw1;obtain⟨o1,o2,o3,o4⟩:=qS HS.out H1.out H2.out (by omega) hjm hme heb hse GL.out GR.out RR.out;have O1:RowKit.Hid _:=o1;have O2:RowKit.Hid _:=o2;have O3:RowKit.Hid _:=o3;have O4:RowKit.Hid _:=o4;clear o1 o2 o3 o4;obtain⟨d2,hd2⟩:∃d2,d2=d1:=⟨_,rfl⟩;have hz2:d2.size=d1.size:=by rw[hd2]
           have S3:Aside (SWK enc k w0 aA off d2 w1):=by rw[hd2];exact S2
           have P2:RowKit.Hid (PermIn a bW d1 d2):=by rw[hd2];exact permIn_refl _ _ _
           have T2:RowKit.Hid (SortedIn (ltOf cf) a bW d2):=by rw[hd2];exact pK O1.out O2.out (by omega) (by omega) q2
           obtain⟨w2,hw2⟩:∃w2,w2=w1:=⟨_,rfl⟩;rw[<-hw2]at S3⊢;clear S2 hd2 hw2;have U3:RowKit.Hid _:=ln P2.out (Ad _) O3.out;have U4:RowKit.Hid _:=ln P2.out (show bW<=e by omega) O4.out;go_wp2;go_end0
           obtain⟨g1,g2⟩:=merged HS.out hb H1.out H2.out (by omega) hjm hme heb hse GL.out GR.out PP.out RR.out (by omega) (by omega) P2.out (fun _ _=>T2.out) (permIn_refl _ _ _) (fun x y=>pK x y (by omega) (by omega) q3);exact⟨rfl,d2,S3.out,by omega,g1,g2⟩))
end
section
variable {P:Program} {α:Type} [Inhabited α] {k:Nat}
theorem ko.sym (L:ko P k) (enc:α->List Value) (cf:α->α->Int) (hS:SWO (ltOf cf)) (g:Nat) (cb:Array Value) (aA off cap:Nat) (d0:Array α) (w0:World)
  (eg:∀args w,(callFunc g args).run P w= .ok (.enter g args) w) (hcmp:CmpLays P g cb enc k cf aA off d0.size w0) (R:RowK enc k w0 aA off d0) (hsz:d0.size<4611686018427387904) (N:Nat):NF P enc k cf g cb aA off cap d0 w0 N:=by
 induction N with
 |zero=>intro a m b d w h;omega
 |succ N ih=>
  intro a m b d w h hs S ham hmb hb h1 h2;rw[hs];by_cases q1:m=a+1
  . exact L.Gw enc cf hS g cb aA off cap a m b d0 d w0 w eg hcmp R hs S q1 hmb hb (by omega) h2
  by_cases q2:b=m+1
  . exact L.Gx enc cf hS g cb aA off cap a m b d0 d w0 w eg hcmp R hs S (by omega) q2 hb (by omega) h1
  exact L.Gy enc cf hS g cb aA off cap a m b d0 d w0 w eg hcmp R hs S (by omega) (by omega) hb (by omega) h1 h2 fun a' m' b' d' w' h'=>ih a' m' b' d' w' (by omega)
set_option maxHeartbeats 8000000 in
set_option maxRecDepth 1000000 in
theorem ko.rm (L:ko P k) (enc:α->List Value) (cf:α->α->Int) (hS:SWO (ltOf cf)) (g:Nat) (cb:Array Value) (aA off cap:Nat) (d0 d:Array α) (w0 w:World)
  (eg:∀args w,(callFunc g args).run P w= .ok (.enter g args) w) (hcmp:CmpLays P g cb enc k cf aA off d0.size w0) (R:RowK enc k w0 aA off d0) (hs:d0.size=d.size) (S:SWK enc k w0 aA off d w) (hn:d.size<40)
  (e194:∀args w,(callFunc 194 args).run P w= .ok (.enter 194 args) w)
  (hins:∀(dk:Array α) (W:World) (a b:Nat),dk.size=d.size->SWK enc k w0 aA off dk W->a<=b->b<=d.size->Calls P 194 #[.slice (some ⟨aA,off,none⟩) d.size cap, .int .i64 a, .int .i64 b, .func (.func g) #[] cb] W fun e w'=>e= .returned (.tuple #[])/\ ∃d',SWK enc k w0 aA off d' w'/\d'.size=d.size/\PermIn a b dk d'/\SortedIn (ltOf cf) a b d'):
  Calls P 150 #[.slice (some ⟨aA,off,none⟩) d.size cap, .int .i64 (d.size:Nat), .func (.func g) #[] cb] w fun e w'=>e= .returned (.tuple #[])/\ ∃d',SWK enc k w0 aA off d' w'/\d'.size=d.size/\PermIn 0 d.size d d'/\SortedIn (ltOf cf) 0 d.size d':=by
 have mixed:=L.mixed;have t0:=L.t0;have a0:=L.a0;have z0:=L.z0;have v0:=L.v0;have t3:=L.t3;have a3:=L.a3;have z3:=L.z3;have v3:=L.v3;have t4:=L.t4;have a4:=L.a4;have z4:=L.z4;have v4:=L.v4;have t39:=L.t39;have a39:=L.a39;have z39:=L.z39;have v39:=L.v39;have t150:=L.t150;have fW:=L.fW;have gk:=L.gk;have gj:=L.gj;have FG:=L.f150;have e195:∀args w,(callFunc 195 args).run P w= .ok (.enter 195 args) w:=enters_of L.f195 (by kernel_rfl) rfl;have HM:Aside _:=L.sym enc cf hS g cb aA off cap d0 w0 eg hcmp R (by omega) 100;have HI:Aside _:=hins;have HZ:RowKit.Hid _:=hs;have S0:Aside (SWK enc k w0 aA off d w):=S;clear S hins hs hS hcmp eg R;obtain⟨n,hnn⟩:∃n,n=d.size:=⟨_,rfl⟩;rw[<-hnn]at hn⊢;have HN:RowKit.Hid _:=hnn;clear hnn;go_enter FG,Tryz.ntmps150
 go_wp2;go_loopg [7,8] 2 (fun kx s7 s8 wr=>∃(q:Nat) (dk:Array α),s7= .int .i64 q/\s8= .int .i64 ((q:Int)+20)/\(q=0\/q=20)/\q<=n/\(q=0->kx=2)/\1<=kx/\RowKit.Hid (dk.size=d.size)/\Aside (SWK enc k w0 aA off dk wr)/\RowKit.Hid (PermIn 0 n d dk)/\RowKit.Hid (SortedIn (ltOf cf) 0 q dk))
 case atStart=>exact⟨0,d,rfl,rfl, .inl rfl,Au _,fun _=>rfl,by omega,rfl,S0,permIn_refl _ _ _,fun i j h1 h2 h3=>absurd h3 (A3 _)⟩
 case round=>
  clear S0;obtain⟨q,dk,rfl,rfl,hq,hqn,hk2,hk1,hds,S1,HP,HT⟩:=hrel;have e20:((q+20:Nat):Int)=(q:Int)+20:=by omega
  have HK:RowKit.Hid _:=hk2;have HQ:RowKit.Hid _:=hq;clear hk2 hq;by_cases hlt:q+20<=n
  . have hltz:(q:Int)+20<=(n:Int):=by omega
    have hcall:=HI.out dk wr q (q+20) hds.out S1.out (by omega) (by rw[<-HN.out];omega);rw[<-HN.out,e20]at hcall;clear S1;go_wp2_with (go_at_fn 194;refine hcall.mono ?_;clear hcall;rintro e1 w1 ⟨rfl,d1,S2,hz,p1,s1⟩)
    have hq0:q=0:=by have:=HQ.out;omega
    go_roundg 1
    case measure=>have:=HK.out hq0;omega
    case rel=>exact⟨20,d1,by rw[hq0];rfl,by rw[hq0];rfl, .inr rfl,by omega,fun h=>absurd h (by omega),Ad _,hz.trans HN.out,S2,permIn_trans _ _ _ _ _ HP.out (permIn_mono _ _ _ _ 0 n (Au _) hlt (by rw[hds.out,HN.out];omega) p1),by grind⟩
  . have hltz:¬(q:Int)+20<=(n:Int):=by omega
    have hcall:=HI.out dk wr q n hds.out S1.out hqn (by rw[<-HN.out];omega);rw[<-HN.out]at hcall;clear S1;go_wp2_with (go_at_fn 194;refine hcall.mono ?_;clear hcall;rintro e1 w1 ⟨rfl,d1,Q2,hz,p1,s1⟩)
    have S2:Aside (SWK enc k w0 aA off d1 w1):=Q2;have P1:RowKit.Hid (PermIn 0 n d d1):=permIn_trans _ _ _ _ _ HP.out (permIn_mono _ _ _ _ 0 n (Au _) (Ad _) (by rw[hds.out,HN.out];omega) p1);have T0:RowKit.Hid (SortedIn (ltOf cf) 0 q d1):=fun i j h1 h2 h3=>by
     rw[p1.2.1 i (.inl (by omega)),p1.2.1 j (.inl (by omega))];exact HT.out i j h1 h2 h3
    have T1:RowKit.Hid (SortedIn (ltOf cf) q n d1):=s1;have Z1:RowKit.Hid (d1.size=d.size):=hz.trans HN.out;clear Q2 p1 s1 hz;go_loopg [6,7,8,9] 2 (fun kx s6 s7 s8 s9 wr=>∃(t:Nat) (dk:Array α),s6= .int .i64 t/\(t=20->kx=2)/\1<=kx/\((t=20/\dk=d1)\/(n<=t/\SortedIn (ltOf cf) 0 n dk))/\RowKit.Hid (dk.size=d.size)/\Aside (SWK enc k w0 aA off dk wr)/\RowKit.Hid (PermIn 0 n d dk))
    case atStart=>grind
    case round=>
     clear S2;obtain⟨t,dk,rfl,hk2,hk1,ht,hds2,S1,HP2⟩:=hrel;have HK2:RowKit.Hid _:=hk2;have HT2:RowKit.Hid _:=ht;clear hk2 ht;by_cases hlt2:t<n
     . have hltz2:(t:Int)<(n:Int):=by omega
       obtain⟨ht,hd⟩:t=20/\dk=d1:=by
         rcases HT2.out with h|⟨h,_⟩
         all_goals omega
       subst ht;subst hd;have hq20:RowKit.Hid (q=20):=by have:=HQ.out;show q=20;omega
       have hcall:=HM.out 0 20 n dk wr (by omega) (by rw[hds2.out];exact HZ.out) S1.out (by omega) hlt2 (by rw[hds2.out,HN.out];omega) (by have:=T0.out;rwa [hq20.out]at this) (by have:=T1.out;rwa [hq20.out]at this);rw[HZ.out,<-HN.out]at hcall;go_wp2_with fail
       go_loopg [7,8] 1 (fun kx s7 s8 wr2=>s7= .int .i64 0/\s8= .int .i64 40/\wr2=wr)
       case atStart=>exact⟨rfl,rfl,rfl⟩
       case round=>
         obtain⟨rfl,rfl,rfl⟩:=hrel;have h40:¬(40:Int)<=(n:Int):=by omega
         clear S1;go_wp2_with (go_at_fn 195;refine hcall.mono ?_;clear hcall;rintro e1 w3 ⟨rfl,d3,S3,hz3,p3,s3⟩)
         go_roundg 1
         case measure=>have:=HK2.out (by first|trivial|rfl);omega
         case rel=>exact⟨40,d3,rfl,fun h=>absurd h (by omega),Ad _, .inr ⟨by omega,s3⟩,by grind,S3,permIn_trans _ _ _ _ _ HP2.out p3⟩
     . have hltz2:¬(t:Int)<(n:Int):=by omega
       go_wp2;go_end0
       refine⟨rfl,dk,S1.out,by rw[HN.out];exact hds2.out,HP2.out,?_⟩;rcases HT2.out with⟨h,rfl⟩|⟨_,h⟩
       . rcases HQ.out with hq|hq
         . have:=T1.out;rwa [hq]at this
         . have hnq:n=q:=by omega
           rw[hnq];exact T0.out
       omega
set_option maxHeartbeats 4000000 in
set_option maxRecDepth 1000000 in
theorem ko.lg (L:ko P k) (enc:α->List Value) (cf:α->α->Int) (hS:SWO (ltOf cf)) (g:Nat) (cb:Array Value) (aA off cap:Nat) (d:Array α) (w:World)
  (eg:∀args w,(callFunc g args).run P w= .ok (.enter g args) w) (hcmp:CmpLays P g cb enc k cf aA off d.size w) (R:RowK enc k w aA off d) (hn:d.size<40)
  (e194:∀args w,(callFunc 194 args).run P w= .ok (.enter 194 args) w)
  (hins:∀(dk:Array α) (W:World) (a b:Nat),dk.size=d.size->SWK enc k w aA off dk W->a<=b->b<=d.size->Calls P 194 #[.slice (some ⟨aA,off,none⟩) d.size cap, .int .i64 a, .int .i64 b, .func (.func g) #[] cb] W fun e w'=>e= .returned (.tuple #[])/\ ∃d',SWK enc k w aA off d' w'/\d'.size=d.size/\PermIn a b dk d'/\SortedIn (ltOf cf) a b d'):
  Calls P 104 #[.slice (some ⟨aA,off,none⟩) d.size cap, .func (.func g) #[] cb] w fun e w'=>e= .returned (.tuple #[])/\ ∃d',SWK enc k w aA off d' w'/\d'.size=d.size/\PermIn 0 d.size d d'/\SortedIn (ltOf cf) 0 d.size d':=by
 have mixed:=L.mixed;have t0:=L.t0;have a0:=L.a0;have z0:=L.z0;have v0:=L.v0;have t3:=L.t3;have a3:=L.a3;have z3:=L.z3;have v3:=L.v3;have t39:=L.t39;have a39:=L.a39;have z39:=L.z39;have v39:=L.v39;have t150:=L.t150;have fW:=L.fW;have gk:=L.gk;have gj:=L.gj;have FG:=L.f104;have e150:∀args w,(callFunc 150 args).run P w= .ok (.enter 150 args) w:=enters_of L.f150 (by kernel_rfl) rfl;have hcall:=L.rm enc cf hS g cb aA off cap d d w w eg hcmp R rfl (SWK.start R.hH) hn e194 hins;clear hins hcmp;go_enter FG,Tryz.ntmps104
 go_wp2_with (go_at_fn 150;refine hcall.mono ?_;clear hcall;rintro e1 w1 ⟨rfl,d1,S2,hz,p1,s1⟩)
 go_end0
 grind
end
end Go.Proofs
namespace Go.Proofs
open Go Go.Am Go.RowKit Go.Sy Go.Maps Go.Sort Go.Shelf
section
theorem vP:ko Tryz.prog 11:={
 mixed:=by kernel_rfl
 f251:=Tryz.func251,f230:=Tryz.func230,f195:=Tryz.func195,f150:=Tryz.func150,f104:=Tryz.func104
 t0:=Tryz.underlying0,a0:=Tryz.isAgg0,z0:=Tryz.sizeOf0,v0:=Tryz.zeroValue0
 t3:=Tryz.underlying3,a3:=Tryz.isAgg3,z3:=Tryz.sizeOf3,v3:=Tryz.zeroValue3
 t4:=Tryz.underlying4,a4:=Tryz.isAgg4,z4:=Tryz.sizeOf4,v4:=Tryz.zeroValue4
 t39:=Tryz.underlying39,a39:=Tryz.isAgg39,z39:=Tryz.sizeOf39,v39:=Tryz.zeroValue39
 t150:=Tryz.underlying150,fW:=Tryz.isAgg150,gk:=Tryz.sizeOf150,gj:=Tryz.zeroValue150
 t198:=Tryz.underlying198,a198:=Tryz.isAgg198,z198:=Tryz.sizeOf198,v198:=Tryz.zeroValue198
 aE:=fun w=>by simp_all
 zE:=fun w=>by simp_all}
theorem He (aA off size:Nat) (w:World):CmpLays Tryz.prog 105 #[] ew 11 jX aA off size w:=by
 intro m os dk _ x y;letI:Inhabited aF:=⟨⟨True,#[]⟩⟩
 have h:=kE bu.ok Vm (fn:=Tryz.f105) (hfn:=by kernel_rfl) (hb:=rfl) (y:=(x,y)) trivial (args:=[.agg (ew x).toArray, .agg (ew y).toArray]) (w:=sortWorldK ew 11 w aA off m dk os) (PL.cons (xP x) (PL.cons (xP y) PL.nil)) (cI.oI rfl _);refine Calls.mono h ?_;rintro e w' ⟨v,rfl,hv,hbel,hd⟩;have hv:v= .int .i64 (jX x y):=yi hv;exact⟨by rw[hv],KR hbel (hd trivial)⟩
theorem Qc (aA off cap:Nat) (d:Array ab) (w:World) (hH:HoldsK ew 11 w aA off d) (hblk:aA<w.heap.size) (hn:d.size<40):
  Calls Tryz.prog 104 #[.slice (some ⟨aA,off,none⟩) d.size cap, .func (.func 105) #[] #[]] w fun e w'=>e= .returned (.tuple #[])/\ ∃d',SWK ew 11 w aA off d' w'/\d'.size=d.size/\PermIn 0 d.size d d'/\SortedIn (ltOf jX) 0 d.size d':=by
 have R:RowK ew 11 w aA off d:=⟨fun _=>rfl,xX,hH,hblk⟩;have eg:=enters_of Tryz.func105 (by kernel_rfl) rfl;refine vP.lg ew jX fh 105 #[] aA off cap d w eg (He aA off d.size w) R hn (enters_of Tryz.func194 (by kernel_rfl) rfl) ?_;intro dk W a b hz S hab hb;have h:=AnyQ.insertionSortCmpFunc (P:=Tryz.prog) (ρ:=py) {G4 with} 11 Hf GY ew (fun _=>rfl) xX jX 105 #[] aA off cap a b dk W eg (He aA off dk.size W) (S.holds hblk hH hz) (S.lt hblk) hab (by omega) (by omega);rw[hz]at h;refine Calls.mono h ?_;rintro e w' ⟨rfl,n,os,rfl⟩;have hp:=insertionSort_holds (lt:=ltOf jX) fh dk a b hab (by omega);exact⟨rfl,_,S.on hblk n _ os hp.1.1,hp.1.1.trans hz,hp.1,hp.2⟩
theorem QB (a:Option Addr) (c:Nat) (w:World):Calls Tryz.prog 194 #[.slice a 0 c, .int .i64 0, .int .i64 0, .func (.func 105) #[] #[]] w fun e w'=>e= .returned (.tuple #[])/\w'=w:=by
 go_enter Tryz.func194,Tryz.ntmps194
 go_wp2;refine wp_loop_rounds 1 ?_;rw[rounds_succ];go_wp2;go_end0
 grind
theorem Qb (a:Option Addr) (c:Nat) (w:World):Calls Tryz.prog 150 #[.slice a 0 c, .int .i64 0, .func (.func 105) #[] #[]] w fun e w'=>e= .returned (.tuple #[])/\w'=w:=by
 have hins:=QB a c w;go_enter Tryz.func150,Tryz.ntmps150
 go_wp2;refine wp_loop_rounds 1 ?_;rw[rounds_succ];go_wp2_with (go_at_call 194;refine hins.mono ?_;clear hins;rintro e1 w1 ⟨rfl,rfl⟩)
 refine wp_loop_rounds 1 ?_;rw[rounds_succ];go_wp2;go_end0
 grind
theorem On (a:Option Addr) (c:Nat) (w:World):Calls Tryz.prog 104 #[.slice a 0 c, .func (.func 105) #[] #[]] w fun e w'=>e= .returned (.tuple #[])/\w'=w:=by
 have hins:=Qb a c w;go_enter Tryz.func104,Tryz.ntmps104
 go_wp2_with (go_at_call 150;refine hins.mono ?_;clear hins;rintro e1 w1 ⟨rfl,rfl⟩)
 go_end0
 grind
theorem SA {w:World} {g:Nat} {d:Array ab} (h:HoldsK ew 11 w g 0 d) (hd:0<d.size):∃arr e fz,w.heap[g]? =some (.cells arr e fz)/\d.size*11<=arr.size/\
  ∀(i:Nat) x (j:Nat) v,d.toList[i]? =some x->(ew x)[j]? =some v->arr[0+i*11+j]? =some v:=by
 have hl:=(h.cell (i:=d.size - 1) (c:=10) (by omega) (by omega)).1;unfold World.cell? at hl
 cases hb:w.heap[g]? with
 |none=>grind
 | some o=>
  cases o with
  |cells arr e fz=>
   simp only[hb,DZ,Az,Bh]at hl;have:=(Ab.1 hl).1;refine⟨arr,e,fz,rfl,by omega,fun i x j v hx hv=>?_⟩;have hj:j<11:=(Ae.1 hv).1;obtain⟨hi,rfl⟩:=Ae.1 hx;have hi:i<d.size:=by omega
   have hc:=(h.cell hi hj).1;grind [World.cell?]
  |_=>simp only[hb]at hl;cases hl
theorem Qj (a:Option Addr) (c:Nat) (w:World):Calls Tryz.prog 103 #[.slice a 0 c] w fun e w'=>∃a' c',e= .returned (.slice a' 0 c')/\((a'=none/\c'=0)\/ ∃g arr e fz,a'=some ⟨g,0,none⟩/\w.heap.size<=g/\w'.heap[g]? =some (.cells arr e fz))/\Below w.heap.size w w':=by
 cases a with
 |none=>
  refine(AnyE.slices_Clone_nil HV 0 c w).mono ?_;grind [Below.refl]
 |some p=>
  have q40:∀(w:World) (a:Option Addr) (n c n' c':Nat),(binOp .eql 39 (.slice a n c) (.slice none n' c')).run Tryz.prog w= .ok (.bool a.isNone) w:=fun w a n c n' c'=>Lib.run_eql_slice_nil w _ _ a n c n' c' Tryz.underlying39
  obtain⟨i0,hi,hz0,hz1,hz2⟩:=info_parts Hi;go_enter Tryz.func103,Tryz.ntmps103
  go_wp2_with (at_builtin;refine wpList_append_own _ rfl _ _ 39 rfl w.heap.size 61 i0 _ 11 96 Tryz.underlying39 hi hz0 hz1 hz2 rfl (by omega) _ _ _ rfl (World.ownsRow_made w #[] 0 (Ad _) (Au _) (by simp)) p 0 c [] rfl ?qc1 ?qc2 ?qc3 ?qc4 ?qc5 ?qc6 ?_)
  case qc1=>rfl
  case qc2=>
    grind
  case qc3=>grind
  case qc4=>rw[Ax];omega
  case qc5=>rw[Ax];omega
  case qc6=>simp
  intro v' w1 hown hgrow hnil;go_wp2;go_ret;have hbel:Below w.heap.size w w1:=((Below.refl _ w).alloc (Ad _) _).grown hgrow (by simp) (by grind [Value.ownBlock]);obtain⟨_,⟨rfl,_⟩|⟨g,cap,cur,rfl,hg,hw,_⟩⟩:=hown
  . grind
  . exact⟨_,_,rfl, .inr ⟨g,cur,_,_,rfl,hg,hw⟩,hbel⟩
theorem UR {l:List ab} {d':Array ab} (hk:KN l) (hp:PermIn 0 l.toArray.size l.toArray d') (hs:SortedIn (ltOf jX) 0 l.toArray.size d'):d'.toList=fD l:=by
 obtain⟨h1,_,h3⟩:=hp;have hsz:d'.size=l.length:=by omega
 have hperm:d'.toList.Perm l:=by
  rw[show d'.extract 0 l.toArray.size=d' by rw[<-h1];simp]at h3;grind
 have hpw:d'.toList.Pairwise (fun a b=>gY b a=false):=by
  rw[AK];intro i j hi hj hij;simp only[Array.length_toList]at hi hj;have:=hs i j (Au _) hij (by omega);rw[BF d' j hj,BF d' i hi]at this;simp only[EJ];exact this
 have hp2:(fD l).Perm l:=by
  have:=zY l [];rwa [BQ]at this
 refine Go.Sym.iP (lt:=ltOf jX) (hperm.trans hp2.symm) ?_ hpw (IA l [] List.Pairwise.nil);intro x hx y hy h1 h2;have hx:x∈l:=hperm.mem_iff.1 hx;have hy:y∈l:=hperm.mem_iff.1 hy;have hke:x.key=y.key:=UX h1 h2;grind [KN.inj]
theorem Tryz.fD {l:List ab} {b off cap:Nat} {w:World} (hl:l.length<40) (h0:0<l.length) (hk:KN l) (h:rowAt w b off l):
  Calls Tryz.prog 63 #[.slice (some ⟨b,off,none⟩) l.length cap] w fun e w'=>∃u,e= .returned u/\Up w' w.heap.size (items (fD l)) u/\Below w.heap.size w w':=by
 letI:Inhabited aF:=⟨⟨True,#[]⟩⟩
 have hclone:=GX (cap:=cap) (show l.length<=10000 by omega) h;go_enter Tryz.func63,Tryz.ntmps63
 go_wp2_with (go_at_call 103;refine hclone.mono ?_;clear hclone;rintro e w1 ⟨g,c,rfl,hg,hg1,hlc,hH,hbel1⟩)
 have hsort:=Qc g 0 c l.toArray w1 hH hg1 (by omega);rw[show l.toArray.size=l.length by simp]at hsort;go_wp2_with (go_at_call 104;refine hsort.mono ?_;clear hsort;rintro e w2 ⟨rfl,d',S2,hz,hp,hs⟩)
 go_ret;obtain⟨n,os,hw2⟩:=S2;have hbel2:Below w.heap.size w w2:=hbel1.trans (by rw[hw2];grind [JA]);have hH2:HoldsK ew 11 w2 g 0 d':=by rw[hw2];grind [holdsK_sortWorldK_c]
 have hd:d'.toList=Go.Proofs.fD l:=UR hk (by omega) (by omega);have hdl:d'.size=l.length:=by omega
 obtain⟨arr,e,fz,hb,hsz,hcell⟩:=SA hH2 (by omega);have hlen:(Go.Proofs.fD l).length=l.length:=by rw[<-hd];omega
 have hup:=ES (cap:=c) (l:=Go.Proofs.fD l) (off:=0) hg hb (by omega) (by rw[hlen];omega) (by rw[<-hd];omega);rw[hlen]at hup;simp_all
theorem GG (a:Option Addr) (c:Nat) (w:World):
   Calls Tryz.prog 63 #[.slice a 0 c] w fun e w'=>∃u,e= .returned u/\Up w' w.heap.size (items []) u/\Below w.heap.size w w':=by
 have hclone:=Qj a c w;have hsort:=On;go_enter Tryz.func63,Tryz.ntmps63
 go_wp2_with (first|(go_at_call 103;refine hclone.mono ?_;clear hclone;rintro e w1 ⟨a',c',rfl,hu,hbel1⟩)|(go_at_call 104;refine(hsort _ _ _).mono ?_;clear hsort;rintro e w2 ⟨rfl,rfl⟩))
 go_ret;refine⟨_,rfl,?_,hbel1⟩;rcases hu with⟨rfl,rfl⟩|⟨g,arr,e,fz,rfl,hg,hw⟩
 . exact .fu rfl
 . exact ES (l:=[]) hg hw (Au _) (by simp) (fun i x j v h=>by grind)
section
variable [Inhabited aF]
def M3:aK:={Y:=List ab,pre:=fun y=>y.length<40/\KN y,args:=fun y=>[items y],res:=fun y=>items (fD y)}
theorem Zg (hdr:¬(default:aF).dr):CO GU M3:=jS bu.ok (by
 rintro l ⟨h1,h2⟩ w args - ⟨q1,q2⟩;match args,q1 with
 |[v],_=>
  rcases CI (l:=l) (q2 0 _ _ rfl rfl)with⟨rfl,a,c,rfl⟩|⟨b,off,cap,rfl,hb,hrow,hcap,hcells⟩
  . refine(GG a c w).mono ?_;rintro e w' ⟨u,rfl,hu,hb'⟩;exact⟨u,rfl, .inr hu,hb',fun h=>absurd h hdr⟩
  . by_cases h0:0<List.length l
    . refine(Tryz.fD (cap:=cap) h1 h0 h2 hrow).mono ?_;rintro e w' ⟨u,rfl,hu,hb'⟩;exact⟨u,rfl, .inr hu,hb',fun h=>absurd h hdr⟩
    . have hn:l=([]:List ab):=AL (Nat.eq_zero_of_not_pos h0);subst hn;refine(GG _ cap w).mono ?_;rintro e w' ⟨u,rfl,hu,hb'⟩;exact⟨u,rfl, .inr hu,hb',fun h=>absurd h hdr⟩)
end
end
end Go.Proofs
namespace Go.Proofs
open Go.Shelf
def vZ:Go.Shelf.Ren:=⟨fun|156=>64|165=>107|166=>108|169=>109|240=>154|241=>155|276=>198|277=>199|n=>n,fun|31=>22|9=>9|3=>3|4=>4|0=>0|20=>20|72=>154|76=>158|70=>151|37=>152|75=>157|127=>186|164=>217|5=>5|80=>160|n=>n,fun|n=>n⟩
theorem G3:Go.Proofs.Lays.n156 Tryz.prog vZ:={
 mixed:=by kernel_rfl
 f156:=Tryz.func64.trans (Aj some (by kernel_rfl))
 f165:=Tryz.func107.trans (Aj some (by kernel_rfl))
 f166:=Tryz.func108.trans (Aj some (by kernel_rfl))
 f169:=Tryz.func109.trans (Aj some (by kernel_rfl))
 f240:=Tryz.func154.trans (Aj some (by kernel_rfl))
 f241:=Tryz.func155.trans (Aj some (by kernel_rfl))
 f276:=Tryz.func198.trans (Aj some (by kernel_rfl))
 f277:=Tryz.func199.trans (Aj some (by kernel_rfl))
 t0:=Tryz.underlying0
 a0:=Tryz.isAgg0
 z0:=Tryz.sizeOf0
 v0:=Tryz.zeroValue0
 t3:=Tryz.underlying3
 a3:=Tryz.isAgg3
 z3:=Tryz.sizeOf3
 v3:=Tryz.zeroValue3
 t4:=Tryz.underlying4
 a4:=Tryz.isAgg4
 z4:=Tryz.sizeOf4
 v4:=Tryz.zeroValue4
 t9:=Tryz.underlying9
 a9:=Tryz.isAgg9
 z9:=Tryz.sizeOf9
 v9:=Tryz.zeroValue9
 t20:=Tryz.underlying20
 a20:=Tryz.isAgg20
 z20:=Tryz.sizeOf20
 v20:=Tryz.zeroValue20
 t31:=Tryz.underlying22
 a31:=Tryz.isAgg22
 z31:=Tryz.sizeOf22
 v31:=Tryz.zeroValue22
 t37:=Tryz.underlying152
 a37:=Tryz.isAgg152
 z37:=Tryz.sizeOf152
 v37:=Tryz.zeroValue152
 t70:=Tryz.underlying151
 a70:=Tryz.isAgg151
 z70:=Tryz.sizeOf151
 v70:=Tryz.zeroValue151
 t72:=Tryz.underlying154
 a72:=Tryz.isAgg154
 z72:=Tryz.sizeOf154
 v72:=Tryz.zeroValue154
 t75:=Tryz.underlying157
 a75:=Tryz.isAgg157
 z75:=Tryz.sizeOf157
 v75:=Tryz.zeroValue157
 t76:=Tryz.underlying158
 a76:=Tryz.isAgg158
 z76:=Tryz.sizeOf158
 v76:=Tryz.zeroValue158
 t127:=Tryz.underlying186
 a127:=Tryz.isAgg186
 z127:=Tryz.sizeOf186
 v127:=Tryz.zeroValue186
 t164:=Tryz.underlying217
 a164:=Tryz.isAgg217
 z164:=Tryz.sizeOf217
 v164:=Tryz.zeroValue217}
theorem vQ:Builder.Extra Tryz.prog vZ:={
 sizeBuilder:=by kernel_rfl
 liesBuilder:=by kernel_rfl
 t5:=Tryz.underlying5
 a5:=Tryz.isAgg5
 z5:=Tryz.sizeOf5
 v5:=Tryz.zeroValue5
 infoByte:=by kernel_rfl
 cellsByte:=by kernel_rfl
 sizeByte:=by kernel_rfl
 neB5:=by decide}
open Go.RowKit in
theorem Tryz.strings_Join_none (a:Option Addr) (c:Nat) (sep:ByteArray) (w:World):
 Calls Tryz.prog 64 #[.slice a 0 c, .string sep] w fun e w'=>e= .returned (.string ⟨#[]⟩)/\w'=w:=Any.strings_Join_none G3 vQ a c sep w
open Go.RowKit in
theorem Tryz.strings_Join (bk o c:Nat) (xs:List ByteArray) (sep:ByteArray) (w:World) (hcells:∀(j:Nat) x,xs[j]? =some x->w.cell? ⟨bk,o+j,none⟩=some (.string x)) (hbk:bk<w.heap.size) (hN:xs.length<=140737488355328) (hcap:xs.length<=c) (hlen:(Lib.join (xs.map (·.data.toList)) sep.data.toList).length<=140737488355328):
 Calls Tryz.prog 64 #[.slice (some ⟨bk,o,none⟩) xs.length c, .string sep] w fun e w'=>e= .returned (.string ⟨(Lib.join (xs.map (·.data.toList)) sep.data.toList).toArray⟩)/\Below w.heap.size w w':=Any.strings_Join G3 vQ bk o c xs sep w hcells hbk hN hcap hlen
def OI:Go.Shelf.Ren:=⟨fun|150=>98|153=>147|152=>189|226=>190|227=>191|228=>192|137=>226|119=>227|224=>228|225=>229|217=>250|266=>268|n=>n,fun|9=>9|4=>4|3=>3|5=>5|21=>21|117=>212|116=>211|0=>0|46=>198|124=>241|n=>n,fun|n=>n⟩
theorem P5:Go.Proofs.Lays.n150 Tryz.prog OI:={
 mixed:=by kernel_rfl
 f119:=Tryz.func227.trans (Aj some (by kernel_rfl))
 f137:=Tryz.func226.trans (Aj some (by kernel_rfl))
 f150:=Tryz.func98.trans (Aj some (by kernel_rfl))
 f152:=Tryz.func189.trans (Aj some (by kernel_rfl))
 f153:=Tryz.func147.trans (Aj some (by kernel_rfl))
 f217:=Tryz.func250.trans (Aj some (by kernel_rfl))
 f224:=Tryz.func228.trans (Aj some (by kernel_rfl))
 f225:=Tryz.func229.trans (Aj some (by kernel_rfl))
 f226:=Tryz.func190.trans (Aj some (by kernel_rfl))
 f227:=Tryz.func191.trans (Aj some (by kernel_rfl))
 f228:=Tryz.func192.trans (Aj some (by kernel_rfl))
 f266:=Tryz.func268.trans (Aj some (by kernel_rfl))
 t0:=Tryz.underlying0
 a0:=Tryz.isAgg0
 z0:=Tryz.sizeOf0
 v0:=Tryz.zeroValue0
 t3:=Tryz.underlying3
 a3:=Tryz.isAgg3
 z3:=Tryz.sizeOf3
 v3:=Tryz.zeroValue3
 t4:=Tryz.underlying4
 a4:=Tryz.isAgg4
 z4:=Tryz.sizeOf4
 v4:=Tryz.zeroValue4
 t5:=Tryz.underlying5
 a5:=Tryz.isAgg5
 z5:=Tryz.sizeOf5
 v5:=Tryz.zeroValue5
 t9:=Tryz.underlying9
 a9:=Tryz.isAgg9
 z9:=Tryz.sizeOf9
 v9:=Tryz.zeroValue9
 t21:=Tryz.underlying21
 a21:=Tryz.isAgg21
 z21:=Tryz.sizeOf21
 v21:=Tryz.zeroValue21
 t46:=Tryz.underlying198
 a46:=Tryz.isAgg198
 z46:=Tryz.sizeOf198
 v46:=Tryz.zeroValue198
 t116:=Tryz.underlying211
 a116:=Tryz.isAgg211
 z116:=Tryz.sizeOf211
 t117:=Tryz.underlying212
 a117:=Tryz.isAgg212
 z117:=Tryz.sizeOf212
 v117:=Tryz.zeroValue212
 t124:=Tryz.underlying241
 a124:=Tryz.isAgg241
 z124:=Tryz.sizeOf241
 v124:=Tryz.zeroValue241}
open Go.RowKit Go.Lib in
theorem Tryz.strings_ContainsAny_laid (s chars:ByteArray) (w:World) (hs:s.size<4294967281) (hcs:chars.size<4294967281) (has:∀(j:Nat) b,s.data.toList[j]? =some b->b.toNat<128) (hac:∀(j:Nat) b,chars.data.toList[j]? =some b->b.toNat<128):
 Calls Tryz.prog 98 #[.string s, .string chars] w fun e w'=>e= .returned (.bool (Lib.containsAny s.data.toList chars.data.toList))/\Below w.heap.size w w':=Any.strings_ContainsAny_laid P5 (by kernel_rfl) s chars w hs hcs has hac
end Go.Proofs
namespace Go.Proofs
open Go Go.Am Go.RowKit Go.Sy
section
theorem JV (c:Bs):∀l:Bs,(0<=Go.Lib.indexAny l c)↔∃b∈l,c.contains b=true
 |[]=>by simp[Go.Lib.indexAny]
 |b::l=>by
  have ih:=JV c l;have hge:=Go.Lib.indexAny_ge c l;grind [Go.Lib.indexAny]
theorem Tq (s:Bs):Go.Lib.containsAny s [63,35]= !qU s:=by
 unfold Go.Lib.containsAny qU;rw[AA,Aa,JV,A0,List.all_eq_false];constructor
 . rintro⟨b,hb,hc⟩;refine⟨b,hb,?_⟩;have:b=63\/b=35:=by grind
   rcases this with rfl|rfl<;>decide
 . rintro⟨b,hb,hc⟩;refine⟨b,hb,?_⟩;have hm:FW b=true:=by grind
   unfold FW at hm;rw[BJ,BD,BD]at hm;rcases hm with h|h
   . rw[pS (a:=b) (b:=63) (by rw[h];rfl)];decide
   . rw[pS (a:=b) (b:=35) (by rw[h];rfl)];decide
theorem Py (s:Bs) (w:World) (h1:s.length<=100000) (h2:lh s=true):
  Calls Tryz.prog 98 #[.string ⟨s.toArray⟩, .string ⟨([63,35]:Bs).toArray⟩] w fun e w'=>e= .returned (.bool (!qU s))/\Below w.heap.size w w':=by
 have hcall:=Tryz.strings_ContainsAny_laid ⟨s.toArray⟩ ⟨([63,35]:Bs).toArray⟩ w (by show s.toArray.size<4294967281;grind) (by decide) (fun j b hb=>by
  have hb:s[j]? =some b:=by omega
  have:=AB.1 h2 b (Bv hb);grind [om,nB]) (fun j b hb=>by
  have hb:([63,35]:Bs)[j]? =some b:=by omega
  have:=Bv hb;rcases Ap.1 this with rfl|h
  all_goals simp_all)
 rw[show(⟨s.toArray⟩:ByteArray).data.toList=s from rfl,show(⟨([63,35]:Bs).toArray⟩:ByteArray).data.toList=[63,35]from rfl,Tq]at hcall;omega
def pb (l:List Bs):Bs:=Go.Lib.join l [59,32]
theorem PN (l:List Bs) (b off cap:Nat) (w:World) (hb:b<w.heap.size) (hc:l.length<=cap) (h1:l.length<=100000) (h2:(pb l).length<=1000000) (hcell:∀(j:Nat) x,l[j]? =some x->w.cell? ⟨b,off+j,none⟩=some (.string ⟨x.toArray⟩)):
  Calls Tryz.prog 64 #[.slice (some ⟨b,off,none⟩) l.length cap, .string ⟨([59,32]:Bs).toArray⟩] w fun e w'=>e= .returned (.string ⟨(pb l).toArray⟩)/\Below w.heap.size w w':=by
 have hm:(l.map fun s=>(⟨s.toArray⟩:ByteArray)).map (·.data.toList)=l:=by
  rw[Dd];conv=>rhs;rw[<-EH l]
  grind [List.map_congr_left]
 have hcall:=Tryz.strings_Join b off cap (l.map fun s=>(⟨s.toArray⟩:ByteArray)) ⟨([59,32]:Bs).toArray⟩ w (fun j x hx=>by
   rw[AE]at hx;grind) hb (by rw[A1];omega) (by rw[A1];exact hc)
  (by rw[hm,show(⟨([59,32]:Bs).toArray⟩:ByteArray).data.toList=[59,32]from rfl];have h2:(Go.Lib.join l [59,32]).length<=1000000:=h2;omega)
 rw[hm,A1,show(⟨([59,32]:Bs).toArray⟩:ByteArray).data.toList=[59,32]from rfl]at hcall;exact hcall
theorem Zs {w:World} {p:Nat->Prop} {l:List Bs} {v:Value} (h:Rd w p true (strs l) v):
  (l=[]/\ ∃a c,v= .slice a 0 c)\/ ∃b off cap,v= .slice (some ⟨b,off,none⟩) l.length cap/\b<w.heap.size/\l.length<=cap/\ ∀(j:Nat) x,l[j]? =some x->w.cell? ⟨b,off+j,none⟩=some (.string ⟨x.toArray⟩):=by
 unfold strs at h
 cases h with
 |fu h0=>grind
 |bP _ h0 a c=>grind
 |bh b off cap arr e fz sz u hp hb hs hl hn hc h1 h2=>
  refine .inr ⟨b,off,cap,rfl,(Ab.1 hb).1,hc,fun j x hx=>?_⟩;have hsz:sz=1:=(hn j x hx).symm;subst hsz;have e1:=h1 j x 0 (.str x) hx rfl;have e3:u j 0= .string ⟨x.toArray⟩:=qR (h2 j x 0 (.str x) hx rfl);grind [World.cell?]
section
variable [Inhabited aF]
theorem Pg (hdr:¬(default:aF).dr):CO pw oz:=jS bu.ok (by
 rintro s ⟨h1,h2⟩ w args - ⟨q1,q2⟩;match args,q1 with
 |[v,u],_=>
  have hv:v= .string ⟨List.toArray s⟩:=qR (q2 0 _ _ rfl rfl);have hu:u= .string ⟨([63,35]:Bs).toArray⟩:=qR (q2 1 _ _ rfl rfl);subst hv hu;refine(Py s w h1 h2).mono ?_;rintro e w' ⟨rfl,hb⟩;exact⟨_,rfl, .inr (.bool _),hb,fun h=>absurd h hdr⟩)
def NM:aK:={Y:=List Bs,pre:=fun y=>y.length<=100000/\(pb y).length<=1000000,args:=fun y=>[strs y, .str [59,32]],res:=fun y=> .str (pb y)}
theorem qzt (hdr:¬(default:aF).dr):CO F.strings_Join NM:=jS bu.ok (by
 rintro l ⟨h1,h2⟩ w args - ⟨q1,q2⟩;match args,q1 with
 |[v,u],_=>
  have hu:u= .string ⟨([59,32]:Bs).toArray⟩:=qR (q2 1 _ _ rfl rfl);subst hu;rcases Zs (l:=l) (q2 0 _ _ rfl rfl)with⟨rfl,a,c,rfl⟩|⟨b,off,cap,rfl,hb,hc,hcell⟩
  . refine(Tryz.strings_Join_none a c ⟨([59,32]:Bs).toArray⟩ w).mono ?_;rintro e w' ⟨rfl,rfl⟩;exact⟨_,rfl, .inr (.str []),Below.refl _ _,fun _=>Ad _⟩
  . refine(PN l b off cap w hb hc h1 h2 hcell).mono ?_;rintro e w' ⟨rfl,hb'⟩;exact⟨_,rfl, .inr (.str _),hb',fun h=>absurd h hdr⟩)
end
end
section
variable [Inhabited aF]
def jO (d:aq) (l:List aq) (i:Nat) (h:i<l.length):Bool:=fg l[i]&&(decide (i=0)||cg (l[i - 1]'(by omega)) l[i])&& !(l[i].dev==d.dev&&l[i].inc==d.inc&&bO d.seq l[i].seq)
def jY (d:aq) (l:List aq):Bool:=decide (l.length<=64)&&decide (∀i (h:i<l.length),jO d l i h=true)
def iV (e:ae):Bool:=bO (Int.ofNat e.over.length) 100&&bO (Int.ofNat e.key.name.length) 2000&&bO (Int.ofNat e.key.domain.length) 2000&&bO (Int.ofNat e.key.path.length) 2000&&bO (Int.ofNat e.aa.value.length) 2000
def gK (pre:ae->Prop) (p:ae->Bool):aK:={Y:=ae,pre:=pre,args:=fun y=>[.agg y.enc],res:=fun y=> .bool (p y)}
def Cz:aK:={Y:=List ae×Int,pre:=fun y=>y.2<=1000000,args:=fun y=>[dG y.1,i64 y.2],res:=fun y=> .bool (bO (Int.ofNat y.1.length) y.2&&y.1.all iV)}
def TL (y:List ae×Int):aL:={α:=Nat,ok:=fun i=>i<=y.1.length/\(y.1.take i).all iV=true,μ:=fun i=>y.1.length - i,bn:=[],bc:=fun i=>[(0,dG y.1),(5,i64 i)],bV:=fun _=>[]}
theorem Lt:CO rR (gK (fun _=>True) iV):=bR (cfg:=fun y=>cm bU (cV y)) bu (fun _=>rfl) (fun _=>sN) (n:=400) (by
 intro (e:ae) _
 repeat' first|exact trivial|exact rfl|refine aG (fun _=>?_) fun _=>?_|apply And.intro
 all_goals grind [iV])
noncomputable def FN (f:FuncId):Option aK:=bif Nat.beq f rR then some (gK (fun _=>True) iV)else tv f
theorem Lc:∀g C,FN g=some C->CO g C:=bM Lt uO
theorem Js:CO px Cz:=bR (cfg:=fun y=>cm FN (cT px 4 (TL y))) bu (fun _=>rfl) (fun _=>Lc) (n:=400) (by
 rintro⟨l,m⟩ (hm:m<=1000000);refine aG (fun h=>?_) fun h=>?_
 . have h:bO (Int.ofNat l.length) m=false:=by
     have h:bK m (Int.ofNat l.length)=true:=h;rw[ch,Aa]at h;rw[ed,Ai];omega
   refine⟨by grind,?_⟩
   repeat' first|exact trivial|exact rfl|refine aG (fun _=>?_) fun _=>?_|apply And.intro
 have h:bO (Int.ofNat l.length) m=true:=by
   have h:bK m (Int.ofNat l.length)=false:=h;rw[ch,Ai]at h;rw[ed,Aa];omega
 have hlen:l.length<=1000000:=by rw[ed,Aa,Ah]at h;omega
 refine⟨⟨(0:Nat),⟨Au _,by simp⟩,?_⟩,?_⟩
 . repeat' first|exact trivial|exact rfl|refine aG (fun _=>?_) fun _=>?_|apply And.intro
 intro (x:Nat) hx;obtain⟨hx,hn⟩:=hx;have hx:x<=l.length:=hx;have hn:(l.take x).all iV=true:=hn;refine aG (fun hlt=>?_) fun hge=>?_
 . have hlt':x<l.length:=cP hlt
   (conv=>whnf)
   refine az.2 ⟨_,eA hlt',?_⟩;refine⟨l[x],?_⟩
   repeat first|refine⟨rfl,?_⟩|refine⟨trivial,?_⟩
   refine aG (fun h1=>?_) fun h1=>?_
   . have h1:(!iV l[x])=true:=h1;refine⟨?_,?_⟩
     . grind
     . repeat' first|exact trivial|exact rfl|refine aG (fun _=>?_) fun _=>?_|apply And.intro
   . have h1:(!iV l[x])=false:=h1
     (conv=>whnf)
     refine ah.2 ⟨cW x (by omega),?_⟩;refine⟨(x+1:Nat),⟨hlt',?_⟩,by show l.length - (x+1)<l.length - x;omega,?_⟩
     . grind [List.take_succ_eq_append_getElem]
     . repeat' first|exact trivial|exact rfl|refine aG (fun _=>?_) fun _=>?_|apply And.intro
 . have hge':l.length<=x:=jz hge;rw[Ay hge']at hn;refine⟨by grind,?_⟩
   repeat' first|exact trivial|exact rfl|refine aG (fun _=>?_) fun _=>?_|apply And.intro)
theorem Kh {d:aq} {l:List aq} {x:Nat} (hx:x<l.length) (h:jO d l x hx=false):jY d l=false:=by
 grind [jY]
def NG (d:aq) (l:List aq) (ks:List Nat) (s1 s2 s3:Nat):aL:={α:=Nat,ok:=fun i=>i<=l.length/\ ∀j (h:j<l.length),j<i->jO d l j h=true,μ:=fun i=>l.length - i,bn:=ks,bc:=fun i=>[(s1,cL l),(s2,i64 (Int.ofNat l.length)),(s3,i64 i)],bV:=fun _=>[]}
theorem Y5:CO rX (gK (fun _=>True) fun e=>jY e.dot e.over):=bR (C:=gK (fun _=>True) fun e=>jY e.dot e.over) (cfg:=fun(y:ae)=>cm FN (cT rX 4 (NG y.dot y.over [1] 10 11 12))) bu (fun _=>rfl) (fun _=>Lc) (n:=600) (by
 rintro⟨d,st,kd,ky,ck,l⟩ -;refine aG (fun h=>?_) fun h=>?_
 . have h:64<l.length:=by
     have h:bK 64 (Int.ofNat l.length)=true:=h;rw[ch,Aa,Ah]at h;omega
   refine⟨by grind [jY],?_⟩
   repeat' first|exact trivial|exact rfl|refine aG (fun _=>?_) fun _=>?_|apply And.intro
 have h:l.length<=64:=by
   have h:bK 64 (Int.ofNat l.length)=false:=h;rw[ch,Ai,Ah]at h;omega
 refine⟨⟨(0:Nat),⟨Au _,fun _ _ h=>absurd h (A3 _)⟩,?_⟩,?_⟩
 . repeat' first|exact trivial|exact rfl|refine aG (fun _=>?_) fun _=>?_|apply And.intro
 intro (x:Nat) hx;obtain⟨hx,hn⟩:=hx;have hx:x<=l.length:=hx;refine aG (fun hlt=>?_) fun hge=>?_
 . have hlt':x<l.length:=cP hlt;have no:=Kh (d:=d) hlt';have yes:jO d l x hlt'=true->(NG d l [1] 10 11 12).ok (x+1:Nat):=fun hy=>⟨hlt',fun j hj hjx=>by
     grind⟩
   have mu:l.length - (x+1)<l.length - x:=by omega
   (conv=>whnf)
   refine az.2 ⟨_,eA hlt',?_⟩;refine⟨l[x],?_⟩
   repeat first|refine⟨rfl,?_⟩|refine⟨trivial,?_⟩
   refine aG (fun h1=>?_) fun h1=>?_
   . have h1:fg l[x]=false:=by
       have h1:(!fg l[x])=true:=h1;grind
     refine⟨by grind [jO],?_⟩
     repeat' first|exact trivial|exact rfl|refine aG (fun _=>?_) fun _=>?_|apply And.intro
   have h1:fg l[x]=true:=by
     have h1:(!fg l[x])=false:=h1;grind
   refine ai.2 ⟨fun h2=> ?ga,fun h2=> ?gb⟩
   case' ga=>
     have hx0:0<x:=by
       have h2:bK 0 (x:Int)=true:=h2;rw[ch,Aa]at h2;omega
     have hx1:x - 1<l.length:=by omega
     have hget:l[((x:Int) - 1).toNat]? =some l[x - 1]:=by
       rw[show((x:Int) - 1).toNat=x - 1 by omega,Ag hx1]
     (conv=>whnf)
     refine ah.2 ⟨by rw[hZ];omega,?_⟩
     (conv=>whnf)
     refine ah.2 ⟨by rw[mP,Aa];omega,?_⟩
     (conv=>whnf)
     refine az.2 ⟨_,hget,?_⟩;refine⟨(l[x - 1],l[x]),?_⟩
     repeat first|refine⟨rfl,?_⟩|refine⟨trivial,?_⟩
     refine ai.2 ⟨fun h3=> ?gc,fun h3=> ?gd⟩
     case gc=>
       have h3:cg l[x - 1] l[x]=false:=by
         have h3:(!cg l[x - 1] l[x])=true:=h3;grind
       refine⟨by show false=jY d l;rw[no (by simp only[jO,h1,h3,A5 (show ¬x=0 by omega),Eu,DA,Dn])],?_⟩
       repeat' first|exact trivial|exact rfl|refine aG (fun _=>?_) fun _=>?_|apply And.intro
     case' gd=>
       have h3:cg l[x - 1] l[x]=true:=by
         have h3:(!cg l[x - 1] l[x])=false:=h3;grind
       have hA:jO d l x hlt'= !(l[x].dev==d.dev&&l[x].inc==d.inc&&bO d.seq l[x].seq):=by simp_all[jO]
   case' gb=>
     have hx0:x=0:=by
       have h2:bK 0 (x:Int)=false:=h2;rw[ch,Ai]at h2;omega
     have hA:jO d l x hlt'= !(l[x].dev==d.dev&&l[x].inc==d.inc&&bO d.seq l[x].seq):=by grind [jO]
   all_goals
     refine aG (fun h4=>?_) fun h4=>?_
     . have h4:(l[x].dev==d.dev&&l[x].inc==d.inc)=true:=by simpa using h4
       refine aG (fun h5=>?_) fun h5=>?_
       . have h5:bO d.seq l[x].seq=true:=h5;rw[h4,h5]at hA;refine⟨by show false=jY d l;rw[no hA],?_⟩
         repeat' first|exact trivial|exact rfl|refine aG (fun _=>?_) fun _=>?_|apply And.intro
       . have h5:bO d.seq l[x].seq=false:=h5;rw[h4,h5]at hA
         (conv=>whnf)
         refine ah.2 ⟨cW x (by omega),?_⟩;refine⟨(x+1:Nat),yes hA,mu,?_⟩
         repeat' first|exact trivial|exact rfl|refine aG (fun _=>?_) fun _=>?_|apply And.intro
     . have h4:(l[x].dev==d.dev&&l[x].inc==d.inc)=false:=by
         cases e:(l[x].dev==d.dev&&l[x].inc==d.inc)with
         |false=>rfl
         |true=>
          have e':(l[x].dev==d.dev&&(l[x].inc==d.inc&&true))=false:=h4;rw[Ew,e]at e';cases e'
       rw[h4]at hA
       (conv=>whnf)
       refine ah.2 ⟨cW x (by omega),?_⟩;refine⟨(x+1:Nat),yes hA,mu,?_⟩
       repeat' first|exact trivial|exact rfl|refine aG (fun _=>?_) fun _=>?_|apply And.intro
 . have hge':l.length<=x:=jz hge;refine⟨?_,?_⟩
   . grind [jY]
   . repeat' first|exact trivial|exact rfl|refine aG (fun _=>?_) fun _=>?_|apply And.intro)
end
section
variable [Inhabited aF]
theorem YE (s:Bs) (c:Int):bO 0 (iK s c)= !(dA s c).isNone:=by
 grind [Cj,ed]
theorem Ye (a b:Int):bK a b= !bO b a:=by
 rw[ch,ed,AA,Aa,A0,Ai];omega
theorem XF:CO HB xU:=bR (cfg:=fun y=>cm vz (cV y)) bu (fun _=>rfl) (fun _=>xx) (n:=800) (by
 rintro⟨⟨n,d,p⟩,v,b1,b2,b3,b4,e,c,a⟩ ⟨(hn:n.length<=1000000),(hv:v.length<=1000000)⟩;rcases p with _|⟨p0,p⟩
 all_goals
  repeat' (first|exact trivial|(with_reducible exact rfl)|((conv=>whnf);first|(apply aG<;>intro)|apply And.intro)|((conv=>whnf);refine⟨n,?_⟩;(conv=>whnf);refine⟨rfl,?_⟩)|((conv=>whnf);refine⟨v,?_⟩;(conv=>whnf);refine⟨rfl,?_⟩)|((conv=>whnf);refine⟨d,?_⟩;(conv=>whnf);refine⟨rfl,?_⟩)|((conv=>whnf);refine⟨(n,61),?_⟩;(conv=>whnf);refine⟨rfl,?_⟩))
 all_goals first|exact hn|exact hv|exact rfl|skip
 all_goals simp_all[nX,u7,within,Ye,YE,NT,Ep])
end
section
variable [Inhabited aF]
def yW (x:ab):Bool:=decide (x=nJ)
def fw (e:ae):Bool:=fg e.dot&&mI e.bL&&(e.bL.dev==e.dot.dev)&&jY e.dot e.over&&(bif e.kind==2 then yW e.item&&bK 0 (Int.ofNat e.over.length)else bif e.kind==1 then nX e.item else false)
def ly (e:ae):Prop:=e.key.name.length<=1000000/\e.aa.value.length<=1000000
noncomputable def tw (f:FuncId):Option aK:=bif Nat.beq f Hn then some xU else bif Nat.beq f HB then some xU else bif Nat.beq f rX then some (gK (fun _=>True) fun e=>jY e.dot e.over)else bif Nat.beq f rR then some (gK (fun _=>True) iV)else bif Nat.beq f px then some Cz else vz f
theorem uP:∀g C,tw g=some C->CO g C:=bM XE (bM XF (bM Y5 (bM Lt (bM Js xx))))
theorem KU (x y:ab):x=y↔(x.key.name=y.key.name/\x.key.domain=y.key.domain/\x.key.path=y.key.path)/\x.aa.value=y.aa.value/\x.aa.aH=y.aa.aH/\x.aa.aR=y.aa.aR/\x.aa.aI=y.aa.aI/\x.aa.persistent=y.aa.persistent/\x.aa.aW=y.aa.aW/\x.aa.aj=y.aa.aj/\x.aa.access=y.aa.access:=by
 constructor
 . grind
 . rintro⟨⟨h1,h2,h3⟩,h4⟩
   cases x;cases y;rename_i k c k' c'
   cases k;cases k';cases c;simp_all
theorem Lu:CO Hy (gK ly fw):=bR (C:=gK ly fw) (cfg:=fun y=>cm tw (cV y)) bu (fun _=>rfl) (fun _=>uP) (n:=800) (by
 rintro⟨d,st,kd,ky,ck,l⟩ ⟨(hn:ky.name.length<=1000000),(hv:ck.value.length<=1000000)⟩;refine⟨d,?_⟩
 repeat' (first|exact trivial|(with_reducible exact rfl)|((conv=>whnf);first|(apply aG<;>intro)|apply And.intro)|((conv=>whnf);refine⟨st,?_⟩;(conv=>whnf);refine⟨rfl,?_⟩)|((conv=>whnf);refine⟨(⟨d,st,kd,ky,ck,l⟩:ae),?_⟩;(conv=>whnf);refine⟨rfl,?_⟩)|((conv=>whnf);refine⟨(⟨ky,ck⟩:ab),?_⟩;(conv=>whnf);refine⟨rfl,?_⟩))
 all_goals simp_all[fw,yW,ae.item,KU,nJ,u9])
def MK (d:aq) (l:List aq):aL:={α:=Nat,ok:=fun i=>i<=l.length/\ ∀j (h:j<l.length),j<i->jO d l j h=true,μ:=fun i=>l.length - i,bn:=[1],bc:=fun i=>[(3,i64 i)],bV:=fun _=>[]}
theorem Vo:CO rS (gK ly fw):=bR (C:=gK ly fw) (cfg:=fun(y:ae)=>cm tw (cT rS 4 (MK y.dot y.over))) bu (fun _=>rfl) (fun _=>uP) (n:=800) (by
 rintro⟨d,st,kd,ky,ck,l⟩ ⟨(hkn:ky.name.length<=1000000),(hv:ck.value.length<=1000000)⟩;refine⟨d,?_⟩
 repeat first|refine⟨rfl,?_⟩|refine⟨trivial,?_⟩
 refine aG (fun h1=>?_) fun h1=>?_
 . (conv=>whnf)
   refine⟨?_,?_⟩
   . grind [fw]
   . repeat' first|exact trivial|exact rfl|refine aG (fun _=>?_) fun _=>?_|apply And.intro
 refine⟨st,?_⟩
 repeat first|refine⟨rfl,?_⟩|refine⟨trivial,?_⟩
 refine aG (fun h2=>?_) fun h2=>?_
 . (conv=>whnf)
   refine⟨?_,?_⟩
   . grind [fw]
   . repeat' first|exact trivial|exact rfl|refine aG (fun _=>?_) fun _=>?_|apply And.intro
 refine aG (fun h3=>?_) fun h3=>?_
 . (conv=>whnf)
   refine⟨?_,?_⟩
   . grind [fw]
   . repeat' first|exact trivial|exact rfl|refine aG (fun _=>?_) fun _=>?_|apply And.intro
 refine aG (fun h4=>?_) fun h4=>?_
 . (conv=>whnf)
   refine⟨?_,?_⟩
   . have h4:64<l.length:=by
       have h4:bK 64 (Int.ofNat l.length)=true:=h4;rw[ch,Aa,Ah]at h4;omega
     have:jY d l=false:=by grind [jY]
     grind [fw]
   . repeat' first|exact trivial|exact rfl|refine aG (fun _=>?_) fun _=>?_|apply And.intro
 have h:l.length<=64:=by
   have h4:bK 64 (Int.ofNat l.length)=false:=h4;rw[ch,Ai,Ah]at h4;omega
 have noR:jY d l=false->false=fw ⟨d,st,kd,ky,ck,l⟩:=fun hh=>by grind [fw]
 have hd:fg d=true:=by grind
 have hs:mI st=true:=by
   have h2:(!mI st)=false:=h2;grind
 have he:(st.dev==d.dev)=true:=by
   have h3:(!(st.dev==d.dev))=false:=h3;grind
 have hR:jY d l=true->fw ⟨d,st,kd,ky,ck,l⟩=(bif kd==2 then yW ⟨ky,ck⟩&&bK 0 (Int.ofNat l.length)else bif kd==1 then nX ⟨ky,ck⟩else false):=fun hh=>by grind [fw,ae.item]
 clear h1 h2 h3 h4;refine⟨⟨(0:Nat),⟨Au _,fun _ _ h=>absurd h (A3 _)⟩,?_⟩,?_⟩
 . repeat' first|exact trivial|exact rfl|refine aG (fun _=>?_) fun _=>?_|apply And.intro
 intro (x:Nat) hx;obtain⟨hx,hn'⟩:=hx;have hx:x<=l.length:=hx;refine aG (fun hlt=>?_) fun hge=>?_
 . have hlt':x<l.length:=cP hlt;have no:=Kh (d:=d) hlt';have yes:jO d l x hlt'=true->(MK d l).ok (x+1:Nat):=fun hy=>⟨hlt',fun j hj hjx=>by
     grind⟩
   have mu:l.length - (x+1)<l.length - x:=by omega
   (conv=>whnf)
   refine az.2 ⟨_,eA hlt',?_⟩;refine⟨l[x],?_⟩
   repeat first|refine⟨rfl,?_⟩|refine⟨trivial,?_⟩
   refine aG (fun h1=>?_) fun h1=>?_
   . have h1:fg l[x]=false:=by
       have h1:(!fg l[x])=true:=h1;grind
     refine⟨noR (no (by grind [jO])),?_⟩
     repeat' first|exact trivial|exact rfl|refine aG (fun _=>?_) fun _=>?_|apply And.intro
   have h1:fg l[x]=true:=by
     have h1:(!fg l[x])=false:=h1;grind
   refine ai.2 ⟨fun h2=> ?ga,fun h2=> ?gb⟩
   case' ga=>
     have hx0:0<x:=by
       have h2:bK 0 (x:Int)=true:=h2;rw[ch,Aa]at h2;omega
     have hx1:x - 1<l.length:=by omega
     have hget:l[((x:Int) - 1).toNat]? =some l[x - 1]:=by
       rw[show((x:Int) - 1).toNat=x - 1 by omega,Ag hx1]
     (conv=>whnf)
     refine ah.2 ⟨by rw[hZ];omega,?_⟩
     (conv=>whnf)
     refine ah.2 ⟨by rw[mP,Aa];omega,?_⟩
     (conv=>whnf)
     refine az.2 ⟨_,hget,?_⟩;refine⟨(l[x - 1],l[x]),?_⟩
     repeat first|refine⟨rfl,?_⟩|refine⟨trivial,?_⟩
     refine ai.2 ⟨fun h3=> ?gc,fun h3=> ?gd⟩
     case gc=>
       have h3:cg l[x - 1] l[x]=false:=by
         have h3:(!cg l[x - 1] l[x])=true:=h3;grind
       refine⟨noR (no (by simp only[jO,h1,h3,A5 (show ¬x=0 by omega),Eu,DA,Dn])),?_⟩
       repeat' first|exact trivial|exact rfl|refine aG (fun _=>?_) fun _=>?_|apply And.intro
     case' gd=>
       have h3:cg l[x - 1] l[x]=true:=by
         have h3:(!cg l[x - 1] l[x])=false:=h3;grind
       have hA:jO d l x hlt'= !(l[x].dev==d.dev&&l[x].inc==d.inc&&bO d.seq l[x].seq):=by simp_all[jO]
   case' gb=>
     have hx0:x=0:=by
       have h2:bK 0 (x:Int)=false:=h2;rw[ch,Ai]at h2;omega
     have hA:jO d l x hlt'= !(l[x].dev==d.dev&&l[x].inc==d.inc&&bO d.seq l[x].seq):=by grind [jO]
   all_goals
     refine aG (fun h4=>?_) fun h4=>?_
     . have h4:(l[x].dev==d.dev&&l[x].inc==d.inc)=true:=by simpa using h4
       refine aG (fun h5=>?_) fun h5=>?_
       . have h5:bO d.seq l[x].seq=true:=h5;rw[h4,h5]at hA;refine⟨noR (no hA),?_⟩
         repeat' first|exact trivial|exact rfl|refine aG (fun _=>?_) fun _=>?_|apply And.intro
       . have h5:bO d.seq l[x].seq=false:=h5;rw[h4,h5]at hA
         (conv=>whnf)
         refine ah.2 ⟨cW x (by omega),?_⟩;refine⟨(x+1:Nat),yes hA,mu,?_⟩
         repeat' first|exact trivial|exact rfl|refine aG (fun _=>?_) fun _=>?_|apply And.intro
     . have h4:(l[x].dev==d.dev&&l[x].inc==d.inc)=false:=by
         cases e:(l[x].dev==d.dev&&l[x].inc==d.inc)with
         |false=>rfl
         |true=>
          have e':(l[x].dev==d.dev&&(l[x].inc==d.inc&&true))=false:=h4;rw[Ew,e]at e';cases e'
       rw[h4]at hA
       (conv=>whnf)
       refine ah.2 ⟨cW x (by omega),?_⟩;refine⟨(x+1:Nat),yes hA,mu,?_⟩
       repeat' first|exact trivial|exact rfl|refine aG (fun _=>?_) fun _=>?_|apply And.intro
 . have hge':l.length<=x:=jz hge;have hov:jY d l=true:=by
     grind [jY]
   have hR:=hR hov
   repeat' (first|exact trivial|(with_reducible exact rfl)|((conv=>whnf);first|(apply aG<;>intro)|apply And.intro)|((conv=>whnf);refine⟨(⟨ky,ck⟩:ab),?_⟩;(conv=>whnf);refine⟨rfl,?_⟩))
   all_goals first|exact hkn|exact hv|skip
   all_goals (show _=fw ⟨d,st,kd,ky,ck,l⟩)
   all_goals (rw[hR];simp only[yW];clear hR noR hn')
   all_goals simp_all[KU,nJ,u9])
end
section
variable [Inhabited aF]
def gf (x:aq) (a i:Int):Bool:=x.dev==a&&(x.inc==i&&true)
def getM (l:List aq) (a i:Int):Int:=match l.find? (fun x=>gf x a i)with|some x=>x.seq|none=>0
def eK (l:List aq) (d:aq):Bool:=fg d&&bO d.seq (getM l d.dev d.inc)
def oY (x:aq) (a i:Int):Bool:=bif !(x.dev==a)then bK x.dev a else bK x.inc i
def fO (a i n:Int) (s:List aq×Bool) (x:aq):List aq×Bool:=
 let s1:=bif !s.2&& !oY x a i then(s.1++[⟨a,i,n⟩],true)else s
 bif gf x a i then s1 else(s1.1++[x],s1.2)
def gi (l:List aq) (a i n:Int):List aq:=let s:=l.foldl (fO a i n) ([],false);bif s.2 then s.1 else s.1++[⟨a,i,n⟩]
def qq (l:List aq):Prop:=l.length<=100000
def NK:aK:={Y:=List aq×Int×Int,pre:=fun y=>qq y.1,args:=fun y=>[cL y.1, .agg [i64 y.2.1,i64 y.2.2]],res:=fun y=>i64 (getM y.1 y.2.1 y.2.2)}
def O5 (y:List aq×Int×Int):aL:={α:=Nat,ok:=fun x=>x<=y.1.length/\ ∀j (h:j<y.1.length),j<x->gf y.1[j] y.2.1 y.2.2=false,μ:=fun x=>y.1.length - x,bn:=[3],bc:=fun x=>[(0,cL y.1),(5,i64 x)],bV:=fun _=>[]}
def NL:aK:={Y:=List aq×aq,pre:=fun y=>qq y.1,args:=fun y=>[cL y.1, .agg y.2.enc],res:=fun y=> .bool (eK y.1 y.2)}
def LJ:aK:={Y:=aq×Int×Int,pre:=fun _=>True,args:=fun y=>[.agg [i64 y.1.dev,i64 y.1.inc], .agg [i64 y.2.1,i64 y.2.2]],res:=fun y=> .bool (oY y.1 y.2.1 y.2.2)}
def Nj:aK:={Y:=List aq×Int×Int×Int,pre:=fun y=>qq y.1,args:=fun y=>[cL y.1, .agg [i64 y.2.1,i64 y.2.2.1],i64 y.2.2.2],res:=fun y=>cL (gi y.1 y.2.1 y.2.2.1 y.2.2.2)}
def cz (y:List aq×Int×Int×Int) (x:Nat):List aq×Bool:=(y.1.take x).foldl (fO y.2.1 y.2.2.1 y.2.2.2) ([],false)
def O8 (y:List aq×Int×Int×Int):aL:={α:=Nat,ok:=fun x=>x<=y.1.length,μ:=fun x=>y.1.length - x,bn:=[4],bc:=fun x=>[(0,cL y.1),(2,i64 y.2.2.2),(7, .own 1),(8, .bool (cz y x).2),(9,i64 x)],bV:=fun x=>[(1, .arr aq (cz y x).1 aq.enc H7)]}
theorem Uv {α:Type} {p:α->Bool} {l:List α} (h:∀j (h:j<l.length),p l[j]=false):l.find? p=none:=by
 rw[List.find?_eq_none];grind [List.getElem_of_mem]
theorem YD {α:Type} {p:α->Bool} {l:List α} {x:Nat} (hx:x<l.length) (h:∀j (h:j<l.length),j<x->p l[j]=false) (hp:p l[x]=true):l.find? p=some l[x]:=by
 rw[List.find?_eq_some_iff_getElem];grind
theorem Xr:CO HG LJ:=bR (cfg:=fun y=>cm tw (cV y)) bu (fun _=>rfl) (fun _=>uP) (n:=400) (by
 rintro⟨⟨a,b,c⟩,d,e⟩ -
 repeat' first|exact trivial|exact rfl|refine aG (fun _=>?_) fun _=>?_|apply And.intro
 all_goals grind [oY])
theorem qzr:CO Gd NK:=bR (cfg:=fun y=>cm tw (cT Gd 2 (O5 y))) bu (fun _=>rfl) (fun _=>uP) (n:=400) (by
 rintro⟨l,a,i⟩ (hl:l.length<=100000);refine⟨⟨(0:Nat),⟨Au _,fun _ _ h=>absurd h (A3 _)⟩,?_⟩,?_⟩
 . repeat' first|exact trivial|exact rfl|refine aG (fun _=>?_) fun _=>?_|apply And.intro
 intro (x:Nat) hx;obtain⟨hx,hn⟩:=hx;have hx:x<=l.length:=hx;have hn:∀j (h:j<l.length),j<x->gf l[j] a i=false:=hn;refine aG (fun hlt=>?_) fun hge=>?_
 . have hlt':x<l.length:=cP hlt;refine az.2 ⟨_,eA hlt',?_⟩;refine aG (fun h=>?_) fun h=>?_
   . have h:gf l[x] a i=true:=h;refine az.2 ⟨_,eA hlt',?_⟩;refine⟨?_,?_⟩
     . grind [getM,YD]
     . repeat' first|exact trivial|exact rfl|refine aG (fun _=>?_) fun _=>?_|apply And.intro
   . have h:gf l[x] a i=false:=h;refine ah.2 ⟨cW x (by omega),?_⟩;refine⟨(x+1:Nat),⟨hlt',fun j hj hjx=>?_⟩,by show l.length - (x+1)<l.length - x;omega,?_⟩
     . grind
     . repeat' first|exact trivial|exact rfl|refine aG (fun _=>?_) fun _=>?_|apply And.intro
 . have hge':l.length<=x:=jz hge;refine⟨?_,?_⟩
   . grind [getM,Uv]
   . repeat' first|exact trivial|exact rfl|refine aG (fun _=>?_) fun _=>?_|apply And.intro)
noncomputable def yS (f:FuncId):Option aK:=bif Nat.beq f Hy then some (gK ly fw)else bif Nat.beq f rS then some (gK ly fw)else bif Nat.beq f HG then some LJ else bif Nat.beq f Gd then some NK else tw f
theorem EP:∀g C,yS g=some C->CO g C:=bM Lu (bM Vo (bM Xr (bM qzr uP)))
theorem qzs:CO Hb NL:=bR (cfg:=fun y=>cm yS (cV y)) bu (fun _=>rfl) (fun _=>EP) (n:=400) (by
 rintro⟨l,d⟩ (hl:l.length<=100000);refine⟨d,?_⟩
 repeat first|refine⟨rfl,?_⟩|refine⟨trivial,?_⟩
 refine aG (fun h=>?_) fun h=>?_
 . have h:fg d=true:=h;refine⟨(l,d.dev,d.inc),?_⟩
   repeat first|refine⟨rfl,?_⟩|refine⟨trivial,?_⟩
   refine⟨hl,?_⟩;refine⟨?_,?_⟩
   . grind [eK]
   . repeat' first|exact trivial|exact rfl|refine aG (fun _=>?_) fun _=>?_|apply And.intro
 . have h:fg d=false:=h;refine⟨?_,?_⟩
   . grind [eK]
   . repeat' first|exact trivial|exact rfl|refine aG (fun _=>?_) fun _=>?_|apply And.intro)
theorem Sg (a i n:Int) (s:List aq×Bool) (x:aq):(fO a i n s x).1.length<=s.1.length+2:=by
 grind [fO]
theorem CL (y:List aq×Int×Int×Int):∀{x:Nat},x<=y.1.length->(cz y x).1.length<=2*x
 |0,_=>by simp[cz]
 |x+1,h=>by
  have h1:=CL y (x:=x) (by omega);have h2:cz y (x+1)=fO y.2.1 y.2.2.1 y.2.2.2 (cz y x) y.1[x]:=mF _ _ h;have h3:=Sg y.2.1 y.2.2.1 y.2.2.2 (cz y x) y.1[x];rw[h2];omega
theorem Z5:CO Ge Nj:=bR (cfg:=fun y=>cm yS (cT Ge 4 (O8 y))) bu (fun _=>rfl) (fun _=>EP) (n:=600) (by
 rintro⟨l,a,i,n⟩ (hl:l.length<=100000);refine⟨⟨(0:Nat),Au _,?_⟩,?_⟩
 . repeat' first|exact trivial|exact rfl|refine aG (fun _=>?_) fun _=>?_|apply And.intro
 intro (x:Nat) hx;have hx:x<=l.length:=hx;refine aG (fun hlt=>?_) fun hge=>?_
 . have hlt':x<l.length:=cP hlt;have hf:cz (l,a,i,n) (x+1)=fO a i n (cz (l,a,i,n) x) l[x]:=mF _ _ hlt';have hlen:(cz (l,a,i,n) x).1.length<=2*x:=CL _ hx;have ap:∀M:List aq,M.length<=300000->(Nat.ble ((M.length+1)*24) 16777216&&Nat.ble (M.length+1) 16777216)=true:=fun M h=>by
     rw[Ac,AF,AF];omega
   have mu:l.length - (x+1)<l.length - x:=by omega
   have hL1:(cz (l,a,i,n) x).1.length<=300000:=by omega
   have hL2:((cz (l,a,i,n) x).1++[(⟨a,i,n⟩:aq)]).length<=300000:=by grind
   refine ai.2 ⟨fun h1=> ?ga,fun h1=> ?gb⟩
   case' ga=>
     have h1:(cz (l,a,i,n) x).2=false:=by grind
     refine az.2 ⟨_,eA hlt',?_⟩;refine⟨(l[x],a,i),?_⟩
     repeat first|refine⟨rfl,?_⟩|refine⟨trivial,?_⟩
     refine ai.2 ⟨fun h2=> ?gc,fun h2=> ?gd⟩
     case' gc=>
       have h2:oY l[x] a i=false:=by
        have h2:(!oY l[x] a i)=true:=h2;grind
       have hst:fO a i n (cz (l,a,i,n) x) l[x]=(bif gf l[x] a i then((cz (l,a,i,n) x).1++[⟨a,i,n⟩],true)else((cz (l,a,i,n) x).1++[⟨a,i,n⟩]++[l[x]],true)):=by
        grind [fO]
       refine⟨(⟨a,i,n⟩:aq),rfl,?_⟩;refine ah.2 ⟨ap _ hL1,?_⟩
     case' gd=>
       have h2:oY l[x] a i=true:=by
        have h2:(!oY l[x] a i)=false:=h2;grind
       have hst:fO a i n (cz (l,a,i,n) x) l[x]=(bif gf l[x] a i then((cz (l,a,i,n) x).1,(cz (l,a,i,n) x).2)else((cz (l,a,i,n) x).1++[l[x]],(cz (l,a,i,n) x).2)):=by
        grind [fO]
   case' gb=>
     have h1:(cz (l,a,i,n) x).2=true:=by grind
     have hst:fO a i n (cz (l,a,i,n) x) l[x]=(bif gf l[x] a i then((cz (l,a,i,n) x).1,(cz (l,a,i,n) x).2)else((cz (l,a,i,n) x).1++[l[x]],(cz (l,a,i,n) x).2)):=by
       grind [fO]
   all_goals
     rw[hst]at hf;refine az.2 ⟨_,eA hlt',?_⟩;refine aG (fun h3=>?_) fun h3=>?_
     . have h3:gf l[x] a i=false:=by
        have h3:(!gf l[x] a i)=true:=h3;simpa using h3
       rw[h3,Bf]at hf;refine az.2 ⟨_,eA hlt',?_⟩;refine⟨l[x],rfl,?_⟩;refine ah.2 ⟨by first|exact ap _ hL1|grind,?_⟩;refine ah.2 ⟨cW x (by omega),?_⟩;refine⟨(x+1:Nat),hlt',mu,?_⟩
       repeat' first|exact trivial|exact rfl|refine aG (fun _=>?_) fun _=>?_|apply And.intro
       all_goals ((conv=>whnf);rw[hf])
     . have h3:gf l[x] a i=true:=by
        have h3:(!gf l[x] a i)=false:=h3;simpa using h3
       rw[h3,BZ]at hf;refine ah.2 ⟨cW x (by omega),?_⟩;refine⟨(x+1:Nat),hlt',mu,?_⟩
       repeat' first|exact trivial|exact rfl|refine aG (fun _=>?_) fun _=>?_|apply And.intro
       all_goals ((conv=>whnf);rw[hf])
 . have hge':l.length<=x:=jz hge;have hall:gi l a i n=(bif (cz (l,a,i,n) x).2 then(cz (l,a,i,n) x).1 else(cz (l,a,i,n) x).1++[⟨a,i,n⟩]):=by
     grind [gi,cz]
   have hlen:(cz (l,a,i,n) x).1.length<=2*x:=CL _ hx;refine aG (fun h1=>?_) fun h1=>?_
   . have h1:(cz (l,a,i,n) x).2=false:=by grind
     rw[h1,Bf]at hall;refine⟨(⟨a,i,n⟩:aq),rfl,?_⟩;refine ah.2 ⟨by grind [Nat.ble_eq],?_⟩;refine⟨by rw[hall],?_⟩
     repeat' first|exact trivial|exact rfl|refine aG (fun _=>?_) fun _=>?_|apply And.intro
   . have h1:(cz (l,a,i,n) x).2=true:=by grind
     rw[h1,BZ]at hall;refine⟨by rw[hall],?_⟩
     repeat' first|exact trivial|exact rfl|refine aG (fun _=>?_) fun _=>?_|apply And.intro)
noncomputable def F2 (f:FuncId):Option aK:=bif Nat.beq f Hb then some NL else bif Nat.beq f Ge then some Nj else yS f
theorem KA:∀g C,F2 g=some C->CO g C:=bM qzs (bM Z5 EP)
end
section
variable [Inhabited aF]
def og (x y:ae):Bool:=cg x.dot y.dot
def lM (l:List ae) (e:ae):Nat:=dB og l e
def eZ (l:List ae) (e:ae):List ae:=l.take (lM l e)++e::l.drop (lM l e)
def Nh:aK:={Y:=List ae×ae,pre:=fun y=>y.1.length<=50000,args:=fun y=>[dG y.1, .agg y.2.enc],res:=fun y=>dG (eZ y.1 y.2)}
def O7 (y:List ae×ae):aL:={α:=Nat,ok:=fun k=>k<=lM y.1 y.2,μ:=fun k=>y.1.length - k,bn:=[3],bc:=fun k=>[(0,dG y.1),(5,i64 k)],bV:=fun _=>[]}
def dE (m:aN) (e:ae):aN×Bool×Int:=
 if fw e=false then(m,false,1)else if eK m.ctx e.dot=true then(m,false,0)else if getM m.ctx e.dot.dev e.dot.inc+1≠e.dot.seq then(m,false,6)else if 2048<=m.kept.length then(m,false,9)
 else(⟨gi m.ctx e.dot.dev e.dot.inc e.dot.seq,eZ m.kept e,dy cg (m.dead++e.over)⟩,true,0)
structure lK (m:aN):Prop where
 ctx:m.ctx.length<=100000
 seq:∀x∈m.ctx,0<=x.seq/\x.seq<=4294967296
 kept:m.kept.length<=50000
 dead:m.dead.length<=100000
theorem Ji {l:List aq} (h:∀x∈l,0<=x.seq/\x.seq<=4294967296) (a i:Int):0<=getM l a i/\getM l a i<=4294967296:=by
 unfold getM
 cases e:l.find? (fun x=>gf x a i)with
 |none=>simp
 |some x=>exact h x (Er e)
def LK:aK:={Y:=aN×ae,pre:=fun y=>lK y.1/\ly y.2/\y.2.over.length<=100000,args:=fun y=>[.agg y.1.enc, .agg y.2.enc],res:=fun y=> .bA [.agg (dE y.1 y.2).1.enc, .bool (dE y.1 y.2).2.1,i64 (dE y.1 y.2).2.2]}
theorem Z3:CO Gf Nh:=bR (cfg:=fun y=>cm F2 (cT Gf 2 (O7 y))) bu (fun _=>rfl) (fun _=>KA) (n:=600) (by
 rintro⟨l,e⟩ (hl:l.length<=50000)
 (conv=>whnf)
 refine⟨⟨(0:Nat),Au _,?_⟩,?_⟩
 . repeat' (first|exact trivial|exact rfl|((conv=>whnf);first|(apply aG<;>intro)|apply And.intro))
 intro (k:Nat) hk;have hk:k<=dB og l e:=hk;have hkp:=L7 (less:=og) l e;have hkl:k<=l.length:=by omega
 have ap:∀n:Nat,n<=60000->(Nat.ble (n*176) 16777216&&Nat.ble n 16777216)=true:=fun n h=>by
   rw[Ac,AF,AF];omega
 (conv=>whnf)
 refine ai.2 ⟨fun hlt=> ?ga,fun hge=> ?gb⟩
 case' ga=>
   have hlt':k<l.length:=cP hlt
   (conv=>whnf)
   refine az.2 ⟨_,eA hlt',?_⟩
   (conv=>whnf)
   refine⟨(l[k].dot,e.dot),?_⟩
   repeat ((conv=>whnf);first|refine⟨rfl,?_⟩|refine⟨trivial,?_⟩)
   (conv=>whnf)
   refine ai.2 ⟨fun h=> ?gc,fun h=> ?gd⟩
   case gc=>
     have h:og l[k] e=true:=h
     (conv=>whnf)
     refine ah.2 ⟨cW k (by omega),?_⟩
     (conv=>whnf)
     refine⟨(k+1:Nat),Ki hk hlt' h,by show l.length - (k+1)<l.length - k;omega,?_⟩
     repeat' (first|exact trivial|exact rfl|((conv=>whnf);first|(apply aG<;>intro)|apply And.intro))
   case' gd=>
     have h:og l[k] e=false:=h;have hkk:k=dB og l e:=Kj hk hlt' h
 case' gb=>
   have hge':l.length<=k:=jz hge;have hkk:k=dB og l e:=by omega
 all_goals
   repeat (first|((conv=>whnf);refine⟨fun _=>rfl,?_⟩)|((conv=>whnf);refine⟨fun _=>⟨rfl,rfl⟩,?_⟩)|((conv=>whnf);refine⟨e,rfl,?_⟩)|((conv=>whnf);refine⟨(_:List ae),rfl,?_⟩)|((conv=>whnf);refine ah.2 ⟨by(show Nat.ble k l.length=true;rw[AF];exact hkl),?_⟩)|((conv=>whnf);refine ah.2 ⟨ap _ (by simp;omega),?_⟩))
   (conv=>whnf)
   refine⟨?_,?_⟩
   . show SV.bh ae _ ae.enc=SV.bh ae (eZ l e) ae.enc
     unfold eZ lM;rw[<-hkk];simp
   . repeat' (first|exact trivial|exact rfl|((conv=>whnf);first|(apply aG<;>intro)|apply And.intro)))
noncomputable def F3 (f:FuncId):Option aK:=bif Nat.beq f Gf then some Nh else F2 f
theorem KB:∀g C,F3 g=some C->CO g C:=bM Z3 KA
theorem Xs:CO HU LK:=bR (cfg:=fun y=>cm F3 (cV y)) bu (fun _=>rfl) (fun _=>KB) (n:=600) (by
 rintro⟨⟨c,k,d⟩,e⟩ ⟨⟨(hc:c.length<=100000),(hs:∀x∈c,0<=x.seq/\x.seq<=4294967296),(hk:k.length<=50000),(hd:d.length<=100000)⟩,(hse:ly e),(ho:e.over.length<=100000)⟩;have hr:=Ji hs e.dot.dev e.dot.inc
 (conv=>whnf)
 refine⟨e,?_⟩
 repeat ((conv=>whnf);first|refine⟨rfl,?_⟩|refine⟨trivial,?_⟩)
 refine⟨hse,?_⟩
 (conv=>whnf)
 refine aG (fun h1=>?_) fun h1=>?_
 . have h1:fw e=false:=by simpa using h1
   have hA:dE ⟨c,k,d⟩ e=(⟨c,k,d⟩,false,1):=by unfold dE;rw[Al h1]
   repeat' (first|exact trivial|(with_reducible exact rfl)|((conv=>whnf);first|(apply aG<;>intro)|apply And.intro))
   all_goals ((conv=>whnf);rw[hA])
 have h1:fw e=true:=by simpa using h1
 (conv=>whnf)
 refine⟨(c,e.dot),?_⟩
 repeat ((conv=>whnf);first|refine⟨rfl,?_⟩|refine⟨trivial,?_⟩)
 refine⟨hc,?_⟩
 (conv=>whnf)
 refine aG (fun h2=>?_) fun h2=>?_
 . have h2:eK c e.dot=true:=h2;have hA:dE ⟨c,k,d⟩ e=(⟨c,k,d⟩,false,0):=by unfold dE;rw[An (by simp[h1]),Al h2]
   repeat' (first|exact trivial|(with_reducible exact rfl)|((conv=>whnf);first|(apply aG<;>intro)|apply And.intro))
   all_goals ((conv=>whnf);rw[hA])
 have h2:eK c e.dot=false:=h2
 (conv=>whnf)
 refine⟨(c,e.dot.dev,e.dot.inc),?_⟩
 repeat ((conv=>whnf);first|refine⟨rfl,?_⟩|refine⟨trivial,?_⟩)
 refine⟨hc,?_⟩
 (conv=>whnf)
 refine ah.2 ⟨by show bD .i64 (getM c e.dot.dev e.dot.inc+1)=true;rw[hZ];omega,?_⟩
 (conv=>whnf)
 refine aG (fun h3=>?_) fun h3=>?_
 . have h3:getM c e.dot.dev e.dot.inc+1≠e.dot.seq:=by
    have h3:(!((getM c e.dot.dev e.dot.inc+1)==e.dot.seq))=true:=h3;simpa using h3
   have hA:dE ⟨c,k,d⟩ e=(⟨c,k,d⟩,false,6):=by unfold dE;rw[An (by simp[h1]),An (by simp[h2]),Al h3]
   repeat' (first|exact trivial|(with_reducible exact rfl)|((conv=>whnf);first|(apply aG<;>intro)|apply And.intro))
   all_goals ((conv=>whnf);rw[hA])
 have h3:¬getM c e.dot.dev e.dot.inc+1≠e.dot.seq:=by
   have h3:(!((getM c e.dot.dev e.dot.inc+1)==e.dot.seq))=false:=h3;simpa using h3
 (conv=>whnf)
 refine aG (fun h4=>?_) fun h4=>?_
 . have h4:2048<=k.length:=by
    have h4:bO 2048 (Int.ofNat k.length)=true:=h4;rw[ed,Aa,Ah]at h4;omega
   have hA:dE ⟨c,k,d⟩ e=(⟨c,k,d⟩,false,9):=by unfold dE;rw[An (by simp[h1]),An (by simp[h2]),An h3,Al h4]
   repeat' (first|exact trivial|(with_reducible exact rfl)|((conv=>whnf);first|(apply aG<;>intro)|apply And.intro))
   all_goals ((conv=>whnf);rw[hA])
 have h4:¬2048<=k.length:=by
   have h4:bO 2048 (Int.ofNat k.length)=false:=h4;rw[ed,Ai,Ah]at h4;omega
 have hA:dE ⟨c,k,d⟩ e=(⟨gi c e.dot.dev e.dot.inc e.dot.seq,eZ k e,dy cg (d++e.over)⟩,true,0):=by unfold dE;rw[An (by simp[h1]),An (by simp[h2]),An h3,An h4]
 have ap:∀n:Nat,n<=300000->(Nat.ble (n*24) 16777216&&Nat.ble n 16777216)=true:=fun n h=>by
   rw[Ac,AF,AF];omega
 (conv=>whnf)
 refine⟨(c,e.dot.dev,e.dot.inc,e.dot.seq),?_⟩
 repeat ((conv=>whnf);first|refine⟨rfl,?_⟩|refine⟨trivial,?_⟩)
 refine⟨hc,?_⟩
 (conv=>whnf)
 refine⟨(k,e),?_⟩
 repeat ((conv=>whnf);first|refine⟨rfl,?_⟩|refine⟨trivial,?_⟩)
 refine⟨hk,?_⟩
 (conv=>whnf)
 refine⟨fun _=>⟨rfl,rfl⟩,?_⟩
 (conv=>whnf)
 refine⟨d,rfl,?_⟩
 (conv=>whnf)
 refine ah.2 ⟨ap _ (by simp;omega),?_⟩
 (conv=>whnf)
 refine⟨fun _=>⟨rfl,rfl⟩,?_⟩
 (conv=>whnf)
 refine⟨e.over,rfl,?_⟩
 (conv=>whnf)
 refine ah.2 ⟨ap _ (by simp;omega),?_⟩
 (conv=>whnf)
 refine⟨[]++d++e.over,?_⟩
 repeat ((conv=>whnf);first|refine⟨rfl,?_⟩|refine⟨trivial,?_⟩)
 refine⟨by show(([]:List aq)++d++e.over).length<=300000;simp;omega,?_⟩
 repeat' (first|exact trivial|(with_reducible exact rfl)|((conv=>whnf);first|(apply aG<;>intro)|apply And.intro))
 all_goals ((conv=>whnf);rw[hA])
 all_goals (rw[BA];rfl))
end
section
variable [Inhabited aF]
theorem Zb (hG:∀g C,yM g=some C->CO g C):CO rN Fx:=bR (cfg:=fun y=>cp yM (cV y)) bu (fun _=>rfl) (fun _=>hG) (n:=400) (by
 rw[YY];rintro⟨c,l,now⟩ ⟨hr,hl⟩;exact⟨(c,l,now),rfl,rfl,rfl,rfl,rfl,rfl,⟨hr,hl⟩,rfl,trivial⟩)
theorem VD (hG:∀g C,yL g=some C->CO g C):∀g C,yM g=some C->CO g C:=bM (qzw (Ld hG)) (Ld hG)
end
end Go.Proofs
