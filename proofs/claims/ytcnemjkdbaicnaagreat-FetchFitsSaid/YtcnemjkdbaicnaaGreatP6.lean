/- Part 6: an evaluator, proved sound, and its use at this seat; no condition. -/
import Derived.Lib.Bytealg
import Derived.KernelRfl
import Derived.WalkKit
import Derived.Laws.IdiomStrings
import Derived.Sort.LotA
import Derived.Shelf.SlSortCmp.KitK
import Derived.Deep.MidRow
import Derived.Laws.AppendOwn
import Derived.Maps.Own
import Derived.Maps.OwnOps
import Derived.Sort.KeysCollected
import Derived.Sort.EncStr
import Derived.Shelf.SlSortCmp.WholeK
import Derived.Shelf.SlIter.Nil
import Derived.Shelf.SortM.Plain
import Derived.Shelf.SortM.SortNone
import Derived.Shelf.SlicesE.Clone
import Derived.Test.YtcnemjkdbaicnaaGreatProg
import Derived.Sort.WalkB2
import Derived.Sort.WalkB12
import Derived.Deep.LoopGhost
import Derived.Test.YtcnemjkdbaicnaaGreatP1
import Derived.Test.YtcnemjkdbaicnaaGreatP2
import Derived.Test.YtcnemjkdbaicnaaGreatP3
import Derived.Test.YtcnemjkdbaicnaaGreatP5
set_option linter.unusedSimpArgs false
set_option linter.unusedVariables false
set_option linter.unusedSectionVars false
set_option linter.deprecated false
set_option maxRecDepth 100000
set_option maxHeartbeats 40000000
namespace Go.Proofs
open Go Go.Am Go.RowKit Go.Sy Go.Lib
structure aG where
 name:Bs
 domain:Bs
 path:Bs
deriving DecidableEq,Inhabited
structure cS where
 value:Bs
 aD:Bool
 aM:Bool
 aF:Bool
 persistent:Bool
 aR:Int
 ai:Int
 access:Int
deriving DecidableEq,Inhabited
structure ab where
 key:aG
 aa:cS
deriving DecidableEq,Inhabited
structure ar where
 aB:Int
 domain:Int
 total:Int
 rules:List Bs
def aG.enc (x:aG):List SV:=[.str x.name, .str x.domain, .str x.path]
def cS.enc (x:cS):List SV:=[.str x.value, .bool x.aD, .bool x.aM, .bool x.aF, .bool x.persistent, .int .i64 x.aR, .int .i64 x.ai, .int .i64 x.access]
def ab.enc (x:ab):List SV:=[.str x.key.name, .str x.key.domain, .str x.key.path, .str x.aa.value, .bool x.aa.aD, .bool x.aa.aM, .bool x.aa.aF, .bool x.aa.persistent, .int .i64 x.aa.aR, .int .i64 x.aa.ai, .int .i64 x.aa.access]
def ar.enc (x:ar):List SV:=[.int .i64 x.aB, .int .i64 x.domain, .int .i64 x.total, .bn Bs x.rules fA]
abbrev lt (a b:Bs):Bool:=Op.bytesLess a b
theorem lt_irrefl:∀a,lt a a=false
 |[]=>rfl
 |a::l=>by simp[lt,Op.bytesLess];exact lt_irrefl l
theorem lt_trans:∀a b c,lt a b=true->lt b c=true->lt a c=true:=by
 intro a;induction a with
 |nil=>intro b c h1 h2;cases c with
  |nil=>cases b<;>simp[lt,Op.bytesLess]at h1 h2
  |cons=>rfl
 | cons x a ih=>
  intro b c h1 h2
  cases b with
  |nil=>grind [Op.bytesLess]
  | cons y b=>cases c with
   |nil=>grind [Op.bytesLess]
   |cons z c=>
    grind [Op.bytesLess]
theorem zx:∀a b,lt a b=true\/a=b\/lt b a=true:=by
 intro a;induction a with
 |nil=>intro b;cases b<;>simp[lt,Op.bytesLess]
 | cons x a ih=>
  intro b
  cases b with
  |nil=>grind [Op.bytesLess]
  |cons y b=>
   grind [Op.bytesLess]
def eU (a b:Bs):Int:=if lt a b then -1 else if a=b then 0 else 1
theorem UU:∀(a b:Bs),compareBytes a b=eU a b:=by
 intro a;induction a with
 |nil=>intro b;cases b<;>simp[compareBytes,eU,lt,Op.bytesLess]
 | cons x a ih=>
  intro b
  cases b with
  |nil=>grind [compareBytes,eU,Op.bytesLess]
  |cons y b=>
   grind [compareBytes,eU,Op.bytesLess]
theorem XS (a b:Bs):Extern.BytealgCompare.cmp ⟨a.toArray⟩ ⟨b.toArray⟩=eU a b:=by
 rw[cmp_eq,UU]
theorem XR (a b:Bs):eU a b=0↔a=b:=by
 grind [eU,lt_irrefl]
theorem ZL (a b:Bs):eU a b<0↔lt a b=true:=by
 grind [eU]
def cN (a b:Int):Int:=if a<b then -1 else if b<a then 1 else 0
theorem xW (a b:Int):cN a b=0↔a=b:=by
 grind [cN]
theorem yp (a b:Int):cN a b<0↔a<b:=by
 grind [cN]
def l7 (a b:aG):Int:=let n:=eU a.name b.name;if n≠0 then n else let d:=eU a.domain b.domain;if d≠0 then d else eU a.path b.path
def ff (a b:aG):Bool:=decide (l7 a b<0)
theorem xH (a b:aG):ff a b=if a.name≠b.name then lt a.name b.name else if a.domain≠b.domain then lt a.domain b.domain else lt a.path b.path:=by
 rw[Az];grind [ff,l7,XR,ZL]
theorem rh (a:aG):ff a a=false:=by simp[xH,lt_irrefl]
theorem qj (a b c:aG) (h1:ff a b=true) (h2:ff b c=true):ff a c=true:=by
 rw[xH]at*;grind [lt_trans,lt_irrefl]
theorem sQ (a b:aG):ff a b=true\/a=b\/ff b a=true:=by
 simp only[xH];by_cases h1:a.name=b.name
 . by_cases h2:a.domain=b.domain
   . simp only[h1,h2,Ec,D2,Bc];rcases zx a.path b.path with h|h|h
     . grind
     . exact .inr (.inl (by cases a;simp_all))
     grind
   grind [zx]
 grind [zx]
end Go.Proofs
namespace Go.Proofs
open Go Go.Am Go.RowKit Go.Sy
section
variable [Inhabited aK]
theorem Tryz.uA:Tryz.tab.fns.get Cp=some Tryz.f231:=by kernel_rfl
theorem SB (a b:List UInt8):run Tryz.tab 200 {fr:=ak.enter Tryz.f231 Cp (Tryz.f231.body.getD .skip) [.str a, .str b] .normal,cs:=[],h:=fw}= .ok [(.int .i64 (Extern.BytealgCompare.cmp ⟨a.toArray⟩ ⟨b.toArray⟩),fw)]:=by kernel_rfl
noncomputable def qw:aL:={Y:=Bs×Bs,pre:=fun _=>True,args:=fun y=>[.str y.1, .str y.2],res:=fun y=> .int .i64 (eU y.1 y.2)}
theorem QT:CO Cp qw:=by
 refine cI.shut bh fun fn body hfn hb y _ avs Fz hav=>?_
 rw[Tryz.uA]at hfn
 cases hfn;obtain⟨a,b⟩:=y;have hl:avs=[.str a, .str b]:=by
   obtain⟨h1,h2⟩:=hav
   cases avs with
   |nil=>grind [qw]
   | cons u avs=>cases avs with
    |nil=>grind [qw]
    | cons w avs=>cases avs with
     |cons=>grind [qw]
     |nil=>
      have e1:=h2 0 _ u rfl rfl;have e2:=h2 1 _ w rfl rfl;simp only at e1 e2
      cases e1
      cases e2;rfl
 subst hl;refine⟨fun _ _=>rfl,fun v _=>v= .int .i64 (eU a b),?_,?_⟩
 . have ho:=SB a b;rw[hb]at ho;refine(eY.run bh ho).mono fun v h' hm=>?_
   grind [XS]
 . rintro v h' rfl;exact⟨fun _ _=>rfl, .int _ _⟩
end
section
variable [Inhabited aK]
def fI (x:cS) (now:Int):Bool:=x.persistent&&decide (x.aR<=now)
def iI (a b:ab):Int:=
 let n:=if cN a.aa.access b.aa.access≠0 then cN a.aa.access b.aa.access else cN a.aa.ai b.aa.ai
 if n≠0\/a.key=b.key then n else if ff a.key b.key then -1 else 1
def fZ (a b:ab):Bool:=decide (iI a b<0)
def jD:List ab->Bool
 |x::y::l=>ff x.key y.key&&jD (y::l)
 |_=>true
def fh (l:List ab) (k:aG):List ab:=l.filter fun x=>decide (x.key≠k)
def fR (l:List ab) (d:Bs):List ab:=l.filter fun x=>decide (x.key.domain=d)
def tB:aG:=⟨[],[],[]⟩
def iR:ab:=⟨tB,⟨[],false,false,false,false,0,0,0⟩⟩
def fE (l:List ab) (k:aG):ab×Bool:=match l.find? (fun x=>decide (x.key=k))with|some x=>(x,true)|none=>(iR,false)
def eC (l:List Bs) (d:Bs):Nat:=(l.takeWhile fun x=>lt x d).length
def gm (l:List Bs) (d:Bs):List Bs:=if l[eC l d]? =some d then l else l.take (eC l d)++d::l.drop (eC l d)
def bo (l:List ab):List Bs:=l.foldl (fun a x=>gm a x.key.domain) []
def gq (l:List ab) (d:Bs) (all:Bool):Option ab:=l.foldl (fun b x=>if all||decide (x.key.domain=d)then(match b with|none=>some x|some y=>if fZ x y then some x else some y)else b) none
def gD (l:List ab) (d:Bs) (all:Bool):aG:=match gq l d all with|some x=>x.key|none=>tB
def eV (c:ar):Int:=if c.aB<1\/c.aB>64\/c.domain<1\/c.domain>2048\/c.total<1\/c.total>2048 then 4 else oD c.rules
noncomputable def vwI:TypeId->Option View:=fun t=>bif Nat.beq t Ty.string then some ⟨Bs,fA⟩else bif Nat.beq t C5 then some ⟨ab,ab.enc⟩else none
noncomputable def bE (ia:FuncId->Option aL) (mr:FuncId->Nat->Option aJ):iM:={tab:=pJ,view:=vwI,ia,mr}
def items (l:List ab):SV:= .bn ab l ab.enc
def px (l:List ab):SO:= .arr ab l ab.enc C5
def mB (f r:Nat) (A:aJ) (a:FuncId->Nat->Option aJ):FuncId->Nat->Option aJ:=fun g s=>bif Nat.beq g f&&Nat.beq s r then some A else a g s
def qx:aL:={Y:=cS×Int,pre:=fun _=>True,args:=fun y=>[.agg y.1.enc,i64 y.2],res:=fun y=> .bool (fI y.1 y.2)}
def H6:aL:={Y:=Int×Int,pre:=fun _=>True,args:=fun y=>[i64 y.1,i64 y.2],res:=fun y=>i64 (cN y.1 y.2)}
def H7:aL:={Y:=aG×aG,pre:=fun _=>True,args:=fun y=>[.agg y.1.enc, .agg y.2.enc],res:=fun y=>i64 (l7 y.1 y.2)}
def tT:aL:={Y:=aG×aG,pre:=fun _=>True,args:=fun y=>[.agg y.1.enc, .agg y.2.enc],res:=fun y=> .bool (ff y.1 y.2)}
def wo:aL:={Y:=ab×ab,pre:=fun _=>True,args:=fun y=>[.agg y.1.enc, .agg y.2.enc],res:=fun y=>i64 (iI y.1 y.2)}
def GQ:aL:={Y:=ab×ab,pre:=fun _=>True,args:=fun y=>[.agg y.1.enc, .agg y.2.enc],res:=fun y=> .bool (fZ y.1 y.2)}
def kG (l:List ab):Prop:=l.length<=10000
def GO:aL:={Y:=List ab,pre:=kG,args:=fun y=>[items y],res:=fun y=> .bool (jD y)}
def yK (y:List ab):aJ:={α:=Nat,ok:=fun i=>1<=i/\i<=y.length+1/\ ∀j (h:j+1<y.length),j+1<i->ff (y[j]'(by omega)).key y[j+1].key=true,μ:=fun i=>y.length+1 - i,aV:=[],aO:=fun i=>[(0,items y),(3,i64 i)],bm:=fun _=>[]}
def bQ:aL:={Y:=List ab×aG,pre:=fun y=>kG y.1,args:=fun y=>[items y.1, .agg y.2.enc],res:=fun y=>items (fh y.1 y.2)}
def mC:aL:={Y:=List ab×Bs,pre:=fun y=>kG y.1,args:=fun y=>[items y.1, .str y.2],res:=fun y=>items (fR y.1 y.2)}
def kq (l:List ab) (p:ab->Bool):aJ:={α:=Nat,ok:=fun i=>i<=l.length,μ:=fun i=>l.length - i,aV:=[1],aO:=fun i=>[(8,items l),(9,i64 (Int.ofNat l.length)),(10,i64 i),(5, .own 1)],bm:=fun i=>[(1,px ((l.take i).filter p))]}
def sU (y:List ab×aG):aJ:={α:=Nat,ok:=fun i=>i<=y.1.length,μ:=fun i=>y.1.length - i,aV:=[3],aO:=fun i=>[(0,items y.1),(5, .own 1),(6,i64 i)],bm:=fun i=>[(1,px ((y.1.take i).filter fun x=>decide (x.key≠y.2)))]}
def sX (y:List ab×Bs):aJ:={α:=Nat,ok:=fun i=>i<=y.1.length,μ:=fun i=>y.1.length - i,aV:=[],aO:=fun i=>[(0,items y.1),(1, .str y.2),(5, .own 0),(6,i64 i)],bm:=fun i=>[(0,px ((y.1.take i).filter fun x=>decide (x.key.domain=y.2)))]}
def zk:aL:={Y:=List ab×aG,pre:=fun y=>kG y.1,args:=fun y=>[items y.1, .agg y.2.enc],res:=fun y=> .bO [.agg (fE y.1 y.2).1.enc, .bool (fE y.1 y.2).2]}
def yZ (y:List ab×aG):aJ:={α:=Nat,ok:=fun i=>i<=y.1.length/\ ∀j (h:j<y.1.length),j<i->y.1[j].key≠y.2,μ:=fun i=>y.1.length - i,aV:=[3,4],aO:=fun i=>[(0,items y.1),(6,i64 i)],bm:=fun _=>[]}
def Fs:aL:={Y:=List ab×ab,pre:=fun y=>kG y.1,args:=fun y=>[items y.1, .agg y.2.enc],res:=fun y=> .bool (decide (y.2∈y.1))}
def y7 (y:List ab×ab):aJ:={α:=Nat,ok:=fun i=>i<=y.1.length/\ ∀j (h:j<y.1.length),j<i->y.1[j]≠y.2,μ:=fun i=>y.1.length - i,aV:=[3],aO:=fun i=>[(0,items y.1),(7,i64 (Int.ofNat y.1.length)),(8,i64 i)],bm:=fun _=>[]}
def wm:aL:={Y:=List ab×List ab,pre:=fun y=>kG y.1/\kG y.2,args:=fun y=>[items y.1,items y.2],res:=fun y=> .bool (decide (y.1=y.2))}
def za (y:List ab×List ab):aJ:={α:=Nat,ok:=fun i=>i<=y.1.length/\y.1.length=y.2.length/\y.1.take i=y.2.take i,μ:=fun i=>y.1.length - i,aV:=[],aO:=fun i=>[(0,items y.1),(1,items y.2),(5,i64 i)],bm:=fun _=>[]}
def F1:aL:={Y:=List ab,pre:=kG,args:=fun y=>[items y],res:=fun y=>strs (bo y)}
def lG (y:List ab):aJ:={α:=Nat,ok:=fun i=>i<=y.length,μ:=fun i=>y.length - i,aV:=[],aO:=fun i=>[(0,items y),(3,strs (bo (y.take i))),(4,i64 i)],bm:=fun _=>[],fj:=[3]}
def xS (y:List ab):aJ:={α:=Nat×Nat,ok:=fun x=>∃h:x.1<y.length,x.2<=eC (bo (y.take x.1)) y[x.1].key.domain,μ:=fun x=>(bo (y.take x.1)).length - x.2,aV:=[],aO:=fun x=>[(0,items y),(3,strs (bo (y.take x.1))),(4,i64 x.1),(5, .str ((y[x.1]?).getD iR).key.domain),(6,i64 x.2)],bm:=fun _=>[],link:=some fun a b=>b.1=a.1}
def F2:aL:={Y:=List ab×Bs×Bool,pre:=fun y=>kG y.1,args:=fun y=>[items y.1, .str y.2.1, .bool y.2.2],res:=fun y=> .agg (gD y.1 y.2.1 y.2.2).enc}
def kV (y:List ab×Bs×Bool):aJ:={α:=Nat×Int,ok:=fun x=>x.1<=y.1.length/\((x.2= -1/\gq (y.1.take x.1) y.2.1 y.2.2=none)\/ ∃b:Nat,x.2=Int.ofNat b/\ ∃h:b<y.1.length,gq (y.1.take x.1) y.2.1 y.2.2=some y.1[b]),μ:=fun x=>y.1.length - x.1,aV:=[6],aO:=fun x=>[(0,items y.1),(1, .str y.2.1),(2, .bool y.2.2),(7,i64 x.2),(8,i64 x.1)],bm:=fun _=>[]}
def pv (c:ar):Prop:=c.rules.length<=100000/\ ∀s∈c.rules,s.length<=100000
def qp:aL:={Y:=ar,pre:=pv,args:=fun y=>[.agg y.enc],res:=fun y=>i64 (eV y)}
noncomputable def Cb (f:FuncId):Option aL:=bif Nat.beq f Cp then some qw else Jh f
noncomputable def Cc (f:FuncId):Option aL:=bif Nat.beq f pS then some qx else bif Nat.beq f p7 then some qx else bif Nat.beq f sd then some H6 else bif Nat.beq f sg then some qw else Cb f
noncomputable def wI (f:FuncId):Option aL:=bif Nat.beq f IK then some H7 else Cc f
noncomputable def pB (f:FuncId):Option aL:=bif Nat.beq f IG then some tT else bif Nat.beq f Ig then some tT else wI f
noncomputable def oI (f:FuncId):Option aL:=bif Nat.beq f It then some wo else bif Nat.beq f sE then some GQ else pB f
noncomputable def Cd (f:FuncId):Option aL:=bif Nat.beq f nI then some GO else bif Nat.beq f nO then some bQ else bif Nat.beq f nE then some bQ else bif Nat.beq f IC then some mC else bif Nat.beq f nM then some mC else bif Nat.beq f ml then some zk else bif Nat.beq f rW then some Fs else bif Nat.beq f lB then some wm else bif Nat.beq f nF then some F2 else bif Nat.beq f pT then some qp else bif Nat.beq f pV then some qp else oI f
noncomputable def HF (f:FuncId):Option aL:=bif Nat.beq f lz then some F1 else Cd f
end
section
variable [Inhabited aK]
theorem R4:(cg (fun(y:aL.Y qx)=>bE bu (cR y)) 400 pS)=(∀(y:cS×Int),True->br y.1.persistent (bT y.1.aR y.2=fI y.1 y.2/\True) (false=fI y.1 y.2/\True)):=by kernel_rfl
theorem qzv:(cg (fun(y:aL.Y qx)=>bE bu (cR y)) 400 p7)=(∀(y:cS×Int),True->br y.1.persistent (bT y.1.aR y.2=fI y.1 y.2/\True) (false=fI y.1 y.2/\True)):=by kernel_rfl
theorem RP:(cg (fun(y:aL.Y H6)=>bE bu (cR y)) 400 sd)=(∀(y:Int×Int),True->br (!y.1==y.1) (br (!y.2==y.2) (aq 0 (cN y.1 y.2)/\True) (aq (-1) (cN y.1 y.2)/\True)) (br (!y.2==y.2) (aq 1 (cN y.1 y.2)/\True) (br (aZ y.1 y.2) (aq (-1) (cN y.1 y.2)/\True) (br (aZ y.2 y.1) (aq 1 (cN y.1 y.2)/\True) (aq 0 (cN y.1 y.2)/\True))))):=by kernel_rfl
theorem RQ:(cg (fun(y:aL.Y qw)=>bE Cb (cR y)) 400 sg)=(∀(y:Bs×Bs),True->∃(z:Bs×Bs),y.1=z.1/\y.2=z.2/\True/\aq (eU z.1 z.2) (eU y.1 y.2)/\True):=by kernel_rfl
theorem RW:(cg (fun(y:aL.Y H7)=>bE Cc (cR y)) 600 IK)=(∀(y:aG×aG),True->∃(u:Bs×Bs),y.1.name=u.1/\y.2.name=u.2/\True/\ ∃(v:Bs×Bs),y.1.domain=v.1/\y.2.domain=v.2/\True/\ ∃(z:Bs×Bs),y.1.path=z.1/\y.2.path=z.2/\True/\br (!eU u.1 u.2==0) (aq (eU u.1 u.2) (l7 y.1 y.2)/\True) (br (!eU v.1 v.2==0) (aq (eU v.1 v.2) (l7 y.1 y.2)/\True) (br (!eU z.1 z.2==0) (aq (eU z.1 z.2) (l7 y.1 y.2)/\True) (aq 0 (l7 y.1 y.2)/\True)))):=by kernel_rfl
theorem RY:(cg (fun(y:aL.Y tT)=>bE wI (cR y)) 400 IG)=(∀(y:aG×aG),True->∃(z:aG×aG),y.1.name=z.1.name/\y.1.domain=z.1.domain/\y.1.path=z.1.path/\y.2.name=z.2.name/\y.2.domain=z.2.domain/\y.2.path=z.2.path/\True/\aZ (l7 z.1 z.2) 0=ff y.1 y.2/\True):=by kernel_rfl
theorem qzt:(cg (fun(y:aL.Y tT)=>bE bu (cR y)) 400 Ig)=(∀(y:aG×aG),True->br (!y.1.name==y.2.name) (Go.Op.bytesLess y.1.name y.2.name=ff y.1 y.2/\True) (br (!y.1.domain==y.2.domain) (Go.Op.bytesLess y.1.domain y.2.domain=ff y.1 y.2/\True) (Go.Op.bytesLess y.1.path y.2.path=ff y.1 y.2/\True))):=by kernel_rfl
theorem qzC:(cg (fun(y:aL.Y wo)=>bE pB (cR y)) 600 It)=(∀(y:ab×ab),True->∃(u:Int×Int),aq y.1.aa.access u.1/\aq y.2.aa.access u.2/\True/\ ∃(v:Int×Int),aq y.1.aa.ai v.1/\aq y.2.aa.ai v.2/\True/\br (!cN u.1 u.2==0) (br (!cN u.1 u.2==0) (aq (cN u.1 u.2) (iI y.1 y.2)/\True) (br (y.1.key.name==y.2.key.name&&(y.1.key.domain==y.2.key.domain&&(y.1.key.path==y.2.key.path&&true))) (aq (cN u.1 u.2) (iI y.1 y.2)/\True) (∃(z:aG×aG),y.1.key.name=z.1.name/\y.1.key.domain=z.1.domain/\y.1.key.path=z.1.path/\y.2.key.name=z.2.name/\y.2.key.domain=z.2.domain/\y.2.key.path=z.2.path/\True/\br (ff z.1 z.2) (aq (-1) (iI y.1 y.2)/\True) (aq 1 (iI y.1 y.2)/\True)))) (br (!cN v.1 v.2==0) (br (!cN v.1 v.2==0) (aq (cN v.1 v.2) (iI y.1 y.2)/\True) (br (y.1.key.name==y.2.key.name&&(y.1.key.domain==y.2.key.domain&&(y.1.key.path==y.2.key.path&&true))) (aq (cN v.1 v.2) (iI y.1 y.2)/\True) (∃(z:aG×aG),y.1.key.name=z.1.name/\y.1.key.domain=z.1.domain/\y.1.key.path=z.1.path/\y.2.key.name=z.2.name/\y.2.key.domain=z.2.domain/\y.2.key.path=z.2.path/\True/\br (ff z.1 z.2) (aq (-1) (iI y.1 y.2)/\True) (aq 1 (iI y.1 y.2)/\True)))) (br (y.1.key.name==y.2.key.name&&(y.1.key.domain==y.2.key.domain&&(y.1.key.path==y.2.key.path&&true))) (aq 0 (iI y.1 y.2)/\True) (∃(z:aG×aG),y.1.key.name=z.1.name/\y.1.key.domain=z.1.domain/\y.1.key.path=z.1.path/\y.2.key.name=z.2.name/\y.2.key.domain=z.2.domain/\y.2.key.path=z.2.path/\True/\br (ff z.1 z.2) (aq (-1) (iI y.1 y.2)/\True) (aq 1 (iI y.1 y.2)/\True))))):=by kernel_rfl
theorem YV:(cg (fun(y:aL.Y GQ)=>bE pB (cR y)) 400 sE)=(∀(y:ab×ab),True->br (!y.1.aa.access==y.2.aa.access) (aZ y.1.aa.access y.2.aa.access=fZ y.1 y.2/\True) (br (!y.1.aa.ai==y.2.aa.ai) (aZ y.1.aa.ai y.2.aa.ai=fZ y.1 y.2/\True) (∃(z:aG×aG),y.1.key.name=z.1.name/\y.1.key.domain=z.1.domain/\y.1.key.path=z.1.path/\y.2.key.name=z.2.name/\y.2.key.domain=z.2.domain/\y.2.key.path=z.2.path/\True/\ff z.1 z.2=fZ y.1 y.2/\True))):=by kernel_rfl
theorem qwr:(cg (fun(y:aL.Y GO)=>bE pB (cu nI 2 (yK y))) 400 nI)=(∀(y:List ab),y.length<=10000->(∃(x:Nat),(1<=x/\x<=y.length+1/\ ∀(j:Nat) (h:j+1<y.length),j+1<x->ff y[j].key y[j+1].key=true)/\(items y=items y/\aq 1 ↑x/\True)/\True/\True)/\ ∀(x:Nat),(1<=x/\x<=y.length+1/\ ∀(j:Nat) (h:j+1<y.length),j+1<x->ff y[j].key y[j+1].key=true)->br (aZ (↑x) (Int.ofNat y.length)) (ck (bw .i64 (↑x - 1)) (ck (nn (↑x - 1)) (so y[Int.toNat (↑x - 1)]? fun(val:ab)=>so y[Int.toNat ↑x]? fun(v:ab)=>∃(z:aG×aG),val.key.name=z.1.name/\val.key.domain=z.1.domain/\val.key.path=z.1.path/\v.key.name=z.2.name/\v.key.domain=z.2.domain/\v.key.path=z.2.path/\True/\br (!ff z.1 z.2) (false=jD y/\True) (ck (bw .i64 (↑x+1)) (∃(u:Nat),(1<=u/\u<=y.length+1/\ ∀(j:Nat) (h:j+1<y.length),j+1<u->ff y[j].key y[j+1].key=true)/\aJ.μ (yK y) u<aJ.μ (yK y) x/\(items y=items y/\aq (↑x+1) ↑u/\True)/\True/\True))))) (true=jD y/\True)):=by kernel_rfl
theorem YX:(cg (fun(y:aL.Y bQ)=>bE bu (cu mh 3 (kq y.1 fun(x:ab)=>decide (x.key≠y.2)))) 600 nO)=(∀(y:List ab×aG),y.1.length<=10000->(∃(x:Nat),x<=y.1.length/\(SV.fn 166 [] [SV.ptr (SH.next (St.h {ts:=Fr.of (aL.args bQ y) 0,h:={next:=0,os:=[]},log:=[]})) 0]=SV.fn 166 [] [SV.ptr (SH.next (St.h {ts:=Fr.of (aL.args bQ y) 0,h:={next:=0,os:=[]},log:=[]})) 0]/\items y.1=items y.1/\aq (Int.ofNat y.1.length) (Int.ofNat y.1.length)/\aq 0 ↑x/\True/\True)/\(((y.1.take x).filter (fun(x:ab)=>decide (x.key≠y.2))=[]/\ ∀(x:ab),(ab.enc x).length=11)/\(y.2.name=y.2.name/\y.2.domain=y.2.domain/\y.2.path=y.2.path/\True)/\True)/\True)/\ ∀(x:Nat),x<=y.1.length->br (aZ (↑x) (Int.ofNat y.1.length)) (so y.1[Int.toNat ↑x]? fun(val:ab)=>br (!(val.key.name==y.2.name&&(val.key.domain==y.2.domain&&(val.key.path==y.2.path&&true)))) (∃(u:ab),(ab.enc u)=(ab.enc val)/\ck (Nat.ble ((((y.1.take x).filter (fun(x:ab)=>decide (x.key≠y.2))).length+[u].length)*96) 16777216&&Nat.ble (((y.1.take x).filter (fun(x:ab)=>decide (x.key≠y.2))).length+[u].length) 16777216) (ck (bw .i64 (↑x+1)) (∃(z:Nat),z<=y.1.length/\aJ.μ (kq y.1 fun(x:ab)=>decide (x.key≠y.2)) z<aJ.μ (kq y.1 fun(x:ab)=>decide (x.key≠y.2)) x/\(SV.fn 166 [] [SV.ptr (SH.next (St.h {ts:=Fr.of (aL.args bQ y) 0,h:={next:=0,os:=[]},log:=[]})) 0]=SV.fn 166 [] [SV.ptr (SH.next (St.h {ts:=Fr.of (aL.args bQ y) 0,h:={next:=0,os:=[]},log:=[]})) 0]/\items y.1=items y.1/\aq (Int.ofNat y.1.length) (Int.ofNat y.1.length)/\aq (↑x+1) ↑z/\True/\True)/\(items ((y.1.take x).filter (fun(x:ab)=>decide (x.key≠y.2))++[u])=items ((y.1.take z).filter (fun(x:ab)=>decide (x.key≠y.2)))/\(y.2.name=y.2.name/\y.2.domain=y.2.domain/\y.2.path=y.2.path/\True)/\True)/\True))) (ck (bw .i64 (↑x+1)) (∃(z:Nat),z<=y.1.length/\aJ.μ (kq y.1 fun(x:ab)=>decide (x.key≠y.2)) z<aJ.μ (kq y.1 fun(x:ab)=>decide (x.key≠y.2)) x/\(SV.fn 166 [] [SV.ptr (SH.next (St.h {ts:=Fr.of (aL.args bQ y) 0,h:={next:=0,os:=[]},log:=[]})) 0]=SV.fn 166 [] [SV.ptr (SH.next (St.h {ts:=Fr.of (aL.args bQ y) 0,h:={next:=0,os:=[]},log:=[]})) 0]/\items y.1=items y.1/\aq (Int.ofNat y.1.length) (Int.ofNat y.1.length)/\aq (↑x+1) ↑z/\True/\True)/\(items ((y.1.take x).filter (fun(x:ab)=>decide (x.key≠y.2)))=items ((y.1.take z).filter (fun(x:ab)=>decide (x.key≠y.2)))/\(y.2.name=y.2.name/\y.2.domain=y.2.domain/\y.2.path=y.2.path/\True)/\True)/\True))) (items ((y.1.take x).filter (fun(x:ab)=>decide (x.key≠y.2)))=items (fh y.1 y.2)/\True)):=by kernel_rfl
theorem Xj:(cg (fun(y:aL.Y bQ)=>bE bu (cu nE 3 (sU y))) 400 nE)=(∀(y:List ab×aG),y.1.length<=10000->(∃(x:Nat),x<=y.1.length/\(True/\items y.1=items y.1/\True/\aq 0 ↑x/\True)/\(items []=items ((y.1.take x).filter (fun(x:ab)=>decide (x.key≠y.2)))/\(y.2.name=y.2.name/\y.2.domain=y.2.domain/\y.2.path=y.2.path/\True)/\True)/\True)/\ ∀(x:Nat),x<=y.1.length->br (aZ (↑x) (Int.ofNat y.1.length)) (so y.1[Int.toNat ↑x]? fun(val:ab)=>br (!(val.key.name==y.2.name&&(val.key.domain==y.2.domain&&(val.key.path==y.2.path&&true)))) (so y.1[Int.toNat ↑x]? fun(val:ab)=>∃(u:ab),(ab.enc u)=(ab.enc val)/\ck (Nat.ble ((((y.1.take x).filter (fun(x:ab)=>decide (x.key≠y.2))).length+[u].length)*96) 16777216&&Nat.ble (((y.1.take x).filter (fun(x:ab)=>decide (x.key≠y.2))).length+[u].length) 16777216) (ck (bw .i64 (↑x+1)) (∃(z:Nat),z<=y.1.length/\aJ.μ (sU y) z<aJ.μ (sU y) x/\(True/\items y.1=items y.1/\True/\aq (↑x+1) ↑z/\True)/\(items ((y.1.take x).filter (fun(x:ab)=>decide (x.key≠y.2))++[u])=items ((y.1.take z).filter (fun(x:ab)=>decide (x.key≠y.2)))/\(y.2.name=y.2.name/\y.2.domain=y.2.domain/\y.2.path=y.2.path/\True)/\True)/\True))) (ck (bw .i64 (↑x+1)) (∃(z:Nat),z<=y.1.length/\aJ.μ (sU y) z<aJ.μ (sU y) x/\(True/\items y.1=items y.1/\True/\aq (↑x+1) ↑z/\True)/\(items ((y.1.take x).filter (fun(x:ab)=>decide (x.key≠y.2)))=items ((y.1.take z).filter (fun(x:ab)=>decide (x.key≠y.2)))/\(y.2.name=y.2.name/\y.2.domain=y.2.domain/\y.2.path=y.2.path/\True)/\True)/\True))) (items ((y.1.take x).filter (fun(x:ab)=>decide (x.key≠y.2)))=items (fh y.1 y.2)/\True)):=by kernel_rfl
theorem qwn:(cg (fun(y:aL.Y mC)=>bE bu (cu mh 3 (kq y.1 fun(x:ab)=>decide (x.key.domain=y.2)))) 600 IC)=(∀(y:List ab×Bs),y.1.length<=10000->(∃(x:Nat),x<=y.1.length/\(SV.fn 161 [] [SV.ptr (SH.next (St.h {ts:=Fr.of (aL.args mC y) 0,h:={next:=0,os:=[]},log:=[]})) 0]=SV.fn 161 [] [SV.ptr (SH.next (St.h {ts:=Fr.of (aL.args mC y) 0,h:={next:=0,os:=[]},log:=[]})) 0]/\items y.1=items y.1/\aq (Int.ofNat y.1.length) (Int.ofNat y.1.length)/\aq 0 ↑x/\True/\True)/\(((y.1.take x).filter (fun(x:ab)=>decide (x.key.domain=y.2))=[]/\ ∀(x:ab),(ab.enc x).length=11)/\(y.2=y.2/\True)/\True)/\True)/\ ∀(x:Nat),x<=y.1.length->br (aZ (↑x) (Int.ofNat y.1.length)) (so y.1[Int.toNat ↑x]? fun(val:ab)=>br (val.key.domain==y.2) (∃(u:ab),(ab.enc u)=(ab.enc val)/\ck (Nat.ble ((((y.1.take x).filter (fun(x:ab)=>decide (x.key.domain=y.2))).length+[u].length)*96) 16777216&&Nat.ble (((y.1.take x).filter (fun(x:ab)=>decide (x.key.domain=y.2))).length+[u].length) 16777216) (ck (bw .i64 (↑x+1)) (∃(z:Nat),z<=y.1.length/\aJ.μ (kq y.1 fun(x:ab)=>decide (x.key.domain=y.2)) z<aJ.μ (kq y.1 fun(x:ab)=>decide (x.key.domain=y.2)) x/\(SV.fn 161 [] [SV.ptr (SH.next (St.h {ts:=Fr.of (aL.args mC y) 0,h:={next:=0,os:=[]},log:=[]})) 0]=SV.fn 161 [] [SV.ptr (SH.next (St.h {ts:=Fr.of (aL.args mC y) 0,h:={next:=0,os:=[]},log:=[]})) 0]/\items y.1=items y.1/\aq (Int.ofNat y.1.length) (Int.ofNat y.1.length)/\aq (↑x+1) ↑z/\True/\True)/\(items ((y.1.take x).filter (fun(x:ab)=>decide (x.key.domain=y.2))++[u])=items ((y.1.take z).filter (fun(x:ab)=>decide (x.key.domain=y.2)))/\(y.2=y.2/\True)/\True)/\True))) (ck (bw .i64 (↑x+1)) (∃(z:Nat),z<=y.1.length/\aJ.μ (kq y.1 fun(x:ab)=>decide (x.key.domain=y.2)) z<aJ.μ (kq y.1 fun(x:ab)=>decide (x.key.domain=y.2)) x/\(SV.fn 161 [] [SV.ptr (SH.next (St.h {ts:=Fr.of (aL.args mC y) 0,h:={next:=0,os:=[]},log:=[]})) 0]=SV.fn 161 [] [SV.ptr (SH.next (St.h {ts:=Fr.of (aL.args mC y) 0,h:={next:=0,os:=[]},log:=[]})) 0]/\items y.1=items y.1/\aq (Int.ofNat y.1.length) (Int.ofNat y.1.length)/\aq (↑x+1) ↑z/\True/\True)/\(items ((y.1.take x).filter (fun(x:ab)=>decide (x.key.domain=y.2)))=items ((y.1.take z).filter (fun(x:ab)=>decide (x.key.domain=y.2)))/\(y.2=y.2/\True)/\True)/\True))) (items ((y.1.take x).filter (fun(x:ab)=>decide (x.key.domain=y.2)))=items (fR y.1 y.2)/\True)):=by kernel_rfl
theorem YS:(cg (fun(y:aL.Y mC)=>bE bu (cu nM 3 (sX y))) 400 nM)=(∀(y:List ab×Bs),y.1.length<=10000->(∃(x:Nat),x<=y.1.length/\(items y.1=items y.1/\y.2=y.2/\True/\aq 0 ↑x/\True)/\(items []=items ((y.1.take x).filter (fun(x:ab)=>decide (x.key.domain=y.2)))/\True)/\True)/\ ∀(x:Nat),x<=y.1.length->br (aZ (↑x) (Int.ofNat y.1.length)) (so y.1[Int.toNat ↑x]? fun(val:ab)=>br (val.key.domain==y.2) (so y.1[Int.toNat ↑x]? fun(val:ab)=>∃(u:ab),(ab.enc u)=(ab.enc val)/\ck (Nat.ble ((((y.1.take x).filter (fun(x:ab)=>decide (x.key.domain=y.2))).length+[u].length)*96) 16777216&&Nat.ble (((y.1.take x).filter (fun(x:ab)=>decide (x.key.domain=y.2))).length+[u].length) 16777216) (ck (bw .i64 (↑x+1)) (∃(z:Nat),z<=y.1.length/\aJ.μ (sX y) z<aJ.μ (sX y) x/\(items y.1=items y.1/\y.2=y.2/\True/\aq (↑x+1) ↑z/\True)/\(items ((y.1.take x).filter (fun(x:ab)=>decide (x.key.domain=y.2))++[u])=items ((y.1.take z).filter (fun(x:ab)=>decide (x.key.domain=y.2)))/\True)/\True))) (ck (bw .i64 (↑x+1)) (∃(z:Nat),z<=y.1.length/\aJ.μ (sX y) z<aJ.μ (sX y) x/\(items y.1=items y.1/\y.2=y.2/\True/\aq (↑x+1) ↑z/\True)/\(items ((y.1.take x).filter (fun(x:ab)=>decide (x.key.domain=y.2)))=items ((y.1.take z).filter (fun(x:ab)=>decide (x.key.domain=y.2)))/\True)/\True))) (items ((y.1.take x).filter (fun(x:ab)=>decide (x.key.domain=y.2)))=items (fR y.1 y.2)/\True)):=by kernel_rfl
theorem qzo:(cg (fun(y:aL.Y zk)=>bE bu (cu ml 2 (yZ y))) 400 ml)=(∀(y:List ab×aG),y.1.length<=10000->(∃(x:Nat),(x<=y.1.length/\ ∀(j:Nat) (h:j<y.1.length),j<x->y.1[j].key=y.2->False)/\(True/\True/\items y.1=items y.1/\aq 0 ↑x/\True)/\((([]:List UInt8)=[]/\([]:List UInt8)=[]/\([]:List UInt8)=[]/\([]:List UInt8)=[]/\false=false/\false=false/\false=false/\false=false/\aq 0 0/\aq 0 0/\aq 0 0/\True)/\(y.2.name=y.2.name/\y.2.domain=y.2.domain/\y.2.path=y.2.path/\True)/\True)/\True)/\ ∀(x:Nat),(x<=y.1.length/\ ∀(j:Nat) (h:j<y.1.length),j<x->y.1[j].key=y.2->False)->br (aZ (↑x) (Int.ofNat y.1.length)) (so y.1[Int.toNat ↑x]? fun(val:ab)=>br (val.key.name==y.2.name&&(val.key.domain==y.2.domain&&(val.key.path==y.2.path&&true))) (so y.1[Int.toNat ↑x]? fun(val:ab)=>val.key.name=(((fE y.1 y.2).1).key).name/\val.key.domain=(((fE y.1 y.2).1).key).domain/\val.key.path=(((fE y.1 y.2).1).key).path/\val.aa.value=(((fE y.1 y.2).1).aa).value/\val.aa.aD=(((fE y.1 y.2).1).aa).aD/\val.aa.aM=(((fE y.1 y.2).1).aa).aM/\val.aa.aF=(((fE y.1 y.2).1).aa).aF/\val.aa.persistent=(((fE y.1 y.2).1).aa).persistent/\aq val.aa.aR ((((fE y.1 y.2).1).aa).aR)/\aq val.aa.ai ((((fE y.1 y.2).1).aa).ai)/\aq val.aa.access ((((fE y.1 y.2).1).aa).access)/\true=(fE y.1 y.2).2/\True) (ck (bw .i64 (↑x+1)) (∃(z:Nat),(z<=y.1.length/\ ∀(j:Nat) (h:j<y.1.length),j<z->y.1[j].key=y.2->False)/\aJ.μ (yZ y) z<aJ.μ (yZ y) x/\(True/\True/\items y.1=items y.1/\aq (↑x+1) ↑z/\True)/\((([]:List UInt8)=[]/\([]:List UInt8)=[]/\([]:List UInt8)=[]/\([]:List UInt8)=[]/\false=false/\false=false/\false=false/\false=false/\aq 0 0/\aq 0 0/\aq 0 0/\True)/\(y.2.name=y.2.name/\y.2.domain=y.2.domain/\y.2.path=y.2.path/\True)/\True)/\True))) ([]=(((fE y.1 y.2).1).key).name/\[]=(((fE y.1 y.2).1).key).domain/\[]=(((fE y.1 y.2).1).key).path/\[]=(((fE y.1 y.2).1).aa).value/\false=(((fE y.1 y.2).1).aa).aD/\false=(((fE y.1 y.2).1).aa).aM/\false=(((fE y.1 y.2).1).aa).aF/\false=(((fE y.1 y.2).1).aa).persistent/\aq 0 ((((fE y.1 y.2).1).aa).aR)/\aq 0 ((((fE y.1 y.2).1).aa).ai)/\aq 0 ((((fE y.1 y.2).1).aa).access)/\false=(fE y.1 y.2).2/\True)):=by kernel_rfl
theorem Xh:(cg (fun(y:aL.Y Fs)=>bE bu (cu xc 2 (y7 y))) 400 rW)=(∀(y:List ab×ab),y.1.length<=10000->(∃(x:Nat),(x<=y.1.length/\ ∀(j:Nat) (h:j<y.1.length),j<x->y.1[j]=y.2->False)/\(True/\items y.1=items y.1/\aq (Int.ofNat y.1.length) (Int.ofNat y.1.length)/\aq 0 ↑x/\True)/\((y.2.key.name=y.2.key.name/\y.2.key.domain=y.2.key.domain/\y.2.key.path=y.2.key.path/\y.2.aa.value=y.2.aa.value/\y.2.aa.aD=y.2.aa.aD/\y.2.aa.aM=y.2.aa.aM/\y.2.aa.aF=y.2.aa.aF/\y.2.aa.persistent=y.2.aa.persistent/\aq y.2.aa.aR y.2.aa.aR/\aq y.2.aa.ai y.2.aa.ai/\aq y.2.aa.access y.2.aa.access/\True)/\(y.2.key.name=y.2.key.name/\y.2.key.domain=y.2.key.domain/\y.2.key.path=y.2.key.path/\y.2.aa.value=y.2.aa.value/\y.2.aa.aD=y.2.aa.aD/\y.2.aa.aM=y.2.aa.aM/\y.2.aa.aF=y.2.aa.aF/\y.2.aa.persistent=y.2.aa.persistent/\aq y.2.aa.aR y.2.aa.aR/\aq y.2.aa.ai y.2.aa.ai/\aq y.2.aa.access y.2.aa.access/\True)/\True)/\True)/\ ∀(x:Nat),(x<=y.1.length/\ ∀(j:Nat) (h:j<y.1.length),j<x->y.1[j]=y.2->False)->br (aZ (↑x) (Int.ofNat y.1.length)) (so y.1[Int.toNat ↑x]? fun(val:ab)=>br (y.2.key.name==val.key.name&&(y.2.key.domain==val.key.domain&&(y.2.key.path==val.key.path&&true))&&(y.2.aa.value==val.aa.value&&(y.2.aa.aD==val.aa.aD&&(y.2.aa.aM==val.aa.aM&&(y.2.aa.aF==val.aa.aF&&(y.2.aa.persistent==val.aa.persistent&&(y.2.aa.aR==val.aa.aR&&(y.2.aa.ai==val.aa.ai&&(y.2.aa.access==val.aa.access&&true)))))))&&true)) (bT 0 ↑x=decide (y.2∈y.1)/\True) (ck (bw .i64 (↑x+1)) (∃(z:Nat),(z<=y.1.length/\ ∀(j:Nat) (h:j<y.1.length),j<z->y.1[j]=y.2->False)/\aJ.μ (y7 y) z<aJ.μ (y7 y) x/\(True/\items y.1=items y.1/\aq (Int.ofNat y.1.length) (Int.ofNat y.1.length)/\aq (↑x+1) ↑z/\True)/\((y.2.key.name=y.2.key.name/\y.2.key.domain=y.2.key.domain/\y.2.key.path=y.2.key.path/\y.2.aa.value=y.2.aa.value/\y.2.aa.aD=y.2.aa.aD/\y.2.aa.aM=y.2.aa.aM/\y.2.aa.aF=y.2.aa.aF/\y.2.aa.persistent=y.2.aa.persistent/\aq y.2.aa.aR y.2.aa.aR/\aq y.2.aa.ai y.2.aa.ai/\aq y.2.aa.access y.2.aa.access/\True)/\(y.2.key.name=y.2.key.name/\y.2.key.domain=y.2.key.domain/\y.2.key.path=y.2.key.path/\y.2.aa.value=y.2.aa.value/\y.2.aa.aD=y.2.aa.aD/\y.2.aa.aM=y.2.aa.aM/\y.2.aa.aF=y.2.aa.aF/\y.2.aa.persistent=y.2.aa.persistent/\aq y.2.aa.aR y.2.aa.aR/\aq y.2.aa.ai y.2.aa.ai/\aq y.2.aa.access y.2.aa.access/\True)/\True)/\True))) (bT 0 (-1)=decide (y.2∈y.1)/\True)):=by kernel_rfl
theorem qzy:(cg (fun(y:aL.Y wm)=>bE bu (cu lB 4 (za y))) 400 lB)=(∀(y:List ab×List ab),y.1.length<=10000/\y.2.length<=10000->br (!Int.ofNat y.1.length==Int.ofNat y.2.length) (false=decide (y.1=y.2)/\True) ((∃(x:Nat),(x<=y.1.length/\y.1.length=y.2.length/\y.1.take x=y.2.take x)/\(items y.1=items y.1/\items y.2=items y.2/\aq 0 ↑x/\True)/\True/\True)/\ ∀(x:Nat),x<=y.1.length/\y.1.length=y.2.length/\y.1.take x=y.2.take x->br (aZ (↑x) (Int.ofNat y.1.length)) (so y.1[Int.toNat ↑x]? fun(val:ab)=>so y.2[Int.toNat ↑x]? fun(z:ab)=>br (!(val.key.name==z.key.name&&(val.key.domain==z.key.domain&&(val.key.path==z.key.path&&true))&&(val.aa.value==z.aa.value&&(val.aa.aD==z.aa.aD&&(val.aa.aM==z.aa.aM&&(val.aa.aF==z.aa.aF&&(val.aa.persistent==z.aa.persistent&&(val.aa.aR==z.aa.aR&&(val.aa.ai==z.aa.ai&&(val.aa.access==z.aa.access&&true)))))))&&true))) (false=decide (y.1=y.2)/\True) (ck (bw .i64 (↑x+1)) (∃(u:Nat),(u<=y.1.length/\y.1.length=y.2.length/\y.1.take u=y.2.take u)/\aJ.μ (za y) u<aJ.μ (za y) x/\(items y.1=items y.1/\items y.2=items y.2/\aq (↑x+1) ↑u/\True)/\True/\True))) (true=decide (y.1=y.2)/\True))):=by kernel_rfl
theorem YW:(cg (fun(y:aL.Y F2)=>bE oI (cu nF 3 (kV y))) 600 nF)=(∀(y:List ab×Bs×Bool),y.1.length<=10000->(∃(x:Nat×Int),(x.1<=y.1.length/\(x.2= -1/\gq (y.1.take x.1) y.2.1 y.2.2=Option.none\/ ∃(b:Nat),x.2=Int.ofNat b/\ ∃(h:b<y.1.length),gq (y.1.take x.1) y.2.1 y.2.2=Option.some y.1[b]))/\(True/\items y.1=items y.1/\y.2.1=y.2.1/\y.2.2=y.2.2/\aq (-1) x.2/\aq 0 ↑x.1/\True)/\((([]:List UInt8)=[]/\([]:List UInt8)=[]/\([]:List UInt8)=[]/\True)/\True)/\True)/\ ∀(x:Nat×Int),x.1<=y.1.length/\(x.2= -1/\gq (y.1.take x.1) y.2.1 y.2.2=Option.none\/ ∃(b:Nat),x.2=Int.ofNat b/\ ∃(h:b<y.1.length),gq (y.1.take x.1) y.2.1 y.2.2=Option.some y.1[b])->br (aZ (↑x.1) (Int.ofNat y.1.length)) (br (!y.2.2) (so y.1[Int.toNat ↑x.1]? fun(val:ab)=>br (!val.key.domain==y.2.1) (ck (bw .i64 (↑x.1+1)) (∃(z:Nat×Int),(z.1<=y.1.length/\(z.2= -1/\gq (y.1.take z.1) y.2.1 y.2.2=Option.none\/ ∃(b:Nat),z.2=Int.ofNat b/\ ∃(h:b<y.1.length),gq (y.1.take z.1) y.2.1 y.2.2=Option.some y.1[b]))/\aJ.μ (kV y) z<aJ.μ (kV y) x/\(True/\items y.1=items y.1/\y.2.1=y.2.1/\y.2.2=y.2.2/\aq x.2 z.2/\aq (↑x.1+1) ↑z.1/\True)/\((([]:List UInt8)=[]/\([]:List UInt8)=[]/\([]:List UInt8)=[]/\True)/\True)/\True)) (br (aZ x.2 0) (ck (bw .i64 (↑x.1+1)) (∃(z:Nat×Int),(z.1<=y.1.length/\(z.2= -1/\gq (y.1.take z.1) y.2.1 y.2.2=Option.none\/ ∃(b:Nat),z.2=Int.ofNat b/\ ∃(h:b<y.1.length),gq (y.1.take z.1) y.2.1 y.2.2=Option.some y.1[b]))/\aJ.μ (kV y) z<aJ.μ (kV y) x/\(True/\items y.1=items y.1/\y.2.1=y.2.1/\y.2.2=y.2.2/\aq (↑x.1) z.2/\aq (↑x.1+1) ↑z.1/\True)/\((([]:List UInt8)=[]/\([]:List UInt8)=[]/\([]:List UInt8)=[]/\True)/\True)/\True)) (so y.1[Int.toNat ↑x.1]? fun(val:ab)=>ck (nn x.2) (so y.1[Int.toNat x.2]? fun(v:ab)=>∃(z:ab×ab),val.key.name=z.1.key.name/\val.key.domain=z.1.key.domain/\val.key.path=z.1.key.path/\val.aa.value=z.1.aa.value/\val.aa.aD=z.1.aa.aD/\val.aa.aM=z.1.aa.aM/\val.aa.aF=z.1.aa.aF/\val.aa.persistent=z.1.aa.persistent/\aq val.aa.aR z.1.aa.aR/\aq val.aa.ai z.1.aa.ai/\aq val.aa.access z.1.aa.access/\v.key.name=z.2.key.name/\v.key.domain=z.2.key.domain/\v.key.path=z.2.key.path/\v.aa.value=z.2.aa.value/\v.aa.aD=z.2.aa.aD/\v.aa.aM=z.2.aa.aM/\v.aa.aF=z.2.aa.aF/\v.aa.persistent=z.2.aa.persistent/\aq v.aa.aR z.2.aa.aR/\aq v.aa.ai z.2.aa.ai/\aq v.aa.access z.2.aa.access/\True/\br (fZ z.1 z.2) (ck (bw .i64 (↑x.1+1)) (∃(u:Nat×Int),(u.1<=y.1.length/\(u.2= -1/\gq (y.1.take u.1) y.2.1 y.2.2=Option.none\/ ∃(b:Nat),u.2=Int.ofNat b/\ ∃(h:b<y.1.length),gq (y.1.take u.1) y.2.1 y.2.2=Option.some y.1[b]))/\aJ.μ (kV y) u<aJ.μ (kV y) x/\(True/\items y.1=items y.1/\y.2.1=y.2.1/\y.2.2=y.2.2/\aq (↑x.1) u.2/\aq (↑x.1+1) ↑u.1/\True)/\((([]:List UInt8)=[]/\([]:List UInt8)=[]/\([]:List UInt8)=[]/\True)/\True)/\True)) (ck (bw .i64 (↑x.1+1)) (∃(u:Nat×Int),(u.1<=y.1.length/\(u.2= -1/\gq (y.1.take u.1) y.2.1 y.2.2=Option.none\/ ∃(b:Nat),u.2=Int.ofNat b/\ ∃(h:b<y.1.length),gq (y.1.take u.1) y.2.1 y.2.2=Option.some y.1[b]))/\aJ.μ (kV y) u<aJ.μ (kV y) x/\(True/\items y.1=items y.1/\y.2.1=y.2.1/\y.2.2=y.2.2/\aq x.2 u.2/\aq (↑x.1+1) ↑u.1/\True)/\((([]:List UInt8)=[]/\([]:List UInt8)=[]/\([]:List UInt8)=[]/\True)/\True)/\True)))))) (br (aZ x.2 0) (ck (bw .i64 (↑x.1+1)) (∃(z:Nat×Int),(z.1<=y.1.length/\(z.2= -1/\gq (y.1.take z.1) y.2.1 y.2.2=Option.none\/ ∃(b:Nat),z.2=Int.ofNat b/\ ∃(h:b<y.1.length),gq (y.1.take z.1) y.2.1 y.2.2=Option.some y.1[b]))/\aJ.μ (kV y) z<aJ.μ (kV y) x/\(True/\items y.1=items y.1/\y.2.1=y.2.1/\y.2.2=y.2.2/\aq (↑x.1) z.2/\aq (↑x.1+1) ↑z.1/\True)/\((([]:List UInt8)=[]/\([]:List UInt8)=[]/\([]:List UInt8)=[]/\True)/\True)/\True)) (so y.1[Int.toNat ↑x.1]? fun(val:ab)=>ck (nn x.2) (so y.1[Int.toNat x.2]? fun(v:ab)=>∃(z:ab×ab),val.key.name=z.1.key.name/\val.key.domain=z.1.key.domain/\val.key.path=z.1.key.path/\val.aa.value=z.1.aa.value/\val.aa.aD=z.1.aa.aD/\val.aa.aM=z.1.aa.aM/\val.aa.aF=z.1.aa.aF/\val.aa.persistent=z.1.aa.persistent/\aq val.aa.aR z.1.aa.aR/\aq val.aa.ai z.1.aa.ai/\aq val.aa.access z.1.aa.access/\v.key.name=z.2.key.name/\v.key.domain=z.2.key.domain/\v.key.path=z.2.key.path/\v.aa.value=z.2.aa.value/\v.aa.aD=z.2.aa.aD/\v.aa.aM=z.2.aa.aM/\v.aa.aF=z.2.aa.aF/\v.aa.persistent=z.2.aa.persistent/\aq v.aa.aR z.2.aa.aR/\aq v.aa.ai z.2.aa.ai/\aq v.aa.access z.2.aa.access/\True/\br (fZ z.1 z.2) (ck (bw .i64 (↑x.1+1)) (∃(u:Nat×Int),(u.1<=y.1.length/\(u.2= -1/\gq (y.1.take u.1) y.2.1 y.2.2=Option.none\/ ∃(b:Nat),u.2=Int.ofNat b/\ ∃(h:b<y.1.length),gq (y.1.take u.1) y.2.1 y.2.2=Option.some y.1[b]))/\aJ.μ (kV y) u<aJ.μ (kV y) x/\(True/\items y.1=items y.1/\y.2.1=y.2.1/\y.2.2=y.2.2/\aq (↑x.1) u.2/\aq (↑x.1+1) ↑u.1/\True)/\((([]:List UInt8)=[]/\([]:List UInt8)=[]/\([]:List UInt8)=[]/\True)/\True)/\True)) (ck (bw .i64 (↑x.1+1)) (∃(u:Nat×Int),(u.1<=y.1.length/\(u.2= -1/\gq (y.1.take u.1) y.2.1 y.2.2=Option.none\/ ∃(b:Nat),u.2=Int.ofNat b/\ ∃(h:b<y.1.length),gq (y.1.take u.1) y.2.1 y.2.2=Option.some y.1[b]))/\aJ.μ (kV y) u<aJ.μ (kV y) x/\(True/\items y.1=items y.1/\y.2.1=y.2.1/\y.2.2=y.2.2/\aq x.2 u.2/\aq (↑x.1+1) ↑u.1/\True)/\((([]:List UInt8)=[]/\([]:List UInt8)=[]/\([]:List UInt8)=[]/\True)/\True)/\True)))))) (br (aZ x.2 0) ([]=(gD y.1 y.2.1 y.2.2).name/\[]=(gD y.1 y.2.1 y.2.2).domain/\[]=(gD y.1 y.2.1 y.2.2).path/\True) (ck (nn x.2) (so y.1[Int.toNat x.2]? fun(val:ab)=>val.key.name=(gD y.1 y.2.1 y.2.2).name/\val.key.domain=(gD y.1 y.2.1 y.2.2).domain/\val.key.path=(gD y.1 y.2.1 y.2.2).path/\True)))):=by kernel_rfl
theorem qwl:(cg (fun(y:aL.Y qp)=>bE oI (cR y)) 600 pT)=(∀(y:ar),(y.rules.length<=100000/\ ∀(s:Bs),s∈y.rules->s.length<=100000)->br (bT 1 y.aB) (br (!bT y.aB 64) (aq 4 (eV y)/\True) (br (bT 1 y.domain) (br (!bT y.domain 2048) (aq 4 (eV y)/\True) (br (bT 1 y.total) (br (!bT y.total 2048) (aq 4 (eV y)/\True) (∃(z:List Bs),strs y.rules=strs z/\(z.length<=100000/\ ∀(s:Bs),s∈z->s.length<=100000)/\aq (oD z) (eV y)/\True)) (aq 4 (eV y)/\True))) (aq 4 (eV y)/\True))) (aq 4 (eV y)/\True)):=by kernel_rfl
theorem YR:(cg (fun(y:aL.Y qp)=>bE oI (cR y)) 600 pV)=(∀(y:ar),(y.rules.length<=100000/\ ∀(s:Bs),s∈y.rules->s.length<=100000)->br (aZ y.aB 1) (aq 4 (eV y)/\True) (br (aZ 64 y.aB) (aq 4 (eV y)/\True) (br (aZ y.domain 1) (aq 4 (eV y)/\True) (br (aZ 2048 y.domain) (aq 4 (eV y)/\True) (br (aZ y.total 1) (aq 4 (eV y)/\True) (br (aZ 2048 y.total) (aq 4 (eV y)/\True) (br (aZ 256 (Int.ofNat y.rules.length)) (aq 3 (eV y)/\True) (∃(z:List Bs),strs y.rules=strs z/\(z.length<=100000/\ ∀(s:Bs),s∈z->s.length<=100000)/\br (!z.all fu) (aq 1 (eV y)/\True) (aq 0 (eV y)/\True))))))))):=by kernel_rfl
theorem YT:(cg (fun(y:aL.Y F1)=>bE Cd (mB lz 7 (xS y) (cu lz 3 (lG y)))) 600 lz)=(∀(y:List ab),y.length<=10000->(∃(x:Nat),x<=y.length/\(items y=items y/\strs []=strs (bo (y.take x))/\aq 0 ↑x/\True)/\(True/\True)/\True)/\ ∀(x:Nat),x<=y.length->br (aZ (↑x) (Int.ofNat y.length)) (so y[Int.toNat ↑x]? fun(val:ab)=>∃(x0:Nat×Nat),(∃(z:Nat×Nat),((∃(h:z.1<y.length),z.2<=eC (bo (y.take z.1)) y[z.1].key.domain)/\z.1=x0.1)/\(items y=items y/\strs (bo (y.take x))=strs (bo (y.take z.1))/\aq ↑x ↑z.1/\val.key.domain=((y[z.1]?.getD iR).key).domain/\aq 0 ↑z.2/\True)/\(True/\True)/\True)/\ ∀(z:Nat×Nat),(∃(h:z.1<y.length),z.2<=eC (bo (y.take z.1)) y[z.1].key.domain)/\z.1=x0.1->br (aZ (↑z.2) (Int.ofNat ((bo (y.take z.1)).length))) (so (bo (y.take z.1))[Int.toNat ↑z.2]? fun(val:Bs)=>br (Go.Op.bytesLess val (((y[z.1]?.getD iR).key).domain)) (ck (bw .i64 (↑z.2+1)) (∃(u:Nat×Nat),((∃(h:u.1<y.length),u.2<=eC (bo (y.take u.1)) y[u.1].key.domain)/\u.1=x0.1)/\aJ.μ (aJ.when (xS y) (fun(a b:Nat×Nat)=>b.1=a.1) x0) u<aJ.μ (aJ.when (xS y) (fun(a b:Nat×Nat)=>b.1=a.1) x0) z/\(items y=items y/\strs (bo (y.take z.1))=strs (bo (y.take u.1))/\aq ↑z.1 ↑u.1/\((y[z.1]?.getD iR).key).domain=((y[u.1]?.getD iR).key).domain/\aq (↑z.2+1) ↑u.2/\True)/\(True/\True)/\True)) (br ((↑z.2:Int)==Int.ofNat ((bo (y.take z.1)).length)) ((∀(x:Bs),(fA x).length=1)/\ck (Nat.ble (Int.toNat ↑z.2) ((bo (y.take z.1)).length)) ((∀(x:Bs),(fA x).length=1)/\ck (Nat.ble (Int.toNat ↑z.2) ((bo (y.take z.1)).length)) ((∀(x:Bs),(fA x).length=1/\(fA x).all jU=true)/\ ∃(M':List Bs),strs ((bo (y.take z.1)).take (Int.toNat ↑z.2))=strs M'/\ck (Nat.ble ((([]:List Nat).length+M'.length)*16) 16777216&&Nat.ble (([]:List Nat).length+M'.length) 16777216) (∃(v:Bs),[SV.str v]=[SV.str (((y[z.1]?.getD iR).key).domain)]/\ck (Nat.ble ((([]++M').length+[v].length)*16) 16777216&&Nat.ble (([]++M').length+[v].length) 16777216) ((∀(x:Bs),(fA x).length=1/\(fA x).all jU=true)/\ ∃(M'_1:List Bs),strs ((bo (y.take z.1)).drop (Int.toNat ↑z.2))=strs M'_1/\ck (Nat.ble ((([]++M'++[v]).length+M'_1.length)*16) 16777216&&Nat.ble (([]++M'++[v]).length+M'_1.length) 16777216) (ck (bw .i64 (↑z.1+1)) (∃(u:Nat),u<=y.length/\aJ.μ (lG y) u<aJ.μ (lG y) x/\(items y=items y/\strs ([]++M'++[v]++M'_1)=strs (bo (y.take u))/\aq (↑z.1+1) ↑u/\True)/\(True/\True)/\True))))))) (so (bo (y.take z.1))[Int.toNat ↑z.2]? fun(val:Bs)=>br (!val==((y[z.1]?.getD iR).key).domain) ((∀(x:Bs),(fA x).length=1)/\ck (Nat.ble (Int.toNat ↑z.2) ((bo (y.take z.1)).length)) ((∀(x:Bs),(fA x).length=1)/\ck (Nat.ble (Int.toNat ↑z.2) ((bo (y.take z.1)).length)) ((∀(x:Bs),(fA x).length=1/\(fA x).all jU=true)/\ ∃(M':List Bs),strs ((bo (y.take z.1)).take (Int.toNat ↑z.2))=strs M'/\ck (Nat.ble ((([]:List Nat).length+M'.length)*16) 16777216&&Nat.ble (([]:List Nat).length+M'.length) 16777216) (∃(v:Bs),[SV.str v]=[SV.str (((y[z.1]?.getD iR).key).domain)]/\ck (Nat.ble ((([]++M').length+[v].length)*16) 16777216&&Nat.ble (([]++M').length+[v].length) 16777216) ((∀(x:Bs),(fA x).length=1/\(fA x).all jU=true)/\ ∃(M'_1:List Bs),strs ((bo (y.take z.1)).drop (Int.toNat ↑z.2))=strs M'_1/\ck (Nat.ble ((([]++M'++[v]).length+M'_1.length)*16) 16777216&&Nat.ble (([]++M'++[v]).length+M'_1.length) 16777216) (ck (bw .i64 (↑z.1+1)) (∃(u:Nat),u<=y.length/\aJ.μ (lG y) u<aJ.μ (lG y) x/\(items y=items y/\strs ([]++M'++[v]++M'_1)=strs (bo (y.take u))/\aq (↑z.1+1) ↑u/\True)/\(True/\True)/\True))))))) (ck (bw .i64 (↑z.1+1)) (∃(u:Nat),u<=y.length/\aJ.μ (lG y) u<aJ.μ (lG y) x/\(items y=items y/\strs (bo (y.take z.1))=strs (bo (y.take u))/\aq (↑z.1+1) ↑u/\True)/\(True/\True)/\True))))) (br ((↑z.2:Int)==Int.ofNat ((bo (y.take z.1)).length)) ((∀(x:Bs),(fA x).length=1)/\ck (Nat.ble (Int.toNat ↑z.2) ((bo (y.take z.1)).length)) ((∀(x:Bs),(fA x).length=1)/\ck (Nat.ble (Int.toNat ↑z.2) ((bo (y.take z.1)).length)) ((∀(x:Bs),(fA x).length=1/\(fA x).all jU=true)/\ ∃(M':List Bs),strs ((bo (y.take z.1)).take (Int.toNat ↑z.2))=strs M'/\ck (Nat.ble ((([]:List Nat).length+M'.length)*16) 16777216&&Nat.ble (([]:List Nat).length+M'.length) 16777216) (∃(v:Bs),[SV.str v]=[SV.str (((y[z.1]?.getD iR).key).domain)]/\ck (Nat.ble ((([]++M').length+[v].length)*16) 16777216&&Nat.ble (([]++M').length+[v].length) 16777216) ((∀(x:Bs),(fA x).length=1/\(fA x).all jU=true)/\ ∃(M'_1:List Bs),strs ((bo (y.take z.1)).drop (Int.toNat ↑z.2))=strs M'_1/\ck (Nat.ble ((([]++M'++[v]).length+M'_1.length)*16) 16777216&&Nat.ble (([]++M'++[v]).length+M'_1.length) 16777216) (ck (bw .i64 (↑z.1+1)) (∃(u:Nat),u<=y.length/\aJ.μ (lG y) u<aJ.μ (lG y) x/\(items y=items y/\strs ([]++M'++[v]++M'_1)=strs (bo (y.take u))/\aq (↑z.1+1) ↑u/\True)/\(True/\True)/\True))))))) (so (bo (y.take z.1))[Int.toNat ↑z.2]? fun(val:Bs)=>br (!val==((y[z.1]?.getD iR).key).domain) ((∀(x:Bs),(fA x).length=1)/\ck (Nat.ble (Int.toNat ↑z.2) ((bo (y.take z.1)).length)) ((∀(x:Bs),(fA x).length=1)/\ck (Nat.ble (Int.toNat ↑z.2) ((bo (y.take z.1)).length)) ((∀(x:Bs),(fA x).length=1/\(fA x).all jU=true)/\ ∃(M':List Bs),strs ((bo (y.take z.1)).take (Int.toNat ↑z.2))=strs M'/\ck (Nat.ble ((([]:List Nat).length+M'.length)*16) 16777216&&Nat.ble (([]:List Nat).length+M'.length) 16777216) (∃(v:Bs),[SV.str v]=[SV.str (((y[z.1]?.getD iR).key).domain)]/\ck (Nat.ble ((([]++M').length+[v].length)*16) 16777216&&Nat.ble (([]++M').length+[v].length) 16777216) ((∀(x:Bs),(fA x).length=1/\(fA x).all jU=true)/\ ∃(M'_1:List Bs),strs ((bo (y.take z.1)).drop (Int.toNat ↑z.2))=strs M'_1/\ck (Nat.ble ((([]++M'++[v]).length+M'_1.length)*16) 16777216&&Nat.ble (([]++M'++[v]).length+M'_1.length) 16777216) (ck (bw .i64 (↑z.1+1)) (∃(u:Nat),u<=y.length/\aJ.μ (lG y) u<aJ.μ (lG y) x/\(items y=items y/\strs ([]++M'++[v]++M'_1)=strs (bo (y.take u))/\aq (↑z.1+1) ↑u/\True)/\(True/\True)/\True))))))) (ck (bw .i64 (↑z.1+1)) (∃(u:Nat),u<=y.length/\aJ.μ (lG y) u<aJ.μ (lG y) x/\(items y=items y/\strs (bo (y.take z.1))=strs (bo (y.take u))/\aq (↑z.1+1) ↑u/\True)/\(True/\True)/\True))))) (strs (bo (y.take x))=strs (bo y)/\True)):=by kernel_rfl
end
section
variable [Inhabited aK]
theorem N8:∀g C,Cb g=some C->CO g C:=bg QT ZS
theorem nj (a b:aG):(a.name==b.name&&(a.domain==b.domain&&(a.path==b.path&&true)))=decide (a=b):=by
 rw[Az]
 cases a;cases b;simp
section
variable {l:List ab} {p:ab->Bool} {x:Nat}
theorem mA (h:x<l.length):(l.take (x+1)).filter p=(l.take x).filter p++if p l[x]then[l[x]]else[]:=by
 rw[Aw h,Dw];by_cases hp:p l[x]=true<;>simp[hp]
theorem rl:((l.take x).filter p).length<=x:=Av (AZ _ _) (by grind)
theorem filter_all (h:¬(x:Int)<Int.ofNat l.length):(l.take x).filter p=l.filter p:=by
 rw[Aq (by grind)]
end
theorem P8:CO pS qx:=bB (cfg:=fun y=>bE bu (cR y)) bh (fun _=>rfl) (fun _=>eX) (n:=400) (by
 rw[R4];grind [ah,fI,fg])
theorem Pc:CO p7 qx:=bB (cfg:=fun y=>bE bu (cR y)) bh (fun _=>rfl) (fun _=>eX) (n:=400) (by
 rw[qzv];grind [ah,fI,fg])
theorem QS:CO sd H6:=bB (cfg:=fun y=>bE bu (cR y)) bh (fun _=>rfl) (fun _=>eX) (n:=400) (by
 rw[RP];grind [ah,bM,cN])
theorem qyt:CO sg qw:=bB (cfg:=fun y=>bE Cb (cR y)) bh (fun _=>rfl) (fun _=>N8) (n:=400) (by
 rw[RQ];simp_all)
theorem Nq:∀g C,Cc g=some C->CO g C:=bg P8 (bg Pc (bg QS (bg qyt N8)))
theorem Rc:CO IK H7:=bB (cfg:=fun y=>bE Cc (cR y)) bh (fun _=>rfl) (fun _=>Nq) (n:=600) (by
 rw[RW];rintro⟨a,b⟩ -;refine⟨(_,_),rfl,rfl,trivial,⟨(_,_),rfl,rfl,trivial,⟨(_,_),rfl,rfl,trivial,?_⟩⟩⟩;grind [ah,l7])
theorem FU:∀g C,wI g=some C->CO g C:=bg Rc Nq
theorem Rf:CO IG tT:=bB (cfg:=fun y=>bE wI (cR y)) bh (fun _=>rfl) (fun _=>FU) (n:=400) (by
 rw[RY];rintro⟨a,b⟩ -;refine⟨(a,b),rfl,rfl,rfl,rfl,rfl,rfl,trivial,?_,trivial⟩;grind [bM,ff])
theorem qyG:CO Ig tT:=bB (cfg:=fun y=>bE bu (cR y)) bh (fun _=>rfl) (fun _=>eX) (n:=400) (by
 rw[qzt];grind [ah,xH])
theorem vI:∀g C,pB g=some C->CO g C:=bg Rf (bg qyG FU)
theorem qy2:CO It wo:=bB (cfg:=fun y=>bE pB (cR y)) bh (fun _=>rfl) (fun _=>vI) (n:=600) (by
 rw[qzC];rintro⟨a,b⟩ -;refine⟨(_,_),rfl,rfl,trivial,⟨(_,_),rfl,rfl,trivial,?_⟩⟩;simp only[nj,ah,iI];generalize cN a.aa.access b.aa.access=n
 generalize cN a.aa.ai b.aa.ai=m
 refine⟨fun hn=>⟨fun _=>?_,fun hn2=>?_⟩,fun hn=>⟨fun hm=>⟨fun _=>?_,fun hm2=>?_⟩,fun hm=>⟨fun hkk=>?_,fun hkk=>⟨(a.key,b.key),rfl,rfl,rfl,rfl,rfl,rfl,trivial,fun hl=>?_,fun hl=>?_⟩⟩⟩⟩
 all_goals grind)
theorem Ze (a b:ab):fZ a b=if a.aa.access≠b.aa.access then decide (a.aa.access<b.aa.access)else if a.aa.ai≠b.aa.ai then decide (a.aa.ai<b.aa.ai)else ff a.key b.key:=by
 grind [fZ,iI,cN,rh]
theorem Yn:CO sE GQ:=bB (cfg:=fun y=>bE pB (cR y)) bh (fun _=>rfl) (fun _=>vI) (n:=400) (by
 rw[YV];rintro⟨a,b⟩ -;simp only[Ze];refine ah.2 ⟨fun h=>⟨?_,trivial⟩,fun h=>ah.2 ⟨fun h2=>⟨?_,trivial⟩,fun h2=>⟨(a.key,b.key),rfl,rfl,rfl,rfl,rfl,rfl,trivial,?_,trivial⟩⟩⟩
 all_goals grind [bM])
theorem vJ:∀g C,oI g=some C->CO g C:=bg qy2 (bg Yn vI)
theorem E4:∀l:List ab,jD l=true↔∀(j:Nat) (h:j+1<l.length),ff (l[j]'(by omega)).key l[j+1].key=true
 |[]=>by simp[jD]
 |[x]=>by simp[jD]
 |x::y::l=>by
  rw[jD,Ad,E4 (y::l)];constructor
  . grind
  . intro h;exact⟨h 0 (by simp),fun j hj=>h (j+1) (by grind)⟩
theorem qvP:CO nI GO:=bB (cfg:=fun y=>bE pB (cu nI 2 (yK y))) bh (fun _=>rfl) (fun _=>vI) (n:=400) (by
 rw[qwr];intro l hpre;have hpre:l.length<=10000:=hpre;refine⟨⟨1,⟨by omega,by omega,fun j h hj=>by omega⟩,⟨rfl,rfl,trivial⟩,trivial,trivial⟩,?_⟩;rintro x ⟨h1,hx,hall⟩;refine ah.2 ⟨fun hlt=>?_,fun hge=>⟨?_,trivial⟩⟩
 . have hlt':=cm hlt;have e:Int.toNat ((x:Int) - 1)=x - 1:=by omega
   refine ae.2 ⟨by rw[fT];omega,ae.2 ⟨by rw[kt,Aa];omega,aj.2 ⟨l[x - 1],by rw[e];grind,aj.2 ⟨l[x],cp hlt',((l[x - 1]).key,(l[x]).key),rfl,rfl,rfl,rfl,rfl,rfl,trivial,ah.2 ⟨fun h=>⟨?_,trivial⟩,fun h=>ae.2 ⟨cj x (by omega),x+1,⟨by omega,by omega,fun j hj hjx=>?_⟩,?_,⟨rfl,rfl,trivial⟩,trivial,trivial⟩⟩⟩⟩⟩⟩
   . grind [E4]
   . grind
   . show l.length+1 - (x+1)<l.length+1 - x
     omega
 . symm;rw[E4];intro j hj;have:=gE hge;grind)
theorem Yr:CO nO bQ:=bB (cfg:=fun y=>bE bu (cu mh 3 (kq (y:List ab×aG).1 fun x=>decide (x.key≠(y:List ab×aG).2)))) bh (fun _=>rfl) (fun _=>eX) (n:=600) (by
 rw[YX];rintro⟨l,k⟩ hpre;have hpre:l.length<=10000:=hpre;refine⟨⟨0,by simp,?_⟩,?_⟩
 . (repeat' (first|exact trivial|exact rfl|exact(fun _=>rfl)|apply And.intro))
 intro x hx;refine ah.2 ⟨fun hlt=>aj.2 ⟨_,cp (cm hlt),?_⟩,fun hge=>⟨by rw[filter_all (gE hge)];rfl,trivial⟩⟩;have hlt':x<l.length:=cm hlt;have hlen:=rl (l:=l) (x:=x) (p:=fun z:ab=>decide (z.key≠k));refine ah.2 ⟨fun h=>⟨l[x],rfl,ae.2 ⟨by grind [Nat.ble_eq],ae.2 ⟨cj x (by omega),x+1,hlt',?_,?_⟩⟩⟩,fun h=>ae.2 ⟨cj x (by omega),x+1,hlt',?_,?_⟩⟩
 . show l.length - (x+1)<l.length - x
   omega
 . have hp:(fun z:ab=>decide (z.key≠k)) l[x]=true:=by rw[nj]at h;grind
   have hf:=mA (p:=fun z:ab=>decide (z.key≠k)) hlt';rw[An hp]at hf;grind
 . show l.length - (x+1)<l.length - x
   omega
 grind [nj,mA])
theorem WU:CO nE bQ:=bB (cfg:=fun y=>bE bu (cu nE 3 (sU y))) bh (fun _=>rfl) (fun _=>eX) (n:=400) (by
 rw[Xj];rintro⟨l,k⟩ hpre;have hpre:l.length<=10000:=hpre;refine⟨⟨0,by simp,?_⟩,?_⟩
 . grind
 intro x hx;refine ah.2 ⟨fun hlt=>aj.2 ⟨_,cp (cm hlt),?_⟩,fun hge=>⟨by rw[filter_all (gE hge)];rfl,trivial⟩⟩;have hlt':x<l.length:=cm hlt;have hlen:=rl (l:=l) (x:=x) (p:=fun z:ab=>decide (z.key≠k));refine ah.2 ⟨fun h=>aj.2 ⟨l[x],cp hlt',⟨l[x],rfl,ae.2 ⟨by grind [Nat.ble_eq],ae.2 ⟨cj x (by omega),x+1,hlt',?_,?_⟩⟩⟩⟩,fun h=>ae.2 ⟨cj x (by omega),x+1,hlt',?_,?_⟩⟩
 . show l.length - (x+1)<l.length - x
   omega
 . have hp:(fun z:ab=>decide (z.key≠k)) l[x]=true:=by rw[nj]at h;grind
   have hf:=mA (p:=fun z:ab=>decide (z.key≠k)) hlt';rw[An hp]at hf;grind
 . show l.length - (x+1)<l.length - x
   omega
 grind [nj,mA])
theorem Z9:CO IC mC:=bB (cfg:=fun y=>bE bu (cu mh 3 (kq (y:List ab×Bs).1 fun x=>decide (x.key.domain=(y:List ab×Bs).2)))) bh (fun _=>rfl) (fun _=>eX) (n:=600) (by
 rw[qwn];rintro⟨l,k⟩ hpre;have hpre:l.length<=10000:=hpre;refine⟨⟨0,by simp,?_⟩,?_⟩
 . (repeat' (first|exact trivial|exact rfl|exact(fun _=>rfl)|apply And.intro))
 intro x hx;refine ah.2 ⟨fun hlt=>aj.2 ⟨_,cp (cm hlt),?_⟩,fun hge=>⟨by rw[filter_all (gE hge)];rfl,trivial⟩⟩;have hlt':x<l.length:=cm hlt;have hlen:=rl (l:=l) (x:=x) (p:=fun z:ab=>decide (z.key.domain=k));refine ah.2 ⟨fun h=>⟨l[x],rfl,ae.2 ⟨by grind [Nat.ble_eq],ae.2 ⟨cj x (by omega),x+1,hlt',?_,?_⟩⟩⟩,fun h=>ae.2 ⟨cj x (by omega),x+1,hlt',?_,?_⟩⟩
 . show l.length - (x+1)<l.length - x
   omega
 . have hp:(fun z:ab=>decide (z.key.domain=k)) l[x]=true:=by grind
   have hf:=mA (p:=fun z:ab=>decide (z.key.domain=k)) hlt';rw[An hp]at hf;grind
 . show l.length - (x+1)<l.length - x
   omega
 grind [mA])
theorem Yi:CO nM mC:=bB (cfg:=fun y=>bE bu (cu nM 3 (sX y))) bh (fun _=>rfl) (fun _=>eX) (n:=400) (by
 rw[YS];rintro⟨l,k⟩ hpre;have hpre:l.length<=10000:=hpre;refine⟨⟨0,by simp,?_⟩,?_⟩
 . grind
 intro x hx;refine ah.2 ⟨fun hlt=>aj.2 ⟨_,cp (cm hlt),?_⟩,fun hge=>⟨by rw[filter_all (gE hge)];rfl,trivial⟩⟩;have hlt':x<l.length:=cm hlt;have hlen:=rl (l:=l) (x:=x) (p:=fun z:ab=>decide (z.key.domain=k));refine ah.2 ⟨fun h=>aj.2 ⟨l[x],cp hlt',⟨l[x],rfl,ae.2 ⟨by grind [Nat.ble_eq],ae.2 ⟨cj x (by omega),x+1,hlt',?_,?_⟩⟩⟩⟩,fun h=>ae.2 ⟨cj x (by omega),x+1,hlt',?_,?_⟩⟩
 . show l.length - (x+1)<l.length - x
   omega
 . have hp:(fun z:ab=>decide (z.key.domain=k)) l[x]=true:=by grind
   have hf:=mA (p:=fun z:ab=>decide (z.key.domain=k)) hlt';rw[An hp]at hf;grind
 . show l.length - (x+1)<l.length - x
   omega
 grind [mA])
theorem gf {x n:Nat} (h:aZ (x:Int) (Int.ofNat n)=false):n<=x:=by
 have:=gE h;grind
theorem yE (a b:ab):(a.key.name==b.key.name&&(a.key.domain==b.key.domain&&(a.key.path==b.key.path&&true))&&(a.aa.value==b.aa.value&&(a.aa.aD==b.aa.aD&&(a.aa.aM==b.aa.aM&&(a.aa.aF==b.aa.aF&&(a.aa.persistent==b.aa.persistent&&(a.aa.aR==b.aa.aR&&(a.aa.ai==b.aa.ai&&(a.aa.access==b.aa.access&&true)))))))&&true))=decide (a=b):=by
 rw[Az];obtain⟨⟨a1,a2,a3⟩,⟨a4,a5,a6,a7,a8,a9,a10,a11⟩⟩:=a;obtain⟨⟨b1,b2,b3⟩,⟨b4,b5,b6,b7,b8,b9,b10,b11⟩⟩:=b;grind
theorem X1 {l:List ab} {k:aG} {x:Nat} (h:x<l.length) (h1:l[x].key=k) (h2:∀(j:Nat) (h:j<l.length),j<x->l[j].key=k->False):fE l k=(l[x],true):=by
 have:l.find? (fun z=>decide (z.key=k))=some l[x]:=by
  rw[Ea];grind
 grind [fE]
theorem qx2 {l:List ab} {k:aG} (h2:∀(j:Nat) (h:j<l.length),l[j].key=k->False):fE l k=(iR,false):=by
 have:l.find? (fun z=>decide (z.key=k))=none:=by
  rw[DX];grind [List.getElem_of_mem]
 grind [fE]
theorem O8:CO ml zk:=bB (cfg:=fun y=>bE bu (cu ml 2 (yZ y))) bh (fun _=>rfl) (fun _=>eX) (n:=400) (by
 rw[qzo];rintro⟨l,k⟩ hpre;have hpre:l.length<=10000:=hpre;refine⟨⟨0,⟨by simp,fun j h hj=>by omega⟩,?_⟩,?_⟩
 . grind
 rintro x ⟨hx,hall⟩;refine ah.2 ⟨fun hlt=>aj.2 ⟨_,cp (cm hlt),?_⟩,fun hge=>?_⟩
 . have hlt':x<l.length:=cm hlt;refine ah.2 ⟨fun h=>aj.2 ⟨_,cp hlt',?_⟩,fun h=>ae.2 ⟨cj x (by omega),x+1,⟨hlt',fun j hj hjx he=>?_⟩,?_,?_⟩⟩
   . rw[nj]at h;have e:=X1 hlt' (by grind) hall;rw[show fE (l,k).1 (l,k).2=(l[x],true)from e];grind
   . rw[nj]at h;grind
   . show l.length - (x+1)<l.length - x
     omega
   grind
 . have e:=qx2 (l:=l) (k:=k) (fun j hj=>hall j hj (by have:l.length<=x:=gf hge;omega));rw[show fE (l,k).1 (l,k).2=(iR,false)from e]
   (repeat' (first|exact trivial|exact rfl|exact(fun _=>rfl)|apply And.intro)))
theorem WQ:CO rW Fs:=bB (cfg:=fun y=>bE bu (cu xc 2 (y7 y))) bh (fun _=>rfl) (fun _=>eX) (n:=400) (by
 rw[Xh];rintro⟨l,k⟩ hpre;have hpre:l.length<=10000:=hpre;refine⟨⟨0,⟨by simp,fun j h hj=>by omega⟩,?_⟩,?_⟩
 . grind
 rintro x ⟨hx,hall⟩;refine ah.2 ⟨fun hlt=>aj.2 ⟨_,cp (cm hlt),?_⟩,fun hge=>⟨?_,trivial⟩⟩
 . have hlt':x<l.length:=cm hlt;refine ah.2 ⟨fun h=>⟨?_,trivial⟩,fun h=>ae.2 ⟨cj x (by omega),x+1,⟨hlt',fun j hj hjx he=>?_⟩,?_,?_⟩⟩
   . rw[yE]at h;have h:k=l[x]:=by grind
     rw[fg,Az];have hm:k∈l:=by rw[h];grind
     grind
   . rw[yE]at h;have h:¬k=l[x]:=by grind
     grind
   . show l.length - (x+1)<l.length - x
     omega
   grind
 . rw[fg];symm;have hm:¬k∈l:=by
     intro hm;obtain⟨j,hj,he⟩:=AK hm;exact hall j hj (by have:l.length<=x:=gf hge;omega) he
   grind)
theorem G8:CO lB wm:=bB (cfg:=fun y=>bE bu (cu lB 4 (za y))) bh (fun _=>rfl) (fun _=>eX) (n:=400) (by
 rw[qzy];rintro⟨l,m⟩ ⟨hl,hm⟩;have hl:l.length<=10000:=hl;refine ah.2 ⟨fun h=>⟨?_,trivial⟩,fun h=>⟨⟨0,⟨by simp,?_,by simp⟩,?_⟩,?_⟩⟩
 . grind
 . grind
 . grind
 rintro x ⟨hx,hlen,ht⟩;have hlen:l.length=m.length:=hlen;have ht:l.take x=m.take x:=ht;refine ah.2 ⟨fun hlt=>?_,fun hge=>⟨?_,trivial⟩⟩
 . have hlt':x<l.length:=cm hlt;refine aj.2 ⟨_,cp hlt',aj.2 ⟨_,cp (show x<m.length by omega),ah.2 ⟨fun h2=>⟨?_,trivial⟩,fun h2=>ae.2 ⟨cj x (by omega),x+1,⟨hlt',hlen,?_⟩,?_,?_⟩⟩⟩⟩
   . rw[yE]at h2;grind
   . rw[yE]at h2;grind [List.take_succ_eq_append_getElem]
   . show l.length - (x+1)<l.length - x
     omega
   grind
 grind [gf,List.take_of_length_le])
theorem Oo:CO pT qp:=bB (cfg:=fun y=>bE oI (cR y)) bh (fun _=>rfl) (fun _=>vJ) (n:=600) (by
 rw[qwl];grind [eV,fg,ah])
theorem Mn:CO pV qp:=bB (cfg:=fun y=>bE oI (cR y)) bh (fun _=>rfl) (fun _=>vJ) (n:=600) (by
 rw[YR];grind [eV,bM,ah,oD])
theorem lp {α β:Type} (f:β->α->β) (b:β) {l:List α} {x:Nat} (h:x<l.length):(l.take (x+1)).foldl f b=f ((l.take x).foldl f b) l[x]:=by
 rw[Aw h,List.foldl_append];rfl
theorem sT {α:Type} {l:List α} {x:Nat} (h:¬(x:Int)<Int.ofNat l.length):l.take x=l:=Aq (by grind)
theorem X8 {l:List ab} {d:Bs} {all:Bool} {x:Nat} (h:x<l.length):gq (l.take (x+1)) d all=if all||decide (l[x].key.domain=d)then(match gq (l.take x) d all with|none=>some l[x]|some y=>if fZ l[x] y then some l[x]else some y)else gq (l.take x) d all:=by
 grind [gq,lp]
theorem Yo :CO nF F2:=bB (cfg:=fun y=>bE oI (cu nF 3 (kV y))) bh (fun _=>rfl) (fun _=>vJ) (n:=600) (by
  rw[YW];rintro⟨l,d,all⟩ hpre;have hpre:l.length<=10000:=hpre;refine⟨⟨(0, -1),⟨by simp, .inl ⟨rfl,rfl⟩⟩,?_⟩,?_⟩
  . grind
  rintro⟨x,z⟩ ⟨hx,hb⟩;have hb:(z= -1/\gq (l.take x) d all=none)\/ ∃b:Nat,z=Int.ofNat b/\ ∃h:b<l.length,gq (l.take x) d all=some l[b]:=hb;refine ax (fun hlt=>?_) fun hge=>?_
  . have hlt':x<l.length:=cm hlt;have hn:=X8 (d:=d) (all:=all) hlt';have hmu:l.length - (x+1)<l.length - x:=by omega
    refine ah.2 ⟨fun ha=>aj.2 ⟨_,cp hlt',ah.2 ⟨fun hd=>?_,fun hd=>?_⟩⟩,fun ha=>?_⟩
    . have ha:all=false:=by grind
      have hd:¬l[x].key.domain=d:=by grind
      have hcf:¬(all||decide (l[x].key.domain=d))=true:=by grind
      rw[Al hcf]at hn;refine ae.2 ⟨cj x (by omega),(x+1,z),⟨hlt',?_⟩,hmu,?_⟩
      all_goals grind
    all_goals (have hc:(all||decide (l[x].key.domain=d))=true:=by first|(have ha:all=true:=by simpa using ha);grind|grind)
    all_goals (rw[An hc]at hn)
    all_goals (rcases hb with⟨hz,hbn⟩|⟨b,hz,hbl,hbb⟩)
    all_goals (subst hz)
    all_goals (first
      | (refine ah.2 ⟨fun _=>?_,fun h=>absurd h (by rw[bM];simp)⟩
         rw[hbn]at hn;refine ae.2 ⟨cj x (by omega),(x+1,(x:Int)),⟨hlt', .inr ⟨x,rfl,hlt',?_⟩⟩,hmu,?_⟩
         . exact hn
         . (repeat' (first|exact trivial|exact rfl|exact(fun _=>rfl)|apply And.intro)))
      | (refine ah.2 ⟨fun h=>absurd h (by rw[bM];simp),fun _=>aj.2 ⟨_,cp hlt',ae.2 ⟨by rw[kt];simp,aj.2 ⟨l[b],by simp[hbl],(l[x],l[b]),?_⟩⟩⟩⟩
         (repeat' (first|exact trivial|exact rfl|exact(fun _=>rfl)|apply And.intro))
         rw[hbb]at hn;simp only at hn;refine ax (fun hs=>?_) fun hs=>?_
         . rw[An (show fZ l[x] l[b]=true from hs)]at hn;refine ae.2 ⟨cj x (by omega),(x+1,(x:Int)),⟨hlt', .inr ⟨x,rfl,hlt',hn⟩⟩,hmu,?_⟩
           (repeat' (first|exact trivial|exact rfl|exact(fun _=>rfl)|apply And.intro))
         . rw[Al (by simp[show fZ l[x] l[b]=false from hs])]at hn;refine ae.2 ⟨cj x (by omega),(x+1,Int.ofNat b),⟨hlt', .inr ⟨b,rfl,hbl,hn⟩⟩,hmu,?_⟩
           (repeat' (first|exact trivial|exact rfl|exact(fun _=>rfl)|apply And.intro))))
  . have hge':l.length<=x:=gf hge;rw[Aq hge']at hb;grind [gD,tB,ah,bM,ae,kt,aj])
theorem Nr:∀g C,Cd g=some C->CO g C:=bg qvP (bg Yr (bg WU (bg Z9 (bg Yi (bg O8 (bg WQ (bg G8 (bg Yo (bg Oo (bg Mn vJ))))))))))
theorem zw {α:Type} {p:α->Bool}:∀{l:List α} {j:Nat} (_:j<(l.takeWhile p).length),∃h:j<l.length,p l[j]=true
 |[],j,hj=>by simp_all
 | a ::l,j,hj=>by
  by_cases hb:p a=true
  . rw[Bw,An hb]at hj
    cases j with
    |zero=>exact⟨by simp,by simpa using hb⟩
    |succ j=>
     obtain⟨h1,h2⟩:=zw (l:=l) (j:=j) (by simpa using hj);exact⟨by simpa using h1,by simpa using h2⟩
  . rw[Bw,Al hb]at hj;simp at hj
theorem Ck {α:Type} {p:α->Bool}:∀{l:List α} (h:(l.takeWhile p).length<l.length),p (l[(l.takeWhile p).length])=false
 |[],h=>by grind
 |a::l,h=>by
  by_cases hb:p a=true
  . have e:((a::l).takeWhile p).length=(l.takeWhile p).length+1:=by rw[Bw,An hb];rfl
    simp only[e,List.getElem_cons_succ];exact Ck (by rw[e]at h;simpa using h)
  . have e:((a::l).takeWhile p).length=0:=by rw[Bw,Al hb];rfl
    simp only[e,List.getElem_cons_zero];exact Ar.2 hb
theorem qy7 (L:List Bs) (d:Bs):eC L d<=L.length:=(Dk _).length_le
theorem Yd {L:List Bs} {d:Bs} {k:Nat} (hk:k<=eC L d) (h:k<L.length) (hl:lt L[k] d=true):k+1<=eC L d:=by
 grind [eC,Ck]
theorem Ye {L:List Bs} {d:Bs} {k:Nat} (hk:k<=eC L d) (h:k<L.length) (hl:lt L[k] d=false):k=eC L d:=by
 grind [zw,eC]
theorem Zr (L:List Bs) (d:Bs):(gm L d).length<=L.length+1:=by
 grind [gm]
theorem xv:∀(l:List ab) (a:List Bs),(l.foldl (fun a x=>gm a x.key.domain) a).length<=a.length+l.length
 |[],a=>by simp
 |x::l,a=>by
  have h1:=xv l (gm a x.key.domain);have h2:=Zr a x.key.domain;grind
theorem Yj:CO lz F1:=bB (cfg:=fun y=>bE Cd (mB lz 7 (xS y) (cu lz 3 (lG y)))) bh (fun _=>rfl) (fun _=>Nr) (n:=600) (by
 rw[YT];intro l hpre;have hpre:l.length<=10000:=hpre;refine⟨⟨0,by simp,?_⟩,?_⟩
 . (repeat' (first|exact trivial|exact rfl|exact(fun _=>rfl)|apply And.intro))
 intro x hx;refine ah.2 ⟨fun hlt=>?_,fun hge=>⟨by rw[sT (gE hge)],trivial⟩⟩;have hlt':x<l.length:=cm hlt;have hd:((l[x]?).getD iR).key.domain=l[x].key.domain:=by grind
 refine aj.2 ⟨_,cp hlt',(x,0),⟨(x,0),⟨⟨hlt',Ao _⟩,rfl⟩,?_⟩,?_⟩
 . grind
 rintro⟨x1,k⟩ ⟨⟨h1,h2⟩,hx1⟩;have hx1:x1=x:=hx1;subst hx1;have hn:=lp (fun a (z:ab)=>gm a z.key.domain) ([]:List Bs) hlt';have hn:bo (l.take (x1+1))=gm (bo (l.take x1)) l[x1].key.domain:=hn;have hlen:(bo (l.take x1)).length<=x1:=by have:=xv (l.take x1) [];grind [bo]
 have hk:k<=eC (bo (l.take x1)) l[x1].key.domain:=h2;have hkp:=qy7 (bo (l.take x1)) l[x1].key.domain;have hkl:k<=(bo (l.take x1)).length:=by omega
 have hmu:l.length - (x1+1)<l.length - x1:=by omega
 refine ax (fun hlt2=>?_) fun hge2=>?_
 . have hlt2':k<(bo (l.take x1)).length:=cm hlt2;refine aj.2 ⟨_,cp hlt2',ah.2 ⟨fun hl=>ae.2 ⟨cj k (by omega),(x1,k+1),⟨⟨hlt',?_⟩,rfl⟩,?_,?_⟩,fun hl=>ah.2 ⟨fun he=>absurd he (by grind),fun he=>aj.2 ⟨_,cp hlt2',ah.2 ⟨fun hne=>?_,fun hne=>?_⟩⟩⟩⟩⟩
   . simp_all[Yd]
   . show(bo (l.take x1)).length - (k+1)<(bo (l.take x1)).length - k
     omega
   . grind
   all_goals (have hkk:k=eC (bo (l.take x1)) l[x1].key.domain:=Ye hk hlt2' (by rw[<-hd];exact hl))
   all_goals (have hne:=hne;simp only[hd]at hne)
   . refine⟨fun _=>rfl,ae.2 ⟨by rw[Au];grind,fun _=>rfl,ae.2 ⟨by rw[Au];grind,fun _=>⟨rfl,rfl⟩,(bo (l.take x1)).take k,rfl,ae.2 ⟨by grind [Nat.ble_eq],l[x1].key.domain,by rw[hd],ae.2 ⟨by grind [Nat.ble_eq],fun _=>⟨rfl,rfl⟩,(bo (l.take x1)).drop k,rfl,ae.2 ⟨by grind [Nat.ble_eq],ae.2 ⟨cj x1 (by omega),x1+1,hlt',hmu,?_⟩⟩⟩⟩⟩⟩⟩
     (repeat' (first|exact trivial|exact rfl|exact(fun _=>rfl)|apply And.intro))
     all_goals (first|(rw[hn];unfold gm;rw[<-hkk,Al (by rw[Ai hlt2'];grind)];simp)|(simp[aq]))
   . refine ae.2 ⟨cj x1 (by omega),x1+1,hlt',hmu,?_⟩;grind [gm]
 . have hge2':(bo (l.take x1)).length<=k:=gf hge2;have hkk:k=eC (bo (l.take x1)) l[x1].key.domain:=by omega
   refine ah.2 ⟨fun he=>?_,fun he=>absurd he (by grind)⟩;refine⟨fun _=>rfl,ae.2 ⟨by rw[Au];grind,fun _=>rfl,ae.2 ⟨by rw[Au];grind,fun _=>⟨rfl,rfl⟩,(bo (l.take x1)).take k,rfl,ae.2 ⟨by grind [Nat.ble_eq],l[x1].key.domain,by rw[hd],ae.2 ⟨by grind [Nat.ble_eq],fun _=>⟨rfl,rfl⟩,(bo (l.take x1)).drop k,rfl,ae.2 ⟨by grind [Nat.ble_eq],ae.2 ⟨cj x1 (by omega),x1+1,hlt',hmu,?_⟩⟩⟩⟩⟩⟩⟩;grind [gm])
theorem Ns:∀g C,HF g=some C->CO g C:=bg Yj Nr
end
section
variable [Inhabited aK]
structure au where
 dev:Int
 inc:Int
 seq:Int
deriving DecidableEq,Inhabited
structure dM where
 wall:Int
 count:Int
 dev:Int
deriving DecidableEq,Inhabited
def au.enc (x:au):List SV:=[.int .i64 x.dev, .int .i64 x.inc, .int .i64 x.seq]
def dM.enc (x:dM):List SV:=[.int .i64 x.wall, .int .i64 x.count, .int .i64 x.dev]
def zF (d i:Int):Bool:=bT 0 d&&bT d 63&&bT 1 i&&bT i 1048576
def fJ (x:au):Bool:=zF x.dev x.inc&&bT 1 x.seq&&bT x.seq 4294967296
def within (a b c:Int):Bool:=bT b a&&bT a c
def pj (x:dM):Bool:=within x.wall 0 4398046511104&&within x.count 0 65535&&within x.dev 0 63
def mw (a b:Int):Int:=if a=0 then b else a
def zd (x y:au):Int:=mw (cN x.dev y.dev) (cN x.inc y.inc)
def oE (x y:au):Int:=mw (zd x y) (cN x.seq y.seq)
def cA (x y:au):Bool:=decide (oE x y<0)
def ze (x y:dM):Int:=mw (cN x.wall y.wall) (cN x.count y.count)
def lq (x y:dM):Bool:=decide (mw (ze x y) (cN x.dev y.dev)<0)
def oS:aL:={Y:=Int×Int,pre:=fun _=>True,args:=fun y=>[.agg [i64 y.1,i64 y.2]],res:=fun y=> .bool (zF y.1 y.2)}
def wN (p:au->Bool):aL:={Y:=au,pre:=fun _=>True,args:=fun y=>[.agg y.enc],res:=fun y=> .bool (p y)}
def yM (p:dM->Bool):aL:={Y:=dM,pre:=fun _=>True,args:=fun y=>[.agg y.enc],res:=fun y=> .bool (p y)}
def yO:aL:={Y:=Int×Int×Int,pre:=fun _=>True,args:=fun y=>[i64 y.1,i64 y.2.1,i64 y.2.2],res:=fun y=> .bool (within y.1 y.2.1 y.2.2)}
def Jj:aL:={Y:=au×au,pre:=fun _=>True,args:=fun y=>[.agg [i64 y.1.dev,i64 y.1.inc], .agg [i64 y.2.dev,i64 y.2.inc]],res:=fun y=>i64 (zd y.1 y.2)}
def zH:aL:={Y:=au×au,pre:=fun _=>True,args:=fun y=>[.agg y.1.enc, .agg y.2.enc],res:=fun y=>i64 (oE y.1 y.2)}
def zT:aL:={Y:=au×au,pre:=fun _=>True,args:=fun y=>[.agg y.1.enc, .agg y.2.enc],res:=fun y=> .bool (cA y.1 y.2)}
def PU:aL:={Y:=dM×dM,pre:=fun _=>True,args:=fun y=>[.agg y.1.enc, .agg y.2.enc],res:=fun y=>i64 (ze y.1 y.2)}
def yN:aL:={Y:=dM×dM,pre:=fun _=>True,args:=fun y=>[.agg y.1.enc, .agg y.2.enc],res:=fun y=> .bool (lq y.1 y.2)}
noncomputable def qC (f:FuncId):Option aL:=bif Nat.beq f KC then some oS else bif Nat.beq f JH then some oS else bif Nat.beq f JW then some yO else bif Nat.beq f J0 then some yO else HF f
noncomputable def wG (f:FuncId):Option aL:=bif Nat.beq f KD then some (wN fJ)else bif Nat.beq f JJ then some (wN fJ)else bif Nat.beq f J4 then some (yM pj)else bif Nat.beq f JK then some (yM pj)else bif Nat.beq f J7 then some Jj else bif Nat.beq f J5 then some PU else qC f
noncomputable def z7 (f:FuncId):Option aL:=bif Nat.beq f KE then some zH else bif Nat.beq f JN then some yN else bif Nat.beq f Kt then some yN else wG f
noncomputable def pD (f:FuncId):Option aL:=bif Nat.beq f Kh then some zT else bif Nat.beq f Ks then some zT else z7 f
theorem CF (a:Int):aZ a 64=bT a 63:=by
 rw[bM,fg,Az,Aa,Aa];omega
theorem Pg {a b:Int}:mw a b<0↔a<0\/(a=0/\b<0):=by
 grind [mw]
theorem Ox {a b:Int}:mw a b=0↔a=0/\b=0:=by
 grind [mw]
theorem vb (x y:au):cA x y=true↔x.dev<y.dev\/(x.dev=y.dev/\(x.inc<y.inc\/(x.inc=y.inc/\x.seq<y.seq))):=by
 grind [cA,oE,zd,Pg,Ox,yp,xW]
theorem Vh (x y:dM):lq x y=true↔x.wall<y.wall\/(x.wall=y.wall/\(x.count<y.count\/(x.count=y.count/\x.dev<y.dev))):=by
 grind [lq,ze,Pg,Ox,yp,xW]
theorem au.ext' {x y:au} (h1:x.dev=y.dev) (h2:x.inc=y.inc) (h3:x.seq=y.seq):x=y:=by cases x;simp_all
theorem xn (x:au):cA x x=false:=by
 rw[Ar,Ec,vb];omega
theorem xo {x y z:au} (h1:cA x y=true) (h2:cA y z=true):cA x z=true:=by
 rw[vb]at*;omega
theorem EU (x y:au):cA x y=true\/x=y\/cA y x=true:=by
 grind [vb,au.ext']
theorem qym:CO KC oS:=bB (cfg:=fun y=>bE bu (cR y)) bh (fun _=>rfl) (fun _=>ti) (n:=400) (by
 rintro⟨a,b⟩ -
 repeat' first|exact trivial|exact rfl|refine ax (fun _=>?_) fun _=>?_|apply And.intro
 all_goals grind [zF,CF])
theorem qvw:CO JH oS:=bB (cfg:=fun y=>bE bu (cR y)) bh (fun _=>rfl) (fun _=>ti) (n:=400) (by
 rintro⟨a,b⟩ -
 repeat' first|exact trivial|exact rfl|refine ax (fun _=>?_) fun _=>?_|apply And.intro
 all_goals grind [zF])
theorem qvW:CO JW yO:=bB (cfg:=fun y=>bE bu (cR y)) bh (fun _=>rfl) (fun _=>ti) (n:=400) (by
 rintro⟨a,b⟩ -
 repeat' first|exact trivial|exact rfl|refine ax (fun _=>?_) fun _=>?_|apply And.intro
 all_goals grind [within])
theorem Yq:CO J0 yO:=bB (cfg:=fun y=>bE bu (cR y)) bh (fun _=>rfl) (fun _=>ti) (n:=400) (by
 rintro⟨a,b⟩ -
 repeat' first|exact trivial|exact rfl|refine ax (fun _=>?_) fun _=>?_|apply And.intro
 all_goals grind [within])
theorem rq:∀g C,qC g=some C->CO g C:=bg qym (bg qvw (bg qvW (bg Yq Ns)))
theorem Jv:CO KD (wN fJ):=bB (cfg:=fun y=>bE qC (cR y)) bh (fun _=>rfl) (fun _=>rq) (n:=400) (by
 rintro⟨a,b,c⟩ -;refine⟨(a,b),?_⟩
 repeat' first|exact trivial|exact rfl|refine ax (fun _=>?_) fun _=>?_|apply And.intro
 all_goals grind [fJ])
theorem QZ:CO JJ (wN fJ):=bB (cfg:=fun y=>bE qC (cR y)) bh (fun _=>rfl) (fun _=>rq) (n:=400) (by
 rintro⟨a,b,c⟩ -;refine⟨(a,b),?_⟩
 repeat' first|exact trivial|exact rfl|refine ax (fun _=>?_) fun _=>?_|apply And.intro
 all_goals grind [fJ])
theorem qys:CO J4 (yM pj):=bB (cfg:=fun y=>bE qC (cR y)) bh (fun _=>rfl) (fun _=>rq) (n:=400) (by
 rintro⟨a,b,c⟩ -
 repeat' first|exact trivial|exact rfl|refine ax (fun _=>?_) fun _=>?_|apply And.intro
 all_goals grind [pj,within])
theorem Z8:CO JK (yM pj):=bB (cfg:=fun y=>bE qC (cR y)) bh (fun _=>rfl) (fun _=>rq) (n:=400) (by
 rintro⟨a,b,c⟩ -
 repeat' first|exact trivial|exact rfl|refine ax (fun _=>?_) fun _=>?_|apply And.intro
 all_goals grind [pj,within])
theorem Rz:CO J7 Jj:=bB (cfg:=fun y=>bE qC (cR y)) bh (fun _=>rfl) (fun _=>rq) (n:=400) (by
 rintro⟨⟨a,b,c⟩,d,e,f⟩ -;refine⟨(a,d),?_⟩
 repeat first|refine⟨rfl,?_⟩|refine⟨trivial,?_⟩
 refine⟨(b,e),?_⟩
 repeat' first|exact trivial|exact rfl|refine ax (fun _=>?_) fun _=>?_|apply And.intro
 all_goals grind [zd,mw])
theorem qyF:CO J5 PU:=bB (cfg:=fun y=>bE qC (cR y)) bh (fun _=>rfl) (fun _=>rq) (n:=400) (by
 rintro⟨⟨a,b,c⟩,d,e,f⟩ -;refine⟨(a,d),?_⟩
 repeat first|refine⟨rfl,?_⟩|refine⟨trivial,?_⟩
 refine⟨(b,e),?_⟩
 repeat' first|exact trivial|exact rfl|refine ax (fun _=>?_) fun _=>?_|apply And.intro
 all_goals grind [ze,mw])
theorem yq:∀g C,wG g=some C->CO g C:=bg Jv (bg QZ (bg qys (bg Z8 (bg Rz (bg qyF rq)))))
theorem qyJ:CO KE zH:=bB (cfg:=fun y=>bE wG (cR y)) bh (fun _=>rfl) (fun _=>yq) (n:=400) (by
 rintro⟨x,y⟩ -;refine⟨(x,y),?_⟩
 repeat first|refine⟨rfl,?_⟩|refine⟨trivial,?_⟩
 refine⟨(x.seq,y.seq),?_⟩
 repeat' first|exact trivial|exact rfl|refine ax (fun _=>?_) fun _=>?_|apply And.intro
 all_goals grind [oE,mw])
theorem qvT:CO JN yN:=bB (cfg:=fun y=>bE wG (cR y)) bh (fun _=>rfl) (fun _=>yq) (n:=400) (by
 rintro⟨x,y⟩ -;refine⟨(x,y),?_⟩
 repeat first|refine⟨rfl,?_⟩|refine⟨trivial,?_⟩
 refine⟨(x.dev,y.dev),?_⟩
 repeat' first|exact trivial|exact rfl|refine ax (fun _=>?_) fun _=>?_|apply And.intro
 all_goals grind [lq,mw,bM])
theorem qvU:CO Kt yN:=bB (cfg:=fun y=>bE wG (cR y)) bh (fun _=>rfl) (fun _=>yq) (n:=400) (by
 rintro⟨⟨a,b,c⟩,d,e,f⟩ -
 repeat' first|exact trivial|exact rfl|refine ax (fun _=>?_) fun _=>?_|apply And.intro
 all_goals grind [Vh,bM])
theorem F5:∀g C,z7 g=some C->CO g C:=bg qyJ (bg qvT (bg qvU yq))
theorem QY:CO Kh zT:=bB (cfg:=fun y=>bE z7 (cR y)) bh (fun _=>rfl) (fun _=>F5) (n:=400) (by
 rintro⟨x,y⟩ -;refine⟨(x,y),?_⟩
 repeat' first|exact trivial|exact rfl|refine ax (fun _=>?_) fun _=>?_|apply And.intro
 grind [cA,bM])
theorem qyv:CO Ks zT:=bB (cfg:=fun y=>bE z7 (cR y)) bh (fun _=>rfl) (fun _=>F5) (n:=400) (by
 rintro⟨⟨a,b,c⟩,d,e,f⟩ -
 repeat' first|exact trivial|exact rfl|refine ax (fun _=>?_) fun _=>?_|apply And.intro
 all_goals grind [vb,bM])
theorem qm:∀g C,pD g=some C->CO g C:=bg QY (bg qyv F5)
end
theorem xM (a b:ab):fZ a b=true↔a.aa.access<b.aa.access\/(a.aa.access=b.aa.access/\(a.aa.ai<b.aa.ai\/(a.aa.ai=b.aa.ai/\ff a.key b.key=true))):=by
 grind [fZ,iI,cN,rh]
theorem Lj (a:ab):fZ a a=false:=by
 grind [xM,rh]
theorem EP {a b c:ab} (h1:fZ a b=true) (h2:fZ b c=true):fZ a c=true:=by
 rw[xM]at*;have ht:=qj a.key b.key c.key;rcases h1 with h1|⟨h1,h1'|⟨h1',h1''⟩⟩<;>rcases h2 with h2|⟨h2,h2'|⟨h2',h2''⟩⟩
 all_goals grind
theorem LQ {a b:ab} (h1:fZ a b=false) (h2:fZ b a=false):a.key=b.key:=by
 have h1:=Ar.1 h1;have h2:=Ar.1 h2;rw[Ec,xM]at h1 h2;grind [sQ]
theorem Lk {a b c:ab} (h1:fZ a b=false) (h2:fZ b c=false):fZ a c=false:=by
 grind [LQ,xM,EP]
abbrev KN (l:List ab):Prop:=(l.map fun x=>x.key).Nodup
theorem KN.sub {l l':List ab} (h:KN l) (hs:l'.Sublist l):KN l':=Dy (hs.map _) h
theorem KN.nodup {l:List ab} (h:KN l):l.Nodup:=by
 unfold KN at h;rw[Db,Di]at h;rw[Db];exact h.imp fun hab e=>hab (by rw[e])
theorem KN.inj:∀{l:List ab},KN l->∀{a b:ab},a∈l->b∈l->a.key=b.key->a=b
 |[],_,a,b,ha,_,_=>by cases ha
 |x::l,h,a,b,ha,hb,hk=>by
  have h0:x.key∉l.map (fun x=>x.key)/\KN l:=by grind
  rcases Ap.1 ha with rfl|ha'<;>rcases Ap.1 hb with rfl|hb'
  . rfl
  . grind
  . grind
  . exact h0.2.inj ha' hb' hk
def ka (l:List ab) (d:Bs) (all:Bool):List ab:=l.filter fun x=>all||decide (x.key.domain=d)
theorem tp (l:List ab) (d:Bs):ka l d true=l:=by simp[ka]
theorem vA (l:List ab) (d:Bs):ka l d false=fR l d:=by simp[ka,fR]
abbrev wM (P:ab->Bool) (b:Option ab) (x:ab):Option ab:=if P x then(match b with|none=>some x|some y=>if fZ x y then some x else some y)else b
theorem Mh (P:ab->Bool):∀(l:List ab) (b:Option ab),l.foldl (wM P) b=none->b=none/\ ∀x∈l,P x=false
 |[],b,h=>⟨h,by simp⟩
 |x::l,b,h=>by
  obtain⟨h1,h2⟩:=Mh P l _ h;by_cases hx:P x=true
  . exfalso;simp only[wM,hx,BB]at h1
    cases b with
    |none=>cases h1
    |some y=>by_cases hs:fZ x y=true<;>simp[hs]at h1
  grind
theorem Mi (P:ab->Bool):∀(l:List ab) (b:Option ab) (z:ab),l.foldl (wM P) b=some z->(b=some z\/(z∈l/\P z=true))/\(∀y,b=some y->fZ y z=false)/\ ∀x∈l,P x=true->fZ x z=false
 |[],b,z,h=>⟨.inl h,fun y e=>by have h:b=some z:=h;rw[h]at e;grind [Lj],by simp⟩
 | x ::l,b,z,h=>by
  obtain⟨i1,i2,i3⟩:=Mi P l _ z h;have hmem:z∈l/\P z=true->z∈x::l/\P z=true:=fun h=>⟨AP _ h.1,h.2⟩
  by_cases hx:P x=true
  . have all:fZ x z=false->∀w∈x::l,P w=true->fZ w z=false:=by
     grind
    simp only[wM,hx,BB]at i1 i2
    cases b with
    |none=>
     grind
    |some y0=>
     by_cases hs:fZ x y0=true
     all_goals grind [EP,Lk]
  grind
theorem NU (l:List ab) (d:Bs) (all:Bool):gq l d all=l.foldl (wM fun x=>all||decide (x.key.domain=d)) none:=rfl
theorem ER {l:List ab} {d:Bs} {all:Bool} (h:ka l d all≠[]):∃b∈ka l d all,gD l d all=b.key/\gq l d all=some b/\ ∀x∈ka l d all,fZ x b=false:=by
 cases hb:gq l d all with
 |none=>
  exfalso;have:=(Mh _ l none (by rw[<-NU];exact hb)).2;grind [ka,List.filter_eq_nil_iff]
 |some b=>
  obtain⟨i1,_,i3⟩:=Mi _ l none b (by rw[<-NU];exact hb);rcases i1 with e|⟨i1,i2⟩
  . cases e
  . refine⟨b,AB.2 ⟨i1,i2⟩,by grind [gD],rfl,fun x hx=>?_⟩;obtain⟨h1,h2⟩:=AB.1 hx;grind
theorem YN (l:List ab) (d:Bs):gq l d false=gq (fR l d) [] true:=by
 grind [gq,fR,List.foldl_filter]
theorem WK {l:List ab} {x:ab} (h:x∈l):(fh l x.key).length<l.length:=by
 grind [fh,List.length_filter_eq_length_iff]
theorem vm {l:List ab} {d:Bs} {all:Bool} {m:Nat} (h:m<(ka l d all).length):(fh l (gD l d all)).length<l.length:=by
 obtain⟨b,hb,he,_⟩:=ER (l:=l) (d:=d) (all:=all) (by grind);rw[he];exact WK (AB.1 hb).1
def jV (m:Nat) (d:Bs) (all:Bool) (l:List ab):List ab:=
 if h:m<(ka l d all).length then jV m d all (fh l (gD l d all))else l
 termination_by l.length
 decreasing_by exact vm h
theorem vp {m:Nat} {d:Bs} {all:Bool} {l:List ab} (h:m<(ka l d all).length):jV m d all l=jV m d all (fh l (gD l d all)):=by
 grind [jV]
theorem vo {m:Nat} {d:Bs} {all:Bool} {l:List ab} (h:(ka l d all).length<=m):jV m d all l=l:=by
 grind [jV]
abbrev fv (m:Nat) (l:List ab):List ab:=jV m [] true l
theorem xN {m:Nat} {l:List ab} (h:l.length<=m):fv m l=l:=vo (by rw[tp];exact h)
theorem LR {m:Nat} {l:List ab} (h:m<l.length):fv m l=fv m (fh l (gD l [] true)):=vp (by rw[tp];exact h)
theorem YQ (m:Nat) (d:Bs) (all:Bool):∀(n:Nat) (l:List ab),l.length<=n->(jV m d all l).Sublist l:=by
 intro n;induction n with
 |zero=>grind [vo,ka]
 |succ n ih=>
  intro l h;by_cases hm:m<(ka l d all).length
  . rw[vp hm];exact(ih _ (by have:=vm hm;omega)).trans Be
  grind [vo]
theorem vT (m:Nat) (d:Bs) (all:Bool) (l:List ab):(jV m d all l).Sublist l:=YQ m d all l.length l (Ac _)
theorem VW {l s:List ab} {x:ab} (hk:KN l) (hp:(x::s).Perm l):s.Perm (fh l x.key):=by
 have h1:(fh (x::s) x.key).Perm (fh l x.key):=hp.filter _;have hk2:KN (x::s):=(hp.map _).nodup_iff.2 hk;have h0:x.key∉s.map (fun x=>x.key):=by grind
 have h2:fh (x::s) x.key=s:=by
  grind [fh,List.filter_eq_self]
 rw[h2]at h1;exact h1
theorem Rm (m:Nat):∀(n:Nat) (l s:List ab),l.length<=m+n->KN l->s.Perm l->s.Pairwise (fun a b=>fZ b a=false)->(s.take (l.length - m)).foldl (fun a x=>fh a x.key) l=fv m l:=by
 intro n;induction n with
 |zero=>
  simp_all[xN]
 |succ n ih=>
  intro l s hl hk hp hs;by_cases hm:l.length<=m
  . rw[show l.length - m=0 by omega];grind
  . cases s with
    |nil=>have:=hp.length_eq;grind
    | cons x s=>
     obtain⟨b,hb,he,_,hall⟩:=ER (l:=l) (d:=[]) (all:=true) (by rw[tp];grind);rw[tp]at hb hall;have hx:x∈l:=hp.subset As;have hbx:fZ b x=false:=by
      grind [List.pairwise_cons]
     have hxb:=hall x hx;have:b=x:=hk.inj hb hx (LQ hbx hxb);subst this;rw[show l.length - m=(l.length - 1 - m)+1 by omega,List.take_succ_cons,Bo];have hp2:=VW hk hp;have hlen:(fh l b.key).length=l.length - 1:=by
      have h1:=hp2.length_eq;have h2:=hp.length_eq;grind
     rw[<-hlen,ih (fh l b.key) s (by rw[hlen];omega) (hk.sub Be) hp2 (Bl.1 hs).2,LR (l:=l) (by omega),he]
theorem K5 (l:List ab) (d:Bs) (k:aG):fR (fh l k) d=fh (fR l d) k:=by
 simp_all[fR,fh,Bool.and_comm]
theorem Wg (m:Nat) (d:Bs):∀(n:Nat) (l:List ab),l.length<=n->jV m d false l=l.filter fun x=>decide (x.key.domain≠d)||decide (x∈fv m (fR l d)):=by
 intro n;have done:∀l:List ab,(fR l d).length<=m->jV m d false l=l.filter fun x=>decide (x.key.domain≠d)||decide (x∈fv m (fR l d)):=by
  grind [vo,vA,xN,List.filter_eq_self,fR]
 induction n with
 |zero=>intro l h;exact done l (Av (AZ _ _) (by omega))
 |succ n ih=>
  intro l h;by_cases hm:m<(fR l d).length
  . have hm1:m<(ka l d false).length:=by rw[vA];exact hm
    have hm2:m<(ka (fR l d) [] true).length:=by rw[tp];exact hm
    have hk:gD l d false=gD (fR l d) [] true:=by grind [gD,YN]
    obtain⟨b,hb,he,_⟩:=ER (l:=l) (d:=d) (all:=false) (by grind);rw[vA]at hb;have hbd:b.key.domain=d:=by simpa using(AB.1 hb).2
    rw[vp hm1,ih _ (by have:=vm hm1;omega),show fv m (fR l d)=fv m (fh (fR l d) (gD (fR l d) [] true))from vp hm2,<-hk,<-K5];conv=>lhs;arg 2;unfold fh
    rw[List.filter_filter];apply List.filter_congr;intro x hx;by_cases hq:(decide (x.key.domain≠d)||decide (x∈fv m (fR (fh l (gD l d false)) d)))=true
    . rw[hq,BL,Aa];simp only[BX,Aa]at hq;rcases hq with hq|hq
      . rw[he];grind
      . have h1:=(vT m [] true _).subset hq;rw[K5]at h1;simpa using(AB.1 h1).2
    grind
  grind
def ku (T:List ab) (a:List ab) (x:ab):List ab:=if x∈T then a else fh a x.key
theorem Fj (T:List ab):∀(o l:List ab),o.foldl (ku T) l=l.filter fun y=>decide (∀x∈o,x∉T->y.key≠x.key)
 |[],l=>(Bx.2 fun y _=>by simp).symm
 |x::o,l=>by
  rw[Bo,Fj T o];unfold ku;by_cases hx:x∈T
  all_goals simp_all[fh,Bool.and_comm]
theorem step_eq {l:List ab} (hk:KN l) (m:Nat) (d:Bs):(fR l d).foldl (ku (fv m (fR l d))) l=jV m d false l:=by
 rw[Fj,Wg m d l.length l (Ac _)];apply List.filter_congr;intro y hy;rw[Az];simp only[Aa,BX];constructor
 . intro h;by_cases hd:y.key.domain=d
   . right;apply Er;intro hn;exact h y (AB.2 ⟨hy,by grind⟩) hn rfl
   grind
 . intro h x hx hxT e;obtain⟨hx1,hx2⟩:=AB.1 hx;have:y=x:=hk.inj hy hx1 e;grind
def bj (l:List ab) (now:Int):List ab:=l.filter fun x=> !fI x.aa now
def tQ (cap:Nat) (l:List ab) (ds:List Bs):List ab:=ds.foldl (fun b d=>jV cap d false b) l
def mL (cap total:Nat) (l:List ab) (now:Int):List ab:=fv total (tQ cap (bj l now) (bo (bj l now)))
theorem Fy (cap:Nat):∀(ds:List Bs) (l:List ab),(tQ cap l ds).Sublist l
 |[],l=>List.Sublist.refl _
 |d::ds,l=>(Fy cap ds _).trans (vT cap d false l)
theorem qvg (cap total:Nat) (l:List ab) (now:Int):(mL cap total l now).Sublist l:=(vT _ _ _ _).trans ((Fy _ _ _).trans Be)
theorem qvo {L:List Bs} {d e:Bs}:e∈gm L d↔e=d\/e∈L:=by
 grind [gm,List.take_append_drop]
theorem Oh:∀(l:List ab) (a:List Bs) (d:Bs),d∈l.foldl (fun a x=>gm a x.key.domain) a↔d∈a\/ ∃x∈l,x.key.domain=d
 |[],a,d=>by simp
 |x::l,a,d=>by
  rw[Bo,Oh l,qvo];grind
theorem Vx {l:List ab} {d:Bs}:d∈bo l↔∃x∈l,x.key.domain=d:=by
 grind [bo,Oh]
def Sr (l k:List ab):List ab:=l.filter fun x=>decide (x∉k)
theorem fV:∀{l:List ab},jD l=true↔l.Pairwise (fun a b=>ff a.key b.key=true)
 |[]=>by simp[jD]
 |[x]=>by simp[jD]
 |x::y::l=>by
  simp only[jD,Ad];rw[fV (l:=y::l),Bl (a:=x)];constructor
  . rintro⟨h1,h2⟩;refine⟨fun z hz=>?_,h2⟩;rcases Ap.1 hz with rfl|hz
    . exact h1
    . exact qj _ _ _ h1 ((Bl.1 h2).1 z hz)
  . rintro⟨h1,h2⟩;exact⟨h1 y As,h2⟩
theorem FR {l:List ab} (h:jD l=true):KN l:=by
 have h:=fV.1 h;grind [rh]
theorem qxU {l:List ab} (hk:KN l) (cap:Nat):∀ds:List Bs,ds.foldl (fun b d=>(fR b d).foldl (ku (fv cap (fR b d))) b) l=tQ cap l ds:=by
 intro ds;induction ds generalizing l with
 |nil=>rfl
 |cons d ds ih=>
  rw[Bo,step_eq hk,ih (hk.sub (vT _ _ _ _))];rfl
section
variable [Inhabited aK]
abbrev aN (c:ar):Nat:=c.domain.toNat
abbrev fC (c:ar):Nat:=c.total.toNat
def Jl:aL:={Y:=List ab×Int,pre:=fun y=>kG y.1/\KN y.1/\0<=y.2,args:=fun y=>[items y.1,i64 y.2],res:=fun y=>items (fv y.2.toNat y.1)}
def zq (l:List ab):Prop:=∀x∈l,x.key.domain.length<=1000000
def PN:aL:={Y:=List ab,pre:=fun y=>kG y/\zq y,args:=fun y=>[items y],res:=fun y=>strs (bo y)}
noncomputable def rK (f:FuncId):Option aL:=bif Nat.beq f J1 then some PN else bif Nat.beq f KF then some Jl else HF f
def zm:aL:={Y:=ar×List ab×Int,pre:=fun y=>0<=y.1.domain/\0<=y.1.total/\kG y.2.1,args:=fun y=>[.agg y.1.enc,items y.2.1,i64 y.2.2],res:=fun y=>items (mL (aN y.1) (fC y.1) y.2.1 y.2.2)}
abbrev jX (cap:Nat) (l:List ab) (i:Nat):List ab:=tQ cap l ((bo l).take i)
def vX (y:ar×List ab×Int):aJ:={α:=Nat,ok:=fun i=>i<=y.2.1.length,μ:=fun i=>y.2.1.length - i,aV:=[2,3,6],aO:=fun i=>[(1,items y.2.1),(7, .own 1),(8,i64 i)],bm:=fun i=>[(1,px ((y.2.1.take i).filter fun x=> !fI x.aa y.2.2))]}
def Gz (y:ar×List ab×Int):aJ:=let l:=bj y.2.1 y.2.2;{α:=Nat,ok:=fun i=>i<=(bo l).length,μ:=fun i=>(bo l).length - i,aV:=[3,6],aO:=fun i=>[(7,items (jX (aN y.1) l i)),(9,strs (bo l)),(10,i64 i)],bm:=fun _=>[],fj:=[7]}
def GA (y:ar×List ab×Int):aJ:=let l:=bj y.2.1 y.2.2;{α:=Nat×List ab,ok:=fun x=>∃h:x.1<(bo l).length,x.2.length<=y.2.1.length/\jV (aN y.1) (bo l)[x.1] false x.2=jX (aN y.1) l (x.1+1),μ:=fun x=>x.2.length,aV:=[3,6],aO:=fun x=>[(7,items x.2),(9,strs (bo l)),(10,i64 x.1)],bm:=fun _=>[],link:=some fun a b=>b.1=a.1}
def GB (y:ar×List ab×Int):aJ:={α:=List ab,ok:=fun x=>x.length<=y.2.1.length/\fv (fC y.1) x=mL (aN y.1) (fC y.1) y.2.1 y.2.2,μ:=fun x=>x.length,aV:=[3,6],aO:=fun x=>[(7,items x)],bm:=fun _=>[]}
noncomputable def NQ (y:ar×List ab×Int):FuncId->Nat->Option aJ:=mB kP 3 (vX y) (mB kP 9 (Gz y) (mB kP 11 (GA y) (cu kP 13 (GB y))))
noncomputable def wH (f:FuncId):Option aL:=bif Nat.beq f kP then some zm else rK f
def iu (y:ar×List ab×Int):List ab×Int:=if eV y.1≠0 then([],eV y.1)else if jD y.2.1 then(mL (aN y.1) (fC y.1) y.2.1 y.2.2,0)else([],6)
def H8:aL:={Y:=ar×List ab×Int,pre:=fun y=>pv y.1/\kG y.2.1/\zq y.2.1,args:=fun y=>[.agg y.1.enc,items y.2.1,i64 y.2.2],res:=fun y=> .bO [items (iu y).1,i64 (iu y).2]}
def wv (y:ar×List ab×Int):aJ:={α:=Nat,ok:=fun i=>i<=y.2.1.length,μ:=fun i=>y.2.1.length - i,aV:=[2,3,6,7],aO:=fun i=>[(25,items y.2.1),(26,i64 (Int.ofNat y.2.1.length)),(27,i64 i),(9, .own 1)],bm:=fun i=>[(1,px ((y.2.1.take i).filter fun x=> !fI x.aa y.2.2))]}
abbrev iC (cap:Nat) (l:List ab) (i:Nat):List ab:=((bo l).take i).foldl (fun b d=>(fR b d).foldl (ku (fv cap (fR b d))) b) l
def Hc (y:ar×List ab×Int):aJ:=let l:=bj y.2.1 y.2.2;{α:=Nat,ok:=fun i=>i<=(bo l).length,μ:=fun i=>(bo l).length - i,aV:=[3,6,7],aO:=fun i=>[(9,items (iC (aN y.1) l i)),(41,strs (bo l)),(42,i64 (Int.ofNat (bo l).length)),(43,i64 i)],bm:=fun _=>[],fj:=[9]}
abbrev dG (cap:Nat) (l:List ab) (i:Nat):List ab:=fR (iC cap l i) ((bo l)[i]?.getD [])
def wx (y:ar×List ab×Int):aJ:=let l:=bj y.2.1 y.2.2;{α:=Nat×Nat,ok:=fun x=>∃_:x.1<(bo l).length,x.2<=(dG (aN y.1) l x.1).length,μ:=fun x=>(dG (aN y.1) l x.1).length - x.2,aV:=[3,6,7],aO:=fun x=>[(9,items (((dG (aN y.1) l x.1).take x.2).foldl (ku (fv (aN y.1) (dG (aN y.1) l x.1))) (iC (aN y.1) l x.1))),(14,items (dG (aN y.1) l x.1)),(41,strs (bo l)),(42,i64 (Int.ofNat (bo l).length)),(43,i64 x.1),(50,items (dG (aN y.1) l x.1)),(51,i64 (Int.ofNat (dG (aN y.1) l x.1).length)),(52,i64 x.2)],bm:=fun _=>[],link:=some fun a b=>b.1=a.1}
noncomputable def OP (y:ar×List ab×Int):FuncId->Nat->Option aJ:=mB mj 8 (wv y) (mB mj 14 (Hc y) (cu mj 18 (wx y)))
noncomputable def z8 (f:FuncId):Option aL:=bif Nat.beq f mj then some H8 else wH f
def Qj (y:ar×List ab×Int):List ab×Int:=if(iu y).2≠0 then([],(iu y).2)else(Sr y.2.1 (iu y).1,0)
def Hm:aL:={Y:=ar×List ab×Int,pre:=fun y=>pv y.1/\kG y.2.1/\zq y.2.1,args:=fun y=>[.agg y.1.enc,items y.2.1,i64 y.2.2],res:=fun y=>items (iu y).1}
end
theorem qzs:(cg (fun(y:aL.Y zm)=>bE rK (NQ y)) 800 kP)=(∀(y:ar×List ab×Int),0<=y.1.domain/\0<=y.1.total/\y.2.1.length<=10000->(∃(x:Nat),x<=y.2.1.length/\(aq y.2.2 y.2.2/\True/\True/\items y.2.1=items y.2.1/\True/\aq 0 ↑x/\True)/\(items []=items ((y.2.1.take x).filter (fun(x:ab)=> !fI x.aa y.2.2))/\(aq y.1.aB y.1.aB/\aq y.1.domain y.1.domain/\aq y.1.total y.1.total/\strs y.1.rules=strs y.1.rules/\True)/\True)/\True)/\ ∀(x:Nat),x<=y.2.1.length->br (aZ (↑x) (Int.ofNat y.2.1.length)) (so y.2.1[Int.toNat ↑x]? fun(val:ab)=>∃(w:cS×Int),val.aa.value=w.1.value/\val.aa.aD=w.1.aD/\val.aa.aM=w.1.aM/\val.aa.aF=w.1.aF/\val.aa.persistent=w.1.persistent/\aq val.aa.aR w.1.aR/\aq val.aa.ai w.1.ai/\aq val.aa.access w.1.access/\aq y.2.2 w.2/\True/\br (!fI w.1 w.2) (so y.2.1[Int.toNat ↑x]? fun(val:ab)=>∃(z:ab),(ab.enc z)=(ab.enc val)/\ck (Nat.ble ((((y.2.1.take x).filter (fun(x:ab)=> !fI x.aa y.2.2)).length+[z].length)*96) 16777216&&Nat.ble (((y.2.1.take x).filter (fun(x:ab)=> !fI x.aa y.2.2)).length+[z].length) 16777216) (ck (bw .i64 (↑x+1)) (∃(u:Nat),u<=y.2.1.length/\aJ.μ (vX y) u<aJ.μ (vX y) x/\(aq y.2.2 y.2.2/\True/\True/\items y.2.1=items y.2.1/\True/\aq (↑x+1) ↑u/\True)/\(items ((y.2.1.take x).filter (fun(x:ab)=> !fI x.aa y.2.2)++[z])=items ((y.2.1.take u).filter (fun(x:ab)=> !fI x.aa y.2.2))/\(aq y.1.aB y.1.aB/\aq y.1.domain y.1.domain/\aq y.1.total y.1.total/\strs y.1.rules=strs y.1.rules/\True)/\True)/\True))) (ck (bw .i64 (↑x+1)) (∃(u:Nat),u<=y.2.1.length/\aJ.μ (vX y) u<aJ.μ (vX y) x/\(aq y.2.2 y.2.2/\True/\True/\items y.2.1=items y.2.1/\True/\aq (↑x+1) ↑u/\True)/\(items ((y.2.1.take x).filter (fun(x:ab)=> !fI x.aa y.2.2))=items ((y.2.1.take u).filter (fun(x:ab)=> !fI x.aa y.2.2))/\(aq y.1.aB y.1.aB/\aq y.1.domain y.1.domain/\aq y.1.total y.1.total/\strs y.1.rules=strs y.1.rules/\True)/\True)/\True))) (∃(w:List ab),items ((y.2.1.take x).filter (fun(x:ab)=> !fI x.aa y.2.2))=items w/\w.length<=10000/\(∃(z:Nat),z<=(bo (bj y.2.1 y.2.2)).length/\(True/\True/\items ((y.2.1.take x).filter (fun(x:ab)=> !fI x.aa y.2.2))=items (jX (aN y.1) (bj y.2.1 y.2.2) z)/\strs (bo w)=strs (bo (bj y.2.1 y.2.2))/\aq 0 ↑z/\True)/\(True/\(aq y.1.aB y.1.aB/\aq y.1.domain y.1.domain/\aq y.1.total y.1.total/\strs y.1.rules=strs y.1.rules/\True)/\True)/\True)/\ ∀(x:Nat),x<=(bo (bj y.2.1 y.2.2)).length->br (aZ (↑x) (Int.ofNat ((bo (bj y.2.1 y.2.2)).length))) (∃(x0:Nat×List ab),(∃(z:Nat×List ab),((∃(h:z.1<(bo (bj y.2.1 y.2.2)).length),z.2.length<=y.2.1.length/\jV (aN y.1) (bo (bj y.2.1 y.2.2))[z.1] false z.2=jX (aN y.1) (bj y.2.1 y.2.2) (z.1+1))/\z.1=x0.1)/\(True/\True/\items (jX (aN y.1) (bj y.2.1 y.2.2) x)=items z.2/\strs (bo (bj y.2.1 y.2.2))=strs (bo (bj y.2.1 y.2.2))/\aq ↑x ↑z.1/\True)/\(True/\(aq y.1.aB y.1.aB/\aq y.1.domain y.1.domain/\aq y.1.total y.1.total/\strs y.1.rules=strs y.1.rules/\True)/\True)/\True)/\ ∀(z:Nat×List ab),(∃(h:z.1<(bo (bj y.2.1 y.2.2)).length),z.2.length<=y.2.1.length/\jV (aN y.1) (bo (bj y.2.1 y.2.2))[z.1] false z.2=jX (aN y.1) (bj y.2.1 y.2.2) (z.1+1))/\z.1=x0.1->so (bo (bj y.2.1 y.2.2))[Int.toNat ↑z.1]? fun(val:Bs)=>∃(u:List ab×Bs),items z.2=items u.1/\val=u.2/\u.1.length<=10000/\br (aZ y.1.domain (Int.ofNat ((fR u.1 u.2).length))) (so (bo (bj y.2.1 y.2.2))[Int.toNat ↑z.1]? fun(val:Bs)=>∃(v:List ab×Bs×Bool),items z.2=items v.1/\val=v.2.1/\false=v.2.2/\v.1.length<=10000/\ ∃(c:List ab×aG),items z.2=items c.1/\(gD v.1 v.2.1 v.2.2).name=c.2.name/\(gD v.1 v.2.1 v.2.2).domain=c.2.domain/\(gD v.1 v.2.1 v.2.2).path=c.2.path/\c.1.length<=10000/\ ∃(d:Nat×List ab),((∃(h:d.1<(bo (bj y.2.1 y.2.2)).length),d.2.length<=y.2.1.length/\jV (aN y.1) (bo (bj y.2.1 y.2.2))[d.1] false d.2=jX (aN y.1) (bj y.2.1 y.2.2) (d.1+1))/\d.1=x0.1)/\aJ.μ (aJ.when (GA y) (fun(a b:Nat×List ab)=>b.1=a.1) x0) d<aJ.μ (aJ.when (GA y) (fun(a b:Nat×List ab)=>b.1=a.1) x0) z/\(True/\True/\items (fh c.1 c.2)=items d.2/\strs (bo (bj y.2.1 y.2.2))=strs (bo (bj y.2.1 y.2.2))/\aq ↑z.1 ↑d.1/\True)/\(True/\(aq y.1.aB y.1.aB/\aq y.1.domain y.1.domain/\aq y.1.total y.1.total/\strs y.1.rules=strs y.1.rules/\True)/\True)/\True) (ck (bw .i64 (↑z.1+1)) (∃(v:Nat),v<=(bo (bj y.2.1 y.2.2)).length/\aJ.μ (Gz y) v<aJ.μ (Gz y) x/\(True/\True/\items z.2=items (jX (aN y.1) (bj y.2.1 y.2.2) v)/\strs (bo (bj y.2.1 y.2.2))=strs (bo (bj y.2.1 y.2.2))/\aq (↑z.1+1) ↑v/\True)/\(True/\(aq y.1.aB y.1.aB/\aq y.1.domain y.1.domain/\aq y.1.total y.1.total/\strs y.1.rules=strs y.1.rules/\True)/\True)/\True))) ((∃(z:List ab),(z.length<=y.2.1.length/\fv (fC y.1) z=mL (aN y.1) (fC y.1) y.2.1 y.2.2)/\(True/\True/\items (jX (aN y.1) (bj y.2.1 y.2.2) x)=items z/\True)/\(True/\(aq y.1.aB y.1.aB/\aq y.1.domain y.1.domain/\aq y.1.total y.1.total/\strs y.1.rules=strs y.1.rules/\True)/\True)/\True)/\ ∀(x:List ab),x.length<=y.2.1.length/\fv (fC y.1) x=mL (aN y.1) (fC y.1) y.2.1 y.2.2->br (aZ y.1.total (Int.ofNat x.length)) (∃(u:List ab×Bs×Bool),items x=items u.1/\Array.toList (ByteArray.data {data:=#[]})=u.2.1/\true=u.2.2/\u.1.length<=10000/\ ∃(v:List ab×aG),items x=items v.1/\(gD u.1 u.2.1 u.2.2).name=v.2.name/\(gD u.1 u.2.1 u.2.2).domain=v.2.domain/\(gD u.1 u.2.1 u.2.2).path=v.2.path/\v.1.length<=10000/\ ∃(c:List ab),(c.length<=y.2.1.length/\fv (fC y.1) c=mL (aN y.1) (fC y.1) y.2.1 y.2.2)/\aJ.μ (GB y) c<aJ.μ (GB y) x/\(True/\True/\items (fh v.1 v.2)=items c/\True)/\(True/\(aq y.1.aB y.1.aB/\aq y.1.domain y.1.domain/\aq y.1.total y.1.total/\strs y.1.rules=strs y.1.rules/\True)/\True)/\True) (items x=items (mL (aN y.1) (fC y.1) y.2.1 y.2.2)/\True)))):=by kernel_rfl
theorem RX:(cg (fun(y:aL.Y H8)=>bE wH (OP y)) 800 mj)=(∀(y:ar×List ab×Int),((y.1.rules.length<=100000/\ ∀(s:Bs),s∈y.1.rules->s.length<=100000)/\y.2.1.length<=10000/\ ∀(x:ab),x∈y.2.1->x.key.domain.length<=1000000)->∃(f:ar),aq y.1.aB f.aB/\aq y.1.domain f.domain/\aq y.1.total f.total/\strs y.1.rules=strs f.rules/\(f.rules.length<=100000/\ ∀(s:Bs),s∈f.rules->s.length<=100000)/\br (!eV f==0) ((iu y).1=[]/\aq (eV f) ((iu y).2)/\True) (∃(g:List ab),items y.2.1=items g/\g.length<=10000/\br (!jD g) ((iu y).1=[]/\aq 6 ((iu y).2)/\True) ((∃(x:Nat),x<=y.2.1.length/\(aq y.2.2 y.2.2/\True/\True/\aq 0 0/\items y.2.1=items y.2.1/\aq (Int.ofNat y.2.1.length) (Int.ofNat y.2.1.length)/\aq 0 ↑x/\True/\True)/\(((y.2.1.take x).filter (fun(x:ab)=> !fI x.aa y.2.2)=[]/\ ∀(x:ab),(ab.enc x).length=11)/\(aq y.1.aB y.1.aB/\aq y.1.domain y.1.domain/\aq y.1.total y.1.total/\strs y.1.rules=strs y.1.rules/\True)/\True)/\True)/\ ∀(x:Nat),x<=y.2.1.length->br (aZ (↑x) (Int.ofNat y.2.1.length)) (so y.2.1[Int.toNat ↑x]? fun(val:ab)=>∃(w:cS×Int),val.aa.value=w.1.value/\val.aa.aD=w.1.aD/\val.aa.aM=w.1.aM/\val.aa.aF=w.1.aF/\val.aa.persistent=w.1.persistent/\aq val.aa.aR w.1.aR/\aq val.aa.ai w.1.ai/\aq val.aa.access w.1.access/\aq y.2.2 w.2/\True/\br (fI w.1 w.2) (ck (bw .i64 (↑x+1)) (∃(u:Nat),u<=y.2.1.length/\aJ.μ (wv y) u<aJ.μ (wv y) x/\(aq y.2.2 y.2.2/\True/\True/\aq 0 0/\items y.2.1=items y.2.1/\aq (Int.ofNat y.2.1.length) (Int.ofNat y.2.1.length)/\aq (↑x+1) ↑u/\True/\True)/\(items ((y.2.1.take x).filter (fun(x:ab)=> !fI x.aa y.2.2))=items ((y.2.1.take u).filter (fun(x:ab)=> !fI x.aa y.2.2))/\(aq y.1.aB y.1.aB/\aq y.1.domain y.1.domain/\aq y.1.total y.1.total/\strs y.1.rules=strs y.1.rules/\True)/\True)/\True)) (∃(z:ab),(ab.enc z)=(ab.enc val)/\ck (Nat.ble ((((y.2.1.take x).filter (fun(x:ab)=> !fI x.aa y.2.2)).length+[z].length)*96) 16777216&&Nat.ble (((y.2.1.take x).filter (fun(x:ab)=> !fI x.aa y.2.2)).length+[z].length) 16777216) (ck (bw .i64 (↑x+1)) (∃(u:Nat),u<=y.2.1.length/\aJ.μ (wv y) u<aJ.μ (wv y) x/\(aq y.2.2 y.2.2/\True/\True/\aq 0 0/\items y.2.1=items y.2.1/\aq (Int.ofNat y.2.1.length) (Int.ofNat y.2.1.length)/\aq (↑x+1) ↑u/\True/\True)/\(items ((y.2.1.take x).filter (fun(x:ab)=> !fI x.aa y.2.2)++[z])=items ((y.2.1.take u).filter (fun(x:ab)=> !fI x.aa y.2.2))/\(aq y.1.aB y.1.aB/\aq y.1.domain y.1.domain/\aq y.1.total y.1.total/\strs y.1.rules=strs y.1.rules/\True)/\True)/\True)))) (∃(w:List ab),items ((y.2.1.take x).filter (fun(x:ab)=> !fI x.aa y.2.2))=items w/\(w.length<=10000/\ ∀(x:ab),x∈w->x.key.domain.length<=1000000)/\(∃(z:Nat),z<=(bo (bj y.2.1 y.2.2)).length/\(True/\True/\aq 0 0/\items ((y.2.1.take x).filter (fun(x:ab)=> !fI x.aa y.2.2))=items (iC (aN y.1) (bj y.2.1 y.2.2) z)/\strs (bo w)=strs (bo (bj y.2.1 y.2.2))/\aq (Int.ofNat ((bo w).length)) (Int.ofNat ((bo (bj y.2.1 y.2.2)).length))/\aq 0 ↑z/\True)/\(True/\(aq y.1.aB y.1.aB/\aq y.1.domain y.1.domain/\aq y.1.total y.1.total/\strs y.1.rules=strs y.1.rules/\True)/\True)/\True)/\ ∀(x:Nat),x<=(bo (bj y.2.1 y.2.2)).length->br (aZ (↑x) (Int.ofNat ((bo (bj y.2.1 y.2.2)).length))) (so (bo (bj y.2.1 y.2.2))[Int.toNat ↑x]? fun(val:Bs)=>∃(u:List ab×Bs),items (iC (aN y.1) (bj y.2.1 y.2.2) x)=items u.1/\val=u.2/\u.1.length<=10000/\ ∃(x0:Nat×Nat),(∃(z:Nat×Nat),((∃(x:z.1<(bo (bj y.2.1 y.2.2)).length),z.2<=(dG (aN y.1) (bj y.2.1 y.2.2) z.1).length)/\z.1=x0.1)/\(True/\True/\aq 0 0/\items (iC (aN y.1) (bj y.2.1 y.2.2) x)=items (List.foldl (ku (fv (aN y.1) (dG (aN y.1) (bj y.2.1 y.2.2) z.1))) (iC (aN y.1) (bj y.2.1 y.2.2) z.1) ((dG (aN y.1) (bj y.2.1 y.2.2) z.1).take z.2))/\items (fR u.1 u.2)=items (dG (aN y.1) (bj y.2.1 y.2.2) z.1)/\strs (bo (bj y.2.1 y.2.2))=strs (bo (bj y.2.1 y.2.2))/\aq (Int.ofNat ((bo (bj y.2.1 y.2.2)).length)) (Int.ofNat ((bo (bj y.2.1 y.2.2)).length))/\aq ↑x ↑z.1/\items (fR u.1 u.2)=items (dG (aN y.1) (bj y.2.1 y.2.2) z.1)/\aq (Int.ofNat ((fR u.1 u.2).length)) (Int.ofNat ((dG (aN y.1) (bj y.2.1 y.2.2) z.1).length))/\aq 0 ↑z.2/\True)/\(True/\(aq y.1.aB y.1.aB/\aq y.1.domain y.1.domain/\aq y.1.total y.1.total/\strs y.1.rules=strs y.1.rules/\True)/\True)/\True)/\ ∀(z:Nat×Nat),(∃(x:z.1<(bo (bj y.2.1 y.2.2)).length),z.2<=(dG (aN y.1) (bj y.2.1 y.2.2) z.1).length)/\z.1=x0.1->br (aZ (↑z.2) (Int.ofNat ((dG (aN y.1) (bj y.2.1 y.2.2) z.1).length))) (so (dG (aN y.1) (bj y.2.1 y.2.2) z.1)[Int.toNat ↑z.2]? fun(val:ab)=>∃(e:List ab×Int),items (dG (aN y.1) (bj y.2.1 y.2.2) z.1)=items e.1/\aq y.1.domain e.2/\(e.1.length<=10000/\List.Pairwise (fun(x1 x2:aG)=>x1≠x2) (e.1.map (fun(x:ab)=>x.key))/\0<=e.2)/\ ∃(c:List ab×ab),items (fv e.2.toNat e.1)=items c.1/\val.key.name=c.2.key.name/\val.key.domain=c.2.key.domain/\val.key.path=c.2.key.path/\val.aa.value=c.2.aa.value/\val.aa.aD=c.2.aa.aD/\val.aa.aM=c.2.aa.aM/\val.aa.aF=c.2.aa.aF/\val.aa.persistent=c.2.aa.persistent/\aq val.aa.aR c.2.aa.aR/\aq val.aa.ai c.2.aa.ai/\aq val.aa.access c.2.aa.access/\c.1.length<=10000/\br (!decide (c.2∈c.1)) (∃(v:List ab×aG),items (List.foldl (ku (fv (aN y.1) (dG (aN y.1) (bj y.2.1 y.2.2) z.1))) (iC (aN y.1) (bj y.2.1 y.2.2) z.1) ((dG (aN y.1) (bj y.2.1 y.2.2) z.1).take z.2))=items v.1/\val.key.name=v.2.name/\val.key.domain=v.2.domain/\val.key.path=v.2.path/\v.1.length<=10000/\ck (bw .i64 (↑z.2+1)) (∃(d:Nat×Nat),((∃(x:d.1<(bo (bj y.2.1 y.2.2)).length),d.2<=(dG (aN y.1) (bj y.2.1 y.2.2) d.1).length)/\d.1=x0.1)/\aJ.μ (aJ.when (wx y) (fun(a b:Nat×Nat)=>b.1=a.1) x0) d<aJ.μ (aJ.when (wx y) (fun(a b:Nat×Nat)=>b.1=a.1) x0) z/\(True/\True/\aq 0 0/\items (fh v.1 v.2)=items (List.foldl (ku (fv (aN y.1) (dG (aN y.1) (bj y.2.1 y.2.2) d.1))) (iC (aN y.1) (bj y.2.1 y.2.2) d.1) ((dG (aN y.1) (bj y.2.1 y.2.2) d.1).take d.2))/\items (dG (aN y.1) (bj y.2.1 y.2.2) z.1)=items (dG (aN y.1) (bj y.2.1 y.2.2) d.1)/\strs (bo (bj y.2.1 y.2.2))=strs (bo (bj y.2.1 y.2.2))/\aq (Int.ofNat ((bo (bj y.2.1 y.2.2)).length)) (Int.ofNat ((bo (bj y.2.1 y.2.2)).length))/\aq ↑z.1 ↑d.1/\items (dG (aN y.1) (bj y.2.1 y.2.2) z.1)=items (dG (aN y.1) (bj y.2.1 y.2.2) d.1)/\aq (Int.ofNat ((dG (aN y.1) (bj y.2.1 y.2.2) z.1).length)) (Int.ofNat ((dG (aN y.1) (bj y.2.1 y.2.2) d.1).length))/\aq (↑z.2+1) ↑d.2/\True)/\(True/\(aq y.1.aB y.1.aB/\aq y.1.domain y.1.domain/\aq y.1.total y.1.total/\strs y.1.rules=strs y.1.rules/\True)/\True)/\True)) (ck (bw .i64 (↑z.2+1)) (∃(v:Nat×Nat),((∃(x:v.1<(bo (bj y.2.1 y.2.2)).length),v.2<=(dG (aN y.1) (bj y.2.1 y.2.2) v.1).length)/\v.1=x0.1)/\aJ.μ (aJ.when (wx y) (fun(a b:Nat×Nat)=>b.1=a.1) x0) v<aJ.μ (aJ.when (wx y) (fun(a b:Nat×Nat)=>b.1=a.1) x0) z/\(True/\True/\aq 0 0/\items (List.foldl (ku (fv (aN y.1) (dG (aN y.1) (bj y.2.1 y.2.2) z.1))) (iC (aN y.1) (bj y.2.1 y.2.2) z.1) ((dG (aN y.1) (bj y.2.1 y.2.2) z.1).take z.2))=items (List.foldl (ku (fv (aN y.1) (dG (aN y.1) (bj y.2.1 y.2.2) v.1))) (iC (aN y.1) (bj y.2.1 y.2.2) v.1) ((dG (aN y.1) (bj y.2.1 y.2.2) v.1).take v.2))/\items (dG (aN y.1) (bj y.2.1 y.2.2) z.1)=items (dG (aN y.1) (bj y.2.1 y.2.2) v.1)/\strs (bo (bj y.2.1 y.2.2))=strs (bo (bj y.2.1 y.2.2))/\aq (Int.ofNat ((bo (bj y.2.1 y.2.2)).length)) (Int.ofNat ((bo (bj y.2.1 y.2.2)).length))/\aq ↑z.1 ↑v.1/\items (dG (aN y.1) (bj y.2.1 y.2.2) z.1)=items (dG (aN y.1) (bj y.2.1 y.2.2) v.1)/\aq (Int.ofNat ((dG (aN y.1) (bj y.2.1 y.2.2) z.1).length)) (Int.ofNat ((dG (aN y.1) (bj y.2.1 y.2.2) v.1).length))/\aq (↑z.2+1) ↑v.2/\True)/\(True/\(aq y.1.aB y.1.aB/\aq y.1.domain y.1.domain/\aq y.1.total y.1.total/\strs y.1.rules=strs y.1.rules/\True)/\True)/\True))) (ck (bw .i64 (↑z.1+1)) (∃(e:Nat),e<=(bo (bj y.2.1 y.2.2)).length/\aJ.μ (Hc y) e<aJ.μ (Hc y) x/\(True/\True/\aq 0 0/\items (List.foldl (ku (fv (aN y.1) (dG (aN y.1) (bj y.2.1 y.2.2) z.1))) (iC (aN y.1) (bj y.2.1 y.2.2) z.1) ((dG (aN y.1) (bj y.2.1 y.2.2) z.1).take z.2))=items (iC (aN y.1) (bj y.2.1 y.2.2) e)/\strs (bo (bj y.2.1 y.2.2))=strs (bo (bj y.2.1 y.2.2))/\aq (Int.ofNat ((bo (bj y.2.1 y.2.2)).length)) (Int.ofNat ((bo (bj y.2.1 y.2.2)).length))/\aq (↑z.1+1) ↑e/\True)/\(True/\(aq y.1.aB y.1.aB/\aq y.1.domain y.1.domain/\aq y.1.total y.1.total/\strs y.1.rules=strs y.1.rules/\True)/\True)/\True))) (∃(u:List ab×Int),items (iC (aN y.1) (bj y.2.1 y.2.2) x)=items u.1/\aq y.1.total u.2/\(u.1.length<=10000/\List.Pairwise (fun(x1 x2:aG)=>x1≠x2) (u.1.map (fun(x:ab)=>x.key))/\0<=u.2)/\items (fv u.2.toNat u.1)=items ((iu y).1)/\aq 0 ((iu y).2)/\True))))):=by kernel_rfl
theorem qzz:(cg (fun(y:aL.Y Hm)=>bE z8 (cR y)) 400 Is)=(∀(y:ar×List ab×Int),((y.1.rules.length<=100000/\ ∀(s:Bs),s∈y.1.rules->s.length<=100000)/\y.2.1.length<=10000/\ ∀(x:ab),x∈y.2.1->x.key.domain.length<=1000000)->∃(z:ar×List ab×Int),aq y.1.aB z.1.aB/\aq y.1.domain z.1.domain/\aq y.1.total z.1.total/\strs y.1.rules=strs z.1.rules/\items y.2.1=items z.2.1/\aq y.2.2 z.2.2/\((z.1.rules.length<=100000/\ ∀(s:Bs),s∈z.1.rules->s.length<=100000)/\z.2.1.length<=10000/\ ∀(x:ab),x∈z.2.1->x.key.domain.length<=1000000)/\items ((iu z).1)=items ((iu y).1)/\True):=by kernel_rfl
section
variable [Inhabited aK]
theorem Mx {m:Int} {n:Nat} (h:aZ m (Int.ofNat n)=true) (h0:0<=m):m.toNat<n:=by
 rw[bM,Aa,Af]at h;omega
theorem MC {m:Int} {n:Nat} (h:aZ m (Int.ofNat n)=false):n<=m.toNat:=by
 rw[bM,Ah,Af]at h;omega
theorem Gr (l:List ab) (now:Int):(bj l now).length<=l.length:=AZ _ _
theorem MU (cap:Nat) (l:List ab) (i:Nat):(jX cap l i).Sublist l:=Fy cap _ l
theorem Wz {cap:Nat} {l:List ab} {i:Nat} (h:i<(bo l).length):jX cap l (i+1)=jV cap (bo l)[i] false (jX cap l i):=lp _ _ h
theorem XU (cap:Nat) (l:List ab) (now:Int) (i:Nat):(jX cap (bj l now) i).length<=l.length:=Av (MU cap _ i).length_le (Gr l now)
theorem E9 (l:List ab) (k:aG):(fh l k).length<=l.length:=AZ _ _
theorem Pb (hG:∀g C,rK g=some C->CO g C):CO kP zm:=bB (cfg:=fun y=>bE rK (NQ y)) bh (fun _=>rfl) (fun _=>hG) (n:=800) (by
 rw[qzs];rintro⟨c,l,now⟩ ⟨hd,ht,hl⟩;have hd:0<=c.domain:=hd;have ht:0<=c.total:=ht;have hl:l.length<=10000:=hl;refine⟨⟨0,Ao _,?_⟩,?_⟩
 . grind
 intro x hx;refine ax (fun hlt=>?_) fun hge=>?_
 . have hlt':x<l.length:=cm hlt;have hlen:=rl (l:=l) (x:=x) (p:=fun z:ab=> !fI z.aa now);have hf:=mA (p:=fun z:ab=> !fI z.aa now) hlt';have hmu:l.length - (x+1)<l.length - x:=by omega
   refine aj.2 ⟨_,cp hlt',(l[x].aa,now),rfl,rfl,rfl,rfl,rfl,rfl,rfl,rfl,rfl,trivial,ah.2 ⟨fun h1=>aj.2 ⟨_,cp hlt',l[x],rfl,ae.2 ⟨by grind [Nat.ble_eq],ae.2 ⟨cj x (by omega),x+1,hlt',hmu,?_⟩⟩⟩,fun h1=>ae.2 ⟨cj x (by omega),x+1,hlt',hmu,?_⟩⟩⟩
   all_goals grind
 have hall:(l.take x).filter (fun z:ab=> !fI z.aa now)=bj l now:=filter_all (gE hge);have hlive:=Gr l now;refine⟨bj l now,by rw[hall],by omega,⟨0,Ao _,?_⟩,?_⟩
 . (repeat' (first|exact trivial|exact rfl|exact(fun _=>rfl)|apply And.intro))
   all_goals (rw[hall];rfl)
 clear hall hge hx x;intro x hx;have hdl:=XU (aN c) l now;refine ax (fun hlt=>?_) fun hge=>?_
 . have hlt':x<(bo (bj l now)).length:=cm hlt;refine⟨(x,jX (aN c) (bj l now) x),⟨(x,jX (aN c) (bj l now) x),⟨⟨hlt',hdl x,(Wz hlt').symm⟩,rfl⟩,?_⟩,?_⟩
   . grind
   rintro⟨i,a⟩ ⟨⟨h1,h2,h3⟩,hi⟩;have hi:i=x:=hi;subst hi;have h2:a.length<=l.length:=h2;have h3:jV (aN c) (bo (bj l now))[i] false a=jX (aN c) (bj l now) (i+1):=h3;refine aj.2 ⟨_,cp hlt',(a,(bo (bj l now))[i]),rfl,rfl,by grind,ah.2 ⟨fun hgt=>?_,fun hle=>?_⟩⟩
   . have hgt:aN c<(ka a (bo (bj l now))[i] false).length:=by rw[vA];exact Mx hgt hd
     have hw:=E9 a (gD a (bo (bj l now))[i] false);refine aj.2 ⟨_,cp hlt',(a,(bo (bj l now))[i],false),rfl,rfl,rfl,by grind,(a,gD a (bo (bj l now))[i] false),rfl,rfl,rfl,rfl,by grind,(i,fh a (gD a (bo (bj l now))[i] false)),⟨⟨h1,by grind,?_⟩,rfl⟩,vm hgt,?_⟩
     all_goals grind [vp]
   . have hle:=MC hle;have hle:(ka a (bo (bj l now))[i] false).length<=aN c:=by rw[vA];omega
     rw[vo hle]at h3;refine ae.2 ⟨cj i (by have:=xv (bj l now) [];grind [bo]),i+1,hlt',by show(bo (bj l now)).length - (i+1)<(bo (bj l now)).length - i;omega,?_⟩;grind
 have hfull:jX (aN c) (bj l now) x=tQ (aN c) (bj l now) (bo (bj l now)):=by grind [sT,gE]
 refine⟨⟨jX (aN c) (bj l now) x,⟨hdl x,by rw[hfull];rfl⟩,?_⟩,?_⟩
 . grind
 rintro a ⟨h1,h2⟩;have h1:a.length<=l.length:=h1;have h2:fv (fC c) a=mL (aN c) (fC c) l now:=h2;refine ax (fun hgt=>?_) fun hle=>?_
 . have hgt:fC c<a.length:=Mx hgt ht;have hw:=E9 a (gD a [] true);refine⟨(a,[],true),rfl,rfl,rfl,by grind,(a,gD a [] true),rfl,rfl,rfl,rfl,by grind,fh a (gD a [] true),⟨by omega,?_⟩,vm (m:=fC c) (by rw[tp];omega),?_⟩
   all_goals grind [LR]
 grind [MC,xN])
theorem N6 (hG:∀g C,rK g=some C->CO g C):∀g C,wH g=some C->CO g C:=bg (Pb hG) hG
theorem NC {l:List ab} (hk:KN l) (cap i:Nat):iC cap l i=jX cap l i:=qxU hk cap _
theorem Wy {cap:Nat} {l:List ab} {i:Nat} (h:i<(bo l).length):iC cap l (i+1)=(dG cap l i).foldl (ku (fv cap (dG cap l i))) (iC cap l i):=by
 have h1:=lp (fun b d=>(fR b d).foldl (ku (fv cap (fR b d))) b) l h;grind
theorem Re (hG:∀g C,wH g=some C->CO g C):CO mj H8:=bB (cfg:=fun y=>bE wH (OP y)) bh (fun _=>rfl) (fun _=>hG) (n:=800) (by
 rw[RX];rintro⟨c,l,now⟩ ⟨hr,hl,hsh⟩;have hl:l.length<=10000:=hl;refine⟨c,rfl,rfl,rfl,rfl,hr,ah.2 ⟨fun hc=>?_,fun hc=>?_⟩⟩
 . have hc:eV c≠0:=by grind
   have he:iu (c,l,now)=([],eV c):=by grind [iu]
   grind
 have hc:¬eV c≠0:=by grind
 refine⟨l,rfl,hl,ah.2 ⟨fun hri=>?_,fun hri=>?_⟩⟩
 . have hri:jD l=false:=by grind
   have he:iu (c,l,now)=([],6):=by grind [iu]
   grind
 have hri:jD l=true:=by grind
 have he:iu (c,l,now)=(mL (aN c) (fC c) l now,0):=by grind [iu]
 have hchk:1<=c.domain/\1<=c.total:=by
   have hc:eV c=0:=Er hc;grind [eV]
 have hkn:=FR hri;refine⟨⟨0,Ao _,?_⟩,?_⟩
 . (repeat' (first|exact trivial|exact rfl|exact(fun _=>rfl)|apply And.intro))
 intro x hx;refine ax (fun hlt=>?_) fun hge=>?_
 . have hlt':x<l.length:=cm hlt;have hlen:=rl (l:=l) (x:=x) (p:=fun z:ab=> !fI z.aa now);have hf:=mA (p:=fun z:ab=> !fI z.aa now) hlt';have hmu:l.length - (x+1)<l.length - x:=by omega
   refine aj.2 ⟨_,cp hlt',(l[x].aa,now),rfl,rfl,rfl,rfl,rfl,rfl,rfl,rfl,rfl,trivial,ah.2 ⟨fun h1=>ae.2 ⟨cj x (by omega),x+1,hlt',hmu,?_⟩,fun h1=>⟨l[x],rfl,ae.2 ⟨by grind [Nat.ble_eq],ae.2 ⟨cj x (by omega),x+1,hlt',hmu,?_⟩⟩⟩⟩⟩
   all_goals grind
 have hall:(l.take x).filter (fun z:ab=> !fI z.aa now)=bj l now:=filter_all (gE hge);have hlive:=Gr l now;have hkl:KN (bj l now):=hkn.sub Be;refine⟨bj l now,by rw[hall],⟨by omega,fun z hz=>hsh z (AB.1 hz).1⟩,⟨0,Ao _,?_⟩,?_⟩
 . grind
 clear hall hge hx x;have hdl:∀i,(iC (aN c) (bj l now) i).Sublist (bj l now):=fun i=>by rw[NC hkl];grind [MU]
 have hdoms:(bo (bj l now)).length<=10000:=by
   have:=xv (bj l now) [];grind [bo]
 intro x hx;refine ax (fun hlt=>?_) fun hge=>?_
 . have hlt':x<(bo (bj l now)).length:=cm hlt;have hof:dG (aN c) (bj l now) x=fR (iC (aN c) (bj l now) x) (bo (bj l now))[x]:=by grind
   refine aj.2 ⟨_,cp hlt',(iC (aN c) (bj l now) x,(bo (bj l now))[x]),rfl,rfl,by have:=(hdl x).length_le;grind,(x,0),⟨(x,0),⟨⟨hlt',Ao _⟩,rfl⟩,?_⟩,?_⟩
   . grind
   rintro⟨i,j⟩ ⟨⟨h1,h2⟩,hi⟩;have hi:i=x:=hi;subst hi;have h2:j<=(dG (aN c) (bj l now) i).length:=h2;have hofs:(dG (aN c) (bj l now) i).Sublist (bj l now):=Be.trans (hdl i);have hofl:=hofs.length_le;have hmu:(bo (bj l now)).length - (i+1)<(bo (bj l now)).length - i:=by omega
   have hcur:∀j,(((dG (aN c) (bj l now) i).take j).foldl (ku (fv (aN c) (dG (aN c) (bj l now) i))) (iC (aN c) (bj l now) i)).length<=10000:=by
     grind [Fj]
   refine ax (fun hlt2=>?_) fun hge2=>?_
   . have hlt2':j<(dG (aN c) (bj l now) i).length:=cm hlt2;have hn:=lp (ku (fv (aN c) (dG (aN c) (bj l now) i))) (iC (aN c) (bj l now) i) hlt2';have hmu2:(dG (aN c) (bj l now) i).length - (j+1)<(dG (aN c) (bj l now) i).length - j:=by omega
     have htl:(fv (aN c) (dG (aN c) (bj l now) i)).length<=10000:=Av (vT (aN c) [] true (dG (aN c) (bj l now) i)).length_le (by omega);refine aj.2 ⟨_,cp hlt2',(dG (aN c) (bj l now) i,c.domain),rfl,rfl,⟨by grind,hkl.sub hofs,by omega⟩,(fv (aN c) (dG (aN c) (bj l now) i),(dG (aN c) (bj l now) i)[j]),rfl,rfl,rfl,rfl,rfl,rfl,rfl,rfl,rfl,rfl,rfl,rfl,htl,ah.2 ⟨fun hin=>?_,fun hin=>?_⟩⟩
     . have hin:(dG (aN c) (bj l now) i)[j]∉fv (aN c) (dG (aN c) (bj l now) i):=by grind
       unfold ku at hn;rw[Al hin]at hn;refine⟨(_,(dG (aN c) (bj l now) i)[j].key),rfl,rfl,rfl,rfl,hcur j,ae.2 ⟨cj j (by omega),(i,j+1),⟨⟨h1,hlt2'⟩,rfl⟩,hmu2,?_⟩⟩
       (repeat' (first|exact trivial|exact rfl|exact(fun _=>rfl)|apply And.intro))
       all_goals (exact Aj (fun a=>SV.bn ab a ab.enc) hn.symm)
     . have hin:(dG (aN c) (bj l now) i)[j]∈fv (aN c) (dG (aN c) (bj l now) i):=by grind
       unfold ku at hn;rw[An hin]at hn;refine ae.2 ⟨cj j (by omega),(i,j+1),⟨⟨h1,hlt2'⟩,rfl⟩,hmu2,?_⟩
       (repeat' (first|exact trivial|exact rfl|exact(fun _=>rfl)|apply And.intro))
       all_goals (exact Aj (fun a=>SV.bn ab a ab.enc) hn.symm)
   . have hn:=Wy (cap:=aN c) hlt';refine ae.2 ⟨cj i (by omega),i+1,hlt',hmu,?_⟩;grind [sT,gE]
 have hfull:iC (aN c) (bj l now) x=tQ (aN c) (bj l now) (bo (bj l now)):=by
   rw[NC hkl];grind [sT,gE]
 refine⟨(iC (aN c) (bj l now) x,c.total),rfl,rfl,⟨by have:=(hdl x).length_le;grind,hkl.sub (hdl x),by omega⟩,?_,?_,trivial⟩
 . rw[he];show SV.bn ab (fv (fC c) (iC (aN c) (bj l now) x)) ab.enc=_
   rw[hfull];rfl
 grind)
end
section
variable [Inhabited aK]
theorem _root_.Go.Proofs.au.ext_iff {x y:au}:x=y↔x.dev=y.dev/\x.inc=y.inc/\x.seq=y.seq:=⟨fun h=>by grind,fun h=>au.ext' h.1 h.2.1 h.2.2⟩
theorem rz (a b:au):(a.dev==b.dev&&(a.inc==b.inc&&true)&&(a.seq==b.seq&&true))=decide (a=b):=by
 rw[Az];grind [au.ext_iff]
structure af where
 dot:au
 bA:dM
 kind:Int
 key:aG
 aa:cS
 over:List au
deriving DecidableEq,Inhabited
def cK (l:List au):SV:= .bn au l au.enc
def af.enc (x:af):List SV:=[.int .i64 x.dot.dev, .int .i64 x.dot.inc, .int .i64 x.dot.seq, .int .i64 x.bA.wall, .int .i64 x.bA.count, .int .i64 x.bA.dev, .int .i64 x.kind, .str x.key.name, .str x.key.domain, .str x.key.path,
 .str x.aa.value, .bool x.aa.aD, .bool x.aa.aM, .bool x.aa.aF, .bool x.aa.persistent, .int .i64 x.aa.aR, .int .i64 x.aa.ai, .int .i64 x.aa.access,cK x.over]
def af.item (x:af):ab:=⟨x.key,x.aa⟩
structure aP where
 ctx:List au
 kept:List af
 dead:List au
def cG (l:List af):SV:= .bn af l af.enc
def aP.enc (x:aP):List SV:=[cK x.ctx,cG x.kept,cK x.dead]
noncomputable def Qi:TypeId->Option View:=fun t=>bif Nat.beq t Ty.string then some ⟨Bs,fA⟩else bif Nat.beq t C5 then some ⟨ab,ab.enc⟩else bif Nat.beq t Ty.mR then some ⟨au,au.enc⟩else bif Nat.beq t Kp then some ⟨au,au.enc⟩else bif Nat.beq t Ch then some ⟨af,af.enc⟩else none
noncomputable def bL (ia:FuncId->Option aL) (mr:FuncId->Nat->Option aJ):iM:={tab:=pJ,view:=Qi,ia,mr}
section
variable {α:Type} [DecidableEq α] (less:α->α->Bool)
def di (l:List α) (d:α):Nat:=(l.takeWhile fun x=>less x d).length
def gn (l:List α) (d:α):List α:=if l[di less l d]? =some d then l else l.take (di less l d)++d::l.drop (di less l d)
def dL (l:List α):List α:=l.foldl (gn less) []
variable {less}
omit [DecidableEq α] in
theorem GV (L:List α) (d:α):di less L d<=L.length:=(Dk _).length_le
omit [DecidableEq α] in
theorem FP {L:List α} {d:α} {k:Nat} (hk:k<=di less L d) (h:k<L.length) (hl:less L[k] d=true):k+1<=di less L d:=by
 grind [di,Ck]
omit [DecidableEq α] in
theorem FQ {L:List α} {d:α} {k:Nat} (hk:k<=di less L d) (h:k<L.length) (hl:less L[k] d=false):k=di less L d:=by
 grind [zw,di]
theorem qvb (L:List α) (d:α):(gn less L d).length<=L.length+1:=by
 grind [gn]
theorem yd:∀(l a:List α),(l.foldl (gn less) a).length<=a.length+l.length
 |[],a=>by simp
 |x::l,a=>by
  have h1:=yd l (gn less a x);have h2:=qvb (less:=less) a x;grind
end
def qT (l:List au):Prop:=l.length<=1000000
def Jn:aL:={Y:=List au×au,pre:=fun y=>qT y.1,args:=fun y=>[cK y.1, .agg y.2.enc],res:=fun y=> .bool (decide (y.2∈y.1))}
def Sj (y:List au×au):aJ:={α:=Nat,ok:=fun i=>i<=y.1.length/\ ∀j (h:j<y.1.length),j<i->y.1[j]≠y.2,μ:=fun i=>y.1.length - i,aV:=[3],aO:=fun i=>[(0,cK y.1),(5,i64 i)],bm:=fun _=>[]}
def PY:aL:={Y:=List au×List au,pre:=fun y=>qT y.1/\qT y.2,args:=fun y=>[cK y.1,cK y.2],res:=fun y=> .bool (decide (y.1=y.2))}
def Qr (y:List au×List au):aJ:={α:=Nat,ok:=fun i=>i<=y.1.length/\y.1.length=y.2.length/\y.1.take i=y.2.take i,μ:=fun i=>y.1.length - i,aV:=[],aO:=fun i=>[(0,cK y.1),(1,cK y.2),(5,i64 i)],bm:=fun _=>[]}
def P0:aL:={Y:=List au,pre:=fun y=>y.length<=300000,args:=fun y=>[cK y],res:=fun y=>cK (dL cA y)}
def Qt (y:List au):aJ:={α:=Nat,ok:=fun i=>i<=y.length,μ:=fun i=>y.length - i,aV:=[],aO:=fun i=>[(0,cK y),(3,cK (dL cA (y.take i))),(4,i64 i)],bm:=fun _=>[],fj:=[3]}
def qxo (y:List au):aJ:={α:=Nat×Nat,ok:=fun x=>∃h:x.1<y.length,x.2<=di cA (dL cA (y.take x.1)) y[x.1],μ:=fun x=>(dL cA (y.take x.1)).length - x.2,aV:=[],aO:=fun x=>[(0,cK y),(3,cK (dL cA (y.take x.1))),(4,i64 x.1),(5,i64 x.2)],bm:=fun _=>[],link:=some fun a b=>b.1=a.1}
theorem qyY:CO qa P0:=bB (cfg:=fun y=>bL pD (mB qa 6 (qxo y) (cu qa 3 (Qt y)))) bh (fun _=>rfl) (fun _=>qm) (n:=600) (by
 intro (l:List au) hpre;have hpre:l.length<=300000:=hpre;refine⟨⟨(0:Nat),Ao _,?_⟩,?_⟩
 . repeat' first|exact trivial|exact rfl|refine ax (fun _=>?_) fun _=>?_|apply And.intro
 intro (x:Nat) hx;refine ax (fun hlt=>?_) fun hge=>?_
 . have hlt':x<l.length:=cm hlt;refine⟨((x,0):Nat×Nat),⟨((x,0):Nat×Nat),⟨⟨hlt',Ao _⟩,rfl⟩,?_⟩,?_⟩
   . repeat' first|exact trivial|exact rfl|refine ax (fun _=>?_) fun _=>?_|apply And.intro
   rintro⟨x1,k⟩ ⟨⟨h1,h2⟩,hx1⟩;have hx1:x1=x:=hx1;subst hx1;have hn:dL cA (l.take (x1+1))=gn cA (dL cA (l.take x1)) l[x1]:=lp (gn cA) ([]:List au) hlt';have hlen:(dL cA (l.take x1)).length<=x1:=by have:=yd (less:=cA) (l.take x1) [];grind [dL]
   have hk:k<=di cA (dL cA (l.take x1)) l[x1]:=h2;have hkp:=GV (less:=cA) (dL cA (l.take x1)) l[x1];have hkl:k<=(dL cA (l.take x1)).length:=by omega
   have hmu:l.length - (x1+1)<l.length - x1:=by omega
   refine ax (fun hlt2=>?_) fun hge2=>?_
   . have hlt2':k<(dL cA (l.take x1)).length:=cm hlt2;refine aj.2 ⟨_,cp hlt2',?_⟩;refine aj.2 ⟨_,cp hlt',?_⟩;refine⟨((dL cA (l.take x1))[k],l[x1]),?_⟩
     repeat first|refine⟨rfl,?_⟩|refine⟨trivial,?_⟩
     refine ax (fun hl=>?_) fun hl=>?_
     . have hl:cA (dL cA (l.take x1))[k] l[x1]=true:=hl;refine ae.2 ⟨cj k (by omega),?_⟩;refine⟨((x1,k+1):Nat×Nat),⟨⟨hlt',FP hk hlt2' hl⟩,rfl⟩,by show(dL cA (l.take x1)).length - (k+1)<(dL cA (l.take x1)).length - k;omega,?_⟩
       repeat' first|exact trivial|exact rfl|refine ax (fun _=>?_) fun _=>?_|apply And.intro
     . have hl:cA (dL cA (l.take x1))[k] l[x1]=false:=hl;have hkk:k=di cA (dL cA (l.take x1)) l[x1]:=FQ hk hlt2' hl;refine ah.2 ⟨fun he=>absurd he (by grind),fun he=>?_⟩;refine aj.2 ⟨_,cp hlt2',?_⟩;refine aj.2 ⟨_,cp hlt',?_⟩;refine ax (fun hne=>?_) fun hne=>?_
       . repeat (first|((conv=>whnf);refine⟨fun _=>rfl,?_⟩)|((conv=>whnf);refine⟨fun _=>⟨rfl,rfl⟩,?_⟩)|((conv=>whnf);refine ae.2 ⟨by(simp only[Ad,Au,Bn,AW,A7,BT,Bt];omega),?_⟩)|((conv=>whnf);refine ae.2 ⟨cj _ (by omega),?_⟩)|((conv=>whnf);refine aj.2 ⟨_,cp (by assumption),?_⟩)|((conv=>whnf);refine⟨_,rfl,?_⟩))
         refine⟨(x1+1:Nat),hlt',hmu,?_⟩
         repeat' first|exact trivial|exact rfl|refine ax (fun _=>?_) fun _=>?_|apply And.intro
         all_goals ((conv=>whnf);rw[hn];unfold gn;rw[<-hkk,Al (by rw[Ai hlt2'];grind)];first|(simp;done)|(simp[cK];done)|(simp;rfl))
       . (conv=>whnf)
         refine ae.2 ⟨cj x1 (by omega),?_⟩;refine⟨(x1+1:Nat),hlt',hmu,?_⟩
         repeat' first|exact trivial|exact rfl|refine ax (fun _=>?_) fun _=>?_|apply And.intro
         all_goals ((conv=>whnf);rw[hn];grind [gn,rz])
   . have hge2':(dL cA (l.take x1)).length<=k:=gf hge2;have hkk:k=di cA (dL cA (l.take x1)) l[x1]:=by omega
     refine ah.2 ⟨fun he=>?_,fun he=>absurd he (by grind)⟩
     repeat (first|((conv=>whnf);refine⟨fun _=>rfl,?_⟩)|((conv=>whnf);refine⟨fun _=>⟨rfl,rfl⟩,?_⟩)|((conv=>whnf);refine ae.2 ⟨by(simp only[Ad,Au,Bn,AW,A7,BT,Bt];omega),?_⟩)|((conv=>whnf);refine ae.2 ⟨cj _ (by omega),?_⟩)|((conv=>whnf);refine aj.2 ⟨_,cp (by assumption),?_⟩)|((conv=>whnf);refine⟨_,rfl,?_⟩))
     refine⟨(x1+1:Nat),hlt',hmu,?_⟩
     repeat' first|exact trivial|exact rfl|refine ax (fun _=>?_) fun _=>?_|apply And.intro
     all_goals ((conv=>whnf);rw[hn];unfold gn;rw[<-hkk,Al (by rw[BF hge2'];simp)];first|(simp;done)|(simp[cK];done)|(simp;rfl))
 . (conv=>whnf)
   refine⟨by rw[sT (gE hge)],?_⟩
   (conv=>whnf)
   trivial)
theorem Q7:CO CP Jn:=bB (cfg:=fun y=>bL pD (cu CP 2 (Sj y))) bh (fun _=>rfl) (fun _=>qm) (n:=600) (by
 rintro⟨l,d⟩ (hpre:l.length<=1000000);refine⟨⟨(0:Nat),⟨Ao _,fun _ _ h=>absurd h (A9 _)⟩,?_⟩,?_⟩
 . repeat' first|exact trivial|exact rfl|refine ax (fun _=>?_) fun _=>?_|apply And.intro
 intro (x:Nat) hx;obtain⟨hx,hn⟩:=hx;refine ax (fun hlt=>?_) fun hge=>?_
 . have hlt':x<l.length:=cm hlt;refine aj.2 ⟨_,cp hlt',?_⟩;refine ax (fun h=>?_) fun h=>?_
   . have h:decide (l[x]=d)=true:=by rw[<-rz];exact h
     refine⟨(BU (by rw[<-AN h];grind)).symm,?_⟩
     repeat' first|exact trivial|exact rfl|refine ax (fun _=>?_) fun _=>?_|apply And.intro
   . have h:decide (l[x]=d)=false:=by rw[<-rz];exact h
     refine ae.2 ⟨cj x (by omega),?_⟩;refine⟨(x+1:Nat),⟨hlt',fun j hj hjx=>?_⟩,by show l.length - (x+1)<l.length - x;omega,?_⟩
     . grind
     . repeat' first|exact trivial|exact rfl|refine ax (fun _=>?_) fun _=>?_|apply And.intro
 . have hge':l.length<=x:=gf hge;refine⟨(AQ fun hm=>?_).symm,?_⟩
   . grind [List.getElem_of_mem]
   . repeat' first|exact trivial|exact rfl|refine ax (fun _=>?_) fun _=>?_|apply And.intro)
theorem qyS:CO Ii PY:=bB (cfg:=fun y=>bL pD (cu Ii 4 (Qr y))) bh (fun _=>rfl) (fun _=>qm) (n:=600) (by
 rintro⟨l,m⟩ ⟨(hl:l.length<=1000000),(hm:m.length<=1000000)⟩;refine ax (fun h=>?_) fun h=>?_
 . (conv=>whnf)
   refine⟨(AQ fun e=>?_).symm,?_⟩
   . have e:l=m:=e;grind
   . repeat' first|exact trivial|exact rfl|refine ax (fun _=>?_) fun _=>?_|apply And.intro
 have hlm:l.length=m.length:=by
   have h:(!((Int.ofNat l.length)==(Int.ofNat m.length)))=false:=h;grind
 refine⟨⟨(0:Nat),⟨Ao _,hlm,rfl⟩,?_⟩,?_⟩
 . repeat' first|exact trivial|exact rfl|refine ax (fun _=>?_) fun _=>?_|apply And.intro
 intro (x:Nat) hx;obtain⟨hx, -,ht⟩:=hx;have ht:l.take x=m.take x:=ht;refine ax (fun hlt=>?_) fun hge=>?_
 . have hlt':x<l.length:=cm hlt;have hlt2:x<m.length:=by omega
   refine aj.2 ⟨_,cp hlt',?_⟩;refine aj.2 ⟨_,cp hlt2,?_⟩;refine ax (fun h=>?_) fun h=>?_
   . have h:(!decide (l[x]=m[x]))=true:=by rw[<-rz];exact h
     refine⟨(AQ fun e=>?_).symm,?_⟩
     . have e:l=m:=e;grind
     . repeat' first|exact trivial|exact rfl|refine ax (fun _=>?_) fun _=>?_|apply And.intro
   . have h:(!decide (l[x]=m[x]))=false:=by rw[<-rz];exact h
     refine ae.2 ⟨cj x (by omega),?_⟩;refine⟨(x+1:Nat),⟨hlt',hlm,?_⟩,by show l.length - (x+1)<l.length - x;omega,?_⟩
     . grind [List.take_succ_eq_append_getElem]
     . repeat' first|exact trivial|exact rfl|refine ax (fun _=>?_) fun _=>?_|apply And.intro
 . have hge':l.length<=x:=gf hge;refine⟨(BU ?_).symm,?_⟩
   . rw[Aq hge',Aq (by omega)]at ht;exact ht
   . repeat' first|exact trivial|exact rfl|refine ax (fun _=>?_) fun _=>?_|apply And.intro)
noncomputable def rJ (f:FuncId):Option aL:=bif Nat.beq f qa then some P0 else bif Nat.beq f CP then some Jn else bif Nat.beq f Ii then some PY else pD f
theorem tf:∀g C,rJ g=some C->CO g C:=bg qyY (bg Q7 (bg qyS qm))
end
section
variable [Inhabited aK]
def ef (b:UInt8):Bool:=(aZ (nB b) 32&& !(nB b==9))||nB b==127
def jB (b:UInt8):Bool:=nB b==32||nB b==9
def kg (s:Bs):Bs:=s.dropWhile jB
def ko (s:Bs):Bs:=(s.reverse.dropWhile jB).reverse
def trimB (s:Bs):Bs:=ko (kg s)
def oU:aL:={Y:=Bs,pre:=fun y=>y.length<=1000000,args:=fun y=>[.str y],res:=fun y=> .bool (y.any ef)}
def Cs (y:Bs):aJ:={α:=Nat,ok:=fun i=>i<=y.length/\(y.take i).any ef=false,μ:=fun i=>y.length - i,aV:=[],aO:=fun i=>[(0, .str y),(5,i64 (Int.ofNat y.length)),(6,i64 i)],bm:=fun _=>[]}
def Sh (y:Bs):aJ:={α:=Nat,ok:=fun i=>i<=y.length,μ:=fun i=>y.length - i,aV:=[],aO:=fun i=>[(0, .str y),(3, .bool ((y.take i).any ef)),(4,i64 i)],bm:=fun _=>[]}
def PK:aL:={Y:=UInt8,pre:=fun _=>True,args:=fun y=>[.int .u8 (nB y)],res:=fun y=> .bool (jB y)}
def zV:aL:={Y:=Bs,pre:=fun y=>y.length<=1000000,args:=fun y=>[.str y],res:=fun y=> .str (trimB y)}
def Qx (y:Bs):aJ:={α:=Bs,ok:=fun x=>kg x=kg y/\x.length<=y.length,μ:=fun x=>x.length,aV:=[],aO:=fun x=>[(0, .str x)],bm:=fun _=>[]}
def Qy (y:Bs):aJ:={α:=Bs,ok:=fun x=>ko x=trimB y/\x.length<=y.length,μ:=fun x=>x.length,aV:=[],aO:=fun x=>[(0, .str x)],bm:=fun _=>[]}
def OG (y:Bs):aJ:={α:=Nat,ok:=fun i=>i<=y.length/\kg (y.drop i)=kg y,μ:=fun i=>y.length - i,aV:=[],aO:=fun i=>[(0, .str y),(3,i64 i),(4,i64 (Int.ofNat y.length))],bm:=fun _=>[]}
def OH (y:Bs):aJ:={α:=Nat×Nat,ok:=fun x=>x.1<=x.2/\x.2<=y.length/\ko ((y.drop x.1).take (x.2 - x.1))=trimB y,μ:=fun x=>x.2,aV:=[],aO:=fun x=>[(0, .str y),(3,i64 x.1),(4,i64 x.2)],bm:=fun _=>[]}
noncomputable def z6 (f:FuncId):Option aL:=bif Nat.beq f J3 then some PK else bif Nat.beq f sk then some oU else bif Nat.beq f sm then some oU else rJ f
noncomputable def HB (f:FuncId):Option aL:=bif Nat.beq f pW then some zV else bif Nat.beq f pZ then some zV else z6 f
theorem NS {α:Type} {p:α->Bool} {l:List α} {x:Nat} (h:x<l.length):(l.take (x+1)).any p=((l.take x).any p||p l[x]):=by
 rw[Aw h,List.any_append];simp
theorem NR {α:Type} {p:α->Bool} {l:List α} {x:Nat} (h:l.length<=x):(l.take x).any p=l.any p:=by rw[Aq h]
theorem Qz {α:Type} {p:α->Bool} {l:List α} {x:Nat} (h:x<l.length) (hp:p l[x]=true):l.any p=true:=List.any_eq_true.2 ⟨_,AF h,hp⟩
theorem Sx:CO sk oU:=bB (cfg:=fun y=>bL rJ (cu sk 2 (Cs y))) bh (fun _=>rfl) (fun _=>tf) (n:=600) (by
 intro (s:Bs) (hpre:s.length<=1000000);refine⟨⟨(0:Nat),⟨Ao _,by simp⟩,?_⟩,?_⟩
 . repeat' first|exact trivial|exact rfl|refine ax (fun _=>?_) fun _=>?_|apply And.intro
 intro (x:Nat) hx;obtain⟨hx,hn⟩:=hx;refine ax (fun hlt=>?_) fun hge=>?_
 . have hlt':x<s.length:=cm hlt;have e:ef s[x]=((aZ (nB s[x]) 32&& !(nB s[x]==9))||nB s[x]==127):=rfl;have yes:ef s[x]=true->s.any ef=true:=Qz hlt';have no:ef s[x]=false->(s.take (x+1)).any ef=false:=fun h=>by rw[NS hlt',hn,h];rfl
   repeat' (first|exact trivial|exact rfl|((conv=>whnf);refine aj.2 ⟨_,cp (by assumption),?_⟩)|((conv=>whnf);refine ae.2 ⟨cj _ (by omega),?_⟩)|((conv=>whnf);refine ae.2 ⟨?_,?_⟩)|((conv=>whnf);first|(apply ax<;>intro)|apply And.intro))
   all_goals first
    |(refine(yes ?_).symm;clear yes no e hn;simp_all[ef,nB])
    |((conv=>whnf);refine⟨(x+1:Nat),⟨hlt',no (by clear yes no e hn;simp_all[ef,nB])⟩,by show s.length - (x+1)<s.length - x;omega,?_⟩;repeat' first|exact trivial|exact rfl|refine ax (fun _=>?_) fun _=>?_|apply And.intro)
 . have hge':s.length<=x:=gf hge;rw[NR hge']at hn;refine⟨hn.symm,?_⟩
   repeat' first|exact trivial|exact rfl|refine ax (fun _=>?_) fun _=>?_|apply And.intro)
theorem QU:CO sm oU:=bB (cfg:=fun y=>bL rJ (cu sm 3 (Sh y))) bh (fun _=>rfl) (fun _=>tf) (n:=600) (by
 intro (s:Bs) (hpre:s.length<=1000000);refine⟨⟨(0:Nat),Ao _,?_⟩,?_⟩
 . repeat' first|exact trivial|exact rfl|refine ax (fun _=>?_) fun _=>?_|apply And.intro
 intro (x:Nat) hx;have hx:x<=s.length:=hx;refine ax (fun hlt=>?_) fun hge=>?_
 . have hlt':x<s.length:=cm hlt;have fin:∀b:Bool,b=((s.take x).any ef||ef s[x])->b=(s.take (x+1)).any ef:=fun b h=>by rw[NS hlt',h]
   repeat' (first|exact trivial|exact rfl|((conv=>whnf);refine aj.2 ⟨_,cp (by assumption),?_⟩)|((conv=>whnf);refine ae.2 ⟨cj _ (by omega),?_⟩)|((conv=>whnf);refine ae.2 ⟨?_,?_⟩)|((conv=>whnf);first|(apply ax<;>intro)|apply And.intro))
   all_goals ((conv=>whnf);refine⟨(x+1:Nat),hlt',by show s.length - (x+1)<s.length - x;omega,?_⟩;repeat' first|exact trivial|exact rfl|refine ax (fun _=>?_) fun _=>?_|apply And.intro)
   all_goals (refine fin _ ?_;clear fin;generalize (s.take x).any ef=P at*;simp_all[ef,nB])
 . have hge':s.length<=x:=gf hge;refine⟨NR hge',?_⟩
   repeat' first|exact trivial|exact rfl|refine ax (fun _=>?_) fun _=>?_|apply And.intro)
theorem qyp:CO J3 PK:=bB (cfg:=fun y=>bL rJ (cR y)) bh (fun _=>rfl) (fun _=>tf) (n:=400) (by
 intro (b:UInt8) _
 repeat' first|exact trivial|exact rfl|refine ax (fun _=>?_) fun _=>?_|apply And.intro
 all_goals grind [jB])
theorem F4:∀g C,z6 g=some C->CO g C:=bg qyp (bg Sx (bg QU tf))
theorem L2 {b:UInt8} {s:Bs} (h:jB b=true):kg (b::s)=kg s:=by grind [kg,List.dropWhile_cons]
theorem L3 {b:UInt8} {s:Bs} (h:jB b=false):kg (b::s)=b::s:=by grind [kg,List.dropWhile_cons]
theorem Mc {b:UInt8} {s:Bs} (h:jB b=true):ko (s++[b])=ko s:=by grind [ko,List.dropWhile_cons]
theorem LK {b:UInt8} {s:Bs} (h:jB b=false):ko (s++[b])=s++[b]:=by grind [ko,List.dropWhile_cons]
theorem Mb {s:Bs} (h:s≠[]):(jB (s.getLast h)=true->ko s.dropLast=ko s)/\(jB (s.getLast h)=false->ko s=s):=by
 have e:=List.dropLast_concat_getLast h;grind [Mc,LK]
theorem QN:CO pW zV:=bB (cfg:=fun y=>bL z6 (mB pW 1 (Qx y) (cu pW 3 (Qy y)))) bh (fun _=>rfl) (fun _=>F4) (n:=600) (by
 intro (y:Bs) (hpre:y.length<=1000000);refine⟨⟨y,⟨rfl,Ac _⟩,?_⟩,?_⟩
 . repeat' first|exact trivial|exact rfl|refine ax (fun _=>?_) fun _=>?_|apply And.intro
 intro (x:Bs) hx;obtain⟨h1,h2⟩:=hx;have h2:x.length<=y.length:=h2;refine ah.2 ⟨fun hne=> ?ne,fun he=> ?eq⟩
 case' eq=>
   have hL:kg x=x:=by
     have he:(!(x==[]))=false:=he;simp at he;subst he;rfl
 case' ne=>
   obtain⟨b,x',rfl⟩:∃b x',x=b::x':=by
     cases x with
     |nil=>grind
     |cons b x=>grind
   refine⟨b,?_⟩
   repeat first|refine⟨rfl,?_⟩|refine⟨trivial,?_⟩
   refine ah.2 ⟨fun hb=> ?bt,fun hb=> ?bf⟩
   case' bf=>have hL:=L3 (s:=x') hb
   case bt=>
     (conv=>whnf)
     refine ae.2 ⟨rfl,?_⟩;refine⟨x',⟨by grind [L2],by grind⟩,by show x'.length<(b::x').length;simp,?_⟩
     repeat' first|exact trivial|exact rfl|refine ax (fun _=>?_) fun _=>?_|apply And.intro
 all_goals
   rw[hL]at h1;refine⟨⟨_,⟨by show _=ko (kg y);rw[<-h1],h2⟩,?_⟩,?_⟩
   . repeat' first|exact trivial|exact rfl|refine ax (fun _=>?_) fun _=>?_|apply And.intro
   clear h2;intro (z:Bs) hz;obtain⟨z1,z2⟩:=hz;have z2:z.length<=y.length:=z2;have z1:ko z=trimB y:=z1;refine ax (fun hz0=>?_) fun hz0=>?_
   . have hz0:z≠[]:=by
       have hz0:(!(z==[]))=true:=hz0;simpa using hz0
     have hpos:=A4.2 hz0;have hlast:z[(Int.ofNat z.length - 1).toNat]? =some (z.getLast hz0):=by
       rw[List.getLast_eq_getElem,show(Int.ofNat z.length - 1).toNat=z.length - 1 by simp only[Af];omega,Ai (by omega)]
     have hdrop:z.take (Int.ofNat z.length - 1).toNat=z.dropLast:=by
       rw[show(Int.ofNat z.length - 1).toNat=z.length - 1 by simp only[Af];omega,List.dropLast_eq_take]
     have hir:bw .i64 (Int.ofNat z.length - 1)=true:=by rw[fT];simp only[Af];omega
     (conv=>whnf)
     refine ae.2 ⟨hir,?_⟩
     (conv=>whnf)
     refine ae.2 ⟨by rw[kt,Aa];simp only[Af];omega,?_⟩
     (conv=>whnf)
     refine aj.2 ⟨_,hlast,?_⟩;refine⟨z.getLast hz0,?_⟩
     repeat first|refine⟨rfl,?_⟩|refine⟨trivial,?_⟩
     refine ax (fun hb=>?_) fun hb=>?_
     . (conv=>whnf)
       refine ae.2 ⟨hir,?_⟩
       (conv=>whnf)
       refine ae.2 ⟨by rw[kt,Aa];simp only[Af];omega,?_⟩
       (conv=>whnf)
       refine ae.2 ⟨by rw[Au];simp only[Af];omega,?_⟩;refine⟨z.take (Int.ofNat z.length - 1).toNat,⟨?_,?_⟩,?_,?_⟩
       . show ko (z.take (Int.ofNat z.length - 1).toNat)=trimB y
         rw[hdrop,(Mb hz0).1 hb];exact z1
       . show(z.take (Int.ofNat z.length - 1).toNat).length<=y.length
         rw[hdrop,EJ];omega
       . show(z.take (Int.ofNat z.length - 1).toNat).length<z.length
         rw[hdrop,EJ];omega
       . repeat' first|exact trivial|exact rfl|refine ax (fun _=>?_) fun _=>?_|apply And.intro
     . have:=(Mb hz0).2 hb;refine⟨by rw[<-this];exact z1,?_⟩
       repeat' first|exact trivial|exact rfl|refine ax (fun _=>?_) fun _=>?_|apply And.intro
   . have hz0:z=[]:=by
       have hz0:(!(z==[]))=false:=hz0;simpa using hz0
     subst hz0;refine⟨z1,?_⟩
     repeat' first|exact trivial|exact rfl|refine ax (fun _=>?_) fun _=>?_|apply And.intro)
theorem Lb {s:Bs} {x:Nat} (h:x<s.length):s.drop x=s[x]::s.drop (x+1):=Bj h
theorem qwe {s:Bs} {a b:Nat} (h1:a<b) (h2:b<=s.length):(s.drop a).take (b - a)=(s.drop a).take (b - 1 - a)++[s[b - 1]'(by omega)]:=by
 have:b - a=b - 1 - a+1:=by omega
 rw[this,Aw (by grind)];grind
theorem qy5:CO pZ zV:=bB (cfg:=fun y=>bL z6 (mB pZ 3 (OG y) (cu pZ 5 (OH y)))) bh (fun _=>rfl) (fun _=>F4) (n:=600) (by
 intro (y:Bs) (hpre:y.length<=1000000);refine⟨⟨(0:Nat),⟨Ao _,rfl⟩,?_⟩,?_⟩
 . repeat' first|exact trivial|exact rfl|refine ax (fun _=>?_) fun _=>?_|apply And.intro
 intro (x:Nat) hx;obtain⟨h1,h2⟩:=hx;have h1:x<=y.length:=h1;have h2:kg (y.drop x)=kg y:=h2;have step:∀hx:x<y.length,jB y[x]=true->(OG y).ok (x+1:Nat):=fun hx hb=>⟨hx,by rw[<-h2,Lb hx,L2 hb]⟩
 have mu:∀hx:x<y.length,y.length - (x+1)<y.length - x:=fun hx=>by omega
 have stop:∀hx:x<y.length,jB y[x]=false->y.drop x=kg y:=fun hx hb=>by
   rw[<-h2,Lb hx,L3 hb]
 refine ah.2 ⟨fun hlt=> ?wa,fun hge=> ?we⟩
 case' we=>
   have hL:y.drop x=kg y:=by
     have hge:y.length<=x:=gf hge;rw[<-h2,EA hge];rfl
 case' wa=>
   have hlt':x<y.length:=cm hlt
   (conv=>whnf)
   refine aj.2 ⟨_,cp hlt',?_⟩;refine ah.2 ⟨fun hb=> ?wb,fun hb=> ?wc⟩
   case wb=>
     have hb:nB y[x]=32:=by
       have hb:(nB y[x]==32)=true:=hb;grind
     (conv=>whnf)
     refine ae.2 ⟨cj x (by omega),?_⟩;refine⟨(x+1:Nat),step hlt' (by grind [jB]),mu hlt',?_⟩
     repeat' first|exact trivial|exact rfl|refine ax (fun _=>?_) fun _=>?_|apply And.intro
   case' wc=>
     have hb:(nB y[x]==32)=false:=hb
     (conv=>whnf)
     refine aj.2 ⟨_,cp hlt',?_⟩;refine ah.2 ⟨fun hc=> ?wd,fun hc=> ?wf⟩
     case wd=>
       have hc:(nB y[x]==9)=true:=hc
       (conv=>whnf)
       refine ae.2 ⟨cj x (by omega),?_⟩;refine⟨(x+1:Nat),step hlt' (by grind [jB]),mu hlt',?_⟩
       repeat' first|exact trivial|exact rfl|refine ax (fun _=>?_) fun _=>?_|apply And.intro
     case' wf=>
       have hc:(nB y[x]==9)=false:=hc;have hL:y.drop x=kg y:=stop hlt' (by grind [jB])
 all_goals
   clear step mu stop;refine⟨⟨((x,y.length):Nat×Nat),⟨h1,Ac _,by show ko ((y.drop x).take (y.length - x))=ko (kg y);rw[<-hL,Aq (by simp)]⟩,?_⟩,?_⟩
   . repeat' first|exact trivial|exact rfl|refine ax (fun _=>?_) fun _=>?_|apply And.intro
   rintro⟨a,b⟩ ⟨k1,k2,k3⟩;have k1:a<=b:=k1;have k2:b<=y.length:=k2;have k3:ko ((y.drop a).take (b - a))=trimB y:=k3;refine ax (fun hlt=>?_) fun hge=>?_
   . have hab:a<b:=by
       have hlt:aZ (a:Int) (b:Int)=true:=hlt;rw[bM,Aa]at hlt;omega
     have hl:=qwe hab k2;have hbl:b - 1<y.length:=by omega
     have hget:y[((b:Int) - 1).toNat]? =some y[b - 1]:=by
       rw[show((b:Int) - 1).toNat=b - 1 by omega,Ai hbl]
     have hir:bw .i64 ((b:Int) - 1)=true:=by rw[fT];omega
     have hnn:nn ((b:Int) - 1)=true:=by rw[kt,Aa];omega
     have hb1:((b:Int) - 1)=((b - 1:Nat):Int):=by omega
     have step:jB y[b - 1]=true->(OH y).ok ((a,b - 1):Nat×Nat):=fun hb=>⟨by show a<=b - 1;omega,by show b - 1<=y.length;omega,by show ko ((y.drop a).take (b - 1 - a))=trimB y;rw[<-k3,hl,Mc hb]⟩
     have stop:jB y[b - 1]=false->(y.drop a).take (b - a)=trimB y:=fun hb=>by rw[<-k3,hl,LK hb]
     have mu:b - 1<b:=by omega
     repeat (first|((conv=>whnf);refine ae.2 ⟨hir,?_⟩)|((conv=>whnf);refine ae.2 ⟨hnn,?_⟩)|((conv=>whnf);refine aj.2 ⟨_,hget,?_⟩))
     refine ax (fun hb=>?_) fun hb=>?_
     . have hb:(nB y[b - 1]==32)=true:=hb
       repeat (first|((conv=>whnf);refine ae.2 ⟨hir,?_⟩))
       refine⟨((a,b - 1):Nat×Nat),step (by simp only[jB,hb,D6]),mu,?_⟩
       repeat' first|exact trivial|exact rfl|refine ax (fun _=>?_) fun _=>?_|apply And.intro
       all_goals ((conv=>whnf);exact hb1)
     . have hb:(nB y[b - 1]==32)=false:=hb
       repeat (first|((conv=>whnf);refine ae.2 ⟨hir,?_⟩)|((conv=>whnf);refine ae.2 ⟨hnn,?_⟩)|((conv=>whnf);refine aj.2 ⟨_,hget,?_⟩))
       refine ax (fun hc=>?_) fun hc=>?_
       . have hc:(nB y[b - 1]==9)=true:=hc
         repeat (first|((conv=>whnf);refine ae.2 ⟨hir,?_⟩))
         refine⟨((a,b - 1):Nat×Nat),step (by simp only[jB,hb,hc,Bool.or_true]),mu,?_⟩
         repeat' first|exact trivial|exact rfl|refine ax (fun _=>?_) fun _=>?_|apply And.intro
         all_goals ((conv=>whnf);exact hb1)
       . have hc:(nB y[b - 1]==9)=false:=hc;have:=stop (by simp only[jB,hb,hc,Et])
         (conv=>whnf)
         refine ae.2 ⟨by show(Nat.ble a b&&Nat.ble b y.length)=true;rw[Ad,Au,Au];omega,?_⟩;refine⟨this,?_⟩
         repeat' first|exact trivial|exact rfl|refine ax (fun _=>?_) fun _=>?_|apply And.intro
   . have hab:a=b:=by
       have hge:aZ (a:Int) (b:Int)=false:=hge;rw[bM,Ah]at hge;omega
     subst hab
     (conv=>whnf)
     refine ae.2 ⟨by show(Nat.ble a a&&Nat.ble a y.length)=true;rw[Ad,Au,Au];omega,?_⟩;refine⟨?_,?_⟩
     . show(y.drop a).take (a - a)=trimB y
       rw[<-k3,Nat.sub_self,DM];rfl
     repeat' first|exact trivial|exact rfl|refine ax (fun _=>?_) fun _=>?_|apply And.intro)
theorem N4:∀g C,HB g=some C->CO g C:=bg QN (bg qy5 F4)
end
section
variable [Inhabited aK]
def kk (s:Bs) (most:Int) (signs:Bs):Bool:=bT (Int.ofNat s.length) most&& !s.any ef&&decide (trimB s=s)&&signs.all fun c=>(dB s (nB c)).isNone
def PV:aL:={Y:=Bs×Int×Bs,pre:=fun y=>y.1.length<=1000000/\y.2.2.length<=100,args:=fun y=>[.str y.1,i64 y.2.1, .bn UInt8 y.2.2 de],res:=fun y=> .bool (kk y.1 y.2.1 y.2.2)}
def Qo (y:Bs×Int×Bs):aJ:={α:=Nat,ok:=fun i=>i<=y.2.2.length/\(y.2.2.take i).all (fun c=>(dB y.1 (nB c)).isNone)=true,μ:=fun i=>y.2.2.length - i,aV:=[],aO:=fun i=>[(0, .str y.1),(26, .bn UInt8 y.2.2 de),(27,i64 (Int.ofNat y.2.2.length)),(28,i64 i)],bm:=fun _=>[]}
theorem qye {a b:Int} (h:aZ a b=true):bT b a=false:=by
 rw[bM,Aa]at h;rw[fg,Ah];omega
theorem qyf {a b:Int} (h:aZ a b=false):bT b a=true:=by
 rw[bM,Ah]at h;rw[fg,Aa];omega
theorem MS (s:Bs) (c:Int):(eN s c).2.2=(dB s c).isSome:=by
 grind [eN]
theorem qyO:CO sy PV:=bB (cfg:=fun y=>bL HB (cu sy 4 (Qo y))) bh (fun _=>rfl) (fun _=>N4) (n:=600) (by
 rintro⟨s,m,g⟩ ⟨(hs:s.length<=1000000),(hg:g.length<=100)⟩;have yes:(kk s m g=false)-> .bool false=SV.bool (kk s m g):=fun h=>by rw[h]
 refine ax (fun h=>?_) fun h=>?_
 . have h:bT (Int.ofNat s.length) m=false:=qye h;have:kk s m g=false:=by grind [kk]
   refine⟨this.symm,?_⟩
   repeat' first|exact trivial|exact rfl|refine ax (fun _=>?_) fun _=>?_|apply And.intro
 have h1:bT (Int.ofNat s.length) m=true:=qyf h;refine⟨s,?_⟩
 repeat ((conv=>whnf);first|refine⟨rfl,?_⟩|refine⟨hs,?_⟩)
 refine ax (fun h=>?_) fun h=>?_
 . have h:s.any ef=true:=h;have:kk s m g=false:=by grind [kk]
   refine⟨this.symm,?_⟩
   repeat' first|exact trivial|exact rfl|refine ax (fun _=>?_) fun _=>?_|apply And.intro
 have h2:s.any ef=false:=h;refine⟨s,?_⟩
 repeat ((conv=>whnf);first|refine⟨rfl,?_⟩|refine⟨hs,?_⟩)
 refine ax (fun h=>?_) fun h=>?_
 . have h:decide (trimB s=s)=false:=by
     have h:(!(trimB s==s))=true:=h;grind
   have:kk s m g=false:=by grind [kk]
   refine⟨this.symm,?_⟩
   repeat' first|exact trivial|exact rfl|refine ax (fun _=>?_) fun _=>?_|apply And.intro
 have h3:decide (trimB s=s)=true:=by
   have h:(!(trimB s==s))=false:=h;grind
 have hp:kk s m g=g.all fun c=>(dB s (nB c)).isNone:=by grind [kk]
 refine⟨⟨(0:Nat),⟨Ao _,by simp⟩,?_⟩,?_⟩
 . repeat' first|exact trivial|exact rfl|refine ax (fun _=>?_) fun _=>?_|apply And.intro
 intro (x:Nat) hx;obtain⟨hx,hn⟩:=hx;have hx:x<=g.length:=hx;have hn:(g.take x).all (fun c=>(dB s (nB c)).isNone)=true:=hn;refine ax (fun hlt=>?_) fun hge=>?_
 . have hlt':x<g.length:=cm hlt;refine aj.2 ⟨_,cp hlt',?_⟩;refine⟨(s,nB g[x]),?_⟩
   repeat ((conv=>whnf);first|refine⟨rfl,?_⟩|refine⟨hs,?_⟩)
   refine ax (fun h=>?_) fun h=>?_
   . have h:(dB s (nB g[x])).isSome=true:=by rw[<-MS];exact h
     have:kk s m g=false:=by
       rw[hp,List.all_eq_false];grind
     refine⟨this.symm,?_⟩
     repeat' first|exact trivial|exact rfl|refine ax (fun _=>?_) fun _=>?_|apply And.intro
   . have h:(dB s (nB g[x])).isSome=false:=by rw[<-MS];exact h
     refine ae.2 ⟨cj x (by omega),?_⟩;refine⟨(x+1:Nat),⟨hlt',?_⟩,by show g.length - (x+1)<g.length - x;omega,?_⟩
     . grind [dB,List.take_succ_eq_append_getElem]
     . repeat' first|exact trivial|exact rfl|refine ax (fun _=>?_) fun _=>?_|apply And.intro
 . have hge':g.length<=x:=gf hge;rw[Aq hge']at hn;refine⟨by grind,?_⟩
   repeat' first|exact trivial|exact rfl|refine ax (fun _=>?_) fun _=>?_|apply And.intro)
end
section
variable [Inhabited aK]
def jO (b:UInt8):UInt8:=if 65<=b.toNat/\b.toNat<=90 then b+32 else b
def lowerB (s:Bs):Bs:=s.map jO
def jr (w:World) (b:Nat) (l:Bs):Prop:=∃arr,w.heap[b]? =some (.cells arr 5 (arr.size,arr.size+1))/\l.length<=arr.size/\ ∀j (h:j<l.length),arr[j]? =some (.int .u8 l[j].toNat)
theorem jr.cell {w:World} {b:Nat} {l:Bs} (h:jr w b l) {j:Nat} (hj:j<l.length):w.cell? ⟨b,j,none⟩=some (.int .u8 l[j].toNat):=by
 obtain⟨arr,h1,_,h3⟩:=h;grind [World.cell?]
theorem jr.free {w:World} {b:Nat} {l:Bs} (h:jr w b l) {j:Nat} (hj:j<l.length):w.frozen? ⟨b,j,none⟩=false:=by
 obtain⟨arr,h1,h2,_⟩:=h;grind [World.frozen?]
theorem jr.set {w:World} {b:Nat} {l:Bs} (h:jr w b l) (k:Nat) (c:UInt8):jr (w.setCell ⟨b,k,none⟩ (.int .u8 c.toNat)) b (l.set k c):=by
 obtain⟨arr,h1,h2,h3⟩:=h;have hlt:=(Ab.1 h1).1;refine⟨arr.setIfInBounds k (.int .u8 c.toNat),?_,by grind,fun j hj=>?_⟩
 all_goals grind [World.setCell]
theorem Uj (b:UInt8) (w:World):Calls Tryz.prog 184 #[.int .u8 b.toNat] w fun e w'=>e= .returned (.int .u8 (jO b).toNat)/\w'=w:=by
 have hb:=b.toNat_lt;by_cases h1:65<=b.toNat
 . by_cases h2:b.toNat<=90
   . go_enter Tryz.func184,Tryz.ntmps184
     go_wp2;go_ret;refine⟨?_,rfl⟩;unfold jO;rw[An ⟨h1,h2⟩];have e:(b+32).toNat=b.toNat+32:=by
      rw[UInt8.toNat_add,show(32:UInt8).toNat=32 from rfl];omega
     rw[e];simp;omega
   . go_enter Tryz.func184,Tryz.ntmps184
     go_wp2;go_ret;refine⟨?_,rfl⟩;simp_all[jO,Al]
 . go_enter Tryz.func184,Tryz.ntmps184
   go_wp2;go_ret;refine⟨?_,rfl⟩;unfold jO;rw[Al (fun h=>h1 h.1)];rfl
theorem SJ (s:Bs) (w:World) (hl:s.length<=1000000):Calls Tryz.prog 142 #[.string ⟨s.toArray⟩] w fun e w'=>e= .returned (.string ⟨(lowerB s).toArray⟩)/\Below w.heap.size w w'/\w.drawn<=w'.drawn:=by
 have hcv:= @run_bytes_of_string Tryz.prog;have hcb:= @run_convert_bytes_back Tryz.prog;go_enter Tryz.func142,Tryz.ntmps142
 go_wp2;have hrow0:∀c,jr (w.drew.alloc (.cells (bytesRow ⟨s.toArray⟩ c) 5 ((bytesRow ⟨s.toArray⟩ c).size,(bytesRow ⟨s.toArray⟩ c).size+1))) w.heap.size s:=fun c=>by
  refine⟨bytesRow ⟨s.toArray⟩ c,?_,?_,fun j hj=>?_⟩
  . show(w.heap.push _)[w.heap.size]? =_
    simp
  all_goals grind [bytesRow]
 go_loopw [9] (fun i wr=>∃k:Nat,k<=s.length/\i= .int .i64 k/\jr wr w.heap.size ((lowerB s).take k++s.drop k)/\Below w.heap.size w wr/\w.drawn<=wr.drawn) (fun i _=>s.length - (intOf i).toNat)
 case atStart=>exact⟨0,Ao _,rfl,hrow0 _,((Below.refl _ _).drew).alloc (Ac _) _,Ed _⟩
 case round=>
  obtain⟨k,hk,rfl,hrow,hbel,hdr⟩:=hrel;by_cases hlt:k<s.length
  . have hlen:((lowerB s).take k++s.drop k).length=s.length:=by grind [lowerB]
    have hk2:k<((lowerB s).take k++s.drop k).length:=by omega
    have hc:=hrow.cell hk2;have hf:=hrow.free hk2;have hel:((lowerB s).take k++s.drop k)[k]=s[k]:=by
     rw[List.getElem_append_right (by grind)];grind
    rw[hel]at hc;have hcall:=Uj s[k] wr;go_wp2_with (go_at_call 184;refine hcall.mono ?_;rintro e w1 ⟨rfl,rfl⟩)
    have hset:((lowerB s).take k++s.drop k).set k (jO s[k])=(lowerB s).take (k+1)++s.drop (k+1):=by
     have hz:k - ((lowerB s).take k).length=0:=by grind
     rw[List.set_append_right _ _ (by grind),hz,Bj hlt,Aw (by grind [lowerB]),List.set_cons_zero];simp[lowerB]
    refine⟨⟨k+1,hlt,by go_num,?_,hbel.setCell (Ac _) _,hdr⟩,by grind [intOf]⟩;rw[<-hset];exact hrow.set k _
  . have hkl:k=s.length:=by omega
    subst hkl;have hrow':jr wr w.heap.size (lowerB s):=by
     rw[List.drop_length,Br,Aq (by simp[lowerB])]at hrow;omega
    have hback:∀c,(convert 152 9 (.slice (some ⟨w.heap.size,0,none⟩) s.length c)).run Tryz.prog wr= .ok (.string ⟨(lowerB s).toArray⟩) wr:=fun c=>by
     have:=hcb wr 152 9 5 ⟨w.heap.size,0,none⟩ c (lowerB s) Tryz.underlying152 Tryz.underlying5 Tryz.underlying9 (fun j hj=>by
      have:=hrow'.cell hj;grind [Addr.add])
     grind [lowerB]
    clear hcb hcv hrow0;go_wp2;go_ret;simp_all
theorem qyH:CO J2 {Y:=Bs,pre:=fun y=>y.length<=1000000,args:=fun y=>[.str y],res:=fun y=> .str (lowerB y)}:=jx bh.ok (by
 rintro s hs w args - ⟨h1,h2⟩;match args,h1 with
 |[v],_=>
 have hv:v= .string ⟨s.toArray⟩:=by
  have:=h2 0 _ _ rfl rfl
  cases this;rfl
 subst hv;refine(SJ s w hs).mono ?_;rintro e w' ⟨rfl,hb,hd⟩;exact⟨_,rfl, .inr (.str _),hb,fun _=>hd⟩)
end
section
variable [Inhabited aK]
def QB:aL:={Y:=Bs,pre:=fun y=>y.length<=1000000,args:=fun y=>[.str y],res:=fun y=> .str (lowerB y)}
noncomputable def wJ (f:FuncId):Option aL:=bif Nat.beq f J2 then some QB else bif Nat.beq f sy then some PV else HB f
theorem yu:∀g C,wJ g=some C->CO g C:=bg qyH (bg qyO N4)
def jv (s:Bs):Bs×Int:=if 256<s.length then([],3)else if dq (lowerB s)||gS (lowerB s)then(lowerB s,0)else([],1)
def fG (s:Bs):Bool:=bT (Int.ofNat s.length) 256&&(dq s||gS s)
def PM:aL:={Y:=Bs,pre:=fun _=>True,args:=fun y=>[.str y],res:=fun y=> .bO [.str (jv y).1,i64 (jv y).2]}
def OT:aL:={Y:=Bs,pre:=fun _=>True,args:=fun y=>[.str y],res:=fun y=> .bool (fG y)}
def l5 (s:Bs):Bool:= !s.any ef&&(dB s 59).isNone&&decide (trimB s=s)
def OW:aL:={Y:=Bs,pre:=fun y=>y.length<=1000000,args:=fun y=>[.str y],res:=fun y=> .bool (l5 y)}
def yR (x:cS):Bool:=within x.aR (-1099511627776) 1099511627776&&within x.ai 0 1099511627776&&within x.access 0 1099511627776&&(x.persistent||x.aR==1099511627776)
def tK (x:ab):Bool:= !(x.key.name==[])&&bT (Int.ofNat x.key.name.length) 256&&l5 x.key.name&&(dB x.key.name 61).isNone&&bT (Int.ofNat x.aa.value.length) 1024&&l5 x.aa.value&&fG x.key.domain&&decide (x.key.path.head? =some 47)&&bT (Int.ofNat x.key.path.length) 256&&yR x.aa
def yL:aL:={Y:=ab,pre:=fun y=>y.key.name.length<=1000000/\y.aa.value.length<=1000000,args:=fun y=>[.agg y.enc],res:=fun y=> .bool (tK y)}
theorem YE (s:Bs):(lowerB s).length=s.length:=by simp[lowerB]
theorem qyr:CO JO PM:=bB (cfg:=fun y=>bL wJ (cR y)) bh (fun _=>rfl) (fun _=>yu) (n:=600) (by
 intro (s:Bs) _
 (conv=>whnf)
 refine ax (fun h=>?_) fun h=>?_
 . have h:256<s.length:=by
     have h:aZ 256 (Int.ofNat s.length)=true:=h;rw[bM,Aa,Af]at h;omega
   have e:jv s=([],3):=by unfold jv;rw[An h]
   (conv=>whnf)
   refine⟨by rw[e],?_⟩
   (conv=>whnf)
   refine⟨by rw[e],?_⟩
   repeat' (first|exact trivial|exact rfl|((conv=>whnf);first|(apply ax<;>intro)|apply And.intro))
 have h:¬256<s.length:=by
   have h:aZ 256 (Int.ofNat s.length)=false:=h;rw[bM,Ah,Af]at h;omega
 have hl:=YE s
 (conv=>whnf)
 refine⟨s,?_⟩
 repeat ((conv=>whnf);first|refine⟨rfl,?_⟩|refine⟨trivial,?_⟩)
 refine⟨by show s.length<=1000000;omega,?_⟩
 (conv=>whnf)
 refine⟨lowerB s,?_⟩
 repeat ((conv=>whnf);first|refine⟨rfl,?_⟩|refine⟨trivial,?_⟩)
 refine⟨by show(lowerB s).length<=100000;omega,?_⟩;have bad:(dq (lowerB s)||gS (lowerB s))=false->jv s=([],1):=fun hn=>by unfold jv;rw[Al h,hn];rfl
 have good:(dq (lowerB s)||gS (lowerB s))=true->jv s=(lowerB s,0):=fun hn=>by unfold jv;rw[Al h,hn];rfl
 (conv=>whnf)
 refine ax (fun hn=>?_) fun hn=>?_
 . have hn:dq (lowerB s)=false:=by simpa using hn
   rw[hn,DR]at bad good
   (conv=>whnf)
   refine⟨lowerB s,?_⟩
   repeat ((conv=>whnf);first|refine⟨rfl,?_⟩|refine⟨trivial,?_⟩)
   refine⟨by show(lowerB s).length<=100000;omega,?_⟩
   (conv=>whnf)
   refine ax (fun ha=>?_) fun ha=>?_
   . have e:=bad (by simpa using ha)
     (conv=>whnf)
     refine⟨by rw[e],?_⟩
     (conv=>whnf)
     refine⟨by rw[e],?_⟩
     repeat' (first|exact trivial|exact rfl|((conv=>whnf);first|(apply ax<;>intro)|apply And.intro))
   . have e:=good (by simpa using ha)
     (conv=>whnf)
     refine⟨by rw[e],?_⟩
     (conv=>whnf)
     refine⟨by rw[e],?_⟩
     repeat' (first|exact trivial|exact rfl|((conv=>whnf);first|(apply ax<;>intro)|apply And.intro))
 . have hn:dq (lowerB s)=true:=by simpa using hn
   have e:=good (by rw[hn];rfl)
   (conv=>whnf)
   refine⟨by rw[e],?_⟩
   (conv=>whnf)
   refine⟨by rw[e],?_⟩
   repeat' (first|exact trivial|exact rfl|((conv=>whnf);first|(apply ax<;>intro)|apply And.intro)))
theorem Z6:CO JR OT:=bB (cfg:=fun y=>bL wJ (cR y)) bh (fun _=>rfl) (fun _=>yu) (n:=600) (by
 intro (s:Bs) _
 (conv=>whnf)
 refine ax (fun h=>?_) fun h=>?_
 . have h:bT (Int.ofNat s.length) 256=true:=h;have hl:s.length<=100000:=by rw[fg,Aa,Af]at h;omega
   (conv=>whnf)
   refine⟨s,?_⟩
   repeat ((conv=>whnf);first|refine⟨rfl,?_⟩|refine⟨trivial,?_⟩)
   refine⟨hl,?_⟩
   (conv=>whnf)
   refine ax (fun hn=>?_) fun hn=>?_
   . have hn:dq s=true:=hn
     (conv=>whnf)
     refine⟨by show true=fG s;simp only[fG,h,hn,D6,Bool.and_self],?_⟩
     repeat' (first|exact trivial|exact rfl|((conv=>whnf);first|(apply ax<;>intro)|apply And.intro))
   . have hn:dq s=false:=hn
     (conv=>whnf)
     refine⟨s,?_⟩
     repeat ((conv=>whnf);first|refine⟨rfl,?_⟩|refine⟨trivial,?_⟩)
     refine⟨hl,?_⟩
     (conv=>whnf)
     refine⟨by show gS s=fG s;simp only[fG,h,hn,DR,BL],?_⟩
     repeat' (first|exact trivial|exact rfl|((conv=>whnf);first|(apply ax<;>intro)|apply And.intro))
 . have h:bT (Int.ofNat s.length) 256=false:=h
   (conv=>whnf)
   refine⟨by show false=fG s;simp only[fG,h,Dj],?_⟩
   repeat' (first|exact trivial|exact rfl|((conv=>whnf);first|(apply ax<;>intro)|apply And.intro)))
theorem qvL:CO JG OW:=bB (cfg:=fun y=>bL wJ (cR y)) bh (fun _=>rfl) (fun _=>yu) (n:=600) (by
 intro (s:Bs) (hs:s.length<=1000000)
 (conv=>whnf)
 refine⟨s,?_⟩
 repeat ((conv=>whnf);first|refine⟨rfl,?_⟩|refine⟨trivial,?_⟩)
 refine⟨hs,?_⟩
 (conv=>whnf)
 refine ax (fun h=>?_) fun h=>?_
 . have h:s.any ef=false:=by
     have h:(!s.any ef)=true:=h
     cases e:s.any ef with
     |false=>rfl
     |true=>rw[e]at h;cases h
   (conv=>whnf)
   refine⟨(s,59),?_⟩
   repeat ((conv=>whnf);first|refine⟨rfl,?_⟩|refine⟨trivial,?_⟩)
   refine⟨hs,?_⟩;have hf:aZ (gT s 59) 0=(dB s 59).isNone:=by
     rcases xO s 59 with⟨i,h1,h2,h3⟩|⟨h1,h2⟩
     . rw[h1,h2,bM,AQ];rfl;omega
     . rw[h1,h2];rfl
   (conv=>whnf)
   refine ax (fun h2=>?_) fun h2=>?_
   . have h2:(dB s 59).isNone=true:=by rw[<-hf];exact h2
     (conv=>whnf)
     refine⟨s,?_⟩
     repeat ((conv=>whnf);first|refine⟨rfl,?_⟩|refine⟨trivial,?_⟩)
     refine⟨hs,?_⟩
     (conv=>whnf)
     refine⟨?_,?_⟩
     . show(trimB s==s)=l5 s
       simp only[l5,h,h2,DN,BL];rw[Az];simp
     . repeat' (first|exact trivial|exact rfl|((conv=>whnf);first|(apply ax<;>intro)|apply And.intro))
   . have h2:(dB s 59).isNone=false:=by rw[<-hf];exact h2
     (conv=>whnf)
     refine⟨by show false=l5 s;simp only[l5,h2,DO,Dj],?_⟩
     repeat' (first|exact trivial|exact rfl|((conv=>whnf);first|(apply ax<;>intro)|apply And.intro))
 . have h:s.any ef=true:=by
     have h:(!s.any ef)=false:=h
     cases e:s.any ef with
     |true=>rfl
     |false=>rw[e]at h;cases h
   (conv=>whnf)
   refine⟨by show false=l5 s;simp only[l5,h,Dl,Dj],?_⟩
   repeat' (first|exact trivial|exact rfl|((conv=>whnf);first|(apply ax<;>intro)|apply And.intro)))
theorem ye {b:UInt8} {c:Int}:∀{s:Bs},b∈s->nB b=c\/ ∃p∈splitB s c,b∈p
 | x :: s,h=>by
  simp only[splitB];by_cases hx:nB x=c
  . rw[An hx];rcases Ap.1 h with rfl|h
    . exact .inl hx
    . rcases ye (c:=c) h with h|⟨p,hp,hb⟩
      . exact .inl h
      . exact .inr ⟨p,AP _ hp,hb⟩
  . rw[Al hx];have ih:b∈s->nB b=c\/ ∃p∈splitB s c,b∈p:=fun h=>ye h
    cases e:splitB s c with
    |nil=>exact absurd e (FD s c)
    | cons q t=>
      rw[e]at ih;rcases Ap.1 h with rfl|h
      . exact .inr ⟨b::q,As,As⟩
      . rcases ih h with h|⟨p,hp,hb⟩
        . exact .inl h
        . rcases Ap.1 hp with rfl|hp
          . exact .inr ⟨x::p,As,AP _ hb⟩
          . exact .inr ⟨p,AP _ hp,hb⟩
theorem qvk {b:UInt8} (h:nB b<65\/90<nB b):jO b=b:=by
 unfold jO;unfold nB at h;simp only[Af]at h;rw[Al (by omega)]
theorem Ff {s:Bs} (h:∀b∈s,nB b<65\/90<nB b):lowerB s=s:=by
 have e:s.map jO=s.map id:=BQ fun b hb=>qvk (h b hb)
 rw[EI]at e;exact e
theorem WN {s:Bs} (h:dq s=true):lowerB s=s:=by
 simp only[dq,Ad,AG]at h;refine Ff fun b hb=>?_
 rcases ye (c:=46) hb with h1|⟨p,hp,hb⟩
 . omega
 . have h2:=h.2 p hp;simp only[eW,Ad,AG]at h2;have h3:=h2.1.1.2 b hb;simp only[iD,BX,Ad,Aa,Bv]at h3;omega
theorem WC {s:Bs} (h:gS s=true):lowerB s=s:=by
 unfold gS at h;rcases BX .. ▸h with h|h
 . simp only[fK,Ad,AG]at h;refine Ff fun b hb=>?_
   rcases ye (c:=46) hb with h1|⟨p,hp,hb⟩
   . omega
   . have h2:=h.2 p hp;simp only[iw,Ad,Aa]at h2;have h3:=xZ (s:=p) (by omega) b hb;simp only[dK,Ad,Aa]at h3;omega
 . simp only[ft,Ad,AG,Aa,Bv]at h;obtain⟨⟨⟨⟨h1,h2⟩,h3⟩,h4⟩,h5⟩:=h
   cases s with
   |nil=>simp at h1
   | cons x s=>
     simp only[List.head?_cons,By]at h3;subst h3;rcases List.eq_nil_or_concat s with rfl|⟨t,z,rfl⟩
     . simp at h1
     . have hz:z=93:=by
         rw[show(91::t.concat z:Bs)=(91::t)++[z] by simp,List.getLast?_concat]at h4;simpa using h4
       subst hz;have e:((91::t.concat 93:Bs).drop 1).take ((91::t.concat 93:Bs).length - 2)=t:=by simp[EC]
       rw[e]at h5;refine Ff fun b hb=>?_
       simp only[Ap,EC,Ds,BG,Dm]at hb;rcases hb with rfl|hb|rfl
       . right;decide
       . have h6:=h5 b hb;simp only[dh,BX,Ad,Aa,Bv]at h6;omega
       . right;decide
theorem ML (s:Bs):(decide ((jv s).2=0)&&decide ((jv s).1=s))=fG s:=by
 rw[Az];unfold jv fG;simp only[Ad,Aa,fg,Af];by_cases h:256<s.length
 . rw[An h];simp;omega
 . rw[Al h];constructor
   . intro hh;split at hh
     . rename_i hn;have e:lowerB s=s:=hh.2;rw[e]at hn;exact⟨by omega,hn⟩
     . simp at hh
   . rintro⟨_,hn⟩;have e:lowerB s=s:=by
       rcases BX .. ▸hn with hn|hn
       . exact WN hn
       . exact WC hn
     rw[e,An hn];exact⟨rfl,rfl⟩
noncomputable def wK (f:FuncId):Option aL:=bif Nat.beq f JO then some PM else bif Nat.beq f JR then some OT else bif Nat.beq f JG then some OW else wJ f
theorem yv:∀g C,wK g=some C->CO g C:=bg qyr (bg Z6 (bg qvL yu))
def Hr (x:ab):Bool:= !(x.key.name==[])&&kk x.key.name 256 [59,61]&&kk x.aa.value 1024 [59]&&((jv x.key.domain).2==0)&&((jv x.key.domain).1==x.key.domain)&&decide (x.key.path.head? =some 47)&&bT (Int.ofNat x.key.path.length) 256&&yR x.aa
theorem Y3 (x:ab):Hr x=tK x:=by
 have h1:∀(s:Bs) (m:Int),kk s m [59]=(bT (Int.ofNat s.length) m&&l5 s):=fun s m=>by
  unfold kk l5;rw[Az];simp[nB];grind
 have h2:kk x.key.name 256 [59,61]=(bT (Int.ofNat x.key.name.length) 256&&l5 x.key.name&&(dB x.key.name 61).isNone):=by
  unfold kk l5;rw[Az];simp[nB];grind
 have h3:=ML x.key.domain;unfold Hr tK;rw[h1,h2,<-h3];rw[Az];simp;grind
theorem Qh (b:UInt8):b=47↔(b.toNat:Int)=47:=by
 constructor
 . rintro rfl;rfl
 . intro h;exact UInt8.toNat_inj.1 (by rw[show(47:UInt8).toNat=47 from rfl];omega)
theorem qvN:CO JZ yL:=bB (cfg:=fun y=>bL wK (cR y)) bh (fun _=>rfl) (fun _=>yv) (n:=800) (by
 rintro⟨⟨n,d,p⟩,v,b1,b2,b3,b4,e,c,a⟩ ⟨(hn:n.length<=1000000),(hv:v.length<=1000000)⟩;rcases p with _|⟨p0,p⟩
 all_goals
  (conv=>whnf)
  refine⟨d,?_⟩
  repeat ((conv=>whnf);first|refine⟨rfl,?_⟩|refine⟨trivial,?_⟩)
  (conv=>whnf)
  refine⟨(e, -1099511627776,1099511627776),?_⟩
  repeat' (first|exact trivial|(with_reducible exact rfl)|((conv=>whnf);first|(apply ax<;>intro)|apply And.intro)|((conv=>whnf);refine⟨(c,0,1099511627776),?_⟩;(conv=>whnf);refine⟨rfl,?_⟩)|((conv=>whnf);refine⟨(a,0,1099511627776),?_⟩;(conv=>whnf);refine⟨rfl,?_⟩)|((conv=>whnf);refine⟨(n,256,[59,61]),?_⟩;(conv=>whnf);refine⟨rfl,?_⟩)|((conv=>whnf);refine⟨(v,1024,[59]),?_⟩;(conv=>whnf);refine⟨rfl,?_⟩))
 all_goals first|exact hn|exact hv|exact rfl|(show(2:Nat)<=100;decide)|(show(1:Nat)<=100;decide)|skip
 all_goals (rw[<-Y3])
 all_goals (simp_all[Hr,yR,Qh]))
end
section
variable [Inhabited aK]
def lR (b:UInt8):Bool:=decide (32<nB b)&&decide (nB b<127)
def ja (s:Bs):Bool:=s.all lR
def I9:aL:={Y:=UInt8,pre:=fun _=>True,args:=fun y=>[.int .u8 (nB y)],res:=fun y=> .bool (lR y)}
theorem Rl:CO sx I9:=bB (cfg:=fun(_:UInt8)=>bI bu (fun _ _=>none)) bh (fun _=>rfl) (fun _=>eX) (n:=300) (by
 intro b _;have e1:decide (32<nB b)=aZ 32 (nB b):=(bM _ _).symm;have e2:decide (nB b<127)=aZ (nB b) 127:=(bM _ _).symm;refine ax (fun h=>?_) fun h=>?_
 . have h:aZ 32 (nB b)=true:=h;refine⟨?_,trivial⟩;grind [lR]
 . have h:aZ 32 (nB b)=false:=h;refine⟨?_,trivial⟩;grind [lR])
noncomputable def JB (f:FuncId):Option aL:=bif Nat.beq f sx then some I9 else bu f
theorem Zw:∀f C,JB f=some C->CO f C:=bg Rl eX
def Ct (y:Bs):aJ:={α:=Nat,ok:=fun i=>i<=y.length/\ ∀j (h:j<y.length),j<i->lR y[j]=true,μ:=fun i=>y.length - i,aV:=[],aO:=fun i=>[(0, .str y),(3, .fn sx [] []),(6,i64 (Int.ofNat y.length)),(7,i64 i)],bm:=fun _=>[]}
theorem Sc:CO IB (fF ja):=bB (cfg:=fun(y:Bs)=>bI JB (cu IB 3 (Ct y))) bh (fun _=>rfl) (fun _=>Zw) (n:=600) (by
 intro (s:Bs) (hs:s.length<=100000);refine⟨⟨(0:Nat),⟨Ao _,fun j _ hj=>absurd hj (A9 _)⟩,?_⟩,?_⟩
 . repeat' first|exact trivial|exact rfl|refine ax (fun _=>?_) fun _=>?_|apply And.intro
 intro (i:Nat) hi;obtain⟨hi,hall⟩:=hi;have hi:i<=s.length:=hi;refine ax (fun hlt=>?_) fun hge=>?_
 . have hlt':i<s.length:=cm hlt;refine aj.2 ⟨_,cp hlt',?_⟩;refine⟨s[i],?_⟩
   repeat first|refine⟨rfl,?_⟩|refine⟨trivial,?_⟩
   refine ax (fun h=>?_) fun h=>?_
   . have h:lR s[i]=false:=by have h:(!lR s[i])=true:=h;grind
     refine⟨?_,trivial⟩;exact(sZ hlt' h).symm
   . have h:lR s[i]=true:=by have h:(!lR s[i])=false:=h;grind
     refine ae.2 ⟨cj i (by omega),?_⟩;refine⟨(i+1:Nat),⟨hlt',ot hall hlt' h⟩,by show s.length - (i+1)<s.length - i;omega,?_⟩
     repeat' first|exact trivial|exact rfl|refine ax (fun _=>?_) fun _=>?_|apply And.intro
 . (conv=>whnf)
   refine⟨?_,trivial⟩;exact(oq hall (gE hge)).symm)
def Sp (y:Bs):aJ:={α:=Nat,ok:=fun i=>i<=y.length/\ ∀j (h:j<y.length),j<i->lR y[j]=true,μ:=fun i=>y.length - i,aV:=[],aO:=fun i=>[(0, .str y),(3,i64 i)],bm:=fun _=>[]}
theorem Ge (b:UInt8):lR b= !(aZ (nB b) 33||aZ 126 (nB b)):=by
 grind [lR,bM]
theorem QP:CO sr (fF ja):=bB (cfg:=fun(y:Bs)=>bI bu (cu sr 2 (Sp y))) bh (fun _=>rfl) (fun _=>eX) (n:=600) (by
 intro (s:Bs) (hs:s.length<=100000);refine⟨⟨(0:Nat),⟨Ao _,fun j _ hj=>absurd hj (A9 _)⟩,?_⟩,?_⟩
 . repeat' first|exact trivial|exact rfl|refine ax (fun _=>?_) fun _=>?_|apply And.intro
 intro (i:Nat) hi;obtain⟨hi,hall⟩:=hi;have hi:i<=s.length:=hi;refine ax (fun hlt=>?_) fun hge=>?_
 . have hlt':i<s.length:=cm hlt;have yes:aZ (nB s[i]) 33=false->aZ 126 (nB s[i])=false->lR s[i]=true:=fun h1 h2=>by rw[Ge,h1,h2];rfl
   refine aj.2 ⟨_,cp hlt',?_⟩;refine ax (fun h=>?_) fun h=>?_
   . have h:aZ (nB s[i]) 33=true:=h;refine⟨?_,trivial⟩;exact(sZ hlt' (by rw[Ge,h];rfl)).symm
   . have h:aZ (nB s[i]) 33=false:=h;refine aj.2 ⟨_,cp hlt',?_⟩;refine ax (fun h2=>?_) fun h2=>?_
     . have h2:aZ 126 (nB s[i])=true:=h2;refine⟨?_,trivial⟩;exact(sZ hlt' (by rw[Ge,h,h2];rfl)).symm
     . (conv=>whnf)
       refine ae.2 ⟨cj i (by omega),?_⟩;refine⟨(i+1:Nat),⟨hlt',ot hall hlt' (yes h h2)⟩,by show s.length - (i+1)<s.length - i;omega,?_⟩
       repeat' first|exact trivial|exact rfl|refine ax (fun _=>?_) fun _=>?_|apply And.intro
 . (conv=>whnf)
   refine⟨?_,trivial⟩;exact(oq hall (gE hge)).symm)
def tD (b:Bool):Bs:=if b then[104,116,116,112,115,58,47,47]else[104,116,116,112,58,47,47]
def PJ:aL:={Y:=Bool,pre:=fun _=>True,args:=fun y=>[.bool y],res:=fun y=> .str (tD y)}
theorem qyo:CO KJ PJ:=bB (cfg:=fun(_:Bool)=>bI bu (fun _ _=>none)) bh (fun _=>rfl) (fun _=>eX) (n:=300) (by
 intro b _
 cases b
 . repeat' first|exact trivial|exact rfl|refine ax (fun _=>?_) fun _=>?_|apply And.intro
 . repeat' first|exact trivial|exact rfl|refine ax (fun _=>?_) fun _=>?_|apply And.intro)
def oM (b:UInt8):Bool:=nB b==63||nB b==35
def pz (s:Bs):Bool:=s.all fun b=> !oM b
def PQ:aL:={Y:=Bs,pre:=fun y=>y.length<=100000,args:=fun y=>[.str y, .str [63,35]],res:=fun y=>i64 (Int.ofNat (y.findIdx oM))}
def QF (y:Bs):aJ:={α:=Nat,ok:=fun i=>i<=y.length/\ ∀j (h:j<y.length),j<i->oM y[j]=false,μ:=fun i=>y.length - i,aV:=[],aO:=fun i=>[(0, .str y),(1, .str [63,35]),(5,i64 i)],bm:=fun _=>[]}
theorem MY (b:UInt8):bT 0 (gT [63,35] (nB b))=oM b:=by
 unfold gT dB oM;have e1:nB 63=63:=rfl;have e2:nB 35=35:=rfl;rw[List.findIdx?_cons,List.findIdx?_cons,e1,e2,List.findIdx?_nil];by_cases h1:nB b=63
 . rw[h1];rfl
 . have h1':((63:Int)==nB b)=false:=Bp.2 fun h=>h1 h.symm
   have h1'':(nB b==63)=false:=Bp.2 h1;by_cases h2:nB b=35
   . rw[h2];rfl
   . have h2':((35:Int)==nB b)=false:=Bp.2 fun h=>h2 h.symm
     have h2'':(nB b==35)=false:=Bp.2 h2;rw[h1',h2',h1'',h2''];rfl
theorem qyy:CO IP PQ:=bB (cfg:=fun(y:Bs)=>bI HA (cu IP 2 (QF y))) bh (fun _=>rfl) (fun _=>N3) (n:=600) (by
 intro (s:Bs) (hs:s.length<=100000);refine⟨⟨(0:Nat),⟨Ao _,fun j _ hj=>absurd hj (A9 _)⟩,?_⟩,?_⟩
 . repeat' first|exact trivial|exact rfl|refine ax (fun _=>?_) fun _=>?_|apply And.intro
 intro (i:Nat) hi;obtain⟨hi,hall⟩:=hi;have hi:i<=s.length:=hi;refine ax (fun hlt=>?_) fun hge=>?_
 . have hlt':i<s.length:=cm hlt;refine aj.2 ⟨_,cp hlt',?_⟩;refine⟨(([63,35]:Bs),nB s[i]),?_⟩
   repeat first|refine⟨rfl,?_⟩|refine⟨trivial,?_⟩
   refine⟨by show(2:Nat)<=1000000;omega,?_⟩;refine ax (fun h=>?_) fun h=>?_
   . have h:bT 0 (gT [63,35] (nB s[i]))=true:=h;rw[MY]at h;refine⟨?_,trivial⟩;grind
   . have h:bT 0 (gT [63,35] (nB s[i]))=false:=h;rw[MY]at h;refine ae.2 ⟨cj i (by omega),?_⟩;refine⟨(i+1:Nat),⟨hlt',fun j hj h2=>?_⟩,by show s.length - (i+1)<s.length - i;omega,?_⟩
     . grind
     . repeat' first|exact trivial|exact rfl|refine ax (fun _=>?_) fun _=>?_|apply And.intro
 . have hge:=gE hge;have hge:¬(i:Int)<(s.length:Int):=hge;refine⟨?_,trivial⟩;grind)
theorem LX (s:Bs):(Int.ofNat (s.findIdx oM)==Int.ofNat s.length)=pz s:=by
 rw[Az,Bv];grind [pz]
def oV:aL:={Y:=Bs×Bs,pre:=fun y=>y.1.length<=1000000/\y.2.length<=1000000,args:=fun y=>[.str y.1, .str y.2],res:=fun y=> .bool (y.2.isSuffixOf y.1)}
theorem QL:CO wZ oV:=bB (cfg:=fun(_:Bs×Bs)=>bI bu (fun _ _=>none)) bh (fun _=>rfl) (fun _=>eX) (n:=600) (by
 rintro⟨s,t⟩ ⟨hs,ht⟩;have hs:s.length<=1000000:=hs;have ht:t.length<=1000000:=ht;refine ax (fun h=>?_) fun h=>?_
 . (conv=>whnf)
   repeat' (first|exact trivial|exact rfl|((conv=>whnf);refine ae.2 ⟨?_,?_⟩)|((conv=>whnf);apply And.intro))
   all_goals (have h:bT (Int.ofNat t.length) (Int.ofNat s.length)=true:=h;rw[fg,Aa]at h;simp only[Af]at h⊢)
   all_goals grind [fT,kt,Nat.ble_eq,List.suffix_iff_eq_drop]
 . (conv=>whnf)
   refine⟨?_,trivial⟩;have h:bT (Int.ofNat t.length) (Int.ofNat s.length)=false:=h;rw[fg,Ah]at h;grind)
theorem Sa:CO xd oV:=bB (cfg:=fun(_:Bs×Bs)=>bI (fun f=>bif Nat.beq f wZ then some oV else bu f) (fun _ _=>none)) bh (fun _=>rfl) (fun _=>bg QL eX) (n:=600) (by
 rintro⟨s,t⟩ h;refine⟨(s,t),?_⟩
 repeat first|refine⟨rfl,?_⟩|refine⟨trivial,?_⟩
 refine⟨h,?_⟩
 repeat' first|exact trivial|exact rfl|refine ax (fun _=>?_) fun _=>?_|apply And.intro)
end
section
structure bG where
 host:Bs
 path:Bs
 aM:Bool
 ep:Bool
def bG.enc (r:bG):List SV:=[.str r.host, .str r.path, .bool r.aM, .bool r.ep]
def jF (r:bG):Prop:=r.host.length<=5000/\r.path.length<=5000
def fD (r:bG):Bool:=fG r.host&&decide (r.path.head? =some 47)&&ja r.path&&pz r.path&&bT (Int.ofNat (tD r.aM).length+Int.ofNat r.host.length+Int.ofNat r.path.length) 1024
section
variable [Inhabited aK]
def oW:aL:={Y:=bG,pre:=jF,args:=fun y=>[.agg y.enc],res:=fun y=> .bool (fD y)}
def oT:aL:={Y:=Bs,pre:=fun y=>y.length<=100000/\ja y=true,args:=fun y=>[.str y, .str [63,35]],res:=fun y=> .bool (!pz y)}
noncomputable def tP (f:FuncId):Option aL:=bif Nat.beq f IB then some (fF ja)else bif Nat.beq f sr then some (fF ja)else bif Nat.beq f KJ then some PJ else bif Nat.beq f IP then some PQ else bif Nat.beq f xd then some oV else wK f
theorem vL:∀f C,tP f=some C->CO f C:=bg Sc (bg QP (bg qyo (bg qyy (bg Sa yv))))
noncomputable def JC (f:FuncId):Option aL:=bif Nat.beq f pO then some oT else tP f
theorem Zx (hA:CO pO oT):∀f C,JC f=some C->CO f C:=bg hA vL
theorem take_one (p:Bs):decide (p.take ([47]:Bs).length=[47])=decide (p.head? =some 47):=by
 cases p with
 |nil=>rfl
 |cons b p=>simp
theorem Sb (hA:CO pO oT):CO KI oW:=bB (cfg:=fun(_:bG)=>bL JC (fun _ _=>none)) bh (fun _=>rfl) (fun _=>Zx hA) (n:=900) (by
 rintro r ⟨h1,h2⟩;have h1:r.host.length<=5000:=h1;have h2:r.path.length<=5000:=h2;have hcan:=ML r.host;have e2:decide ((jv r.host).2=0)=((jv r.host).2==0):=by rw[Az,Aa,Bv]
 have e3:decide ((jv r.host).1=r.host)=((jv r.host).1==r.host):=by rw[Az,Aa,Bv]
 rw[e2,e3]at hcan;refine⟨r.host,?_⟩
 repeat first|refine⟨rfl,?_⟩|refine⟨trivial,?_⟩
 refine ax (fun h=>?_) fun h=>?_;rotate_left
 . have h:((jv r.host).2==0)=false:=h;refine⟨?_,trivial⟩;grind [fD]
 have h:((jv r.host).2==0)=true:=h;rw[h,BL]at hcan;refine ax (fun h3=>?_) fun h3=>?_;rotate_left
 . have h3:((jv r.host).1==r.host)=false:=h3;refine⟨?_,trivial⟩;grind [fD]
 have h3:((jv r.host).1==r.host)=true:=h3;rw[h3]at hcan;refine⟨(r.path,[47]),?_⟩
 repeat first|refine⟨rfl,?_⟩|refine⟨trivial,?_⟩
 refine⟨⟨by grind,by grind⟩,?_⟩;refine ax (fun h4=>?_) fun h4=>?_;rotate_left
 . have h4:decide (r.path.take ([47]:Bs).length=[47])=false:=h4;rw[take_one]at h4;refine⟨?_,trivial⟩;grind [fD]
 have h4:decide (r.path.take ([47]:Bs).length=[47])=true:=h4;rw[take_one]at h4;refine⟨r.path,?_⟩
 repeat first|refine⟨rfl,?_⟩|refine⟨trivial,?_⟩
 refine⟨by show r.path.length<=100000;omega,?_⟩;refine ax (fun h5=>?_) fun h5=>?_;rotate_left
 . have h5:ja r.path=false:=h5;refine⟨?_,trivial⟩;grind [fD]
 have h5:ja r.path=true:=h5;refine⟨r.path,?_⟩
 repeat first|refine⟨rfl,?_⟩|refine⟨trivial,?_⟩
 refine⟨⟨by omega,h5⟩,?_⟩;refine ax (fun h6=>?_) fun h6=>?_;rotate_left
 . have h6:(!(!pz r.path))=false:=h6;rw[Bool.not_not]at h6;refine⟨?_,trivial⟩;grind [fD]
 have h6:(!(!pz r.path))=true:=h6;rw[Bool.not_not]at h6;refine⟨r.aM,?_⟩
 repeat first|refine⟨rfl,?_⟩|refine⟨trivial,?_⟩
 (conv=>whnf)
 have hbl:(tD r.aM).length<=8:=by grind [tD]
 repeat' (first|exact trivial|((conv=>whnf);refine ae.2 ⟨?_,?_⟩)|((conv=>whnf);apply And.intro))
 all_goals grind [fT,fD])
end
end
section
section
variable [Inhabited aK]
theorem QO:CO Kc oW:=bB (cfg:=fun(_:bG)=>bL tP (fun _ _=>none)) bh (fun _=>rfl) (fun _=>vL) (n:=900) (by
 rintro r ⟨h1,h2⟩;have h1:r.host.length<=5000:=h1;have h2:r.path.length<=5000:=h2;obtain⟨H,P,s,sc⟩:=r;have hn:∀n:Int,(n=Int.ofNat (tD s).length+Int.ofNat H.length+Int.ofNat P.length)->fG H=true->P.head? =some 47->ja P=true->(Int.ofNat (P.findIdx oM)==Int.ofNat P.length)=true->bT n 1024=fD ⟨H,P,s,sc⟩:=fun n e c hh v f=>by
   rw[LX]at f;grind [fD]
 have no:(fG H=false\/P.head? ≠some 47\/ja P=false\/(Int.ofNat (P.findIdx oM)==Int.ofNat P.length)=false)->false=fD ⟨H,P,s,sc⟩:=fun h=>by
   rw[LX]at h;grind [fD]
 (conv=>whnf)
 refine ae.2 ⟨by grind [fT],?_⟩
 (conv=>whnf)
 have h1:H.length<=5000:=h1;have h2:P.length<=5000:=h2;refine ae.2 ⟨by grind [fT],?_⟩;have tail:∀n:Int,(n=Int.ofNat (tD s).length+Int.ofNat H.length+Int.ofNat P.length)->True:=fun _ _=>trivial
 cases s
 . (conv=>whnf)
   refine⟨H,?_⟩
   repeat first|refine⟨rfl,?_⟩|refine⟨trivial,?_⟩
   refine ax (fun c=>?_) fun c=>?_;rotate_left
   . (conv=>whnf)
     exact⟨no (.inl c),trivial⟩
   refine ax (fun p=>?_) fun p=>?_;rotate_left
   . have p:aZ 0 (Int.ofNat P.length)=false:=p;rw[bM,Ah]at p;refine⟨no (.inr (.inl ?_)),trivial⟩;have:P=[]:=Ay (by grind);rw[this];simp
   have p:aZ 0 (Int.ofNat P.length)=true:=p;rw[bM,Aa]at p;have hp:0<P.length:=by grind
   have hhd:P.head? =some P[0]:=by rw[Bu];grind
   (conv=>whnf)
   refine aj.2 ⟨P[0],by grind,?_⟩;refine ax (fun q=>?_) fun q=>?_;rotate_left
   . have q:(nB P[0]==47)=false:=q;refine⟨no (.inr (.inl ?_)),trivial⟩;rw[hhd];intro e;rw[Df e]at q;cases q
   have q:(nB P[0]==47)=true:=q;have hh:P.head? =some 47:=by rw[hhd,l4 (a:=P[0]) (b:=47) (by rw[Bv.1 q];rfl)]
   refine⟨P,?_⟩
   repeat first|refine⟨rfl,?_⟩|refine⟨trivial,?_⟩
   refine⟨by show P.length<=100000;omega,?_⟩;refine ax (fun v=>?_) fun v=>?_;rotate_left
   . (conv=>whnf)
     exact⟨no (.inr (.inr (.inl v))),trivial⟩
   refine⟨P,?_⟩
   repeat first|refine⟨rfl,?_⟩|refine⟨trivial,?_⟩
   refine⟨by show P.length<=100000;omega,?_⟩;refine ax (fun f=>?_) fun f=>?_;rotate_left
   . (conv=>whnf)
     exact⟨no (.inr (.inr (.inr f))),trivial⟩
   (conv=>whnf)
   exact⟨hn _ rfl c hh v f,trivial⟩
 . (conv=>whnf)
   refine ae.2 ⟨by grind [fT],?_⟩;refine⟨H,?_⟩
   repeat first|refine⟨rfl,?_⟩|refine⟨trivial,?_⟩
   refine ax (fun c=>?_) fun c=>?_;rotate_left
   . (conv=>whnf)
     exact⟨no (.inl c),trivial⟩
   refine ax (fun p=>?_) fun p=>?_;rotate_left
   . have p:aZ 0 (Int.ofNat P.length)=false:=p;rw[bM,Ah]at p;refine⟨no (.inr (.inl ?_)),trivial⟩;have:P=[]:=Ay (by grind);rw[this];simp
   have p:aZ 0 (Int.ofNat P.length)=true:=p;rw[bM,Aa]at p;have hp:0<P.length:=by grind
   have hhd:P.head? =some P[0]:=by rw[Bu];grind
   (conv=>whnf)
   refine aj.2 ⟨P[0],by grind,?_⟩;refine ax (fun q=>?_) fun q=>?_;rotate_left
   . have q:(nB P[0]==47)=false:=q;refine⟨no (.inr (.inl ?_)),trivial⟩;rw[hhd];intro e;rw[Df e]at q;cases q
   have q:(nB P[0]==47)=true:=q;have hh:P.head? =some 47:=by rw[hhd,l4 (a:=P[0]) (b:=47) (by rw[Bv.1 q];rfl)]
   refine⟨P,?_⟩
   repeat first|refine⟨rfl,?_⟩|refine⟨trivial,?_⟩
   refine⟨by show P.length<=100000;omega,?_⟩;refine ax (fun v=>?_) fun v=>?_;rotate_left
   . (conv=>whnf)
     exact⟨no (.inr (.inr (.inl v))),trivial⟩
   refine⟨P,?_⟩
   repeat first|refine⟨rfl,?_⟩|refine⟨trivial,?_⟩
   refine⟨by show P.length<=100000;omega,?_⟩;refine ax (fun f=>?_) fun f=>?_;rotate_left
   . (conv=>whnf)
     exact⟨no (.inr (.inr (.inr f))),trivial⟩
   refine⟨?_,trivial⟩;show bT (7+Int.ofNat H.length+Int.ofNat P.length+1) 1024=fD ⟨H,P,true,sc⟩
   refine hn _ ?_ c hh v f;show 7+Int.ofNat H.length+Int.ofNat P.length+1=8+Int.ofNat H.length+Int.ofNat P.length
   omega)
def me (p c:Bs):Bool:=decide (p.take c.length=c)&&(decide (p.length=c.length)||([47]:Bs).isSuffixOf c||decide (p[c.length]? =some 47))
def zn:aL:={Y:=Bs×Bs,pre:=fun y=>y.1.length<=100000/\y.2.length<=100000,args:=fun y=>[.str y.1, .str y.2],res:=fun y=> .bool (me y.1 y.2)}
theorem qyM:CO Kr zn:=bB (cfg:=fun(_:Bs×Bs)=>bL tP (fun _ _=>none)) bh (fun _=>rfl) (fun _=>vL) (n:=600) (by
 rintro⟨p,c⟩ ⟨h1,h2⟩;have h1:p.length<=100000:=h1;have h2:c.length<=100000:=h2;refine ax (fun h=>?_) fun h=>?_
 . have h:(p==c)=true:=h;have e:p=c:=Bv.1 h;subst e;refine⟨?_,trivial⟩;grind [me]
 have hne:p≠c:=by have h:(p==c)=false:=h;grind
 refine⟨(p,c),?_⟩
 repeat first|refine⟨rfl,?_⟩|refine⟨trivial,?_⟩
 refine⟨⟨h1,h2⟩,?_⟩;refine ax (fun h=>?_) fun h=>?_
 . have h:decide (p.take c.length=c)=false:=by have h:(!decide (p.take c.length=c))=true:=h;grind
   refine⟨?_,trivial⟩;grind [me]
 have h:decide (p.take c.length=c)=true:=by have h:(!decide (p.take c.length=c))=false:=h;grind
 have hlt:c.length<p.length:=by
   rw[Aa]at h;grind
 refine⟨(c,[47]),?_⟩
 repeat first|refine⟨rfl,?_⟩|refine⟨trivial,?_⟩
 refine⟨⟨by grind,by grind⟩,?_⟩;have hnl:decide (p.length=c.length)=false:=AQ (by omega);refine ax (fun s=>?_) fun s=>?_
 . have s:([47]:Bs).isSuffixOf c=true:=s;refine⟨?_,trivial⟩;grind [me]
 . have s:([47]:Bs).isSuffixOf c=false:=s
   (conv=>whnf)
   refine aj.2 ⟨p[c.length],by grind,?_⟩;refine⟨?_,trivial⟩;show(nB p[c.length]==47)=me p c
   unfold me;rw[h,s,hnl];rw[Ai hlt,BL,DR,DR,Az,Bv,Aa];exact⟨fun e=>by rw[l4 (a:=p[c.length]) (b:=47) (by rw[e];rfl)],fun e=>by rw[Df e];rfl⟩)
theorem Oc {c:Bs} (h:0<c.length):([47]:Bs).isSuffixOf c=(nB (c[c.length - 1]'(by omega))==47):=by
 rw[Az,Ej,Bv,DE];have e:c.drop (c.length - ([47]:Bs).length)=[c[c.length - 1]'(by omega)]:=by
  rw[show([47]:Bs).length=1 from rfl,Bj (by omega),show c.length - 1+1=c.length by omega,List.drop_length]
 rw[e];exact⟨fun h=>by rw[<-(List.cons.inj h).1];rfl,fun h=>by rw[l4 (a:=c[c.length - 1]'(by omega)) (b:=47) (by rw[h];rfl)]⟩
theorem qvK:CO Kd zn:=bB (cfg:=fun(_:Bs×Bs)=>bL bu (fun _ _=>none)) bh (fun _=>rfl) (fun _=>eX) (n:=600) (by
 rintro⟨p,c⟩ ⟨h1,h2⟩;have h1:p.length<=100000:=h1;have h2:c.length<=100000:=h2;refine ax (fun h=>?_) fun h=>?_
 . have h:aZ (Int.ofNat p.length) (Int.ofNat c.length)=true:=h;rw[bM,Aa]at h;simp only[Af]at h;refine⟨?_,trivial⟩;grind [me]
 have h:aZ (Int.ofNat p.length) (Int.ofNat c.length)=false:=h;rw[bM,Ah]at h;simp only[Af]at h;have hle:c.length<=p.length:=by omega
 (conv=>whnf)
 refine ae.2 ⟨by rw[Au];grind,?_⟩;refine ax (fun q=>?_) fun q=>?_
 . have q:(!(p.take c.length==c))=true:=q;refine⟨?_,trivial⟩;grind [me]
 have q:(!(p.take c.length==c))=false:=q;have q:decide (p.take c.length=c)=true:=by grind
 refine ax (fun e=>?_) fun e=>?_
 . have e:(Int.ofNat p.length==Int.ofNat c.length)=true:=e;have e:p.length=c.length:=Int.ofNat.inj (Bv.1 e);refine⟨?_,trivial⟩;grind [me]
 have e:(Int.ofNat p.length==Int.ofNat c.length)=false:=e;have hnl:p.length≠c.length:=fun h=>by rw[h]at e;grind
 have hlt:c.length<p.length:=by omega
 have last:(nB p[c.length]==47)=decide (p[c.length]? =some 47):=by
   rw[Ai hlt,Az,Bv,Aa];exact⟨fun e=>by rw[l4 (a:=p[c.length]) (b:=47) (by rw[e];rfl)],fun e=>by rw[Df e];rfl⟩
 have hnl':decide (p.length=c.length)=false:=AQ hnl;refine ax (fun z=>?_) fun z=>?_
 . have z:aZ 0 (Int.ofNat c.length)=true:=z;rw[bM,Aa]at z;simp only[Af]at z;have hz:0<c.length:=by omega
   (conv=>whnf)
   refine ae.2 ⟨by rw[fT];grind,?_⟩
   (conv=>whnf)
   refine ae.2 ⟨by rw[kt,Aa];grind,?_⟩
   (conv=>whnf)
   refine aj.2 ⟨c[c.length - 1]'(by omega),(show c[Int.toNat (Int.ofNat c.length - 1)]? =some (c[c.length - 1]'(by omega))from by rw[show Int.toNat (Int.ofNat c.length - 1)=c.length - 1 by grind];grind),?_⟩;refine ax (fun s=>?_) fun s=>?_
   . have s:(nB (c[c.length - 1]'(by omega))==47)=true:=s;rw[<-Oc hz]at s;refine⟨?_,trivial⟩;grind [me]
   . have s:(nB (c[c.length - 1]'(by omega))==47)=false:=s;rw[<-Oc hz]at s
     (conv=>whnf)
     refine aj.2 ⟨p[c.length],by grind,?_⟩;refine⟨?_,trivial⟩;grind [nB,me]
 . have z:aZ 0 (Int.ofNat c.length)=false:=z;rw[bM,Ah]at z;simp only[Af]at z;have hz:c=[]:=Ay (by omega)
   (conv=>whnf)
   refine aj.2 ⟨p[c.length],by grind,?_⟩;refine⟨?_,trivial⟩;grind [nB,me])
end
end
section
theorem qvt {s:Bs} (h:dq s=true):s.length<=256:=by
 grind [dq]
def lM (h d:Bs):Bool:=fG h&&fG d&&(decide (h=d)||(dq h&&(46::d:Bs).isSuffixOf h))
section
variable [Inhabited aK]
theorem X5 {s:Bs} (h:gS s=true):dq s=false:=by
 grind [gS,FK,L5]
def Jk:aL:={Y:=Bs,pre:=fun y=>y.length<=100000,args:=fun y=>[.str y],res:=fun y=> .bool (fG y)}
theorem RB:CO JS Jk:=bB (cfg:=fun(_:Bs)=>bL tP (fun _ _=>none)) bh (fun _=>rfl) (fun _=>vL) (n:=600) (by
 intro (s:Bs) (hs:s.length<=100000);refine⟨s,?_⟩
 repeat first|refine⟨rfl,?_⟩|refine⟨trivial,?_⟩
 refine⟨hs,?_⟩;refine ax (fun h=>?_) fun h=>?_
 . have h:dq s=true:=h;have hl:=qvt h;refine⟨?_,trivial⟩;grind [fG,fg]
 have h:dq s=false:=h;refine⟨s,?_⟩
 repeat first|refine⟨rfl,?_⟩|refine⟨trivial,?_⟩
 refine⟨hs,?_⟩;refine ax (fun a=>?_) fun a=>?_
 . have a:gS s=true:=a;refine⟨?_,trivial⟩;grind [fG]
 . have a:gS s=false:=a;refine⟨?_,trivial⟩;grind [fG])
noncomputable def zL (f:FuncId):Option aL:=bif Nat.beq f JS then some Jk else bif Nat.beq f Kr then some zn else bif Nat.beq f Kd then some zn else tP f
theorem FW:∀f C,zL f=some C->CO f C:=bg RB (bg qyM (bg qvK vL))
def zl:aL:={Y:=Bs×Bs,pre:=fun y=>y.1.length<=100000/\y.2.length<=100000,args:=fun y=>[.str y.1, .str y.2],res:=fun y=> .bool (lM y.1 y.2)}
theorem NZ {h:Bs} (hc:fG h=true):(!gS h)=dq h:=by
 grind [fG,X5]
theorem qyD:CO JP zl:=bB (cfg:=fun(_:Bs×Bs)=>bL zL (fun _ _=>none)) bh (fun _=>rfl) (fun _=>FW) (n:=600) (by
 rintro⟨h,d⟩ ⟨h1,h2⟩;have h1:h.length<=100000:=h1;have h2:d.length<=100000:=h2;refine⟨h,?_⟩
 repeat first|refine⟨rfl,?_⟩|refine⟨trivial,?_⟩
 refine⟨h1,?_⟩;refine ax (fun a=>?_) fun a=>?_
 . have a:(!fG h)=true:=a;have a:fG h=false:=by grind
   refine⟨?_,trivial⟩;grind [lM]
 have a:(!fG h)=false:=a;have a:fG h=true:=by grind
 refine⟨d,?_⟩
 repeat first|refine⟨rfl,?_⟩|refine⟨trivial,?_⟩
 refine⟨h2,?_⟩;refine ax (fun b=>?_) fun b=>?_
 . have b:(!fG d)=true:=b;have b:fG d=false:=by grind
   refine⟨?_,trivial⟩;grind [lM]
 have b:(!fG d)=false:=b;have b:fG d=true:=by grind
 refine ax (fun e=>?_) fun e=>?_
 . have e:(h==d)=true:=e;refine⟨?_,trivial⟩;grind [lM]
 have e:(h==d)=false:=e;have e:decide (h=d)=false:=AQ (Bp.1 e);refine⟨h,?_⟩
 repeat first|refine⟨rfl,?_⟩|refine⟨trivial,?_⟩
 refine⟨h1,?_⟩;refine ax (fun n=>?_) fun n=>?_
 . have n:(!gS h)=true:=n;rw[NZ a]at n;have hd:(46::d:Bs).length<=1000000:=by grind
   (conv=>whnf)
   refine ae.2 ⟨by grind [Nat.ble_eq],?_⟩;refine⟨(h,46::d),?_⟩
   repeat first|refine⟨rfl,?_⟩|refine⟨trivial,?_⟩
   refine⟨⟨by grind,hd⟩,?_⟩;refine⟨?_,trivial⟩;grind [lM]
 . have n:(!gS h)=false:=n;rw[NZ a]at n;refine⟨?_,trivial⟩;grind [lM])
theorem Ob {h d:Bs}:(46::d:Bs).isSuffixOf h=true↔∃hl:d.length<h.length,h.drop (h.length - d.length)=d/\nB (h[h.length - d.length - 1]'(by omega))=46:=by
 rw[Ej,DE];constructor
 . intro e;have hl:d.length<h.length:=by
     have:=Aj List.length e;rw[AW,Bt]at this;omega
   rw[show h.length - (46::d:Bs).length=h.length - d.length - 1 by grind,Bj (by omega)]at e;refine⟨hl,?_,?_⟩
   . rw[show h.length - d.length=h.length - d.length - 1+1 by omega];grind
   . rw[<-(List.cons.inj e).1];rfl
 . rintro⟨hl,h1,h2⟩;rw[show h.length - (46::d:Bs).length=h.length - d.length - 1 by grind,Bj (by omega),show h.length - d.length - 1+1=h.length - d.length by omega,h1];rw[l4 (a:=h[h.length - d.length - 1]'(by omega)) (b:=46) (by rw[h2];rfl)]
theorem qvF:CO Kb zl:=bB (cfg:=fun(_:Bs×Bs)=>bL zL (fun _ _=>none)) bh (fun _=>rfl) (fun _=>FW) (n:=600) (by
 rintro⟨h,d⟩ ⟨h1,h2⟩;have h1:h.length<=100000:=h1;have h2:d.length<=100000:=h2;refine⟨h,?_⟩
 repeat first|refine⟨rfl,?_⟩|refine⟨trivial,?_⟩
 refine ax (fun a=>?_) fun a=>?_
 . have a:(!fG h)=true:=a;have a:fG h=false:=by grind
   refine⟨?_,trivial⟩;grind [lM]
 have a:(!fG h)=false:=a;have a:fG h=true:=by grind
 refine⟨d,?_⟩
 repeat first|refine⟨rfl,?_⟩|refine⟨trivial,?_⟩
 refine ax (fun b=>?_) fun b=>?_
 . have b:(!fG d)=true:=b;have b:fG d=false:=by grind
   refine⟨?_,trivial⟩;grind [lM]
 have b:(!fG d)=false:=b;have b:fG d=true:=by grind
 (conv=>whnf)
 refine ae.2 ⟨by grind [fT],?_⟩;refine ax (fun e=>?_) fun e=>?_
 . have e:(h==d)=true:=e;refine⟨?_,trivial⟩;grind [lM]
 have e:(h==d)=false:=e;have e:decide (h=d)=false:=AQ (Bp.1 e);have no:∀x:Bool,(x=true->(46::d:Bs).isSuffixOf h=true)->((46::d:Bs).isSuffixOf h=true->dq h=true->x=true)->dq h=true->x=lM h d:=fun x p q n=>by
   grind [lM]
 refine⟨h,?_⟩
 repeat first|refine⟨rfl,?_⟩|refine⟨trivial,?_⟩
 refine⟨h1,?_⟩;refine ax (fun n=>?_) fun n=>?_;rotate_left
 . have n:dq h=false:=n;refine⟨?_,trivial⟩;grind [lM]
 have n:dq h=true:=n;refine ax (fun z=>?_) fun z=>?_;rotate_left
 . have z:aZ 0 (Int.ofNat h.length - Int.ofNat d.length)=false:=z;rw[bM,Ah]at z;simp only[Af]at z;refine⟨no false (fun h=>by cases h) (fun hh _=>?_) n,trivial⟩;grind
 have z:aZ 0 (Int.ofNat h.length - Int.ofNat d.length)=true:=z;rw[bM,Aa]at z;simp only[Af]at z;have hl:d.length<h.length:=by omega
 have en:(Int.ofNat h.length - Int.ofNat d.length)=((h.length - d.length:Nat):Int):=by grind
 (conv=>whnf)
 refine ae.2 ⟨by rw[fT];grind,?_⟩
 (conv=>whnf)
 refine ae.2 ⟨by rw[kt,Aa];grind,?_⟩
 (conv=>whnf)
 refine aj.2 ⟨h[h.length - d.length - 1]'(by omega),(show h[Int.toNat (Int.ofNat h.length - Int.ofNat d.length - 1)]? =some (h[h.length - d.length - 1]'(by omega))from by rw[show Int.toNat (Int.ofNat h.length - Int.ofNat d.length - 1)=h.length - d.length - 1 by omega];grind),?_⟩;refine ax (fun q=>?_) fun q=>?_;rotate_left
 . have q:(nB (h[h.length - d.length - 1]'(by omega))==46)=false:=q;refine⟨no false (fun h=>by cases h) (fun hh _=>?_) n,trivial⟩;grind [Ob]
 have q:(nB (h[h.length - d.length - 1]'(by omega))==46)=true:=q
 (conv=>whnf)
 refine ae.2 ⟨by rw[kt,Aa];grind,?_⟩
 (conv=>whnf)
 refine ae.2 ⟨by rw[Au];grind,?_⟩;refine⟨?_,trivial⟩;grind [lM,Ob])
end
end
section
def nf (x:ab):Prop:=x.key.domain.length<=100000/\x.key.path.length<=100000
def jw (x:ab) (r:bG) (now:Int):Bool:=(decide (r.host=x.key.domain)||(!x.aa.aD&&lM r.host x.key.domain))&& !fI x.aa now&&me r.path x.key.path&&(!x.aa.aM||r.aM)&&(!x.aa.aF|| !r.ep)
section
variable [Inhabited aK]
noncomputable def HV (f:FuncId):Option aL:=bif Nat.beq f JP then some zl else bif Nat.beq f Kb then some zl else bif Nat.beq f pS then some qx else bif Nat.beq f p7 then some qx else zL f
theorem Nx:∀f C,HV f=some C->CO f C:=bg qyD (bg qvF (bg P8 (bg Pc FW)))
def wk:aL:={Y:=ab×bG×Int,pre:=fun y=>nf y.1/\jF y.2.1,args:=fun y=>[.agg y.1.enc, .agg y.2.1.enc,i64 y.2.2],res:=fun y=> .bool (jw y.1 y.2.1 y.2.2)}
theorem qyB:CO J6 wk:=bB (cfg:=fun(_:ab×bG×Int)=>bL HV (fun _ _=>none)) bh (fun _=>rfl) (fun _=>Nx) (n:=900) (by
 rintro⟨⟨⟨kn,kd,kp⟩,⟨v,ho,se,ht,pe,ex,cr,ac⟩⟩,⟨H,P,s,sc⟩,now⟩ ⟨⟨h1,h2⟩,⟨h3,h4⟩⟩;have h1:kd.length<=100000:=h1;have h2:kp.length<=100000:=h2;have h3:H.length<=5000:=h3;have h4:P.length<=5000:=h4
 (conv=>whnf)
 repeat' (first
  |exact trivial
  |((conv=>whnf);refine ax (fun _=>?_) fun _=>?_)
  |((conv=>whnf);refine⟨((H,kd):Bs×Bs),⟨rfl,⟨rfl,⟨⟨by show H.length<=100000;omega,h1⟩,?_⟩⟩⟩⟩)
  |((conv=>whnf);refine⟨((P,kp):Bs×Bs),⟨rfl,⟨rfl,⟨⟨by show P.length<=100000;omega,h2⟩,?_⟩⟩⟩⟩)
  |((conv=>whnf);refine⟨((⟨v,ho,se,ht,pe,ex,cr,ac⟩,now):cS×Int),?_⟩;repeat first|refine⟨rfl,?_⟩|refine⟨trivial,?_⟩)
  |((conv=>whnf);refine And.intro ?_ trivial))
 all_goals grind [jw])
theorem O9:CO Ie wk:=bB (cfg:=fun(_:ab×bG×Int)=>bL HV (fun _ _=>none)) bh (fun _=>rfl) (fun _=>Nx) (n:=900) (by
 rintro⟨⟨⟨kn,kd,kp⟩,⟨v,ho,se,ht,pe,ex,cr,ac⟩⟩,⟨H,P,s,sc⟩,now⟩ ⟨⟨h1,h2⟩,⟨h3,h4⟩⟩;have h1:kd.length<=100000:=h1;have h2:kp.length<=100000:=h2;have h3:H.length<=5000:=h3;have h4:P.length<=5000:=h4
 (conv=>whnf)
 repeat' (first
  |exact trivial
  |((conv=>whnf);refine ax (fun _=>?_) fun _=>?_)
  |((conv=>whnf);refine⟨((H,kd):Bs×Bs),⟨rfl,⟨rfl,⟨⟨by show H.length<=100000;omega,h1⟩,?_⟩⟩⟩⟩)
  |((conv=>whnf);refine⟨((P,kp):Bs×Bs),⟨rfl,⟨rfl,⟨⟨by show P.length<=100000;omega,h2⟩,?_⟩⟩⟩⟩)
  |((conv=>whnf);refine⟨((⟨v,ho,se,ht,pe,ex,cr,ac⟩,now):cS×Int),?_⟩;repeat first|refine⟨rfl,?_⟩|refine⟨trivial,?_⟩)
  |((conv=>whnf);refine And.intro ?_ trivial))
 all_goals grind [jw])
end
end
end Go.Proofs
namespace Go.Sym
section
variable {α:Type} (le:α->α->Prop)
def Ord (f:Nat->α) (a b:Nat):Prop:=∀i j,a<=i->i<=j->j<b->le (f i) (f j)
variable {le}
theorem Ord.congr {f g:Nat->α} {a b:Nat} (h:Ord le f a b) (e:∀i,a<=i->i<b->g i=f i):Ord le g a b:=fun i j h1 h2 h3=>by rw[e i h1 (by omega),e j (by omega) h3];exact h i j h1 h2 h3
theorem Ord.join {f:Nat->α} {a m b:Nat} (h1:Ord le f a m) (h2:Ord le f m b) (hc:∀i j,a<=i->i<m->m<=j->j<b->le (f i) (f j)):Ord le f a b:=fun i j k1 k2 k3=>by
 by_cases p:j<m
 . exact h1 i j k1 k2 p
 . by_cases q:i<m
   . grind
   . exact h2 i j (by omega) k2 k3
def gi (f:Nat->α) (s m e:Nat) (i:Nat):α:=if i<s then f i else if i<s+(e - m)then f (m+(i - s))else if i<e then f (s+(i - (s+(e - m))))else f i
theorem PC (tr:∀x y z,le x y->le y z->le x z) {f:Nat->α} {a m b s e cq:Nat} (h1:Ord le f a m) (h2:Ord le f m b) (has:a<=s) (hsm:s<=m) (hme:m<=e) (heb:e<=b) (hse:s+(e - m)=cq)
   (hL:a<s->e<b->le (f (s - 1)) (f e)) (hR:s<m->m<e->le (f (e - 1)) (f s)):
   Ord le (gi f s m e) a s/\Ord le (gi f s m e) s cq/\Ord le (gi f s m e) cq e/\Ord le (gi f s m e) e b/\ ∀i j,a<=i->i<cq->cq<=j->j<b->le (gi f s m e i) (gi f s m e j):=by
 have r1:∀i,i<s->gi f s m e i=f i:=fun i h=>by grind [gi]
 have r2:∀i,s<=i->i<cq->gi f s m e i=f (m+(i - s)):=fun i h h'=>by grind [gi]
 have r3:∀i,cq<=i->i<e->gi f s m e i=f (s+(i - cq)):=fun i h h'=>by grind [gi]
 have r4:∀i,e<=i->gi f s m e i=f i:=fun i h=>by unfold gi;rw[Al (by omega),Al (by omega),Al (by omega)]
 refine⟨fun i j k1 k2 k3=>?_,fun i j k1 k2 k3=>?_,fun i j k1 k2 k3=>?_,fun i j k1 k2 k3=>?_,fun i j k1 k2 k3 k4=>?_⟩
 . rw[r1 i (by omega),r1 j k3];exact h1 i j k1 k2 (by omega)
 . rw[r2 i k1 (by omega),r2 j (by omega) k3];exact h2 _ _ (by omega) (by omega) (by omega)
 . rw[r3 i k1 (by omega),r3 j (by omega) k3];exact h1 _ _ (by omega) (by omega) (by omega)
 . rw[r4 i k1,r4 j (by omega)];exact h2 i j (by omega) k2 k3
 . by_cases p:i<s
   . rw[r1 i p];by_cases q:j<e
     . rw[r3 j k3 q];exact h1 _ _ k1 (by omega) (by omega)
     . rw[r4 j (by omega)];exact tr _ _ _ (h1 i (s - 1) k1 (by omega) (by omega)) (tr _ _ _ (hL (by omega) (by omega)) (h2 e j (by omega) (by omega) k4))
   . rw[r2 i (by omega) k2];by_cases q:j<e
     . rw[r3 j k3 q];exact tr _ _ _ (h2 (m+(i - s)) (e - 1) (by omega) (by omega) (by omega)) (tr _ _ _ (hR (by omega) (by omega)) (h1 s _ has (by omega) (by omega)))
     . rw[r4 j (by omega)];exact h2 _ _ (by omega) (by omega) k4
def mf (f:Nat->α) (x y n i:Nat):α:=if x<=i/\i<x+n then f (y+(i - x))else if y<=i/\i<y+n then f (x+(i - y))else f i
theorem ZY (f:Nat->α) {i j m:Nat} (hm:i<=m) (h:j<i) (h0:0<j):gi f (m - i) m (m+j)=gi (mf f (m - i) m j) (m - (i - j)) m (m+j):=by
 funext k
 grind [gi,mf]
theorem ZX (f:Nat->α) {i j m:Nat} (hm:i<=m) (h:i<j) (h0:0<i):gi f (m - i) m (m+j)=gi (mf f (m - i) (m+j - i) i) (m - i) m (m+(j - i)):=by
 funext k
 grind [gi,mf]
theorem ZZ (f:Nat->α) {i m:Nat} (hm:i<=m):gi f (m - i) m (m+i)=mf f (m - i) m i:=by
 funext k
 grind [gi,mf]
def lQ (f:Nat->α) (a i k:Nat):α:=if a<=k/\k+1<i then f (k+1)else if k+1=i/\a<=k then f a else f k
theorem YJ {le:α->α->Prop} (rf:∀x,le x x) (tr:∀x y z,le x y->le y z->le x z) {f:Nat->α} {a b i:Nat} (h2:Ord le f (a+1) b) (hi:a+1<=i) (hib:i<=b)
   (hl:a+1<i->le (f (i - 1)) (f a)) (hr:i<b->le (f a) (f i)):Ord le (lQ f a i) a b:=by
 have r1:∀k,a<=k->k+1<i->lQ f a i k=f (k+1):=fun k h h'=>by grind [lQ]
 have r2:lQ f a i (i - 1)=f a:=by grind [lQ]
 have r3:∀k,i<=k->lQ f a i k=f k:=fun k h=>by grind [lQ]
 intro p q h h' h3;by_cases p1:p+1<i
 . rw[r1 p h p1];by_cases q1:q+1<i
   . rw[r1 q (by omega) q1];exact h2 _ _ (by omega) (by omega) (by omega)
   . by_cases q2:q=i - 1
     . subst q2;rw[r2];exact tr _ _ _ (h2 (p+1) (i - 1) (by omega) (by omega) (by omega)) (hl (by omega))
     . rw[r3 q (by omega)];exact h2 _ _ (by omega) (by omega) h3
 . by_cases p2:p=i - 1
   . subst p2;rw[r2];by_cases q2:q=i - 1
     . grind
     . rw[r3 q (by omega)];exact tr _ _ _ (hr (by omega)) (h2 i q (by omega) (by omega) h3)
   . rw[r3 p (by omega),r3 q (by omega)];exact h2 _ _ (by omega) h' h3
def lP (f:Nat->α) (i m k:Nat):α:=if i<k/\k<=m then f (k - 1)else if k=i then f m else f k
theorem YI {le:α->α->Prop} (rf:∀x,le x x) (tr:∀x y z,le x y->le y z->le x z) {f:Nat->α} {a m i:Nat} (h1:Ord le f a m) (hi:a<=i) (him:i<=m)
   (hl:a<i->le (f (i - 1)) (f m)) (hr:i<m->le (f m) (f i)):Ord le (lP f i m) a (m+1):=by
 have r1:∀k,i<k->k<=m->lP f i m k=f (k - 1):=fun k h h'=>by grind [lP]
 have r2:lP f i m i=f m:=by grind [lP]
 have r3:∀k,k<i->lP f i m k=f k:=fun k h=>by grind [lP]
 intro p q h h' h3;by_cases p1:p<i
 . rw[r3 p p1];by_cases q1:q<i
   . rw[r3 q q1];exact h1 _ _ h h' (by omega)
   . by_cases q2:q=i
     . subst q2;rw[r2];exact tr _ _ _ (h1 p (q - 1) h (by omega) (by omega)) (hl (by omega))
     . rw[r1 q (by omega) (by omega)];exact h1 _ _ h (by omega) (by omega)
 . by_cases p2:p=i
   . subst p2;rw[r2];by_cases q2:q=p
     . grind
     . rw[r1 q (by omega) (by omega)];exact tr _ _ _ (hr (by omega)) (h1 p (q - 1) hi (by omega) (by omega))
   . rw[r1 p (by omega) (by omega),r1 q (by omega) (by omega)];exact h1 _ _ (by omega) (by omega) (by omega)
end
end Go.Sym
namespace Go.Sym
open Go.Sort
section
variable {α:Type} [Inhabited α] {lt:α->α->Bool}
def lj (lt:α->α->Bool) (x y:α):Prop:=lt y x=false
theorem FI (h:SWO lt) (x:α):lj lt x x:=h.irrefl x
theorem xJ (h:SWO lt) (x y z:α) (h1:lj lt x y) (h2:lj lt y z):lj lt x z:=h.ntrans _ _ _ h2 h1
theorem yU (h:SWO lt) {x y:α} (h1:lt x y=true):lj lt x y:=by
 unfold lj
 cases hh:lt y x with
 |false=>rfl
 |true=>have:=h.trans _ _ _ h1 hh;rw[h.irrefl]at this;grind
theorem kR (h:SWO lt) {d:Array α} {a b:Nat}:SortedIn lt a b d↔Ord (lj lt) (fun i=>d[i]!) a b:=by
 constructor
 . intro hs i j h1 h2 h3;by_cases e:i=j
   . grind [FI]
   . exact hs i j h1 (by omega) h3
 . intro hs i j h1 h2 h3;exact hs i j h1 (by omega) h3
theorem Gd (f:Nat->α) {s m e:Nat} (h1:s<=m) (h2:m<=e) (h:¬(s<m/\m<e)):gi f s m e=f:=by
 funext k
 grind [gi]
theorem rG (hS:SWO lt) {d d1:Array α} {a m b s e cq:Nat} (h1:SortedIn lt a m d) (h2:SortedIn lt m b d) (has:a<=s) (hsm:s<=m) (hme:m<=e) (heb:e<=b) (hse:s+(e - m)=cq)
  (hL:a<s->e<b->lt d[e]! d[s - 1]! =false) (hR:s<m->m<e->lt d[e - 1]! d[s]! =true) (r1:∀i,d1[i]! =gi (fun i=>d[i]!) s m e i):
  SortedIn lt a s d1/\SortedIn lt s cq d1/\SortedIn lt cq e d1/\SortedIn lt e b d1:=by
 have hf:(fun i=>d1[i]!)=gi (fun i=>d[i]!) s m e:=funext r1;obtain⟨o1,o2,o3,o4,_⟩:=PC (xJ hS) ((kR hS).1 h1) ((kR hS).1 h2) has hsm hme heb hse hL (fun x y=>yU hS (hR x y));rw[<-hf]at o1 o2 o3 o4;grind [kR]
theorem lJ {d d':Array α} {a b x y:Nat} (hp:PermIn a b d d') (hx:b<=x) (h:SortedIn lt x y d):SortedIn lt x y d':=fun i j h1 h2 h3=>by
 rw[hp.2.1 i (.inr (by omega)),hp.2.1 j (.inr (by omega))];exact h i j h1 h2 h3
theorem qi {d:Array α} {a s b:Nat} (h1:SortedIn lt a s d) (h2:SortedIn lt s b d) (hs:a<=s) (hb:s<=b) (h:¬(a<s/\s<b)):SortedIn lt a b d:=by
 grind
theorem merged (hS:SWO lt) {d d1 d2 d3:Array α} {a m b s e cq:Nat} (hb:b<=d.size) (h1:SortedIn lt a m d) (h2:SortedIn lt m b d) (has:a<=s) (hsm:s<=m) (hme:m<=e) (heb:e<=b) (hse:s+(e - m)=cq)
  (hL:a<s->e<b->lt d[e]! d[s - 1]! =false) (hR:s<m->m<e->lt d[e - 1]! d[s]! =true)
  (p1:PermIn a b d d1) (r1:∀i,d1[i]! =gi (fun i=>d[i]!) s m e i) (ham:a<=cq) (hmb:cq<=b)
  (p2:PermIn a cq d1 d2) (q2:(SortedIn lt a s d1->SortedIn lt s cq d1->SortedIn lt a cq d2)) (p3:PermIn cq b d2 d3) (q3:SortedIn lt cq e d2->SortedIn lt e b d2->SortedIn lt cq b d3):
  PermIn a b d d3/\SortedIn lt a b d3:=by
 have hf:(fun i=>d1[i]!)=gi (fun i=>d[i]!) s m e:=funext r1;obtain⟨o1,o2,o3,o4,o5⟩:=PC (xJ hS) ((kR hS).1 h1) ((kR hS).1 h2) has hsm hme heb hse hL (fun x y=>yU hS (hR x y));rw[<-hf]at o1 o2 o3 o4 o5;have s2:=q2 ((kR hS).2 o1) ((kR hS).2 o2);have hz1:d1.size=d.size:=p1.1;have hz2:d2.size=d1.size:=p2.1;have hz3:d3.size=d2.size:=p3.1;have e2:∀i,cq<=i->d2[i]! =d1[i]! :=fun i h=>p2.2.1 i (.inr h)
 have o3':SortedIn lt cq e d2:=(kR hS).2 (o3.congr fun i h _=>e2 i h);have o4':SortedIn lt e b d2:=(kR hS).2 (o4.congr fun i h _=>e2 i (by omega));have s3:=q3 o3' o4';have e3:∀i,i<cq->d3[i]! =d2[i]! :=fun i h=>p3.2.1 i (.inl h)
 refine⟨permIn_trans _ _ _ _ _ p1 (permIn_trans _ _ _ _ _ (permIn_mono _ _ _ _ a b (Ac _) hmb (by omega) p2) (permIn_mono _ _ _ _ a b ham (Ac _) (by omega) p3)),?_⟩;refine(kR hS).2 (Ord.join (m:=cq) (((kR hS).1 s2).congr fun i _ h=>e3 i h) ((kR hS).1 s3) ?_);intro i j k1 k2 k3 k4;show lt d3[j]! d3[i]! =false
 rw[e3 i k2];have hl:∀y,(∀i,a<=i->i<cq->lt y d1[i]! =false)->∀i,a<=i->i<cq->lt y d2[i]! =false:=fun y hy=>permIn_all d1 d2 a cq (fun x=>lt y x=false) (by omega) p2 hy
 have hr:∀x,(∀j,cq<=j->j<b->lt d2[j]! x=false)->∀j,cq<=j->j<b->lt d3[j]! x=false:=fun x hx=>permIn_all d2 d3 cq b (fun y=>lt y x=false) (by omega) p3 hx
 refine hr _ (fun j j1 j2=>?_) j k3 k4;rw[e2 j j1];exact hl _ (fun i i1 i2=>o5 i j i1 i2 j1 j2) i k1 k2
theorem G0 (d:Array α) {i j:Nat} (hi:i<d.size) (hj:j<d.size) (k:Nat):(swp d i j)[k]! =if k=j then d[i]! else if k=i then d[j]! else d[k]! :=swp_get d hi hj k
theorem XH (d dk:Array α) {a k:Nat} (hz:dk.size=d.size) (hak:a<=k) (hk:k+1<d.size) (h:∀i,dk[i]! =lQ (fun i=>d[i]!) a (k+1) i):∀i,(swp dk k (k+1))[i]! =lQ (fun i=>d[i]!) a (k+2) i:=by
 grind [G0,lQ]
theorem XF (d dk:Array α) {m k:Nat} (hz:dk.size=d.size) (hk1:k+1<=m) (hk:m<d.size) (h:∀i,dk[i]! =lP (fun i=>d[i]!) (k+1) m i):∀i,(swp dk (k+1) k)[i]! =lP (fun i=>d[i]!) k m i:=by
 grind [G0,lP]
theorem XG (f:Nat->α) (a i:Nat):lQ f a (a+1) i=f i:=by
 grind [lQ]
theorem XE (f:Nat->α) (m i:Nat):lP f m m i=f i:=by
 grind [lP]
theorem Zd (hS:SWO lt) {d d':Array α} {a b i:Nat} (h2:SortedIn lt (a+1) b d) (hi:a+1<=i) (hib:i<=b) (hl:a+1<i->lt d[i - 1]! d[a]! =true) (hr:i<b->lt d[i]! d[a]! =false) (e:∀k,d'[k]! =lQ (fun i=>d[i]!) a i k):SortedIn lt a b d':=
 (kR hS).2 ((YJ (FI hS) (xJ hS) ((kR hS).1 h2) hi hib (fun h=>yU hS (hl h)) hr).congr fun k _ _=>e k)
theorem Zc (hS:SWO lt) {d d':Array α} {a m i:Nat} (h1:SortedIn lt a m d) (hi:a<=i) (him:i<=m) (hl:a<i->lt d[m]! d[i - 1]! =false) (hr:i<m->lt d[m]! d[i]! =true) (e:∀k,d'[k]! =lP (fun i=>d[i]!) i m k):SortedIn lt a (m+1) d':=
 (kR hS).2 ((YI (FI hS) (xJ hS) ((kR hS).1 h1) hi him hl (fun h=>yU hS (hr h))).congr fun k _ _=>e k)
theorem Xd (d dk:Array α) {x y i:Nat} (hz:dk.size=d.size) (hxy:x+i<y) (hy:y+i<d.size) (h:∀k,dk[k]! =mf (fun i=>d[i]!) x y i k):∀k,(swp dk (x+i) (y+i))[k]! =mf (fun i=>d[i]!) x y (i+1) k:=by
 grind [G0,mf]
theorem Xe (f:Nat->α) (x y k:Nat):mf f x y 0 k=f k:=by
 grind [mf]
theorem iZ {l l':List α} (hp:l.Perm l') (hs:∀x∈l,∀y∈l,lt x y=false->lt y x=false->x=y) (h1:l.Pairwise fun x y=>lt y x=false) (h2:l'.Pairwise fun x y=>lt y x=false):l=l':=by
 grind [List.Perm.eq_of_pairwise]
end
end Go.Sym
namespace Go.Proofs
open Go Go.Am Go.RowKit Go.Sy Go.Sort
section
def kh (a b:ab):Int:=
 let n:=cN (Int.ofNat b.key.path.length) (Int.ofNat a.key.path.length)
 if n≠0 then n else let c:=cN a.aa.ai b.aa.ai;if c≠0 then c else l7 a.key b.key
def gu (a b:ab):Bool:=decide (kh a b<0)
theorem Mg (a b:ab):gu a b=if a.key.path.length≠b.key.path.length then decide (b.key.path.length<a.key.path.length)else if a.aa.ai≠b.aa.ai then decide (a.aa.ai<b.aa.ai)else ff a.key b.key:=by
 unfold gu kh;have e1:=xW (Int.ofNat b.key.path.length) (Int.ofNat a.key.path.length);have e2:=xW a.aa.ai b.aa.ai;have e3:=yp (Int.ofNat b.key.path.length) (Int.ofNat a.key.path.length);have e4:=yp a.aa.ai b.aa.ai;generalize cN (Int.ofNat b.key.path.length) (Int.ofNat a.key.path.length)=n at e1 e3⊢
 generalize cN a.aa.ai b.aa.ai=m at e2 e4⊢
 simp only[Af]at e1 e3;by_cases h1:a.key.path.length=b.key.path.length
 . have h5:n=0:=e1.2 (by omega);simp only[h1,h5,Ec,D2,Bc];by_cases h2:a.aa.ai=b.aa.ai
   . have h6:m=0:=e2.2 h2;simp only[h2,h6,D2,Bc];rfl
   grind
 grind
theorem xE (a b:ab):gu a b=true↔b.key.path.length<a.key.path.length\/(a.key.path.length=b.key.path.length/\(a.aa.ai<b.aa.ai\/(a.aa.ai=b.aa.ai/\ff a.key b.key=true))):=by
 rw[Mg];grind
theorem Xt {a b c:aG} (h1:ff a b=false) (h2:ff b c=false):ff a c=false:=by
 rw[Ar];grind [sQ,qj]
theorem fq:SWO (Go.Proofs.ltOf kh) where
 irrefl x:=by
  show gu x x=false
  rw[Ar,Ec,xE];grind [rh]
 trans x y z h1 h2:=by
  have h1:gu x y=true:=h1;have h2:gu y z=true:=h2;show gu x z=true
  rw[xE]at*;grind [qj]
 ntrans x y z h1 h2:=by
  have h1:gu x y=false:=h1;have h2:gu y z=false:=h2;show gu x z=false
  rw[Ar,Ec,xE]at*;have k:ff x.key y.key=false->ff y.key z.key=false->ff x.key z.key=false:=Xt;grind
theorem Ms {x y:ab} (h1:gu x y=false) (h2:gu y x=false):x.key=y.key:=by
 rw[Ar,Ec,xE]at*;have e1:x.key.path.length=y.key.path.length:=by
  omega
 have e2:x.aa.ai=y.aa.ai:=by
  omega
 grind [sQ]
def fO (x:ab) (L:List ab):Nat->Nat
 |0=>0
 |k+1=>if gu x ((L[k]?).getD iR)then fO x L k else k+1
theorem Gv (x:ab) (L:List ab):∀k,fO x L k<=k
 |0=>Ac _
 |k+1=>by
  unfold fO;split
  . exact Av (Gv x L k) (Ed k)
  . exact Ac _
def kH (L:List ab) (x:ab):Nat:=fO x L L.length
def ic (L:List ab) (x:ab):List ab:=L.take (kH L x)++x::L.drop (kH L x)
def bS (l:List ab):List ab:=l.foldl ic []
theorem qva (L:List ab) (x:ab):(ic L x).length=L.length+1:=by
 have:=Gv x L L.length;grind [ic]
theorem Na:∀(l a:List ab),(l.foldl ic a).length=a.length+l.length
 |[],a=>by simp
 |x::l,a=>by rw[Bo,Na l,qva,AW];omega
theorem Yu (L:List ab) (x:ab):(ic L x).Perm (x::L):=by
 grind [ic,List.take_append_drop]
theorem Fh:∀(l a:List ab),(l.foldl ic a).Perm (l++a)
 |[],a=>El _
 |x::l,a=>by
  rw[Bo];refine(Fh l _).trans ?_;exact(ED l (Yu a x)).trans List.perm_middle
theorem LV (x:ab) (L:List ab):∀(k j:Nat),fO x L k<=j->j<k->gu x ((L[j]?).getD iR)=true
 |0,j,_,h=>absurd h (A9 _)
 |k+1,j,h1,h2=>by
  unfold fO at h1;split at h1
  . rename_i hb;by_cases e:j=k
    . subst e;exact hb
    . exact LV x L k j h1 (by omega)
  . omega
theorem MR (x:ab) (L:List ab):∀(k:Nat),fO x L k≠0->gu x ((L[fO x L k - 1]?).getD iR)=false
 |0,h=>absurd rfl h
 |k+1,h=>by
  unfold fO at h⊢;split
  . rename_i hb;rw[An hb]at h;exact MR x L k h
  . rename_i hb;simpa using hb
theorem Wq {L:List ab} {x:ab} (h:L.Pairwise fun a b=>gu b a=false):(ic L x).Pairwise fun a b=>gu b a=false:=by
 have hle:=Gv x L L.length;have hlt:∀{a b:ab},gu a b=true->gu b a=false:=fun{a b} h=>by
   rw[Ar];intro h2;have:=fq.trans a b a h h2;rw[fq.irrefl]at this;grind
 unfold ic kH;rw[Dp];refine⟨h.sublist (List.take_sublist _ _),Bl.2 ⟨fun y hy=>?_,h.sublist (List.drop_sublist _ _)⟩,fun a ha b hb=>?_⟩
 . obtain⟨j,hj,rfl⟩:=AK hy;rw[Bt]at hj;rw[B0];have:=LV x L L.length (fO x L L.length+j) (by omega) (by omega);rw[Ai (by omega)]at this;grind
 . obtain⟨i,hi,rfl⟩:=AK ha;rw[BT]at hi;rw[D4];have hx:gu x (L[i]'(by omega))=false:=by
     have hs:=MR x L L.length (by omega);rw[Ai (by omega),Bf]at hs;by_cases e:i=fO x L L.length - 1
     . grind
     . have:=AJ.1 h i (fO x L L.length - 1) (by omega) (by omega) (by omega);exact fq.ntrans _ _ _ hs this
   rcases Ap.1 hb with rfl|hb
   . exact hx
   grind [List.getElem_of_mem,List.pairwise_iff_getElem]
theorem EO:∀(l a:List ab),(a.Pairwise fun a b=>gu b a=false)->(l.foldl ic a).Pairwise fun a b=>gu b a=false
 |[],_,h=>h
 |_::l,_,h=>EO l _ (Wq h)
section
variable [Inhabited aK]
def GN:aL:={Y:=ab×ab,pre:=fun _=>True,args:=fun y=>[.agg y.1.enc, .agg y.2.enc],res:=fun y=>i64 (kh y.1 y.2)}
theorem qvJ:CO Ka GN:=bB (cfg:=fun(_:ab×ab)=>bE wI (fun _ _=>none)) bh (fun _=>rfl) (fun _=>FU) (n:=600) (by
 rintro⟨a,b⟩ -;refine⟨(Int.ofNat b.key.path.length,Int.ofNat a.key.path.length),?_⟩
 repeat first|refine⟨rfl,?_⟩|refine⟨trivial,?_⟩
 refine⟨(a.aa.ai,b.aa.ai),?_⟩
 repeat first|refine⟨rfl,?_⟩|refine⟨trivial,?_⟩
 refine⟨(a.key,b.key),?_⟩
 repeat first|refine⟨rfl,?_⟩|refine⟨trivial,?_⟩
 have key:∀v:Int,v=kh a b->aq v (kh a b):=fun v h=>h
 (conv=>whnf)
 refine ax (fun h=>?_) fun h=>?_
 . (conv=>whnf)
   refine⟨?_,trivial⟩;grind [kh]
 (conv=>whnf)
 have h:(!(cN (Int.ofNat b.key.path.length) (Int.ofNat a.key.path.length)==0))=false:=h;have h:cN (Int.ofNat b.key.path.length) (Int.ofNat a.key.path.length)=0:=by grind
 refine ax (fun h2=>?_) fun h2=>?_
 . (conv=>whnf)
   refine⟨?_,trivial⟩;grind [kh]
 (conv=>whnf)
 have h2:(!(cN a.aa.ai b.aa.ai==0))=false:=h2;have h2:cN a.aa.ai b.aa.ai=0:=by grind
 have hk:kh a b=l7 a.key b.key:=by
   grind [kh]
 refine ax (fun h3=>?_) fun h3=>?_
 . (conv=>whnf)
   exact⟨key _ hk.symm,trivial⟩
 . (conv=>whnf)
   have h3:(!(l7 a.key b.key==0))=false:=h3;have h3:l7 a.key b.key=0:=by grind
   exact⟨key _ (by rw[hk,h3]),trivial⟩)
theorem Yk:CO TC GN:=bB (cfg:=fun(_:ab×ab)=>bE (fun f=>bif Nat.beq f Ka then some GN else bu f) (fun _ _=>none)) bh (fun _=>rfl) (fun _=>bg qvJ eX) (n:=400) (by
 rintro⟨a,b⟩ -;refine⟨(a,b),?_⟩
 repeat first|refine⟨rfl,?_⟩|refine⟨trivial,?_⟩
 repeat' first|exact trivial|exact rfl|refine ax (fun _=>?_) fun _=>?_|apply And.intro)
def GG:aL:={Y:=ab×ab,pre:=fun _=>True,args:=fun y=>[.agg y.1.enc, .agg y.2.enc],res:=fun y=> .bool (gu y.1 y.2)}
theorem Mm:CO sC GG:=bB (cfg:=fun(_:ab×ab)=>bE pB (fun _ _=>none)) bh (fun _=>rfl) (fun _=>vI) (n:=600) (by
 rintro⟨a,b⟩ -;have e:=Mg a b
 (conv=>whnf)
 refine ax (fun h=>?_) fun h=>?_
 . have h:(!(Int.ofNat a.key.path.length==Int.ofNat b.key.path.length))=true:=h;have h:a.key.path.length≠b.key.path.length:=fun q=>by rw[q]at h;grind
   rw[An h]at e;refine⟨?_,trivial⟩;grind [bM]
 have h:(!(Int.ofNat a.key.path.length==Int.ofNat b.key.path.length))=false:=h;have h:a.key.path.length=b.key.path.length:=by
   have h:(Int.ofNat a.key.path.length==Int.ofNat b.key.path.length)=true:=by grind
   grind
 rw[Al (fun q=>q h)]at e
 (conv=>whnf)
 refine ax (fun h2=>?_) fun h2=>?_
 . have h2:(!(a.aa.ai==b.aa.ai))=true:=h2;rw[An (by grind)]at e;refine⟨?_,trivial⟩;grind [bM]
 have h2:(!(a.aa.ai==b.aa.ai))=false:=h2;have h2:a.aa.ai=b.aa.ai:=by grind
 rw[Al (fun q=>q h2)]at e;refine⟨(a.key,b.key),?_⟩
 repeat first|refine⟨rfl,?_⟩|refine⟨trivial,?_⟩
 refine⟨?_,trivial⟩;grind)
def P4:aL:={Y:=List ab,pre:=fun y=>y.length<=1000,args:=fun y=>[items y],res:=fun y=>items (bS y)}
def Qu (y:List ab):aJ:={α:=Nat,ok:=fun i=>i<=y.length,μ:=fun i=>y.length - i,aV:=[],aO:=fun i=>[(0,items y),(3,items (bS (y.take i))),(4,i64 i)],bm:=fun _=>[],fj:=[3]}
def qxp (y:List ab):aJ:={α:=Nat×Nat,ok:=fun x=>∃h:x.1<y.length,x.2<=(bS (y.take x.1)).length/\fO y[x.1] (bS (y.take x.1)) x.2=kH (bS (y.take x.1)) y[x.1],μ:=fun x=>x.2,aV:=[],aO:=fun x=>[(0,items y),(3,items (bS (y.take x.1))),(4,i64 x.1),(5,i64 x.2)],bm:=fun _=>[],link:=some fun a b=>b.1=a.1}
noncomputable def P6 (f:FuncId):Option aL:=bif Nat.beq f sC then some GG else bu f
theorem XT:∀f C,P6 f=some C->CO f C:=bg Mm eX
theorem qy0:CO p8 P4:=bB (cfg:=fun(y:List ab)=>bE P6 (mB p8 6 (qxp y) (cu p8 3 (Qu y)))) bh (fun _=>rfl) (fun _=>XT) (n:=600) (by
 intro (l:List ab) (hpre:l.length<=1000);refine⟨⟨(0:Nat),Ao _,?_⟩,?_⟩
 . repeat' first|exact trivial|exact rfl|refine ax (fun _=>?_) fun _=>?_|apply And.intro
 intro (x:Nat) hx
 (conv=>whnf)
 refine ax (fun hlt=>?_) fun hge=>?_
 . have hlt':x<l.length:=cm hlt;have hlen0:(bS (l.take x)).length=x:=by have:=Na (l.take x) [];unfold bS;simp at this⊢;omega
   refine⟨((x,(bS (l.take x)).length):Nat×Nat),⟨((x,(bS (l.take x)).length):Nat×Nat),⟨⟨hlt',Ac _,rfl⟩,rfl⟩,?_⟩,?_⟩
   . repeat' first|exact trivial|exact rfl|refine ax (fun _=>?_) fun _=>?_|apply And.intro
   rintro⟨x1,k⟩ ⟨⟨h1,h2,h3⟩,hx1⟩;have hx1:x1=x:=hx1;subst hx1;have hn:bS (l.take (x1+1))=ic (bS (l.take x1)) l[x1]:=lp ic ([]:List ab) hlt';have hk:k<=(bS (l.take x1)).length:=h2;have hc:fO l[x1] (bS (l.take x1)) k=kH (bS (l.take x1)) l[x1]:=h3;have hmu:l.length - (x1+1)<l.length - x1:=by omega
   have fin:k=kH (bS (l.take x1)) l[x1]->bS (l.take (x1+1))=(bS (l.take x1)).take k++l[x1]::(bS (l.take x1)).drop k:=fun e=>by rw[hn];unfold ic;rw[<-e]
   (conv=>whnf)
   refine ax (fun hp=>?_) fun hp=>?_
   . have hp:aZ 0 (k:Int)=true:=hp;rw[bM,Aa]at hp;obtain⟨k,rfl⟩:∃p,k=p+1:=⟨k - 1,by omega⟩;have ek:Int.toNat (((k+1:Nat):Int) - 1)=k:=by omega
     (conv=>whnf)
     refine aj.2 ⟨_,cp hlt',?_⟩
     (conv=>whnf)
     refine ae.2 ⟨by rw[fT];omega,?_⟩
     (conv=>whnf)
     refine ae.2 ⟨by rw[kt,Aa];omega,?_⟩
     (conv=>whnf)
     refine aj.2 ⟨(bS (l.take x1))[k],(show(bS (l.take x1))[Int.toNat (((k+1:Nat):Int) - 1)]? =some (bS (l.take x1))[k]from by rw[ek];exact Ai (by omega)),?_⟩;refine⟨(l[x1],(bS (l.take x1))[k]),?_⟩
     repeat first|refine⟨rfl,?_⟩|refine⟨trivial,?_⟩
     (conv=>whnf)
     have hcu:fO l[x1] (bS (l.take x1)) (k+1)=if gu l[x1] (bS (l.take x1))[k]then fO l[x1] (bS (l.take x1)) k else k+1:=by
       rw[fO,Ai (by omega),Bf]
     refine ax (fun hl=>?_) fun hl=>?_
     . have hl:gu l[x1] (bS (l.take x1))[k]=true:=hl;rw[hl,An rfl]at hcu
       (conv=>whnf)
       refine ae.2 ⟨by rw[fT];omega,?_⟩;refine⟨((x1,k):Nat×Nat),⟨⟨hlt',by show k<=(bS (l.take x1)).length;omega,by rw[<-hc,hcu]⟩,rfl⟩,by show k<k+1;omega,?_⟩
       repeat' first|exact trivial|exact rfl|refine ax (fun _=>?_) fun _=>?_|apply And.intro
       all_goals ((conv=>whnf))
       all_goals (show(((k+1:Nat):Int) - 1)=(k:Int);omega)
     . have hl:gu l[x1] (bS (l.take x1))[k]=false:=hl;rw[hl]at hcu;have hkk:k+1=kH (bS (l.take x1)) l[x1]:=by rw[<-hc,hcu];rfl
       have hf:=fin hkk
       repeat (first|((conv=>whnf);refine⟨fun _=>rfl,?_⟩)|((conv=>whnf);refine⟨fun _=>⟨rfl,rfl⟩,?_⟩)|((conv=>whnf);refine ae.2 ⟨by(simp only[Ad,Au,Bn,AW,A7,BT,Bt];omega),?_⟩)|((conv=>whnf);refine ae.2 ⟨cj _ (by omega),?_⟩)|((conv=>whnf);refine aj.2 ⟨_,cp (by assumption),?_⟩)|((conv=>whnf);refine⟨_,rfl,?_⟩))
       refine⟨(x1+1:Nat),hlt',hmu,?_⟩
       repeat' first|exact trivial|exact rfl|refine ax (fun _=>?_) fun _=>?_|apply And.intro
       all_goals ((conv=>whnf);rw[hf];first|(simp;done)|(simp[items];done)|(simp;rfl))
   . have hp:aZ 0 (k:Int)=false:=hp;rw[bM,Ah]at hp;have hk0:k=0:=by omega
     have hkk:k=kH (bS (l.take x1)) l[x1]:=by rw[<-hc,hk0];rfl
     have hf:=fin hkk
     repeat (first|((conv=>whnf);refine⟨fun _=>rfl,?_⟩)|((conv=>whnf);refine⟨fun _=>⟨rfl,rfl⟩,?_⟩)|((conv=>whnf);refine ae.2 ⟨by(simp only[Ad,Au,Bn,AW,A7,BT,Bt];omega),?_⟩)|((conv=>whnf);refine ae.2 ⟨cj _ (by omega),?_⟩)|((conv=>whnf);refine aj.2 ⟨_,cp (by assumption),?_⟩)|((conv=>whnf);refine⟨_,rfl,?_⟩))
     refine⟨(x1+1:Nat),hlt',hmu,?_⟩
     repeat' first|exact trivial|exact rfl|refine ax (fun _=>?_) fun _=>?_|apply And.intro
     all_goals ((conv=>whnf);rw[hf];first|(simp;done)|(simp[items];done)|(simp;rfl))
 . (conv=>whnf)
   refine⟨by rw[sT (gE hge)],?_⟩
   (conv=>whnf)
   trivial)
end
end
end Go.Proofs
namespace Go.Proofs
open Go Go.Am Go.RowKit Go.Sy
section
abbrev dR (s:Bs):Value:= .string ⟨s.toArray⟩
def eE (x:ab):List Value:=[dR x.key.name,dR x.key.domain,dR x.key.path,dR x.aa.value, .bool x.aa.aD, .bool x.aa.aM, .bool x.aa.aF, .bool x.aa.persistent, .int .i64 x.aa.aR, .int .i64 x.aa.ai, .int .i64 x.aa.access]
theorem XW (x:ab):(eE x).length=11:=rfl
def rowAt (w:World) (b off:Nat) (l:List ab):Prop:=∀(i:Nat) x (j:Nat) v,l[i]? =some x->(eE x)[j]? =some v->w.cell? ⟨b,off+i*11+j,none⟩=some v
theorem rowAt.range {w:World} {b off:Nat} {l:List ab} (h:rowAt w b off l) {i:Nat} {x:ab} (hx:l[i]? =some x):w.rangeAt b (off+i*11) (eE x):=fun j v hv=>h i x j v hx hv
theorem rowAt.below {w w':World} {b off:Nat} {l:List ab} (h:rowAt w b off l) {B:Nat} (hb:Below B w w') (hlt:b<B):rowAt w' b off l:=fun i x j v hx hv=>by
 have h1:=h i x j v hx hv;unfold World.cell? at h1⊢;rw[hb.block b hlt];exact h1
theorem rI {w:World} {p:Nat->Prop} {a:Bool} {s:Bs} {v:Value} (h:Rd w p a (.str s) v):v=dR s:=by cases h;rfl
theorem GW {w:World} {p:Nat->Prop} {a:Bool} {b:Bool} {v:Value} (h:Rd w p a (.bool b) v):v= .bool b:=by cases h;rfl
theorem zz {w:World} {p:Nat->Prop} {a:Bool} {k:IntKind} {n:Int} {v:Value} (h:Rd w p a (.int k n) v):v= .int k n:=by cases h;rfl
theorem OX {w:World} {p:Nat->Prop} {a:Bool} {x:ab} {j:Nat} {s:SV} {v u:Value} (hs:x.enc[j]? =some s) (hv:(eE x)[j]? =some v) (h:Rd w p a s u):u=v:=by
 unfold ab.enc at hs;unfold eE at hv;have hj:j<11:=(Ae.1 hv).1;match j,hj with
 |0,_|1,_|2,_|3,_=>cases hs;cases hv;exact rI h
 |4,_|5,_|6,_|7,_=>cases hs;cases hv;exact GW h
 |8,_|9,_|10,_=>cases hs;cases hv;exact zz h
theorem OL {x:ab} {j:Nat} (h:j<11):∃s,x.enc[j]? =some s:=⟨_,Ai (by exact h)⟩
theorem Gb {w:World} {p:Nat->Prop} {l:List ab} {v:Value} (h:Rd w p true (items l) v):
  (l=[]/\ ∃a c,v= .slice a 0 c)\/ ∃b off cap,v= .slice (some ⟨b,off,none⟩) l.length cap/\b<w.heap.size/\rowAt w b off l/\l.length<=cap/\ ∃arr e fz,w.heap[b]? =some (.cells arr e fz)/\off+l.length*11<=arr.size:=by
 unfold items at h
 cases h with
 |fP h0=>grind
 |ch _ h0 a c=>grind
 |bn b off cap arr e fz sz u hp hb hs hl hn hc h1 h2=>
  refine .inr ⟨b,off,cap,rfl,(Ab.1 hb).1,fun i x j v hx hv=>?_,hc,arr,e,fz,hb,?_⟩;rotate_left
  . cases hL:l with
    |nil=>grind
    |cons x l'=>
     have:sz=11:=(hn 0 x (by rw[hL];rfl)).symm;rw[<-hL];rw[<-this];exact hl
  have hj:j<11:=(Ae.1 hv).1;obtain⟨s,hs'⟩:=OL (x:=x) hj;have hsz:sz=11:=(hn i x hx).symm;grind [OX,World.cell?]
theorem Pq {w:World} {base:Nat} {e:TypeId} {v:Value} {l:List Bs} (h:w.ownsRow base e 1 v l.length (l.map dR)):Up w base (strs l) v:=by
 obtain⟨h1,⟨rfl,h0⟩|⟨g,cap,cur,rfl,hb,hg,hn,_,hcs,htk⟩⟩:=h
 . exact .fP h0
 . have hl:l.length<=cur.size:=by omega
   refine .bn g 0 cap cur e (0,0) 1 (fun i _=>dR (l[i]?.getD [])) hb hg (by omega) (by omega) (fun _ _ _=>rfl) hn (fun i x j s _ hs=>?_) (fun i x j s hx hs=>?_) (fun i x j s hx hs=>?_)
   . cases j with
     |zero=>cases hs;rfl
     |succ j=>cases hs
   . cases j with
     |zero=>
      have h2:=Aj (fun l=>l[i]?) htk;have hi:=(Ae.1 hx).1;grind
     |succ j=>cases hs
   . cases j with
     |zero=>cases hs;rw[hx];exact .str _
     |succ j=>cases hs
theorem Gi {w:World} {n b off cap:Nat} {arr:Array Value} {e:TypeId} {fz:Nat×Nat} {l:List ab} (hp:n<=b) (hb:w.heap[b]? =some (.cells arr e fz)) (hc:l.length<=cap) (hl:off+l.length*11<=arr.size)
   (h:∀(i:Nat) x (j:Nat) v,l[i]? =some x->(eE x)[j]? =some v->arr[off+i*11+j]? =some v):Up w n (items l) (.slice (some ⟨b,off,none⟩) l.length cap):=by
 refine .bn b off cap arr e fz 11 (fun i j=>((l[i]?.map eE).getD [])[j]?.getD (.bool false)) hp hb (by omega) hl (fun _ _ _=>rfl) hc (fun i x j s hx hs=>?_) (fun i x j s hx hs=>?_) (fun i x j s hx hs=>?_)
 . have hj:j<11:=(Ae.1 hs).1;unfold ab.enc at hs;match j,hj with
   |0,_|1,_|2,_|3,_|4,_|5,_|6,_|7,_|8,_|9,_|10,_=>cases hs;rfl
 . have hj:j<11:=(Ae.1 hs).1;have hv:(eE x)[j]? =some ((eE x)[j]'hj):=Ai hj;rw[h i x j _ hx hv,hx];grind
 . have hj:j<11:=(Ae.1 hs).1;rw[hx];unfold ab.enc at hs;match j,hj with
   |0,_|1,_|2,_|3,_=>cases hs;exact .str _
   |4,_|5,_|6,_|7,_=>cases hs;exact .bool _
   |8,_|9,_|10,_=>cases hs;exact .int _ _
variable [Inhabited aK]
theorem Y8 {tab:bC} {w:World} {b off cap:Nat} {l:List ab} (hc:l.length<=cap) (hb:∃arr e fz,w.heap[b]? =some (.cells arr e fz)/\off+l.length*11<=arr.size) (h:rowAt w b off l):
  aT (bY tab w).get (items l) (cJ w.heap.size (.slice (some ⟨b,off,none⟩) l.length cap)):=by
 obtain⟨arr,e,fz,hb,hl⟩:=hb;refine yg hb (sz:=11) (by omega) (fun _ _=>rfl) hl rfl hc fun i x j s hx hs=>?_
 have hj:j<11:=(Ae.1 hs).1;have hv:(eE x)[j]? =some ((eE x)[j]'hj):=Ai hj;have h1:=h i x j _ hx hv;unfold World.cell? at h1;simp only[hb,DT,Ax,Bc]at h1;refine⟨_,h1,?_⟩;unfold ab.enc at hs;match j,hj with
 |0,_|1,_|2,_|3,_=>cases hs;exact .str _
 |4,_|5,_|6,_|7,_=>cases hs;exact .bool _
 |8,_|9,_|10,_=>cases hs;exact .int _ _
end
section
variable [Inhabited aK]
theorem PG:∀a b:Bs,lt a b=decide (a<b)
 |[],[]=>by decide
 |[],b::l=>by simp[lt,Op.bytesLess]
 |a::l,[]=>by simp[lt,Op.bytesLess]
 |a::l,b::m=>by
  have:=PG l m;rw[Az];grind [Op.bytesLess,List.cons_lt_cons_iff]
def SK {H:Type} (D:DataW H) (L:List Bs):Prop:=∃es,D= .map es/\(∀p∈es,∃x,p.1= .string x)/\(es.map fun p=>strOf p.1).Nodup/\ ∀x,x∈es.map (fun p=>strOf p.1)↔x∈L
theorem Oi {H:Type} {x p:Lit×DataW H}:∀{es:List (Lit×DataW H)},p∈DataW.insert x es↔p=x\/p∈es
 |[]=>by simp[DataW.insert]
 |y::r=>by
  unfold DataW.insert;split
  . simp
  . rw[Ap,Oi (es:=r),Ap];constructor
    . rintro(h|h|h)
      . exact .inr (.inl h)
      . exact .inl h
      . exact .inr (.inr h)
    . rintro(h|h|h)
      . exact .inr (.inl h)
      . exact .inl h
      . exact .inr (.inr h)
theorem iO {H:Type} {x:Lit×DataW H}:∀{es:List (Lit×DataW H)},(DataW.insert x es).Perm (x::es)
 |[]=>El _
 |y::r=>by
  unfold DataW.insert;split
  . exact El _
  . exact((iO (es:=r)).cons y).trans (List.Perm.swap x y r)
theorem SK.start {H:Type}:SK (.map []:DataW H) []:=⟨[],rfl,by simp,by simp,by simp⟩
theorem SK.put {H:Type} {D:DataW H} {L:List Bs} (h:SK D L) (k:Bs) (d:DataW H) {L':List Bs} (hL:∀x,x∈L'↔x=k\/x∈L):SK (D.put (.string k) d) L':=by
 obtain⟨es,rfl,h1,h2,h3⟩:=h;refine⟨_,rfl,fun p hp=>?_,?_,fun x=>?_⟩
 . grind [Oi]
 . have hp:=(iO (x:=(.string k,d)) (es:=es.filter fun p=> !p.1.sameKey (.string k))).map (fun p:Lit×DataW H=>strOf p.1);rw[hp.nodup_iff,A0,Dr];refine⟨fun hm=>?_,Dy (List.filter_sublist.map _) h2⟩;obtain⟨p,hp,he⟩:=AL.1 hm;obtain⟨hp1,hp2⟩:=AB.1 hp;obtain⟨y,hy⟩:=h1 p hp1;rw[hy]at hp2 he;have he:y=k:=he;grind [Lit.sameKey]
 . rw[hL,<-h3,(iO.map (fun p:Lit×DataW H=>strOf p.1)).mem_iff,A0,Ap];constructor
   . rintro(h|h)
     . exact .inl h
     grind
   . rintro(h|h)
     . exact .inl h
     . by_cases e:x=k
       . exact .inl e
       . obtain⟨p,hp,he⟩:=AL.1 h;grind [Lit.sameKey]
theorem SK.keys {H:Type} {D:DataW H} {L:List Bs} (h:SK D L):(strKeys D).Nodup/\ ∀x,x∈strKeys D↔x∈L:=by
 obtain⟨es,rfl,_,h2,h3⟩:=h;exact⟨h2,h3⟩
theorem Wp {L:List Bs} {d:Bs} (h:L.Pairwise (fun a b=>lt a b=true)):(gm L d).Pairwise (fun a b=>lt a b=true):=by
 unfold gm;split
 . exact h
 . rename_i hne;have hd:∀x∈L.drop (eC L d),lt d x=true:=by
    intro x hx;have hlt:eC L d<L.length:=by
      grind [List.drop_eq_nil_of_le]
    have h0:lt L[eC L d] d=false:=Ck (p:=fun x=>lt x d) (l:=L) hlt;have h1:lt d L[eC L d]=true:=by
      grind [zx]
    rw[Bj hlt]at hx;rcases Ap.1 hx with rfl|hx
    . exact h1
    . have h2:(L.drop (eC L d)).Pairwise (fun a b=>lt a b=true):=h.sublist (List.drop_sublist _ _);rw[Bj hlt]at h2;grind [lt_trans,List.pairwise_cons]
   have ht:∀x∈L.take (eC L d),lt x d=true:=by
    intro x hx;obtain⟨j,hj,rfl⟩:=AK hx;have hj2:j<eC L d:=by grind
    obtain⟨g1,g2⟩:=zw (p:=fun x=>lt x d) (l:=L) (j:=j) hj2;grind
   rw[Dp];grind [List.pairwise_cons,lt_trans]
theorem KR (l:List ab):(bo l).Pairwise (fun a b=>lt a b=true):=by
 have:∀(l:List ab) (a:List Bs),a.Pairwise (fun a b=>lt a b=true)->(l.foldl (fun a x=>gm a x.key.domain) a).Pairwise (fun a b=>lt a b=true):=by
  intro l;induction l with
  |nil=>grind
  |cons x l ih=>grind [Wp]
 exact this l [] List.Pairwise.nil
theorem K3 {H:Type} {D:DataW H} {l:List ab} (h:SK D (l.map fun x=>x.key.domain)) {ss:List Bs} (hs:ss.Perm (strKeys D)):ss.mergeSort (fun x y=>decide (x<=y))=bo l:=by
 obtain⟨h1,h2⟩:=h.keys;have hdn:(bo l).Nodup:=by
  rw[Db];exact(KR l).imp fun hab e=>by rw[e,lt_irrefl]at hab;grind
 have hp:ss.Perm (bo l):=hs.trans ((List.perm_ext_iff_of_nodup h1 hdn).2 fun x=>by rw[h2,Vx,AL]);rw[show(ss.mergeSort fun x y=>decide (x<=y))=(bo l).mergeSort leB from mergeSort_of_perm hp];apply List.mergeSort_of_pairwise;refine(KR l).imp fun hab=>?_
 rw[PG,Aa]at hab;grind
end
end Go.Proofs
namespace Go.Proofs
open Go.Shelf
def pQ:Go.Shelf.Ren:=⟨fun|6=>163|15=>168|14=>203|28=>212|29=>213|20=>194|21=>234|22=>235|23=>236|24=>237|25=>238|26=>239|27=>240|46=>262|47=>242|48=>243|49=>263|50=>264|57=>273|n=>n,fun|22=>39|24=>61|25=>150|3=>3|39=>198|0=>0|53=>229|55=>231|4=>4|46=>223|45=>222|50=>139|5=>5|9=>9|66=>248|70=>252|76=>263|77=>264|n=>n,fun|n=>n⟩
theorem KA:Go.Proofs.SlLaysF0.n6 Tryz.prog pQ:={
 mixed:=by kernel_rfl
 f6:=⟨Tryz.f163.name,by decide,Tryz.func163.trans (Aj some (by kernel_rfl))⟩
 f14:=⟨Tryz.f203.name,by decide,Tryz.func203.trans (Aj some (by kernel_rfl))⟩
 f15:=Tryz.func168.trans (Aj some (by kernel_rfl))
 f20:=⟨Tryz.f194.name,by decide,Tryz.func194.trans (Aj some (by kernel_rfl))⟩
 f21:=⟨Tryz.f234.name,by decide,Tryz.func234.trans (Aj some (by kernel_rfl))⟩
 f22:=⟨Tryz.f235.name,by decide,Tryz.func235.trans (Aj some (by kernel_rfl))⟩
 f23:=⟨Tryz.f236.name,by decide,Tryz.func236.trans (Aj some (by kernel_rfl))⟩
 f24:=⟨Tryz.f237.name,by decide,Tryz.func237.trans (Aj some (by kernel_rfl))⟩
 f25:=⟨Tryz.f238.name,by decide,Tryz.func238.trans (Aj some (by kernel_rfl))⟩
 f26:=⟨Tryz.f239.name,by decide,Tryz.func239.trans (Aj some (by kernel_rfl))⟩
 f27:=⟨Tryz.f240.name,by decide,Tryz.func240.trans (Aj some (by kernel_rfl))⟩
 f28:=Tryz.func212.trans (Aj some (by kernel_rfl))
 f29:=Tryz.func213.trans (Aj some (by kernel_rfl))
 f46:=⟨Tryz.f262.name,by decide,Tryz.func262.trans (Aj some (by kernel_rfl))⟩
 f47:=Tryz.func242.trans (Aj some (by kernel_rfl))
 f48:=Tryz.func243.trans (Aj some (by kernel_rfl))
 f49:=⟨Tryz.f263.name,by decide,Tryz.func263.trans (Aj some (by kernel_rfl))⟩
 f50:=⟨Tryz.f264.name,by decide,Tryz.func264.trans (Aj some (by kernel_rfl))⟩
 f57:=⟨Tryz.f273.name,by decide,Tryz.func273.trans (Aj some (by kernel_rfl))⟩
 t0:=Tryz.underlying0
 a0:=Tryz.isAgg0
 z0:=Tryz.sizeOf0
 v0:=Tryz.zeroValue0
 t3:=Tryz.underlying3
 a3:=Tryz.isAgg3
 z3:=Tryz.sizeOf3
 v3:=Tryz.zeroValue3
 t4:=Tryz.underlying4
 a4:=Tryz.isAgg4
 z4:=Tryz.sizeOf4
 v4:=Tryz.zeroValue4
 t5:=Tryz.underlying5
 a5:=Tryz.isAgg5
 z5:=Tryz.sizeOf5
 v5:=Tryz.zeroValue5
 t9:=Tryz.underlying9
 a9:=Tryz.isAgg9
 z9:=Tryz.sizeOf9
 v9:=Tryz.zeroValue9
 t22:=Tryz.underlying39
 a22:=Tryz.isAgg39
 z22:=Tryz.sizeOf39
 v22:=Tryz.zeroValue39
 t25:=Tryz.underlying150
 a25:=Tryz.isAgg150
 z25:=Tryz.sizeOf150
 v25:=Tryz.zeroValue150
 t39:=Tryz.underlying198
 a39:=Tryz.isAgg198
 z39:=Tryz.sizeOf198
 v39:=Tryz.zeroValue198
 t45:=Tryz.underlying222
 a45:=Tryz.isAgg222
 z45:=Tryz.sizeOf222
 v45:=Tryz.zeroValue222
 t46:=Tryz.underlying223
 a46:=Tryz.isAgg223
 z46:=Tryz.sizeOf223
 v46:=Tryz.zeroValue223
 t50:=Tryz.underlying139
 a50:=Tryz.isAgg139
 z50:=Tryz.sizeOf139
 v50:=Tryz.zeroValue139
 t53:=Tryz.underlying229
 a53:=Tryz.isAgg229
 z53:=Tryz.sizeOf229
 v53:=Tryz.zeroValue229
 t55:=Tryz.underlying231
 a55:=Tryz.isAgg231
 z55:=Tryz.sizeOf231
 v55:=Tryz.zeroValue231
 t66:=Tryz.underlying248
 a66:=Tryz.isAgg248
 z66:=Tryz.sizeOf248
 v66:=Tryz.zeroValue248
 t70:=Tryz.underlying252
 a70:=Tryz.isAgg252
 z70:=Tryz.sizeOf252
 v70:=Tryz.zeroValue252
 t76:=Tryz.underlying263
 a76:=Tryz.isAgg263
 z76:=Tryz.sizeOf263
 v76:=Tryz.zeroValue263
 t77:=Tryz.underlying264
 a77:=Tryz.isAgg264
 z77:=Tryz.sizeOf264
 v77:=Tryz.zeroValue264}
def Tv:Go.Shelf.Ren:=⟨fun|41=>103|n=>n,fun|22=>39|23=>61|4=>4|n=>n,fun|n=>n⟩
theorem JM:Go.Proofs.SlLaysE0.n41 Tryz.prog Tv:={
 mixed:=by kernel_rfl
 f41:=⟨Tryz.f103.name,by decide,Tryz.func103.trans (Aj some (by kernel_rfl))⟩
 t4:=Tryz.underlying4
 a4:=Tryz.isAgg4
 z4:=Tryz.sizeOf4
 v4:=Tryz.zeroValue4
 t22:=Tryz.underlying39
 a22:=Tryz.isAgg39
 z22:=Tryz.sizeOf39
 v22:=Tryz.zeroValue39}
def JU:Go.Shelf.Ren:=⟨fun|7=>159|10=>202|n=>n,fun|23=>189|26=>9|3=>3|28=>192|0=>0|27=>191|33=>120|4=>4|n=>n,fun|n=>n⟩
theorem Ky:Go.Proofs.SlLaysZ.n7 Tryz.prog JU:={
 mixed:=by kernel_rfl
 f7:=⟨Tryz.f159.name,by decide,Tryz.func159.trans (Aj some (by kernel_rfl))⟩
 f10:=⟨Tryz.f202.name,by decide,Tryz.func202.trans (Aj some (by kernel_rfl))⟩
 t0:=Tryz.underlying0
 a0:=Tryz.isAgg0
 z0:=Tryz.sizeOf0
 v0:=Tryz.zeroValue0
 t4:=Tryz.underlying4
 a4:=Tryz.isAgg4
 z4:=Tryz.sizeOf4
 v4:=Tryz.zeroValue4
 t23:=Tryz.underlying189
 a23:=Tryz.isAgg189
 z23:=Tryz.sizeOf189
 v23:=Tryz.zeroValue189
 t26:=Tryz.underlying9
 a26:=Tryz.isAgg9
 z26:=Tryz.sizeOf9
 v26:=Tryz.zeroValue9
 t27:=Tryz.underlying191
 a27:=Tryz.isAgg191
 z27:=Tryz.sizeOf191
 v27:=Tryz.zeroValue191
 t28:=Tryz.underlying192
 a28:=Tryz.isAgg192
 z28:=Tryz.sizeOf192
 v28:=Tryz.zeroValue192
 t33:=Tryz.underlying120
 a33:=Tryz.isAgg120
 z33:=Tryz.sizeOf120
 v33:=Tryz.zeroValue120}
def xe:Go.Shelf.Ren:=⟨fun|6=>158|8=>200|9=>201|11=>232|13=>168|12=>233|23=>212|24=>213|14=>253|15=>254|16=>255|17=>256|18=>257|19=>258|20=>259|21=>260|22=>261|25=>269|26=>242|27=>243|28=>270|29=>271|30=>272|31=>282|n=>n,fun|26=>9|28=>192|24=>22|0=>0|3=>3|37=>198|48=>229|50=>231|4=>4|40=>223|39=>222|45=>139|5=>5|9=>9|51=>248|55=>252|57=>263|58=>264|33=>120|n=>n,fun|n=>n⟩
theorem TG:Go.Proofs.SlLaysZ.n6 Tryz.prog xe:={
 mixed:=by kernel_rfl
 f6:=⟨Tryz.f158.name,by decide,Tryz.func158.trans (Aj some (by kernel_rfl))⟩
 f8:=⟨Tryz.f200.name,by decide,Tryz.func200.trans (Aj some (by kernel_rfl))⟩
 f11:=⟨Tryz.f232.name,by decide,Tryz.func232.trans (Aj some (by kernel_rfl))⟩
 t0:=Tryz.underlying0
 a0:=Tryz.isAgg0
 z0:=Tryz.sizeOf0
 v0:=Tryz.zeroValue0
 t24:=Tryz.underlying22
 a24:=Tryz.isAgg22
 z24:=Tryz.sizeOf22
 v24:=Tryz.zeroValue22
 t26:=Tryz.underlying9
 a26:=Tryz.isAgg9
 z26:=Tryz.sizeOf9
 v26:=Tryz.zeroValue9
 t28:=Tryz.underlying192
 a28:=Tryz.isAgg192
 z28:=Tryz.sizeOf192
 v28:=Tryz.zeroValue192
 i26:=by kernel_rfl}
def TA:Go.Shelf.Ren:=⟨fun|6=>201|8=>168|9=>233|19=>212|20=>213|21=>253|22=>254|23=>255|24=>256|25=>257|26=>258|27=>259|28=>260|29=>261|36=>269|31=>242|32=>243|37=>270|38=>271|39=>272|41=>282|n=>n,fun|27=>22|29=>9|3=>3|32=>198|26=>22|0=>0|44=>229|46=>231|4=>4|36=>223|35=>222|41=>139|5=>5|9=>9|53=>248|57=>252|63=>263|64=>264|n=>n,fun|n=>n⟩
theorem KB:Go.Proofs.SlLaysM.n6 Tryz.prog TA:={
 mixed:=by kernel_rfl
 f6:=⟨Tryz.f201.name,by decide,Tryz.func201.trans (Aj some (by kernel_rfl))⟩
 f8:=Tryz.func168.trans (Aj some (by kernel_rfl))
 f9:=⟨Tryz.f233.name,by decide,Tryz.func233.trans (Aj some (by kernel_rfl))⟩
 f19:=Tryz.func212.trans (Aj some (by kernel_rfl))
 f20:=Tryz.func213.trans (Aj some (by kernel_rfl))
 f21:=⟨Tryz.f253.name,by decide,Tryz.func253.trans (Aj some (by kernel_rfl))⟩
 f22:=⟨Tryz.f254.name,by decide,Tryz.func254.trans (Aj some (by kernel_rfl))⟩
 f23:=⟨Tryz.f255.name,by decide,Tryz.func255.trans (Aj some (by kernel_rfl))⟩
 f24:=⟨Tryz.f256.name,by decide,Tryz.func256.trans (Aj some (by kernel_rfl))⟩
 f25:=⟨Tryz.f257.name,by decide,Tryz.func257.trans (Aj some (by kernel_rfl))⟩
 f26:=⟨Tryz.f258.name,by decide,Tryz.func258.trans (Aj some (by kernel_rfl))⟩
 f27:=⟨Tryz.f259.name,by decide,Tryz.func259.trans (Aj some (by kernel_rfl))⟩
 f28:=⟨Tryz.f260.name,by decide,Tryz.func260.trans (Aj some (by kernel_rfl))⟩
 f29:=⟨Tryz.f261.name,by decide,Tryz.func261.trans (Aj some (by kernel_rfl))⟩
 f31:=Tryz.func242.trans (Aj some (by kernel_rfl))
 f32:=Tryz.func243.trans (Aj some (by kernel_rfl))
 f36:=⟨Tryz.f269.name,by decide,Tryz.func269.trans (Aj some (by kernel_rfl))⟩
 f37:=⟨Tryz.f270.name,by decide,Tryz.func270.trans (Aj some (by kernel_rfl))⟩
 f38:=⟨Tryz.f271.name,by decide,Tryz.func271.trans (Aj some (by kernel_rfl))⟩
 f39:=⟨Tryz.f272.name,by decide,Tryz.func272.trans (Aj some (by kernel_rfl))⟩
 f41:=⟨Tryz.f282.name,by decide,Tryz.func282.trans (Aj some (by kernel_rfl))⟩
 t0:=Tryz.underlying0
 a0:=Tryz.isAgg0
 z0:=Tryz.sizeOf0
 v0:=Tryz.zeroValue0
 t3:=Tryz.underlying3
 a3:=Tryz.isAgg3
 z3:=Tryz.sizeOf3
 v3:=Tryz.zeroValue3
 t4:=Tryz.underlying4
 a4:=Tryz.isAgg4
 z4:=Tryz.sizeOf4
 v4:=Tryz.zeroValue4
 t5:=Tryz.underlying5
 a5:=Tryz.isAgg5
 z5:=Tryz.sizeOf5
 v5:=Tryz.zeroValue5
 t9:=Tryz.underlying9
 a9:=Tryz.isAgg9
 z9:=Tryz.sizeOf9
 v9:=Tryz.zeroValue9
 t26:=Tryz.underlying22
 a26:=Tryz.isAgg22
 z26:=Tryz.sizeOf22
 v26:=Tryz.zeroValue22
 t27:=Tryz.underlying22
 a27:=Tryz.isAgg22
 z27:=Tryz.sizeOf22
 v27:=Tryz.zeroValue22
 t29:=Tryz.underlying9
 a29:=Tryz.isAgg9
 z29:=Tryz.sizeOf9
 v29:=Tryz.zeroValue9
 t32:=Tryz.underlying198
 a32:=Tryz.isAgg198
 z32:=Tryz.sizeOf198
 v32:=Tryz.zeroValue198
 t35:=Tryz.underlying222
 a35:=Tryz.isAgg222
 z35:=Tryz.sizeOf222
 v35:=Tryz.zeroValue222
 t36:=Tryz.underlying223
 a36:=Tryz.isAgg223
 z36:=Tryz.sizeOf223
 v36:=Tryz.zeroValue223
 t41:=Tryz.underlying139
 a41:=Tryz.isAgg139
 z41:=Tryz.sizeOf139
 v41:=Tryz.zeroValue139
 t44:=Tryz.underlying229
 a44:=Tryz.isAgg229
 z44:=Tryz.sizeOf229
 v44:=Tryz.zeroValue229
 t46:=Tryz.underlying231
 a46:=Tryz.isAgg231
 z46:=Tryz.sizeOf231
 v46:=Tryz.zeroValue231
 t53:=Tryz.underlying248
 a53:=Tryz.isAgg248
 z53:=Tryz.sizeOf248
 v53:=Tryz.zeroValue248
 t57:=Tryz.underlying252
 a57:=Tryz.isAgg252
 z57:=Tryz.sizeOf252
 v57:=Tryz.zeroValue252
 t63:=Tryz.underlying263
 a63:=Tryz.isAgg263
 z63:=Tryz.sizeOf263
 v63:=Tryz.zeroValue263
 t64:=Tryz.underlying264
 a64:=Tryz.isAgg264
 z64:=Tryz.sizeOf264
 v64:=Tryz.zeroValue264}
end Go.Proofs
namespace Go.Proofs
open Go.RowKit Go.Maps Go.Sort Go.Shelf
-- maps.Keys[map[string]int,string,int] (function 101; its iterator 140) · slices.Sorted[string] (100) · slices.Sort[[]string,string] (139) · the map's type 135, the keys' 9
theorem TT (m:Nat):AnyZ.SortsIn Tryz.prog xe Fence.wide m:=
  ⟨fun aC off cap ss W hH hblk hsz=>callsIn_wide.2 (AnyM.slices_Sort_string KB aC off cap ss W hH hblk hsz),
   fun p cap W=>callsIn_wide.2 (AnyM.slices_Sort_string_none KB p cap W)⟩
theorem sb (mb:Option Nat) (W:World):CallsIn Fence.wide 5 Tryz.prog 159 #[.map mb] W fun e w'=>e= .returned (.func (.func 202) #[] #[.pointer (some ⟨W.heap.size,0,none⟩)])/\w'=W.alloc (.cells #[.map mb] 189):=
 AnyZ.keys_in Ky Fence.wide 5 trivial rfl mb W
set_option maxHeartbeats 1000000 in
theorem rV {H:Type} (b nn:Nat) (D0:DataW H) (R:Value->Option (DataW H×List MemPlace)) (w:World) (hown:w.ownsMap Tryz.prog 9 R b nn D0) (hmax:Maps.size D0<=maxLen) (hbytes:Maps.size D0*16<=140737488355328):
  CallsIn Fence.wide 5 Tryz.prog 158 #[.func (.func 202) #[] #[.pointer (some ⟨w.heap.size,0,none⟩)]] (w.alloc (.cells #[.map (some b)] 189)) fun e w'=>∃(v:Value) (ss:List (List UInt8)),e= .returned v/\ss.Perm (strKeys D0)/\
   w'.ownsRow (w.alloc (.cells #[.map (some b)] 189)).heap.size 9 1 v ss.length ((ss.mergeSort (fun x y=>decide (x<=y))).map encStr)/\(v= .slice none 0 0↔ss=[])/\Below (w.alloc (.cells #[.map (some b)] 189)).heap.size (w.alloc (.cells #[.map (some b)] 189)) w':=by
 have hbl:=hown.lt;have hseq:SeqGives Fence.wide 2 Tryz.prog 202 #[.pointer (some ⟨w.heap.size,0,none⟩)] encStr (fun ss=>ss.Perm (strKeys D0)) (Maps.size D0) (w.alloc (.cells #[.map (some b)] 189)):=
  AnyZ.keys_gives (ρ:=JU) {Ky with} Fence.wide _ trivial rfl (by omega) w.heap.size b nn D0 _ (by simp) (by simp) (by
   obtain⟨es,clock,hb,Ft,hs,hD⟩:=hown;exact⟨es,clock,(Below.heap_alloc _ _ b hbl).trans hb,Ft,hs,hD⟩)
 exact AnyZ.sorted_in TG Fence.wide 5 trivial trivial trivial trivial rfl (by omega) (TT _) (enters_of Tryz.func201 (by kernel_rfl) rfl) 202 #[.pointer (some ⟨w.heap.size,0,none⟩)] trivial (enters_of Tryz.func202 (by kernel_rfl) rfl) _ _ hmax hbytes _ hseq
-- THE CALLER's WALK over 'slices.Sorted(maps.Keys(m))' (inside '(callsIn_wide (n := 6)).1'; 'have hfK : Fence.wide.fn 159 := trivial', 'have hfS : Fence.wide.fn 158 := trivial' ahead): THE TWO ARMS TO PASTE:
--   gi_wp2_with (first
--     | (gi_at_call 159; refine (sb _ _).mono ?_; rintro e w' ⟨rfl, rfl⟩)
--     | (gi_at_call 158; refine (rV b nn D0 R w hown hmax hbytes).mono ?_; rintro e w' ⟨v, ss, rfl, hS, hrow, hnil, hb⟩))
-- maps.Keys[map[biscotti/api.mR]int,biscotti/api.mR,int]: its keys are of no string's kind: not laid by this program
end Go.Proofs
namespace Go.Proofs
open Go Go.Am Go.RowKit Go.Sy Go.Maps Go.Sort Go.Shelf Go.WideMaps
section
variable [Inhabited aK]
theorem Km:Keyed Tryz.prog 9:=string_keyed Tryz.underlying9
theorem UN (w:World):(zeroValue 3).run Tryz.prog w= .ok (.int .i64 0) w:=by simp_all
theorem qyc {s:Bs} (h:s.length<=maxLen):keyOf Tryz.prog 9 (dR s)=some (.string s):=by
 have:=keyOf_string_mk (s:=⟨s.toArray⟩) Tryz.underlying9 (by grind [ByteArray.size]);omega
theorem rowAt.cells {w:World} {b off:Nat} {l:List ab} (h:rowAt w b off l) {i:Nat} {x:ab} (hx:l[i]? =some x):
  w.cell? ⟨b,off+i*11,none⟩=some (dR x.key.name)/\w.cell? ⟨b,off+i*11+1,none⟩=some (dR x.key.domain)/\w.cell? ⟨b,off+i*11+2,none⟩=some (dR x.key.path)/\
  w.cell? ⟨b,off+i*11+3,none⟩=some (dR x.aa.value)/\w.cell? ⟨b,off+i*11+4,none⟩=some (.bool x.aa.aD)/\w.cell? ⟨b,off+i*11+5,none⟩=some (.bool x.aa.aM)/\
  w.cell? ⟨b,off+i*11+6,none⟩=some (.bool x.aa.aF)/\w.cell? ⟨b,off+i*11+7,none⟩=some (.bool x.aa.persistent)/\w.cell? ⟨b,off+i*11+8,none⟩=some (.int .i64 x.aa.aR)/\
  w.cell? ⟨b,off+i*11+9,none⟩=some (.int .i64 x.aa.ai)/\w.cell? ⟨b,off+i*11+10,none⟩=some (.int .i64 x.aa.access):=
 ⟨h i x 0 _ hx rfl,h i x 1 _ hx rfl,h i x 2 _ hx rfl,h i x 3 _ hx rfl,h i x 4 _ hx rfl,h i x 5 _ hx rfl,h i x 6 _ hx rfl,h i x 7 _ hx rfl,h i x 8 _ hx rfl,h i x 9 _ hx rfl,h i x 10 _ hx rfl⟩
theorem Ua {b off cap:Nat} {l:List ab} {w:World} (hlen:l.length<=10000) (hb:b<w.heap.size) (hrow:rowAt w b off l) (hsz:∀x∈l,x.key.domain.length<=maxLen):
  Calls Tryz.prog 114 #[.slice (some ⟨b,off,none⟩) l.length cap] w fun e w'=>∃v,e= .returned v/\w'.ownsRow w.heap.size 9 1 v (bo l).length ((bo l).map dR)/\Below w.heap.size w w':=by
 have hmm:= @run_makeMap Tryz.prog;go_enter Tryz.func114,Tryz.ntmps114
 go_wp2;go_loopw [9] (fun i wr=>∃(k:Nat) (D:DataW Unit),k<=l.length/\i= .int .i64 k/\wr.ownsMap Tryz.prog 9 (plainElem Tryz.prog 3) w.heap.size k D/\SK D ((l.take k).map fun x=>x.key.domain)/\Below w.heap.size w wr)
  (fun i _=>l.length - (intOf i).toNat)
 case atStart=>exact⟨0, .map [],Ao _,rfl,World.ownsMap_made _ _ _ _,SK.start,(Below.refl _ _).alloc (Ac _) _⟩
 case round=>
  obtain⟨k,D,hk,rfl,hown,hsk,hnx⟩:=hrel;by_cases hlt:k<l.length
  . obtain⟨x,hx⟩:∃x,l[k]? =some x:=⟨_,Ai hlt⟩;obtain⟨c0,c1,c2,c3,c4,c5,c6,c7,c8,c9,c10⟩:=(hrow.below hnx hb).cells hx;have hxm:x∈l:=BA hx;have hkey:keyOf Tryz.prog 9 (dR x.key.domain)=some (.string x.key.domain):=qyc (hsz x hxm);have hbel:∀o,Below w.heap.size w (wr.alloc o):=fun o=>hnx.alloc hnx.size o
    go_wp2_with (first
      |(at_lookup;refine wpList_lookup_own_int _ rfl _ _ 189 rfl 9 3 .i64 Km Tryz.underlying189 Tryz.underlying3 (UN _) w.heap.size k _ rfl (hown.alloc _) _ _ rfl hkey ?_;intro c hat hwc)
      |(at_mapUpdate;refine wpList_mapUpdate_own _ rfl _ _ _ 189 rfl 9 3 Km Tryz.underlying189 _ w.heap.size k _ rfl (hown.alloc _) (by grind [maxLen]) _ _ _ rfl rfl hkey _ [] (plainElem_int Tryz.underlying3 (wrap64_wf _)) ?_;intro w1 hown1 hgrow1)
      |go_in)
    have R1:=hsk.put (x.key.domain) (.lit (.int .i64 (wrap64 (c+1)))) (L':=(l.take (k+1)).map fun x=>x.key.domain) (fun d=>by
      rw[List.take_add_one,hx];grind)
    have R2:=(hbel _).grown hgrow1 (hbel _).size (fun j hj=>by grind);grind [intOf]
  . have hkl:k=l.length:=by omega
    subst hkl;rw[A6]at hsk;have hks:=hsk.keys;have hsize:Maps.size D<=l.length:=hown.size_le;have hkeys:=fun W=>callsIn_wide.1 (sb (some w.heap.size) W)
    have hsort:=callsIn_wide.1 (rV w.heap.size l.length D (plainElem Tryz.prog 3) wr hown (by grind [maxLen]) (by omega));go_wp2_with (first
      |(go_at_call 159;refine(hkeys _).mono ?_;rintro e w1 ⟨rfl,rfl⟩)
      |(go_at_call 158;refine hsort.mono ?_;rintro e w2 ⟨v,ss,rfl,hS,hrowS,hnil,hbelS⟩))
    go_ret;have hd:=K3 hsk hS;refine⟨_,rfl,?_,?_⟩
    . rw[hd]at hrowS;have hl:ss.length=(bo l).length:=by rw[<-hd];simp
      have he:(encStr:Bs->Value)=dR:=by funext s;grind
      rw[hl,he]at hrowS;exact ownsRow_base_a hrowS (by have:=hnx.size;simp;omega)
    . exact(hnx.alloc hnx.size _).trans (hbelS.mono (by have:=hnx.size;simp;omega))
theorem Uy (a:Option Addr) (c:Nat) (w:World):Calls Tryz.prog 114 #[.slice a 0 c] w fun e w'=>∃v,e= .returned v/\w'.ownsRow w.heap.size 9 1 v 0 []/\Below w.heap.size w w':=by
 have hmm:= @run_makeMap Tryz.prog;obtain⟨D,hown0,hsk⟩:∃D:DataW Unit,(w.alloc (.map #[] 0)).ownsMap Tryz.prog 9 (plainElem Tryz.prog 3) w.heap.size 0 D/\SK D []:=⟨.map [],World.ownsMap_made _ _ _ _,SK.start⟩;have hbel0:Below w.heap.size w (w.alloc (.map #[] 0)):=(Below.refl _ _).alloc (Ac _) _;go_enter Tryz.func114,Tryz.ntmps114
 go_wp2;refine wp_loop_rounds 1 ?_;rw[rounds_succ];generalize w.alloc (.map #[] 0)=wr at*
 have hsize:Maps.size D<=0:=hown0.size_le;have hkeys:=fun W=>callsIn_wide.1 (sb (some w.heap.size) W)
 have hsort:=callsIn_wide.1 (rV w.heap.size 0 D (plainElem Tryz.prog 3) wr hown0 (by omega) (by omega));go_wp2_with (first
  |(go_at_call 159;refine(hkeys _).mono ?_;rintro e w1 ⟨rfl,rfl⟩)
  |(go_at_call 158;refine hsort.mono ?_;rintro e w2 ⟨v,ss,rfl,hS,hrowS,hnil,hbelS⟩))
 go_ret;have hd:=K3 (l:=[]) hsk hS;have hl:ss.length=0:=by
  have:=Aj List.length hd;simpa [bo]using this
 rw[hd,hl]at hrowS;exact⟨_,rfl,ownsRow_base_a hrowS (by have:=hbel0.size;simp;omega),(hbel0.alloc hbel0.size _).trans (hbelS.mono (by have:=hbel0.size;simp;omega))⟩
theorem WR (hdr:¬(default:aK).dr):CO J1 PN:=jx bh.ok (by
 rintro l ⟨hl,hsh⟩ w args - hargs;obtain⟨h1,h2⟩:=hargs;match args,h1 with
 |[v],_=>
 rcases Gb (h2 0 _ _ rfl rfl)with⟨rfl,a,c,rfl⟩|⟨b,off,cap,rfl,hb,hrow,_⟩
 . exact(Uy a c w).mono fun e w' ⟨v,he,hr,hbel⟩=>⟨v,he, .inr (Pq hr),hbel,fun h=>(hdr h).elim⟩
 . exact(Ua hl hb hrow fun x hx=>by have:=hsh x hx;grind [maxLen]).mono fun e w' ⟨v,he,hr,hbel⟩=>⟨v,he, .inr (Pq hr),hbel,fun h=>(hdr h).elim⟩)
end
end Go.Proofs
namespace Go.Proofs
open Go Go.Am Go.RowKit Go.Sy
theorem RS:(cg (fun(y:aL.Y wo)=>bE oI (cR y)) 400 J9)=(∀(y:ab×ab),True->∃(z:ab×ab),y.1.key.name=z.1.key.name/\y.1.key.domain=z.1.key.domain/\y.1.key.path=z.1.key.path/\y.1.aa.value=z.1.aa.value/\y.1.aa.aD=z.1.aa.aD/\y.1.aa.aM=z.1.aa.aM/\y.1.aa.aF=z.1.aa.aF/\y.1.aa.persistent=z.1.aa.persistent/\aq y.1.aa.aR z.1.aa.aR/\aq y.1.aa.ai z.1.aa.ai/\aq y.1.aa.access z.1.aa.access/\y.2.key.name=z.2.key.name/\y.2.key.domain=z.2.key.domain/\y.2.key.path=z.2.key.path/\y.2.aa.value=z.2.aa.value/\y.2.aa.aD=z.2.aa.aD/\y.2.aa.aM=z.2.aa.aM/\y.2.aa.aF=z.2.aa.aF/\y.2.aa.persistent=z.2.aa.persistent/\aq y.2.aa.aR z.2.aa.aR/\aq y.2.aa.ai z.2.aa.ai/\aq y.2.aa.access z.2.aa.access/\True/\aq (iI z.1 z.2) (iI y.1 y.2)/\True):=by kernel_rfl
theorem Xi:(qN (fun(y:List ab×aG)=>kG y.1) (aL.args bQ) ab (fun(y:List ab×aG)=>fh y.1 y.2) ab.enc (fun(y:List ab×aG)=>bE bu (cu mh 3 (kq y.1 fun(x:ab)=>decide (x.key≠y.2)))) 600 nO)=(∀(y:List ab×aG),y.1.length<=10000->(∃(x:Nat),x<=y.1.length/\(SV.fn 166 [] [SV.ptr (SH.next (St.h {ts:=Fr.of (aL.args bQ y) 0,h:={next:=0,os:=[]},log:=[]})) 0]=SV.fn 166 [] [SV.ptr (SH.next (St.h {ts:=Fr.of (aL.args bQ y) 0,h:={next:=0,os:=[]},log:=[]})) 0]/\items y.1=items y.1/\aq (Int.ofNat y.1.length) (Int.ofNat y.1.length)/\aq 0 ↑x/\True/\True)/\(((y.1.take x).filter (fun(x:ab)=>decide (x.key≠y.2))=[]/\ ∀(x:ab),(ab.enc x).length=11)/\(y.2.name=y.2.name/\y.2.domain=y.2.domain/\y.2.path=y.2.path/\True)/\True)/\True)/\ ∀(x:Nat),x<=y.1.length->br (aZ (↑x) (Int.ofNat y.1.length)) (so y.1[Int.toNat ↑x]? fun(val:ab)=>br (!(val.key.name==y.2.name&&(val.key.domain==y.2.domain&&(val.key.path==y.2.path&&true)))) (∃(u:ab),(ab.enc u)=(ab.enc val)/\ck (Nat.ble ((((y.1.take x).filter (fun(x:ab)=>decide (x.key≠y.2))).length+[u].length)*96) 16777216&&Nat.ble (((y.1.take x).filter (fun(x:ab)=>decide (x.key≠y.2))).length+[u].length) 16777216) (ck (bw .i64 (↑x+1)) (∃(z:Nat),z<=y.1.length/\aJ.μ (kq y.1 fun(x:ab)=>decide (x.key≠y.2)) z<aJ.μ (kq y.1 fun(x:ab)=>decide (x.key≠y.2)) x/\(SV.fn 166 [] [SV.ptr (SH.next (St.h {ts:=Fr.of (aL.args bQ y) 0,h:={next:=0,os:=[]},log:=[]})) 0]=SV.fn 166 [] [SV.ptr (SH.next (St.h {ts:=Fr.of (aL.args bQ y) 0,h:={next:=0,os:=[]},log:=[]})) 0]/\items y.1=items y.1/\aq (Int.ofNat y.1.length) (Int.ofNat y.1.length)/\aq (↑x+1) ↑z/\True/\True)/\(items ((y.1.take x).filter (fun(x:ab)=>decide (x.key≠y.2))++[u])=items ((y.1.take z).filter (fun(x:ab)=>decide (x.key≠y.2)))/\(y.2.name=y.2.name/\y.2.domain=y.2.domain/\y.2.path=y.2.path/\True)/\True)/\True))) (ck (bw .i64 (↑x+1)) (∃(z:Nat),z<=y.1.length/\aJ.μ (kq y.1 fun(x:ab)=>decide (x.key≠y.2)) z<aJ.μ (kq y.1 fun(x:ab)=>decide (x.key≠y.2)) x/\(SV.fn 166 [] [SV.ptr (SH.next (St.h {ts:=Fr.of (aL.args bQ y) 0,h:={next:=0,os:=[]},log:=[]})) 0]=SV.fn 166 [] [SV.ptr (SH.next (St.h {ts:=Fr.of (aL.args bQ y) 0,h:={next:=0,os:=[]},log:=[]})) 0]/\items y.1=items y.1/\aq (Int.ofNat y.1.length) (Int.ofNat y.1.length)/\aq (↑x+1) ↑z/\True/\True)/\(items ((y.1.take x).filter (fun(x:ab)=>decide (x.key≠y.2)))=items ((y.1.take z).filter (fun(x:ab)=>decide (x.key≠y.2)))/\(y.2.name=y.2.name/\y.2.domain=y.2.domain/\y.2.path=y.2.path/\True)/\True)/\True))) (items ((y.1.take x).filter (fun(x:ab)=>decide (x.key≠y.2)))=items (fh y.1 y.2))):=by kernel_rfl
end Go.Proofs
namespace Go.Proofs
open Go Go.Am Go.RowKit Go.Sy Go.Maps Go.Sort Go.Shelf
section
theorem yP {Fz:Nat->Option AO} {n:Nat} (x:ab):aT Fz (.agg x.enc) (dz n (.agg (eE x).toArray)):=by
 unfold dz;refine .agg (by simp[eE,ab.enc]) fun i c v hc hv=>?_
 have hj:i<11:=(Ae.1 hc).1;unfold ab.enc at hc;unfold eE at hv;match i,hj with
 |0,_|1,_|2,_|3,_=>cases hc;cases hv;exact .str _
 |4,_|5,_|6,_|7,_=>cases hc;cases hv;exact .bool _
 |8,_|9,_|10,_=>cases hc;cases hv;exact .int _ _
theorem Ni {w w':World} (h:Below w.heap.size w w') (hd:w.drawn<=w'.drawn):∃q os,w'=grow (w.drewN q) os:=by
 refine⟨w'.drawn - w.drawn,w'.heap.extract w.heap.size w'.heap.size,?_⟩;unfold grow World.drewN
 cases w' with
 |mk heap tape drawn os output=>
  obtain⟨h1,h2,h3,h4,h5⟩:=h;simp only at h1 h2 h3 h4 h5 hd⊢;subst h1;subst h2;subst h3;congr 1
  all_goals grind
section
variable [Inhabited aK]
theorem QV:CO J9 wo:=bB (cfg:=fun y=>bE oI (cR y)) bh (fun _=>rfl) (fun _=>vJ) (n:=400) (by
 rw[RS];rintro⟨a,b⟩ -;exact⟨(a,b),rfl,rfl,rfl,rfl,rfl,rfl,rfl,rfl,rfl,rfl,rfl,rfl,rfl,rfl,rfl,rfl,rfl,rfl,rfl,rfl,rfl,rfl,trivial,rfl,trivial⟩)
theorem qwv:qN (fun y:List ab×aG=>kG y.1) bQ.args ab (fun y=>fh y.1 y.2) ab.enc (fun y=>bE bu (cu mh 3 (kq y.1 fun x=>decide (x.key≠y.2)))) 600 nO:=by
 rw[Xi];rintro⟨l,k⟩ hpre;have hpre:l.length<=10000:=hpre;refine⟨⟨0,by simp,?_⟩,?_⟩
 . (repeat' (first|exact trivial|exact rfl|exact(fun _=>rfl)|apply And.intro))
 intro x hx;refine ah.2 ⟨fun hlt=>aj.2 ⟨_,cp (cm hlt),?_⟩,fun hge=>by rw[filter_all (gE hge)];rfl⟩;have hlt':x<l.length:=cm hlt;have hlen:=rl (l:=l) (x:=x) (p:=fun z:ab=>decide (z.key≠k));refine ah.2 ⟨fun h=>⟨l[x],rfl,ae.2 ⟨by grind [Nat.ble_eq],ae.2 ⟨cj x (by omega),x+1,hlt',?_,?_⟩⟩⟩,fun h=>ae.2 ⟨cj x (by omega),x+1,hlt',?_,?_⟩⟩
 . show l.length - (x+1)<l.length - x
   omega
 . have hp:(fun z:ab=>decide (z.key≠k)) l[x]=true:=by rw[nj]at h;grind
   have hf:=mA (p:=fun z:ab=>decide (z.key≠k)) hlt';rw[An hp]at hf;grind
 . show l.length - (x+1)<l.length - x
   omega
 grind [nj,mA]
end
theorem YO:SWO (ltOf iI) where
 irrefl x:=Lj x
 trans x y z:=EP
 ntrans x y z:=Lk
theorem Tp (aC off size:Nat) (w:World):CmpLays Tryz.prog 164 #[] eE 11 iI aC off size w:=by
 intro m os dk _ x y;letI:Inhabited aK:=⟨⟨True,#[]⟩⟩
 have h:=mo bh.ok QV (fn:=Tryz.f164) (hfn:=by kernel_rfl) (hb:=rfl) (y:=(x,y)) trivial (args:=[.agg (eE x).toArray, .agg (eE y).toArray]) (w:=sortWorldK eE 11 w aC off m dk os) (PL.cons (yP x) (PL.cons (yP y) PL.nil)) (cX.o8 rfl _);refine Calls.mono h ?_;rintro e w' ⟨v,rfl,hv,hbel,hd⟩;have hv:v= .int .i64 (iI x y):=zz hv;exact⟨by rw[hv],Ni hbel (hd trivial)⟩
theorem KL:∀w,(isAgg (pQ.t 24)).run Tryz.prog w= .ok true w:=fun w=>by kernel_rfl
theorem Kv:∀w,(Go.sizeOf (pQ.t 24)).run Tryz.prog w= .ok 11 w:=fun w=>by kernel_rfl
theorem yS (x:ab):∀v∈eE x,v.oneCell'=true:=by
 intro v hv;unfold eE at hv;simp only[Ap,BG,Dm]at hv;rcases hv with rfl|rfl|rfl|rfl|rfl|rfl|rfl|rfl|rfl|rfl|rfl<;>rfl
theorem UL (aC off cap:Nat) (d:Array ab) (w:World) (hH:HoldsK eE 11 w aC off d) (hblk:aC<w.heap.size) (hsz:d.size<4611686018427387904):
  Calls Tryz.prog 163 #[.slice (some ⟨aC,off,none⟩) d.size cap, .func (.func 164) #[] #[]] w fun e w'=>e= .returned (.tuple #[])/\ ∃d' n os,PermIn 0 d.size d d'/\SortedIn (ltOf iI) 0 d.size d'/\w'=sortWorldK eE 11 w aC off n d' os:=
 AnyQ.slices_SortFunc KA 11 KL Kv eE (fun _=>rfl) yS iI YO 164 #[] aC off cap d w (enters_of Tryz.func164 (by kernel_rfl) rfl) (Tp aC off d.size w) hH hblk hsz
def jK (w:World) (v:Value) (l:List ab):Prop:=(l=[]/\ ∃a c,v= .slice a 0 c)\/
 ∃b off cap,v= .slice (some ⟨b,off,none⟩) l.length cap/\l.length<=cap/\(∃arr e fz,w.heap[b]? =some (.cells arr e fz)/\off+l.length*11<=arr.size)/\rowAt w b off l
theorem jK.below {w w':World} {v:Value} {l:List ab} (h:jK w v l) (hb:Below w.heap.size w w'):jK w' v l:=by
 rcases h with h|⟨b,off,cap,h1,h2,⟨arr,e,fz,h3,h4⟩,h5⟩
 . exact .inl h
 . have hlt:=(Ab.1 h3).1;exact .inr ⟨b,off,cap,h1,h2,⟨arr,e,fz,by rw[hb.block b hlt];exact h3,h4⟩,h5.below hb hlt⟩
section
variable [Inhabited aK]
theorem LG {w:World} {n:Nat} {l:List ab} {v:Value} (h:rD w n l ab.enc v):jK w v l/\Up w n (items l) v:=by
 rcases h with⟨rfl,h0⟩|⟨b,cap,arr,e,fz,sz,rfl,h1,h2,h3,h4,h5,h6,h7⟩
 . exact⟨.inl ⟨AY.1 h0,none,0,rfl⟩, .fP h0⟩
 . have hsz:l≠[]->sz=11:=by
    intro hne
    cases hL:l with
    |nil=>grind
    |cons x l'=>exact(h6 0 x (by rw[hL];rfl)).symm
   have hl:0+l.length*11<=arr.size:=by
    by_cases hne:l=[]
    all_goals grind
   have hcell:∀(i:Nat) x (j:Nat) v,l[i]? =some x->(eE x)[j]? =some v->arr[0+i*11+j]? =some v:=by
    intro i x j v hx hv;have hj:j<11:=(Ae.1 hv).1;obtain⟨s,hs⟩:=OL (x:=x) hj;obtain⟨u,hu,hr⟩:=h7 i x j s hx hs;have:sz=11:=(h6 i x hx).symm;grind [OX]
   refine⟨.inr ⟨b,0,cap,rfl,h3,⟨arr,e,fz,h2,hl⟩,fun i x j v hx hv=>?_⟩,Gi h1 h2 h3 hl hcell⟩;grind [World.cell?]
theorem QR {Fz:Nat->Option AO} {n:Nat} (k:aG):aT Fz (.agg k.enc) (dz n (.agg #[dR k.name,dR k.domain,dR k.path])):=by
 unfold dz;refine .agg rfl fun i c v hc hv=>?_
 have hj:i<3:=(Ae.1 hc).1;unfold aG.enc at hc;match i,hj with
 |0,_|1,_|2,_=>cases hc;cases hv;exact .str _
theorem qwb {tab:bC} {w:World} {v:Value} {l:List ab} (h:jK w v l):aT (bY tab w).get (items l) (dz w.heap.size v):=by
 rcases h with⟨rfl,a,c,rfl⟩|⟨b,off,cap,rfl,h2,h3,h4⟩
 . show aT _ (items []) (cJ w.heap.size (.slice a 0 c))
   cases a with
   |none=>
    cases c with
    |zero=>exact .ch rfl (.inl rfl)
    |succ c=>exact .ch rfl (.inr (.inr ⟨_,_,rfl⟩))
   |some a=>rw[yn];exact .ch rfl (.inr (.inr ⟨_,_,rfl⟩))
 . exact Y8 h2 h3 h4
theorem SR {l:List ab} {k:aG} {v:Value} {w:World} (hl:l.length<=10000) (h:jK w v l) (hw:cX w):
  Calls Tryz.prog 118 #[v, .agg #[dR k.name,dR k.domain,dR k.path]] w fun e w'=>∃u,e= .returned u/\jK w' u (fh l k)/\rD w' w.heap.size (fh l k) ab.enc u/\Below w.heap.size w w':=by
 refine Calls.mono (Yb bh (fun _=>rfl) (fun _=>eX) (fn:=Tryz.f118) (by kernel_rfl) qwv (y:=(l,k)) hl (args:=[v, .agg #[dR k.name,dR k.domain,dR k.path]]) (w:=w) (PL.cons (qwb h) (PL.cons (QR k) PL.nil)) hw) ?_;rintro e w' ⟨u,rfl,hu,hb,_⟩;exact⟨u,rfl,(LG hu).1,hu,hb⟩
theorem Wu {w:World} {n m:Nat} {l:List ab} {v:Value} (h:rD w n l ab.enc v) (hm:m<=n):rD w m l ab.enc v:=by
 rcases h with h|⟨b,cap,arr,e,fz,sz,h0,h1,h2⟩
 . exact .inl h
 . exact .inr ⟨b,cap,arr,e,fz,sz,h0,by omega,h2⟩
end
theorem Ly (w:World) (g off n:Nat) (d:Array ab) (os:Array Obj) {B:Nat} (hg:B<=g) (hB:B<=w.heap.size):Below B w (sortWorldK eE 11 w g off n d os):=by
 refine⟨rfl,rfl,rfl,size_sortWorldK_c eE 11 w g off n d os,fun k hk=>?_⟩;grind [sortWorldK,grow,putRowK,putRow,mapBlock,Sort.ahead]
theorem NN (l:List ab) {t:Nat} {u:Value} (h:(flatK eE 11 l.toArray).toList[t]? =some u):∃x,l[t / 11]? =some x/\(eE x)[t % 11]? =some u:=by
 have ht:t<l.length*11:=by
  have:=(Ae.1 h).1;simp_all
 have hi:t / 11<l.length:=by omega
 refine⟨l[t / 11],Ai hi,?_⟩;have h1:=get_flatK eE 11 l.toArray t (by omega);rw[A8]at h;rw[BJ _ t (by grind)]at h1;rw[AU (by grind),h1]at h;grind [XW]
theorem Wa {l:List ab} {d':Array ab} (hp:PermIn 0 l.toArray.size l.toArray d') (hs:SortedIn (ltOf iI) 0 l.toArray.size d'):d'.toList.Perm l/\d'.toList.Pairwise (fun a b=>fZ b a=false)/\d'.size=l.length:=by
 obtain⟨h1,_,h3⟩:=hp;have hsz:d'.size=l.length:=by omega
 refine⟨?_,?_,hsz⟩
 . rw[show d'.extract 0 l.toArray.size=d' by rw[<-h1];simp]at h3;grind
 . rw[AJ];intro i j hi hj hij;simp only[Array.length_toList]at hi hj;have:=hs i j (Ao _) hij (by omega);rw[BJ d' j hj,BJ d' i hi]at this;simp only[EL];exact this
theorem KO:(Tryz.prog.info? 61).map (fun i=>(i.zero,i.size,i.bytes))=some (some (.agg (eE iR).toArray),11,96):=by kernel_rfl
end
section
variable [Inhabited aK]
theorem Ku {l:List ab} {b off cap:Nat} {w:World} (hl:l.length<=10000) (h:rowAt w b off l):
   Calls Tryz.prog 103 #[.slice (some ⟨b,off,none⟩) l.length cap] w fun e w'=>∃g c,e= .returned (.slice (some ⟨g,0,none⟩) l.length c)/\w.heap.size<=g/\g<w'.heap.size/\l.length<=c/\HoldsK eE 11 w' g 0 l.toArray/\Below w.heap.size w w':=by
 obtain⟨i0,hi,hz0,hz1,hz2⟩:=info_parts KO;have hnl:(flatK eE 11 l.toArray).toList.length=l.length*11:=by simp
 have hc:=AnyE.slices_Clone JM i0 _ 11 96 hi hz0 hz1 hz2 rfl (by decide) (fun w=>by kernel_rfl) b off l.length cap (flatK eE 11 l.toArray).toList w hnl (by grind [maxLen]) (by omega)
   (fun j u hu=>by
    obtain⟨x,hx,hxu⟩:=NN l hu;have:=h (j / 11) x (j % 11) u hx hxu;rw[show off+j / 11*11+j % 11=off+j by omega]at this;omega)
   (fun u hu=>by
    obtain⟨j,hj,rfl⟩:=AK hu;obtain⟨x,hx,hxu⟩:=NN l (Ai hj);grind [yS])
 refine Calls.mono hc ?_;rintro e w' ⟨v',rfl,⟨h1,⟨rfl,_⟩|⟨g,c,cur,rfl,hg,hw,hn,_,hcs,htk⟩⟩,hne,hb⟩
 . grind
 . refine⟨g,c,rfl,hg,(Ab.1 hw).1,hn,fun j hj=>?_,hb⟩;have hj2:j<l.length*11:=by grind
   have h2:=Aj (fun l=>l[j]?) htk;simp only[A3,An hj2,A8]at h2;have hjf:j<(flatK eE 11 l.toArray).size:=hj;rw[AU hjf]at h2;grind [World.cell?,World.frozen?]
theorem KT:∀(s l:List ab),(s.foldl (fun a x=>fh a x.key) l).length<=l.length
 |[],l=>Ac _
 |x::s,l=>Av (KT s _) (E9 l x.key)
theorem T8 {l:List ab} {m b off cap:Nat} {w:World} (hl:l.length<=10000) (hk:KN l) (hm:m<l.length) (h:jK w (.slice (some ⟨b,off,none⟩) l.length cap) l) (hrow:rowAt w b off l) (hb:b<w.heap.size) (hw:cX w):
  Calls Tryz.prog 117 #[.slice (some ⟨b,off,none⟩) l.length cap, .int .i64 m] w fun e w'=>∃u,e= .returned u/\rD w' w.heap.size (fv m l) ab.enc u/\Below w.heap.size w w':=by
 have hclone:=Ku (cap:=cap) hl hrow;go_enter Tryz.func117,Tryz.ntmps117
 go_wp2_with (go_at_call 103;refine hclone.mono ?_;rintro e w1 ⟨g,c,rfl,hg,hg1,hlc,hH,hbel1⟩)
 have hsort:=UL g 0 c l.toArray w1 hH hg1 (by grind);rw[show l.toArray.size=l.length by simp]at hsort;refine Calls.mono hsort ?_;rintro e w2 ⟨rfl,d',n,os,hp,hs,hw2⟩;have hbel2:Below w.heap.size w w2:=hbel1.trans (by rw[hw2];grind [Ly]);obtain⟨hperm,hpw,hdsz⟩:=Wa (l:=l) (d':=d') (by omega) (by omega);have hH2:HoldsK eE 11 w2 g 0 d':=by rw[hw2];grind [holdsK_sortWorldK_c]
 have hg2:g<w2.heap.size:=by rw[hw2];grind [size_sortWorldK_c]
 clear hw2 hp hs hsort hclone hH;have hlen:l.length - m<=d'.size:=by omega
 have hsub:(wrap64 ((l.length:Int) - (m:Int)))=((l.length - m:Nat):Int):=by
  rw[wrap64];omega
 go_wp2;generalize hnm:l.length - m=q at hlen hsub⊢
 go_loopw [0,24] (fun v i wr=>∃k:Nat,k<=q/\i= .int .i64 k/\jK wr v ((d'.toList.take k).foldl (fun a x=>fh a x.key) l)/\(k=0\/rD wr w.heap.size ((d'.toList.take k).foldl (fun a x=>fh a x.key) l) ab.enc v)/\Below w2.heap.size w2 wr)
  (fun _ i _=>q - (intOf i).toNat)
 case atStart=>exact⟨0,Ao _,rfl,h.below (hbel2.mono (Ac _)), .inl rfl,Below.refl _ _⟩
 case round=>
  obtain⟨k,hkq,rfl,hv,hnew,hbw⟩:=hrel;by_cases hlt:k<q
  . have hkd:k<d'.size:=by omega
    have hHw:HoldsK eE 11 wr g 0 d':=fun j hj=>by
      have:=hH2 j hj;unfold World.cell? World.frozen? at this⊢;rw[hbw.block g hg2];omega
    have hcl:∀c,c<11->wr.cell? ⟨g,0+k*11+c,none⟩=some (eE d'[k])[c]! :=fun c hc=>by
      have:=(hHw.cell (i:=k) (c:=c) hkd hc).1;rw[BJ d' k hkd]at this;omega
    obtain⟨x,hx⟩:∃x,x=d'[k]:=⟨_,rfl⟩;have hcur:((d'.toList.take k).foldl (fun a x=>fh a x.key) l).length<=10000:=by
      have:=KT (d'.toList.take k) l;omega
    have hnext:(d'.toList.take (k+1)).foldl (fun a x=>fh a x.key) l=fh ((d'.toList.take k).foldl (fun a x=>fh a x.key) l) x.key:=by
      rw[hx,lp _ _ (by omega)];simp
    have c0:wr.cell? ⟨g,k*11,none⟩=some (dR x.key.name):=by have:=hcl 0 (by omega);rw[AA,BC,<-hx]at this;exact this
    have c1:wr.cell? ⟨g,k*11+1,none⟩=some (dR x.key.domain):=by have:=hcl 1 (by omega);rw[AA,<-hx]at this;exact this
    have c2:wr.cell? ⟨g,k*11+2,none⟩=some (dR x.key.path):=by have:=hcl 2 (by omega);rw[AA,<-hx]at this;exact this
    have c3:wr.cell? ⟨g,k*11+3,none⟩=some (dR x.aa.value):=by have:=hcl 3 (by omega);rw[AA,<-hx]at this;exact this
    have c4:wr.cell? ⟨g,k*11+4,none⟩=some (.bool x.aa.aD):=by have:=hcl 4 (by omega);rw[AA,<-hx]at this;exact this
    have c5:wr.cell? ⟨g,k*11+5,none⟩=some (.bool x.aa.aM):=by have:=hcl 5 (by omega);rw[AA,<-hx]at this;exact this
    have c6:wr.cell? ⟨g,k*11+6,none⟩=some (.bool x.aa.aF):=by have:=hcl 6 (by omega);rw[AA,<-hx]at this;exact this
    have c7:wr.cell? ⟨g,k*11+7,none⟩=some (.bool x.aa.persistent):=by have:=hcl 7 (by omega);rw[AA,<-hx]at this;exact this
    have c8:wr.cell? ⟨g,k*11+8,none⟩=some (.int .i64 x.aa.aR):=by have:=hcl 8 (by omega);rw[AA,<-hx]at this;exact this
    have c9:wr.cell? ⟨g,k*11+9,none⟩=some (.int .i64 x.aa.ai):=by have:=hcl 9 (by omega);rw[AA,<-hx]at this;exact this
    have c10:wr.cell? ⟨g,k*11+10,none⟩=some (.int .i64 x.aa.access):=by have:=hcl 10 (by omega);rw[AA,<-hx]at this;exact this
    clear hx hcl hHw;have hsz0:w.heap.size<=wr.heap.size:=Av hbel2.size hbw.size;go_wp2_with (go_at_call 118;refine(SR (k:=x.key) hcur (hv.below ((Below.refl _ _).alloc (Ac _) _)) (((hw.below hbel2).below hbw).below ((Below.refl _ _).alloc (Ac _) _))).mono ?_;rintro e w3 ⟨u,rfl,hu1,hu2,hu3⟩)
    have R1:=hnext.symm▸hu1;have R2:=hnext.symm▸(Wu hu2 (m:=w.heap.size) (by simp;omega));have R3:Below w2.heap.size w2 w3:=(hbw.alloc hbw.size _).trans (hu3.mono (by have:=hbw.size;simp;omega));grind [intOf]
  . have hkq':k=q:=by omega
    subst hkq';go_wp2;go_ret;refine⟨_,rfl,?_,hbel2.trans (hbw.mono hbel2.size)⟩;rcases hnew with h0|hnew
    . omega
    . rw[<-hnm,Rm m l.length l d'.toList (by omega) hk hperm hpw]at hnew;simp_all
theorem Uw (a:Option Addr) (n cap m:Nat) (h:n<=m) (w:World):Calls Tryz.prog 117 #[.slice a n cap, .int .i64 m] w fun e w'=>e= .returned (.slice a n cap)/\w'=w:=by
 go_enter Tryz.func117,Tryz.ntmps117
 go_wp2;go_ret;simp_all
theorem QW (hdr:¬(default:aK).dr):CO KF Jl:=jx bh.ok (by
 rintro⟨l,m⟩ ⟨hl,hk,hm⟩ w args hold ⟨h1,h2⟩;have hm:0<=m:=hm;obtain⟨q,rfl⟩:∃q:Nat,m=(q:Int):=⟨m.toNat,by omega⟩;match args,h1 with
 |[v,u],_=>
 have hu:=zz (h2 1 _ _ rfl rfl);subst hu;have hv:=Gb (h2 0 _ _ rfl rfl);have hl:l.length<=10000:=hl;have hk:KN l:=hk;by_cases hq:l.length<=q
 . obtain⟨a,cap,rfl⟩:∃a cap,v= .slice a l.length cap:=by
     grind
   refine Calls.mono (Uw a l.length cap q hq w) ?_;rintro e w' ⟨rfl,rfl⟩;refine⟨_,rfl, .inl ⟨0,?_,rfl⟩,Below.refl _ _,fun h=>(hdr h).elim⟩;show some (items l)=some (items (fv ((q:Int)).toNat l))
   rw[Da,xN hq]
 . rcases hv with⟨rfl,a,c,rfl⟩|⟨b,off,cap,rfl,hb,hrow,hcap,hcells⟩
   . grind
   . refine Calls.mono (T8 (m:=q) (cap:=cap) hl hk (Nat.lt_of_not_le hq) (.inr ⟨b,off,cap,rfl,hcap,hcells,hrow⟩) hrow hb hold) ?_;rintro e w' ⟨u,rfl,hu,hbel⟩;exact⟨u,rfl, .inr (by
      show Up w' w.heap.size (items (fv ((q:Int)).toNat l)) u
      rw[Da];simp_all[LG]),hbel,fun h=>(hdr h).elim⟩)
end
end Go.Proofs
namespace Go.Proofs
open Go Go.Shelf Go.RowKit Go.Lib Go.Sort Go.Sym
section
structure kC (P:Program) (k:Nat):Prop where
 mixed:P.follows .mixedOrders=true
 f251:P.funcs[251]? =some Tryz.f251
 f230:P.funcs[230]? =some Tryz.f230
 f195:P.funcs[195]? =some Tryz.f195
 f150:P.funcs[150]? =some Tryz.f150
 f104:P.funcs[104]? =some Tryz.f104
 t0:P.underlying 0=some (TypeDesc.tuple #[])
 a0:∀w,(isAgg 0).run P w= .ok false w
 z0:∀w,(Go.sizeOf 0).run P w= .ok 1 w
 v0:∀w,(zeroValue 0).run P w= .ok (Value.tuple #[]) w
 t3:P.underlying 3=some (TypeDesc.int IntKind.i64)
 a3:∀w,(isAgg 3).run P w= .ok false w
 z3:∀w,(Go.sizeOf 3).run P w= .ok 1 w
 v3:∀w,(zeroValue 3).run P w= .ok (Value.int IntKind.i64 0) w
 t4:P.underlying 4=some (TypeDesc.bool)
 a4:∀w,(isAgg 4).run P w= .ok false w
 z4:∀w,(Go.sizeOf 4).run P w= .ok 1 w
 v4:∀w,(zeroValue 4).run P w= .ok (Value.bool false) w
 t39:P.underlying 39=some (TypeDesc.slice 61)
 a39:∀w,(isAgg 39).run P w= .ok false w
 z39:∀w,(Go.sizeOf 39).run P w= .ok 1 w
 v39:∀w,(zeroValue 39).run P w= .ok (Value.slice none 0 0) w
 t150:P.underlying 150=some (TypeDesc.func #[61,61] #[3] false)
 gz:∀w,(isAgg 150).run P w= .ok false w
 gH:∀w,(Go.sizeOf 150).run P w= .ok 1 w
 gG:∀w,(zeroValue 150).run P w= .ok (Value.nilFunc) w
 t198:P.underlying 198=some (TypeDesc.int IntKind.u64)
 a198:∀w,(isAgg 198).run P w= .ok false w
 z198:∀w,(Go.sizeOf 198).run P w= .ok 1 w
 v198:∀w,(zeroValue 198).run P w= .ok (Value.int IntKind.u64 0) w
 aE:∀w,(isAgg 61).run P w= .ok true w
 zE:∀w,(Go.sizeOf 61).run P w= .ok k w
variable {P:Program} {α:Type} [Inhabited α] {k:Nat}
set_option maxHeartbeats 4000000 in
set_option maxRecDepth 1000000 in
theorem kC.ir (L:kC P k) (enc:α->List Value) (g:Nat) (cb:Array Value) (aC off cap x y n:Nat) (d0 d:Array α) (w0 w:World)
  (R:RowK enc k w0 aC off d0) (hs:d0.size=d.size) (S:SWK enc k w0 aC off d w) (hxy:x+n<=y) (hy:y+n<=d.size) (hsz:d.size<4611686018427387904):
  Calls P 251 #[.slice (some ⟨aC,off,none⟩) d.size cap, .int .i64 x, .int .i64 y, .int .i64 n, .func (.func g) #[] cb] w fun e w'=>e= .returned (.tuple #[])/\ ∃d',SWK enc k w0 aC off d' w'/\d'.size=d.size/\(∀i,d'[i]! =mf (fun i=>d[i]!) x y n i)/\(∀a b,a<=x->y+n<=b->b<=d.size->PermIn a b d d'):=by
 have mixed:=L.mixed;have t0:=L.t0;have a0:=L.a0;have z0:=L.z0;have v0:=L.v0;have t3:=L.t3;have a3:=L.a3;have z3:=L.z3;have v3:=L.v3;have t4:=L.t4;have a4:=L.a4;have z4:=L.z4;have v4:=L.v4;have t39:=L.t39;have a39:=L.a39;have z39:=L.z39;have v39:=L.v39;have t150:=L.t150;have gz:=L.gz;have gH:=L.gH;have gG:=L.gG;have aE:=L.aE;have zE:=L.zE;have FG:=L.f251;have S0:Aside (SWK enc k w0 aC off d w):=S;clear S;go_enter FG,Tryz.ntmps251
 go_wp2;go_loopg [10] n (fun kx s10 wr=>∃(i:Nat) (dk:Array α),s10= .int .i64 i/\i<=n/\n - i<=kx/\dk.size=d.size/\Aside (SWK enc k w0 aC off dk wr)/\Hid (∀j,dk[j]! =mf (fun i=>d[i]!) x y i j)/\Hid (∀a b,a<=x->y+n<=b->b<=d.size->PermIn a b d dk))
 case atStart=>exact⟨0,d,rfl,Ao _,Ac _,rfl,S0,fun j=>(Xe _ _ _ _).symm,fun a b _ _ _=>permIn_refl _ _ _⟩
 case round=>
  clear S0;obtain⟨i,dk,rfl,hin,hkx,hds,S1,HE,HP⟩:=hrel;by_cases hlt:i<n
  . have hltz:(i:Int)<(n:Int):=by omega
    go_wp2_with fail
    have ea44:((x:Int)+(i:Int)).toNat=x+i:=by omega
    have pa44:(0:Int)<=(x:Int)+(i:Int):=by omega
    have ba44:(x:Int)+(i:Int)<(d.size:Int):=by omega
    have ra44:IntKind.i64.wrap ((x:Int)+(i:Int))=(x:Int)+(i:Int):=by rw[IntKind.wrap_i64];omega
    have ec44:((y:Int)+(i:Int)).toNat=y+i:=by omega
    have pc44:(0:Int)<=(y:Int)+(i:Int):=by omega
    have bc44:(y:Int)+(i:Int)<(d.size:Int):=by omega
    have rc44:IntKind.i64.wrap ((y:Int)+(i:Int))=(y:Int)+(i:Int):=by rw[IntKind.wrap_i64];omega
    have S2:Aside (SWK enc k w0 aC off (swp dk (x+i) (y+i)) ((wr.drew.setCells aC (off+(x+i)*k) (enc dk[y+i]!)).setCells aC (off+(y+i)*k) (enc dk[x+i]!))):=S1.out.swapped R (x+i) (y+i) (by omega) (by omega);have l44a:=S1.out.ld1 R (by omega) P (x+i) (by omega);have l44b:=S1.out.ld1 R (by omega) P (y+i) (by omega);have s44a:=S1.out.st1 R (by omega) P (x+i) (by omega) dk[y+i]!;have s44b:=S1.out.st2 R (by omega) P (x+i) (y+i) (by omega) (by omega) dk[y+i]! dk[x+i]!;have n44a:(enc dk[x+i]!).length=k:=R.hk _;have n44b:(enc dk[y+i]!).length=k:=R.hk _;generalize enc dk[x+i]! =cI44 at S2 l44a s44b n44a
    generalize enc dk[y+i]! =cJ44 at S2 l44b s44a s44b n44b
    clear S1;go_big_region_o
    clear l44a l44b s44a s44b;generalize (wr.drew.setCells aC (off+(x+i)*k) cJ44).setCells aC (off+(y+i)*k) cI44=w2 at S2⊢
    go_wp2;go_roundg (n - (i+1))
    case measure=>omega
    case rel=>exact⟨i+1,swp dk (x+i) (y+i),by simp,hlt,Ac _,by rw[size_swp];omega,S2,Xd d dk hds (by omega) (by omega) HE.out,fun a b h1 h2 h3=>permIn_trans _ _ _ _ _ (HP.out a b h1 h2 h3) (swp_permIn dk a b (x+i) (y+i) (by omega) (by omega) (by omega) (by omega) (by omega))⟩
  . have hltz:¬(i:Int)<(n:Int):=by omega
    have hi:i=n:=by omega
    subst hi;go_wp2;go_end0
    exact⟨rfl,dk,S1.out,hds,HE.out,HP.out⟩
set_option maxHeartbeats 4000000 in
set_option maxRecDepth 1000000 in
theorem kC.rotate (L:kC P k) (enc:α->List Value) (g:Nat) (cb:Array Value) (aC off cap a m b:Nat) (d0 d:Array α) (w0 w:World)
  (R:RowK enc k w0 aC off d0) (hs:d0.size=d.size) (S:SWK enc k w0 aC off d w) (ham:a<m) (hmb:m<b) (hb:b<=d.size) (hsz:d.size<4611686018427387904):
  Calls P 230 #[.slice (some ⟨aC,off,none⟩) d.size cap, .int .i64 a, .int .i64 m, .int .i64 b, .func (.func g) #[] cb] w fun e w'=>e= .returned (.tuple #[])/\ ∃d',SWK enc k w0 aC off d' w'/\d'.size=d.size/\(∀i,d'[i]! =gi (fun i=>d[i]!) a m b i)/\PermIn a b d d':=by
 have mixed:=L.mixed;have t0:=L.t0;have a0:=L.a0;have z0:=L.z0;have v0:=L.v0;have t3:=L.t3;have a3:=L.a3;have z3:=L.z3;have v3:=L.v3;have t4:=L.t4;have a4:=L.a4;have z4:=L.z4;have v4:=L.v4;have t39:=L.t39;have a39:=L.a39;have z39:=L.z39;have v39:=L.v39;have t150:=L.t150;have gz:=L.gz;have gH:=L.gH;have gG:=L.gG;have FG:=L.f230;have e251:∀args w,(callFunc 251 args).run P w= .ok (.enter 251 args) w:=enters_of L.f251 (by kernel_rfl) rfl;have S0:Aside (SWK enc k w0 aC off d w):=S;clear S;go_enter FG,Tryz.ntmps230
 go_wp2;go_loopg [10,11] ((m - a)+(b - m)) (fun kx s10 s11 wr=>∃(i j:Nat) (dk:Array α),s10= .int .i64 i/\s11= .int .i64 j/\0<i/\0<j/\a+i<=m/\m+j<=b/\i+j<=kx/\dk.size=d.size/\Aside (SWK enc k w0 aC off dk wr)/\Hid (gi (fun i=>d[i]!) a m b=gi (fun i=>dk[i]!) (m - i) m (m+j))/\Hid (PermIn a b d dk))
 case atStart=>exact⟨m - a,b - m,d,by grind,by grind,by omega,by omega,by omega,by omega,Ac _,rfl,S0,by show _=_;congr 1<;>omega,permIn_refl _ _ _⟩
 case round=>
  clear S0;obtain⟨i,j,dk,rfl,rfl,hi0,hj0,hai,hjb,hkx,hds,S1,HE,HP⟩:=hrel;have esub:((m - i:Nat):Int)=(m:Int) - (i:Int):=by omega
  by_cases hne:i=j
  . subst hne;have hcall:=L.ir enc g cb aC off cap (m - i) m i d0 dk w0 wr R (by omega) S1.out (by omega) (by omega) (by omega);rw[hds,esub]at hcall;clear S1;go_wp2_with (go_at_fn 251;refine hcall.mono ?_;rintro e w1 ⟨rfl,d',S3,hz,hr,hp⟩)
    go_end0
    refine⟨rfl,d',S3,hz,fun z=>?_,permIn_trans _ _ _ _ _ HP.out (hp a b (by omega) (by omega) (by omega))⟩;rw[hr,HE.out,ZZ _ (by omega)]
  . have hnez:¬(i:Int)=(j:Int):=by omega
    by_cases hgt:j<i
    . have hgtz:(i:Int)>(j:Int):=by omega
      have hcall:=L.ir enc g cb aC off cap (m - i) m j d0 dk w0 wr R (by omega) S1.out (by omega) (by omega) (by omega);rw[hds,esub]at hcall;clear S1;go_wp2_with (go_at_fn 251;refine hcall.mono ?_;rintro e w1 ⟨rfl,d',S3,hz,hr,hp⟩)
      go_roundg (i - j+j)
      case measure=>omega
      case rel=>exact⟨i - j,j,d',by grind,rfl,by omega,hj0,by omega,hjb,Ac _,hz,S3,by show _=_;rw[HE.out,ZY _ (by omega) hgt hj0,<-funext hr],permIn_trans _ _ _ _ _ HP.out (hp a b (by omega) (by omega) (by omega))⟩
    . have hgtz:¬(i:Int)>(j:Int):=by omega
      have hcall:=L.ir enc g cb aC off cap (m - i) (m+j - i) i d0 dk w0 wr R (by omega) S1.out (by omega) (by omega) (by omega);have esub2:((m+j - i:Nat):Int)=(m:Int)+(j:Int) - (i:Int):=by omega
      rw[hds,esub,esub2]at hcall;clear S1;go_wp2_with (go_at_fn 251;refine hcall.mono ?_;rintro e w1 ⟨rfl,d',S3,hz,hr,hp⟩)
      go_roundg (i+(j - i))
      case measure=>omega
      case rel=>exact⟨i,j - i,d',rfl,by grind,hi0,by omega,hai,by omega,Ac _,hz,S3,by show _=_;rw[HE.out,ZX _ (by omega) (by omega) hi0,<-funext hr],permIn_trans _ _ _ _ _ HP.out (hp a b (by omega) (by omega) (by omega))⟩
end
section
variable {P:Program} {α:Type} [Inhabited α] {k:Nat}
set_option maxHeartbeats 8000000 in
set_option maxRecDepth 1000000 in
theorem kC.IU (L:kC P k) (enc:α->List Value) (cf:α->α->Int) (hS:SWO (ltOf cf)) (g:Nat) (cb:Array Value) (aC off cap a m b:Nat) (d0 d:Array α) (w0 w:World)
  (eg:∀args w,(callFunc g args).run P w= .ok (.enter g args) w) (hcmp:CmpLays P g cb enc k cf aC off d0.size w0)
  (R:RowK enc k w0 aC off d0) (hs:d0.size=d.size) (S:SWK enc k w0 aC off d w) (ham:m=a+1) (hmb:m<b) (hb:b<=d.size) (hsz:d.size<4611686018427387904) (h2:SortedIn (ltOf cf) m b d):
  Calls P 195 #[.slice (some ⟨aC,off,none⟩) d.size cap, .int .i64 a, .int .i64 m, .int .i64 b, .func (.func g) #[] cb] w fun e w'=>e= .returned (.tuple #[])/\ ∃d',SWK enc k w0 aC off d' w'/\d'.size=d.size/\PermIn a b d d'/\SortedIn (ltOf cf) a b d':=by
 have mixed:=L.mixed;have t0:=L.t0;have a0:=L.a0;have z0:=L.z0;have v0:=L.v0;have t3:=L.t3;have a3:=L.a3;have z3:=L.z3;have v3:=L.v3;have t4:=L.t4;have a4:=L.a4;have z4:=L.z4;have v4:=L.v4;have t39:=L.t39;have a39:=L.a39;have z39:=L.z39;have v39:=L.v39;have t150:=L.t150;have gz:=L.gz;have gH:=L.gH;have gG:=L.gG;have t198:=L.t198;have a198:=L.a198;have z198:=L.z198;have v198:=L.v198;have aE:=L.aE;have zE:=L.zE;have FG:=L.f195;have HC:Aside _:=hcmp;have HS:Hid _:=hS;have H2:Hid _:=h2;have S0:Aside (SWK enc k w0 aC off d w):=S;clear S hcmp hS h2;have c1:(m:Int) - (a:Int)=1:=by omega
 have HM:Hid (m=a+1):=ham;have hma:a<m:=by omega
 have hma2:m<=a+1:=by omega
 clear ham;go_enter FG,Tryz.ntmps195
 go_wp2;go_loopg [10,11] (b - m) (fun kx s10 s11 wr=>∃(i j:Nat),s10= .int .i64 i/\s11= .int .i64 j/\m<=i/\i<=j/\j<=b/\j - i<=kx/\Aside (SWK enc k w0 aC off d wr)/\Hid (m<i->ltOf cf d[i - 1]! d[a]! =true)/\Hid (j<b->ltOf cf d[j]! d[a]! =false))
 case atStart=>exact⟨m,b,rfl,rfl,Ac _,by omega,Ac _,Ac _,S0,fun h=>absurd h (DQ _),fun h=>absurd h (DQ _)⟩
 case round=>
  clear S0;obtain⟨i,j,rfl,rfl,hmi,hij,hjb,hkx,S1,HL,HR⟩:=hrel;by_cases hlt:i<j
  . have hltz:(i:Int)<(j:Int):=by omega
    obtain⟨h,hh⟩:∃h,h=(i+j) / 2:=⟨_,rfl⟩;have hz:((i:Int)+(j:Int)) / 2=(h:Int):=by omega
    have hih:i<=h:=by omega
    have hhj:h<j:=by omega
    obtain⟨x38,hx38⟩:∃x,x=d[h]! :=⟨_,rfl⟩;obtain⟨y38,hy38⟩:∃x,x=d[a]! :=⟨_,rfl⟩;have l38a:=S1.out.ld R (by omega) P h (by omega);have l38b:=S1.out.ld R (by omega) P a (by omega);rw[<-hx38]at l38a;rw[<-hy38]at l38b;have hc38:=S1.out.cmp HC.out (by omega) x38 y38;have bz1:(h:Int)<(d.size:Int):=by omega
    have bz2:(a:Int)<(d.size:Int):=by omega
    have HX:Hid (x38=d[h]! /\y38=d[a]!):=⟨hx38,hy38⟩;clear hx38 hy38 hh;by_cases hv38:cf x38 y38<0
    . go_wp2_with fail
      go_quiet_grown (first|(go_at_fn g;refine Calls.grown_of (hc38 _ _)))
      have S2:Aside (SWK enc k w0 aC off d (grow (wr.drewN nq) osq)):=S1.out.grown nq osq;clear l38a l38b hc38 S1;generalize grow (wr.drewN nq) osq=w2 at S2⊢
      clear nq osq;go_wp2;go_roundg (j - (h+1))
      case measure=>omega
      case rel=>exact⟨h+1,j,by simp,rfl,by omega,by omega,hjb,Ac _,S2,fun _=>by rw[DU,<-HX.out.1,<-HX.out.2];exact BU hv38,HR.out⟩
    . go_wp2_with fail
      go_quiet_grown (first|(go_at_fn g;refine Calls.grown_of (hc38 _ _)))
      have S2:Aside (SWK enc k w0 aC off d (grow (wr.drewN nq) osq)):=S1.out.grown nq osq;clear l38a l38b hc38 S1;generalize grow (wr.drewN nq) osq=w2 at S2⊢
      clear nq osq;go_wp2;go_roundg (h - i)
      case measure=>omega
      case rel=>exact⟨i,h,rfl,rfl,hmi,hih,by omega,Ac _,S2,HL.out,fun _=>by rw[<-HX.out.1,<-HX.out.2];exact AQ (by omega)⟩
  . have hltz:¬(i:Int)<(j:Int):=by omega
    have hi:j=i:=by omega
    subst hi;go_wp2;go_loopg [13] (j - m) (fun kx s13 wr2=>∃(q:Nat) (dk:Array α),s13= .int .i64 q/\a<=q/\q+1<=j/\j - (q+1)<=kx/\dk.size=d.size/\Aside (SWK enc k w0 aC off dk wr2)/\Hid (∀z,dk[z]! =lQ (fun i=>d[i]!) a (q+1) z)/\Hid (PermIn a b d dk))
    case atStart=>exact⟨a,d,rfl,Ac _,by omega,by omega,rfl,S1,fun z=>(XG _ _ _).symm,permIn_refl _ _ _⟩
    case round=>
      clear S1;obtain⟨q,dk,rfl,haq,hqj,hkx2,hds,S1,HE,HP⟩:=hrel;by_cases hlt2:q+1<j
      . have hltz2:(q:Int)<(j:Int) - 1:=by omega
        have bz1:(q:Int)<(d.size:Int):=by omega
        have bz2:(q:Int)+1<(d.size:Int):=by omega
        have e0:((q:Int)+1).toNat=q+1:=by omega
        have p0:(0:Int)<=(q:Int)+1:=by omega
        have S2:Aside (SWK enc k w0 aC off (swp dk q (q+1)) ((wr.drew.setCells aC (off+q*k) (enc dk[q+1]!)).setCells aC (off+(q+1)*k) (enc dk[q]!))):=S1.out.swapped R q (q+1) (by omega) (by omega);have l44a:=S1.out.ld1 R (by omega) P q (by omega);have l44b:=S1.out.ld1 R (by omega) P (q+1) (by omega);have s44a:=S1.out.st1 R (by omega) P q (by omega) dk[q+1]!;have s44b:=S1.out.st2 R (by omega) P q (q+1) (by omega) (by omega) dk[q+1]! dk[q]!;have n44a:(enc dk[q]!).length=k:=R.hk _;have n44b:(enc dk[q+1]!).length=k:=R.hk _;generalize enc dk[q]! =cI44 at S2 l44a s44b n44a
        generalize enc dk[q+1]! =cJ44 at S2 l44b s44a s44b n44b
        clear S1;go_wp2_with fail
        go_big_region_o
        clear l44a l44b s44a s44b;generalize (wr.drew.setCells aC (off+q*k) cJ44).setCells aC (off+(q+1)*k) cI44=w2 at S2⊢
        go_wp2;go_roundg (j - (q+1+1))
        case measure=>omega
        case rel=>exact⟨q+1,swp dk q (q+1),by simp,by omega,hlt2,Ac _,by rw[size_swp];omega,S2,XH d dk hds haq (by omega) HE.out,permIn_trans _ _ _ _ _ HP.out (swp_permIn dk a b q (q+1) (by omega) (by omega) (by omega) (by omega) (by omega))⟩
      . have hltz2:¬(q:Int)<(j:Int) - 1:=by omega
        have hq:j=q+1:=by omega
        subst hq;go_wp2
        (try simp only[Exit.inBlock,Exit.then]);refine bodyPost_ret (results_none rfl _ _ _) rfl ?_
        refine⟨rfl,dk,S1.out,hds,HP.out,Zd (i:=q+1) HS.out (by have:=H2.out;rwa [HM.out]at this) (by omega) hjb (fun hx=>?_) HR.out HE.out⟩;exact HL.out (by omega)
set_option maxHeartbeats 8000000 in
set_option maxRecDepth 1000000 in
theorem kC.IV (L:kC P k) (enc:α->List Value) (cf:α->α->Int) (hS:SWO (ltOf cf)) (g:Nat) (cb:Array Value) (aC off cap a m b:Nat) (d0 d:Array α) (w0 w:World)
  (eg:∀args w,(callFunc g args).run P w= .ok (.enter g args) w) (hcmp:CmpLays P g cb enc k cf aC off d0.size w0)
  (R:RowK enc k w0 aC off d0) (hs:d0.size=d.size) (S:SWK enc k w0 aC off d w) (ham:a+1<m) (hmb:b=m+1) (hb:b<=d.size) (hsz:d.size<4611686018427387904) (h1:SortedIn (ltOf cf) a m d):
  Calls P 195 #[.slice (some ⟨aC,off,none⟩) d.size cap, .int .i64 a, .int .i64 m, .int .i64 b, .func (.func g) #[] cb] w fun e w'=>e= .returned (.tuple #[])/\ ∃d',SWK enc k w0 aC off d' w'/\d'.size=d.size/\PermIn a b d d'/\SortedIn (ltOf cf) a b d':=by
 have mixed:=L.mixed;have t0:=L.t0;have a0:=L.a0;have z0:=L.z0;have v0:=L.v0;have t3:=L.t3;have a3:=L.a3;have z3:=L.z3;have v3:=L.v3;have t4:=L.t4;have a4:=L.a4;have z4:=L.z4;have v4:=L.v4;have t39:=L.t39;have a39:=L.a39;have z39:=L.z39;have v39:=L.v39;have t150:=L.t150;have gz:=L.gz;have gH:=L.gH;have gG:=L.gG;have t198:=L.t198;have a198:=L.a198;have z198:=L.z198;have v198:=L.v198;have aE:=L.aE;have zE:=L.zE;have FG:=L.f195;have HC:Aside _:=hcmp;have HS:Hid _:=hS;have H1:Hid _:=h1;have S0:Aside (SWK enc k w0 aC off d w):=S;clear S hcmp hS h1;have c0:((m:Int) - (a:Int)==1)=false:=by rw[Bp];omega
 have c1:(b:Int) - (m:Int)=1:=by omega
 have HM:Hid (b=m+1):=hmb;have hmb1:m<b:=by omega
 have hmb2:b<=m+1:=by omega
 clear hmb;go_enter FG,Tryz.ntmps195
 go_wp2;go_loopg [14,15] (m - a) (fun kx s10 s11 wr=>∃(i j:Nat),s10= .int .i64 i/\s11= .int .i64 j/\a<=i/\i<=j/\j<=m/\j - i<=kx/\Aside (SWK enc k w0 aC off d wr)/\Hid (a<i->ltOf cf d[m]! d[i - 1]! =false)/\Hid (j<m->ltOf cf d[m]! d[j]! =true))
 case atStart=>grind
 case round=>
  clear S0;obtain⟨i,j,rfl,rfl,hmi,hij,hjb,hkx,S1,HL,HR⟩:=hrel;by_cases hlt:i<j
  . have hltz:(i:Int)<(j:Int):=by omega
    obtain⟨h,hh⟩:∃h,h=(i+j) / 2:=⟨_,rfl⟩;have hz:((i:Int)+(j:Int)) / 2=(h:Int):=by omega
    have hih:i<=h:=by omega
    have hhj:h<j:=by omega
    obtain⟨x38,hx38⟩:∃x,x=d[m]! :=⟨_,rfl⟩;obtain⟨y38,hy38⟩:∃x,x=d[h]! :=⟨_,rfl⟩;have l38a:=S1.out.ld R (by omega) P m (by omega);have l38b:=S1.out.ld R (by omega) P h (by omega);rw[<-hx38]at l38a;rw[<-hy38]at l38b;have hc38:=S1.out.cmp HC.out (by omega) x38 y38;have bz1:(h:Int)<(d.size:Int):=by omega
    have bz2:(m:Int)<(d.size:Int):=by omega
    have HX:Hid (x38=d[m]! /\y38=d[h]!):=⟨hx38,hy38⟩;clear hx38 hy38 hh;by_cases hv38:cf x38 y38<0
    . have hd38:decide (cf x38 y38<0)=true:=BU hv38;go_wp2_with fail
      go_quiet_grown (first|(go_at_fn g;refine Calls.grown_of (hc38 _ _)))
      have S2:Aside (SWK enc k w0 aC off d (grow (wr.drewN nq) osq)):=S1.out.grown nq osq;clear l38a l38b hc38 S1;generalize grow (wr.drewN nq) osq=w2 at S2⊢
      clear nq osq;go_wp2;go_roundg (h - i)
      case measure=>omega
      case rel=>exact⟨i,h,rfl,rfl,hmi,hih,by omega,Ac _,S2,HL.out,fun _=>by rw[<-HX.out.1,<-HX.out.2];exact BU hv38⟩
    . have hd38:decide (cf x38 y38<0)=false:=AQ (by omega);go_wp2_with fail
      go_quiet_grown (first|(go_at_fn g;refine Calls.grown_of (hc38 _ _)))
      have S2:Aside (SWK enc k w0 aC off d (grow (wr.drewN nq) osq)):=S1.out.grown nq osq;clear l38a l38b hc38 S1;generalize grow (wr.drewN nq) osq=w2 at S2⊢
      clear nq osq;go_wp2;go_roundg (j - (h+1))
      case measure=>omega
      case rel=>exact⟨h+1,j,by simp,rfl,by omega,by omega,hjb,Ac _,S2,fun _=>by rw[DU,<-HX.out.1,<-HX.out.2];exact AQ (by omega),HR.out⟩
  . have hltz:¬(i:Int)<(j:Int):=by omega
    have hi:j=i:=by omega
    subst hi;go_wp2;go_loopg [17] (m - j) (fun kx s13 wr2=>∃(q:Nat) (dk:Array α),s13= .int .i64 q/\j<=q/\q<=m/\q - j<=kx/\dk.size=d.size/\Aside (SWK enc k w0 aC off dk wr2)/\Hid (∀z,dk[z]! =lP (fun i=>d[i]!) q m z)/\Hid (PermIn a b d dk))
    case atStart=>exact⟨m,d,rfl,by omega,by omega,by omega,rfl,S1,fun z=>(XE _ _ _).symm,permIn_refl _ _ _⟩
    case round=>
      clear S1;obtain⟨q,dk,rfl,haq,hqj,hkx2,hds,S1,HE,HP⟩:=hrel;by_cases hlt2:j<q
      . obtain⟨q,rfl⟩:∃p,q=p+1:=⟨q - 1,by omega⟩;have hltz2:(q:Int)+1>(j:Int):=by omega
        have bz1:(q:Int)<(d.size:Int):=by omega
        have bz2:(q:Int)+1<(d.size:Int):=by omega
        have e0:((q:Int)+1).toNat=q+1:=by omega
        have p0:(0:Int)<=(q:Int)+1:=by omega
        have wq:IntKind.i64.wrap (q:Int)=(q:Int):=by rw[IntKind.wrap_i64];omega
        have S2:Aside (SWK enc k w0 aC off (swp dk (q+1) q) ((wr.drew.setCells aC (off+(q+1)*k) (enc dk[q]!)).setCells aC (off+q*k) (enc dk[q+1]!))):=S1.out.swapped R (q+1) q (by omega) (by omega);have l44a:=S1.out.ld1 R (by omega) P q (by omega);have l44b:=S1.out.ld1 R (by omega) P (q+1) (by omega);have s44a:=S1.out.st1 R (by omega) P (q+1) (by omega) dk[q]!;have s44b:=S1.out.st2 R (by omega) P (q+1) q (by omega) (by omega) dk[q]! dk[q+1]!;have n44a:(enc dk[q]!).length=k:=R.hk _;have n44b:(enc dk[q+1]!).length=k:=R.hk _;generalize enc dk[q]! =cI44 at S2 l44a s44a s44b n44a
        generalize enc dk[q+1]! =cJ44 at S2 l44b s44b n44b
        clear S1;go_wp2_with fail
        go_big_region_o
        clear l44a l44b s44a s44b;generalize (wr.drew.setCells aC (off+(q+1)*k) cI44).setCells aC (off+q*k) cJ44=w2 at S2⊢
        go_wp2;go_roundg (q - j)
        case measure=>omega
        case rel=>exact⟨q,swp dk (q+1) q,by simp,by omega,by omega,Ac _,by rw[size_swp];omega,S2,XF d dk hds hqj (by omega) HE.out,permIn_trans _ _ _ _ _ HP.out (swp_permIn dk a b (q+1) q (by omega) (by omega) (by omega) (by omega) (by omega))⟩
      . have hltz2:¬(q:Int)>(j:Int):=by omega
        have hq:q=j:=by omega
        subst hq;go_wp2
        (try simp only[Exit.inBlock,Exit.then]);refine bodyPost_ret (results_none rfl _ _ _) rfl ?_
        refine⟨rfl,dk,S1.out,hds,HP.out,?_⟩;rw[HM.out];exact Zc HS.out H1.out hmi hqj HL.out HR.out HE.out
end
end Go.Proofs
namespace Go.Proofs
open Go Go.Am Go.RowKit Go.Sy
section
variable [Inhabited aK]
def kj (d:au) (l:List au) (i:Nat) (h:i<l.length):Bool:=fJ l[i]&&(decide (i=0)||cA (l[i - 1]'(by omega)) l[i])&& !(l[i].dev==d.dev&&l[i].inc==d.inc&&bT d.seq l[i].seq)
def kW (d:au) (l:List au):Bool:=decide (l.length<=64)&&decide (∀i (h:i<l.length),kj d l i h=true)
def jE (e:af):Bool:=bT (Int.ofNat e.over.length) 100&&bT (Int.ofNat e.key.name.length) 2000&&bT (Int.ofNat e.key.domain.length) 2000&&bT (Int.ofNat e.key.path.length) 2000&&bT (Int.ofNat e.aa.value.length) 2000
def hZ (pre:af->Prop) (p:af->Bool):aL:={Y:=af,pre:=pre,args:=fun y=>[.agg y.enc],res:=fun y=> .bool (p y)}
def Fv:aL:={Y:=List af×Int,pre:=fun y=>y.2<=1000000,args:=fun y=>[cG y.1,i64 y.2],res:=fun y=> .bool (bT (Int.ofNat y.1.length) y.2&&y.1.all jE)}
def WM (y:List af×Int):aJ:={α:=Nat,ok:=fun i=>i<=y.1.length/\(y.1.take i).all jE=true,μ:=fun i=>y.1.length - i,aV:=[],aO:=fun i=>[(0,cG y.1),(5,i64 i)],bm:=fun _=>[]}
theorem Ou:CO Iw (hZ (fun _=>True) jE):=bB (cfg:=fun y=>bL bu (cR y)) bh (fun _=>rfl) (fun _=>ti) (n:=400) (by
 intro (e:af) _
 repeat' first|exact trivial|exact rfl|refine ax (fun _=>?_) fun _=>?_|apply And.intro
 all_goals grind [jE])
noncomputable def HD (f:FuncId):Option aL:=bif Nat.beq f Iw then some (hZ (fun _=>True) jE)else rJ f
theorem N5:∀g C,HD g=some C->CO g C:=bg Ou tf
theorem L8:CO pP Fv:=bB (cfg:=fun y=>bL HD (cu pP 4 (WM y))) bh (fun _=>rfl) (fun _=>N5) (n:=400) (by
 rintro⟨l,m⟩ (hm:m<=1000000);refine ax (fun h=>?_) fun h=>?_
 . have h:bT (Int.ofNat l.length) m=false:=by
     have h:aZ m (Int.ofNat l.length)=true:=h;rw[bM,Aa]at h;rw[fg,Ah];omega
   refine⟨by grind,?_⟩
   repeat' first|exact trivial|exact rfl|refine ax (fun _=>?_) fun _=>?_|apply And.intro
 have h:bT (Int.ofNat l.length) m=true:=by
   have h:aZ m (Int.ofNat l.length)=false:=h;rw[bM,Ah]at h;rw[fg,Aa];omega
 have hlen:l.length<=1000000:=by rw[fg,Aa,Af]at h;omega
 refine⟨⟨(0:Nat),⟨Ao _,by simp⟩,?_⟩,?_⟩
 . repeat' first|exact trivial|exact rfl|refine ax (fun _=>?_) fun _=>?_|apply And.intro
 intro (x:Nat) hx;obtain⟨hx,hn⟩:=hx;have hx:x<=l.length:=hx;have hn:(l.take x).all jE=true:=hn;refine ax (fun hlt=>?_) fun hge=>?_
 . have hlt':x<l.length:=cm hlt
   (conv=>whnf)
   refine aj.2 ⟨_,cp hlt',?_⟩;refine⟨l[x],?_⟩
   repeat first|refine⟨rfl,?_⟩|refine⟨trivial,?_⟩
   refine ax (fun h1=>?_) fun h1=>?_
   . have h1:(!jE l[x])=true:=h1;refine⟨?_,?_⟩
     . grind
     . repeat' first|exact trivial|exact rfl|refine ax (fun _=>?_) fun _=>?_|apply And.intro
   . have h1:(!jE l[x])=false:=h1
     (conv=>whnf)
     refine ae.2 ⟨cj x (by omega),?_⟩;refine⟨(x+1:Nat),⟨hlt',?_⟩,by show l.length - (x+1)<l.length - x;omega,?_⟩
     . grind [List.take_succ_eq_append_getElem]
     . repeat' first|exact trivial|exact rfl|refine ax (fun _=>?_) fun _=>?_|apply And.intro
 . have hge':l.length<=x:=gf hge;rw[Aq hge']at hn;refine⟨by grind,?_⟩
   repeat' first|exact trivial|exact rfl|refine ax (fun _=>?_) fun _=>?_|apply And.intro)
theorem Mt {d:au} {l:List au} {x:Nat} (hx:x<l.length) (h:kj d l x hx=false):kW d l=false:=by
 grind [kW]
def Ji (d:au) (l:List au) (ks:List Nat) (s1 s2 s3:Nat):aJ:={α:=Nat,ok:=fun i=>i<=l.length/\ ∀j (h:j<l.length),j<i->kj d l j h=true,μ:=fun i=>l.length - i,aV:=ks,aO:=fun i=>[(s1,cK l),(s2,i64 (Int.ofNat l.length)),(s3,i64 i)],bm:=fun _=>[]}
theorem qyK:CO IF (hZ (fun _=>True) fun e=>kW e.dot e.over):=bB (C:=hZ (fun _=>True) fun e=>kW e.dot e.over) (cfg:=fun(y:af)=>bL HD (cu IF 4 (Ji y.dot y.over [1] 10 11 12))) bh (fun _=>rfl) (fun _=>N5) (n:=600) (by
 rintro⟨d,st,kd,ky,ck,l⟩ -;refine ax (fun h=>?_) fun h=>?_
 . have h:64<l.length:=by
     have h:aZ 64 (Int.ofNat l.length)=true:=h;rw[bM,Aa,Af]at h;omega
   refine⟨by grind [kW],?_⟩
   repeat' first|exact trivial|exact rfl|refine ax (fun _=>?_) fun _=>?_|apply And.intro
 have h:l.length<=64:=by
   have h:aZ 64 (Int.ofNat l.length)=false:=h;rw[bM,Ah,Af]at h;omega
 refine⟨⟨(0:Nat),⟨Ao _,fun _ _ h=>absurd h (A9 _)⟩,?_⟩,?_⟩
 . repeat' first|exact trivial|exact rfl|refine ax (fun _=>?_) fun _=>?_|apply And.intro
 intro (x:Nat) hx;obtain⟨hx,hn⟩:=hx;have hx:x<=l.length:=hx;refine ax (fun hlt=>?_) fun hge=>?_
 . have hlt':x<l.length:=cm hlt;have no:=Mt (d:=d) hlt';have yes:kj d l x hlt'=true->(Ji d l [1] 10 11 12).ok (x+1:Nat):=fun hy=>⟨hlt',fun j hj hjx=>by
     grind⟩
   have mu:l.length - (x+1)<l.length - x:=by omega
   (conv=>whnf)
   refine aj.2 ⟨_,cp hlt',?_⟩;refine⟨l[x],?_⟩
   repeat first|refine⟨rfl,?_⟩|refine⟨trivial,?_⟩
   refine ax (fun h1=>?_) fun h1=>?_
   . have h1:fJ l[x]=false:=by
       have h1:(!fJ l[x])=true:=h1;grind
     refine⟨by grind [kj],?_⟩
     repeat' first|exact trivial|exact rfl|refine ax (fun _=>?_) fun _=>?_|apply And.intro
   have h1:fJ l[x]=true:=by
     have h1:(!fJ l[x])=false:=h1;grind
   refine ah.2 ⟨fun h2=> ?ga,fun h2=> ?gb⟩
   case' ga=>
     have hx0:0<x:=by
       have h2:aZ 0 (x:Int)=true:=h2;rw[bM,Aa]at h2;omega
     have hx1:x - 1<l.length:=by omega
     have hget:l[((x:Int) - 1).toNat]? =some l[x - 1]:=by
       rw[show((x:Int) - 1).toNat=x - 1 by omega,Ai hx1]
     (conv=>whnf)
     refine ae.2 ⟨by rw[fT];omega,?_⟩
     (conv=>whnf)
     refine ae.2 ⟨by rw[kt,Aa];omega,?_⟩
     (conv=>whnf)
     refine aj.2 ⟨_,hget,?_⟩;refine⟨(l[x - 1],l[x]),?_⟩
     repeat first|refine⟨rfl,?_⟩|refine⟨trivial,?_⟩
     refine ah.2 ⟨fun h3=> ?gc,fun h3=> ?gd⟩
     case gc=>
       have h3:cA l[x - 1] l[x]=false:=by
         have h3:(!cA l[x - 1] l[x])=true:=h3;grind
       refine⟨by show false=kW d l;rw[no (by simp only[kj,h1,h3,AQ (show ¬x=0 by omega),Et,DO,Dj])],?_⟩
       repeat' first|exact trivial|exact rfl|refine ax (fun _=>?_) fun _=>?_|apply And.intro
     case' gd=>
       have h3:cA l[x - 1] l[x]=true:=by
         have h3:(!cA l[x - 1] l[x])=false:=h3;grind
       have hA:kj d l x hlt'= !(l[x].dev==d.dev&&l[x].inc==d.inc&&bT d.seq l[x].seq):=by simp_all[kj]
   case' gb=>
     have hx0:x=0:=by
       have h2:aZ 0 (x:Int)=false:=h2;rw[bM,Ah]at h2;omega
     have hA:kj d l x hlt'= !(l[x].dev==d.dev&&l[x].inc==d.inc&&bT d.seq l[x].seq):=by grind [kj]
   all_goals
     refine ax (fun h4=>?_) fun h4=>?_
     . have h4:(l[x].dev==d.dev&&l[x].inc==d.inc)=true:=by simpa using h4
       refine ax (fun h5=>?_) fun h5=>?_
       . have h5:bT d.seq l[x].seq=true:=h5;rw[h4,h5]at hA;refine⟨by show false=kW d l;rw[no hA],?_⟩
         repeat' first|exact trivial|exact rfl|refine ax (fun _=>?_) fun _=>?_|apply And.intro
       . have h5:bT d.seq l[x].seq=false:=h5;rw[h4,h5]at hA
         (conv=>whnf)
         refine ae.2 ⟨cj x (by omega),?_⟩;refine⟨(x+1:Nat),yes hA,mu,?_⟩
         repeat' first|exact trivial|exact rfl|refine ax (fun _=>?_) fun _=>?_|apply And.intro
     . have h4:(l[x].dev==d.dev&&l[x].inc==d.inc)=false:=by
         cases e:(l[x].dev==d.dev&&l[x].inc==d.inc)with
         |false=>rfl
         |true=>
          have e':(l[x].dev==d.dev&&(l[x].inc==d.inc&&true))=false:=h4;rw[Eu,e]at e';cases e'
       rw[h4]at hA
       (conv=>whnf)
       refine ae.2 ⟨cj x (by omega),?_⟩;refine⟨(x+1:Nat),yes hA,mu,?_⟩
       repeat' first|exact trivial|exact rfl|refine ax (fun _=>?_) fun _=>?_|apply And.intro
 . have hge':l.length<=x:=gf hge;refine⟨?_,?_⟩
   . grind [kW]
   . repeat' first|exact trivial|exact rfl|refine ax (fun _=>?_) fun _=>?_|apply And.intro)
end
section
variable [Inhabited aK]
theorem qx1 (s:Bs) (c:Int):bT 0 (gT s c)= !(dB s c).isNone:=by
 grind [xO,fg]
theorem qyi (a b:Int):aZ a b= !bT b a:=by
 rw[bM,fg,Az,Aa,A2,Ah];omega
theorem qvO:CO Ke yL:=bB (cfg:=fun y=>bL wK (cR y)) bh (fun _=>rfl) (fun _=>yv) (n:=800) (by
 rintro⟨⟨n,d,p⟩,v,b1,b2,b3,b4,e,c,a⟩ ⟨(hn:n.length<=1000000),(hv:v.length<=1000000)⟩;rcases p with _|⟨p0,p⟩
 all_goals
  repeat' (first|exact trivial|(with_reducible exact rfl)|((conv=>whnf);first|(apply ax<;>intro)|apply And.intro)|((conv=>whnf);refine⟨n,?_⟩;(conv=>whnf);refine⟨rfl,?_⟩)|((conv=>whnf);refine⟨v,?_⟩;(conv=>whnf);refine⟨rfl,?_⟩)|((conv=>whnf);refine⟨d,?_⟩;(conv=>whnf);refine⟨rfl,?_⟩)|((conv=>whnf);refine⟨(n,61),?_⟩;(conv=>whnf);refine⟨rfl,?_⟩))
 all_goals first|exact hn|exact hv|exact rfl|skip
 all_goals simp_all[tK,yR,within,qyi,qx1,Qh,En])
end
section
variable [Inhabited aK]
def Cl (x:ab):Bool:=decide (x=iR)
def gR (e:af):Bool:=fJ e.dot&&pj e.bA&&(e.bA.dev==e.dot.dev)&&kW e.dot e.over&&(bif e.kind==2 then Cl e.item&&aZ 0 (Int.ofNat e.over.length)else bif e.kind==1 then tK e.item else false)
def lL (e:af):Prop:=e.key.name.length<=1000000/\e.aa.value.length<=1000000
noncomputable def tW (f:FuncId):Option aL:=bif Nat.beq f JZ then some yL else bif Nat.beq f Ke then some yL else bif Nat.beq f IF then some (hZ (fun _=>True) fun e=>kW e.dot e.over)else bif Nat.beq f Iw then some (hZ (fun _=>True) jE)else bif Nat.beq f pP then some Fv else wK f
theorem vH:∀g C,tW g=some C->CO g C:=bg qvN (bg qvO (bg qyK (bg Ou (bg L8 yv))))
theorem Nj (x y:ab):x=y↔(x.key.name=y.key.name/\x.key.domain=y.key.domain/\x.key.path=y.key.path)/\x.aa.value=y.aa.value/\x.aa.aD=y.aa.aD/\x.aa.aM=y.aa.aM/\x.aa.aF=y.aa.aF/\x.aa.persistent=y.aa.persistent/\x.aa.aR=y.aa.aR/\x.aa.ai=y.aa.ai/\x.aa.access=y.aa.access:=by
 constructor
 . grind
 . rintro⟨⟨h1,h2,h3⟩,h4⟩
   cases x;cases y;rename_i k c k' c'
   cases k;cases k';cases c;simp_all
theorem Ov:CO J8 (hZ lL gR):=bB (C:=hZ lL gR) (cfg:=fun y=>bL tW (cR y)) bh (fun _=>rfl) (fun _=>vH) (n:=800) (by
 rintro⟨d,st,kd,ky,ck,l⟩ ⟨(hn:ky.name.length<=1000000),(hv:ck.value.length<=1000000)⟩;refine⟨d,?_⟩
 repeat' (first|exact trivial|(with_reducible exact rfl)|((conv=>whnf);first|(apply ax<;>intro)|apply And.intro)|((conv=>whnf);refine⟨st,?_⟩;(conv=>whnf);refine⟨rfl,?_⟩)|((conv=>whnf);refine⟨(⟨d,st,kd,ky,ck,l⟩:af),?_⟩;(conv=>whnf);refine⟨rfl,?_⟩)|((conv=>whnf);refine⟨(⟨ky,ck⟩:ab),?_⟩;(conv=>whnf);refine⟨rfl,?_⟩))
 all_goals simp_all[gR,Cl,af.item,Nj,iR,tB])
def PI (d:au) (l:List au):aJ:={α:=Nat,ok:=fun i=>i<=l.length/\ ∀j (h:j<l.length),j<i->kj d l j h=true,μ:=fun i=>l.length - i,aV:=[1],aO:=fun i=>[(3,i64 i)],bm:=fun _=>[]}
theorem Ym:CO Iy (hZ lL gR):=bB (C:=hZ lL gR) (cfg:=fun(y:af)=>bL tW (cu Iy 4 (PI y.dot y.over))) bh (fun _=>rfl) (fun _=>vH) (n:=800) (by
 rintro⟨d,st,kd,ky,ck,l⟩ ⟨(hkn:ky.name.length<=1000000),(hv:ck.value.length<=1000000)⟩;refine⟨d,?_⟩
 repeat first|refine⟨rfl,?_⟩|refine⟨trivial,?_⟩
 refine ax (fun h1=>?_) fun h1=>?_
 . (conv=>whnf)
   refine⟨?_,?_⟩
   . grind [gR]
   . repeat' first|exact trivial|exact rfl|refine ax (fun _=>?_) fun _=>?_|apply And.intro
 refine⟨st,?_⟩
 repeat first|refine⟨rfl,?_⟩|refine⟨trivial,?_⟩
 refine ax (fun h2=>?_) fun h2=>?_
 . (conv=>whnf)
   refine⟨?_,?_⟩
   . grind [gR]
   . repeat' first|exact trivial|exact rfl|refine ax (fun _=>?_) fun _=>?_|apply And.intro
 refine ax (fun h3=>?_) fun h3=>?_
 . (conv=>whnf)
   refine⟨?_,?_⟩
   . grind [gR]
   . repeat' first|exact trivial|exact rfl|refine ax (fun _=>?_) fun _=>?_|apply And.intro
 refine ax (fun h4=>?_) fun h4=>?_
 . (conv=>whnf)
   refine⟨?_,?_⟩
   . have h4:64<l.length:=by
       have h4:aZ 64 (Int.ofNat l.length)=true:=h4;rw[bM,Aa,Af]at h4;omega
     have:kW d l=false:=by grind [kW]
     grind [gR]
   . repeat' first|exact trivial|exact rfl|refine ax (fun _=>?_) fun _=>?_|apply And.intro
 have h:l.length<=64:=by
   have h4:aZ 64 (Int.ofNat l.length)=false:=h4;rw[bM,Ah,Af]at h4;omega
 have noR:kW d l=false->false=gR ⟨d,st,kd,ky,ck,l⟩:=fun hh=>by grind [gR]
 have hd:fJ d=true:=by grind
 have hs:pj st=true:=by
   have h2:(!pj st)=false:=h2;grind
 have he:(st.dev==d.dev)=true:=by
   have h3:(!(st.dev==d.dev))=false:=h3;grind
 have hR:kW d l=true->gR ⟨d,st,kd,ky,ck,l⟩=(bif kd==2 then Cl ⟨ky,ck⟩&&aZ 0 (Int.ofNat l.length)else bif kd==1 then tK ⟨ky,ck⟩else false):=fun hh=>by grind [gR,af.item]
 clear h1 h2 h3 h4;refine⟨⟨(0:Nat),⟨Ao _,fun _ _ h=>absurd h (A9 _)⟩,?_⟩,?_⟩
 . repeat' first|exact trivial|exact rfl|refine ax (fun _=>?_) fun _=>?_|apply And.intro
 intro (x:Nat) hx;obtain⟨hx,hn'⟩:=hx;have hx:x<=l.length:=hx;refine ax (fun hlt=>?_) fun hge=>?_
 . have hlt':x<l.length:=cm hlt;have no:=Mt (d:=d) hlt';have yes:kj d l x hlt'=true->(PI d l).ok (x+1:Nat):=fun hy=>⟨hlt',fun j hj hjx=>by
     grind⟩
   have mu:l.length - (x+1)<l.length - x:=by omega
   (conv=>whnf)
   refine aj.2 ⟨_,cp hlt',?_⟩;refine⟨l[x],?_⟩
   repeat first|refine⟨rfl,?_⟩|refine⟨trivial,?_⟩
   refine ax (fun h1=>?_) fun h1=>?_
   . have h1:fJ l[x]=false:=by
       have h1:(!fJ l[x])=true:=h1;grind
     refine⟨noR (no (by grind [kj])),?_⟩
     repeat' first|exact trivial|exact rfl|refine ax (fun _=>?_) fun _=>?_|apply And.intro
   have h1:fJ l[x]=true:=by
     have h1:(!fJ l[x])=false:=h1;grind
   refine ah.2 ⟨fun h2=> ?ga,fun h2=> ?gb⟩
   case' ga=>
     have hx0:0<x:=by
       have h2:aZ 0 (x:Int)=true:=h2;rw[bM,Aa]at h2;omega
     have hx1:x - 1<l.length:=by omega
     have hget:l[((x:Int) - 1).toNat]? =some l[x - 1]:=by
       rw[show((x:Int) - 1).toNat=x - 1 by omega,Ai hx1]
     (conv=>whnf)
     refine ae.2 ⟨by rw[fT];omega,?_⟩
     (conv=>whnf)
     refine ae.2 ⟨by rw[kt,Aa];omega,?_⟩
     (conv=>whnf)
     refine aj.2 ⟨_,hget,?_⟩;refine⟨(l[x - 1],l[x]),?_⟩
     repeat first|refine⟨rfl,?_⟩|refine⟨trivial,?_⟩
     refine ah.2 ⟨fun h3=> ?gc,fun h3=> ?gd⟩
     case gc=>
       have h3:cA l[x - 1] l[x]=false:=by
         have h3:(!cA l[x - 1] l[x])=true:=h3;grind
       refine⟨noR (no (by simp only[kj,h1,h3,AQ (show ¬x=0 by omega),Et,DO,Dj])),?_⟩
       repeat' first|exact trivial|exact rfl|refine ax (fun _=>?_) fun _=>?_|apply And.intro
     case' gd=>
       have h3:cA l[x - 1] l[x]=true:=by
         have h3:(!cA l[x - 1] l[x])=false:=h3;grind
       have hA:kj d l x hlt'= !(l[x].dev==d.dev&&l[x].inc==d.inc&&bT d.seq l[x].seq):=by simp_all[kj]
   case' gb=>
     have hx0:x=0:=by
       have h2:aZ 0 (x:Int)=false:=h2;rw[bM,Ah]at h2;omega
     have hA:kj d l x hlt'= !(l[x].dev==d.dev&&l[x].inc==d.inc&&bT d.seq l[x].seq):=by grind [kj]
   all_goals
     refine ax (fun h4=>?_) fun h4=>?_
     . have h4:(l[x].dev==d.dev&&l[x].inc==d.inc)=true:=by simpa using h4
       refine ax (fun h5=>?_) fun h5=>?_
       . have h5:bT d.seq l[x].seq=true:=h5;rw[h4,h5]at hA;refine⟨noR (no hA),?_⟩
         repeat' first|exact trivial|exact rfl|refine ax (fun _=>?_) fun _=>?_|apply And.intro
       . have h5:bT d.seq l[x].seq=false:=h5;rw[h4,h5]at hA
         (conv=>whnf)
         refine ae.2 ⟨cj x (by omega),?_⟩;refine⟨(x+1:Nat),yes hA,mu,?_⟩
         repeat' first|exact trivial|exact rfl|refine ax (fun _=>?_) fun _=>?_|apply And.intro
     . have h4:(l[x].dev==d.dev&&l[x].inc==d.inc)=false:=by
         cases e:(l[x].dev==d.dev&&l[x].inc==d.inc)with
         |false=>rfl
         |true=>
          have e':(l[x].dev==d.dev&&(l[x].inc==d.inc&&true))=false:=h4;rw[Eu,e]at e';cases e'
       rw[h4]at hA
       (conv=>whnf)
       refine ae.2 ⟨cj x (by omega),?_⟩;refine⟨(x+1:Nat),yes hA,mu,?_⟩
       repeat' first|exact trivial|exact rfl|refine ax (fun _=>?_) fun _=>?_|apply And.intro
 . have hge':l.length<=x:=gf hge;have hov:kW d l=true:=by
     grind [kW]
   have hR:=hR hov
   repeat' (first|exact trivial|(with_reducible exact rfl)|((conv=>whnf);first|(apply ax<;>intro)|apply And.intro)|((conv=>whnf);refine⟨(⟨ky,ck⟩:ab),?_⟩;(conv=>whnf);refine⟨rfl,?_⟩))
   all_goals first|exact hkn|exact hv|skip
   all_goals (show _=gR ⟨d,st,kd,ky,ck,l⟩)
   all_goals (rw[hR];simp only[Cl];clear hR noR hn')
   all_goals simp_all[Nj,iR,tB])
end
end Go.Proofs
