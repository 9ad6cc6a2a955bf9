/- Part 5: an evaluator, proved sound, and its use at this seat; no condition. -/
import Derived.KernelRfl
import Derived.Test.YtggljmdeadplkaaGreatP1
import Derived.Test.YtggljmdeadplkaaGreatP2
set_option linter.unusedSimpArgs false
set_option linter.unusedVariables false
set_option linter.unusedSectionVars false
set_option linter.deprecated false
set_option maxRecDepth 100000
set_option maxHeartbeats 4000000
namespace Go.Proofs
open Go Go.Am Go.RowKit Go.Sy
section
variable [Inhabited aI]
noncomputable def Rh:TypeId->Option View:=fun t=>bif Nat.beq t Ty.string then some ⟨Bs,dG⟩else none
noncomputable def bE (fX:FuncId->Option aQ) (lH:FuncId->Nat->Option aK):gR:={tab:=oG,view:=Rh,fX,lH}
def cM {Y:Type}:Y->FuncId->Nat->Option aK:=fun _ _ _=>none
def cX (f r:Nat) (A:aK):FuncId->Nat->Option aK:=fun g s=>bif Nat.beq g f&&Nat.beq s r then some A else none
def i64 (n:Int):SV:= .int .i64 n
def strs (l:List Bs):SV:= .aH Bs l dG
def qn:aQ:={Y:=Bs×Int,pre:=fun y=>y.1.length<=1000000,args:=fun y=>[.str y.1, .int .u8 y.2],res:=fun y=>i64 (gu y.1 y.2)}
def uV (y:Bs×Int):aK:={α:=Nat,ok:=fun i=>i<=y.1.length/\ ∀j (h:j<y.1.length),j<i->nB y.1[j]≠y.2,μ:=fun i=>y.1.length - i,bn:=[],aU:=fun i=>[(0, .str y.1),(1, .int .u8 y.2),(5,i64 (-1)),(8,i64 (Int.ofNat y.1.length)),(9,i64 i)],bP:=fun _=>[]}
def nS:aQ:={Y:=Bs×Int,pre:=fun y=>y.1.length<=1000000,args:=fun y=>[.str y.1, .int .u8 y.2],res:=fun y=> .bj [.str (dh y.1 y.2).1, .str (dh y.1 y.2).2.1, .bool (dh y.1 y.2).2.2]}
def qe:aQ:={Y:=Bs×Int,pre:=fun y=>y.1.length<=100000,args:=fun y=>[.str y.1, .int .u8 y.2],res:=fun y=>strs (aM y.1 y.2)}
def uu (y:Bs×Int):aK:={α:=Bs×List Bs,ok:=fun x=>aM y.1 y.2=x.2++aM x.1 y.2/\x.2.length+x.1.length<=y.1.length,μ:=fun x=>x.1.length,bn:=[],aU:=fun x=>[(0, .str x.1),(1, .int .u8 y.2),(5, .own 0)],bP:=fun x=>[(0, .arr Bs x.2 dG Ty.string)]}
def nT:aQ:={Y:=UInt8,pre:=fun _=>True,args:=fun y=>[.int .u8 (nB y)],res:=fun y=> .bool (cT y)}
def qm:aQ:={Y:=Bs,pre:=fun y=>y.length<=1000000,args:=fun y=>[.str y],res:=fun y=>i64 (cK y)}
def uU (y:Bs):aK:={α:=Nat,ok:=fun i=>i<=cK y,μ:=fun i=>y.length - i,bn:=[],aU:=fun i=>[(0, .str y),(3,i64 i)],bP:=fun _=>[]}
def jE:aQ:={Y:=Bs,pre:=fun y=>y.length<=1000000,args:=fun y=>[.str y],res:=fun y=> .bj [i64 (aW y).1, .bool (aW y).2]}
def gL (y:Bs):aK:={α:=Nat,ok:=fun i=>i<=(au y).length/\ ∀b∈au y,cT b=true,μ:=fun i=>(au y).length - i,bn:=[],aU:=fun i=>[(4, .str (au y)),(5,i64 (if cj y then -1 else 1)),(6,i64 (((au y).take i).foldl bL 0)),(28,i64 (Int.ofNat (au y).length)),(29,i64 i)],bP:=fun _=>[]}
def um (y:Bs×Int):aK:={α:=Nat,ok:=fun i=>i<=y.1.length/\ ∀j (h:j<y.1.length),j<i->nB y.1[j]≠y.2,μ:=fun i=>y.1.length - i,bn:=[],aU:=fun i=>[(0, .str y.1),(1, .int .u8 y.2),(5,i64 i)],bP:=fun _=>[]}
def pU (y:Bs×Int):aK:={α:=Nat×Nat×List Bs,ok:=fun x=>x.1<=x.2.1/\x.2.1<=y.1.length/\aM y.1 y.2=x.2.2++aM (y.1.drop x.1) y.2/\x.2.2.length<=x.1/\ ∀j (h:j<y.1.length),x.1<=j->j<x.2.1->nB y.1[j]≠y.2,μ:=fun x=>y.1.length - x.2.1,bn:=[],aU:=fun x=>[(0, .str y.1),(1, .int .u8 y.2),(5, .own 0),(6,i64 x.1),(7,i64 x.2.1)],bP:=fun x=>[(0, .arr Bs x.2.2 dG Ty.string)]}
def kg (y:Bs):aK:={α:=Nat,ok:=fun i=>i<=y.length,μ:=fun i=>y.length - i,bn:=[],aU:=fun i=>[(0, .str y),(3,i64 (Int.ofNat (min i (cK y)))),(4,i64 i)],bP:=fun _=>[]}
def bH (y:Bs):Nat:=if cj y then 1 else 0
def gX (y:Bs):aK:={α:=Nat,ok:=fun i=>bH y<=i/\i<=y.length/\ ∀b∈au y,cT b=true,μ:=fun i=>y.length - i,bn:=[],aU:=fun i=>[(0, .str y),(4,i64 (Int.ofNat (bH y))),(5,i64 (((au y).take (i - bH y)).foldl bL 0)),(6,i64 i)],bP:=fun _=>[]}
def yb:aQ:={Y:=Nat,pre:=fun y=>y<=1099511627776,args:=fun y=>[i64 y],res:=fun y=> .str (iu y)}
def uX (y:Nat):aK:={α:=Nat×Nat×Bs,ok:=fun x=>x.1<=30/\x.2.2.length<=30/\iu y=jT (10+x.1) x.2.1++x.2.2/\x.2.2.length+x.1<=30/\x.2.1<10 ^ (x.1+1)/\x.2.1<=y,μ:=fun x=>x.2.1,bn:=[],aU:=fun x=>[(0,i64 x.2.1),(3, .str x.2.2)],bP:=fun _=>[]}
noncomputable def vb (f:FuncId):Option aQ:=bif Nat.beq f lp then some qn else none
noncomputable def ve (f:FuncId):Option aQ:=bif Nat.beq f pn then some nS else vb f
noncomputable def vg (f:FuncId):Option aQ:=bif Nat.beq f lj then some qe else bif Nat.beq f oX then some nT else ve f
noncomputable def qq (f:FuncId):Option aQ:=bif Nat.beq f kV then some qm else bif Nat.beq f kZ then some qm else vg f
noncomputable def GV (f:FuncId):Option aQ:=bif Nat.beq f kW then some jE else bif Nat.beq f lg then some jE else bif Nat.beq f lr then some qn else bif Nat.beq f ll then some qe else bif Nat.beq f lu then some yb else qq f
noncomputable def bS (_:FuncId):Option aQ:=none
end
section
variable [Inhabited aI]
theorem Pk:(cr (fun(y:aQ.Y qn)=>bE bS (cX lp 3 (uV y))) 400 lp)=(∀(y:Bs×Int),
 y.1.length<=1000000->
 (∃(x:Nat),
 (x<=y.1.length/\ ∀(j:Nat) (h:j<y.1.length),j<x->ax (nB y.1[j]) y.2->False)/\
 (y.1=y.1/\
 ax y.2 y.2/\
 ax (-1) (-1)/\ax (Int.ofNat y.1.length) (Int.ofNat y.1.length)/\ax 0 ↑x/\True)/\
 True/\True)/\
 ∀(x:Nat),
 (x<=y.1.length/\ ∀(j:Nat) (h:j<y.1.length),j<x->ax (nB y.1[j]) y.2->False)->
 br (bO (↑x) (Int.ofNat y.1.length))
 (so y.1[Int.toNat ↑x]? fun(val:UInt8)=>
 br (Int.ofNat (UInt8.toNat val)==y.2) (ax (↑x) (gu y.1 y.2)/\True)
 (ck (bw .i64 (↑x+1))
 (∃(y_1:Nat),
 (y_1<=y.1.length/\ ∀(j:Nat) (h:j<y.1.length),j<y_1->ax (nB y.1[j]) y.2->False)/\
 aK.μ (uV y) y_1<aK.μ (uV y) x/\
 (y.1=y.1/\
 ax y.2 y.2/\
 ax (-1) (-1)/\ax (Int.ofNat y.1.length) (Int.ofNat y.1.length)/\ax (↑x+1) ↑y_1/\True)/\
 True/\True)))
 (ax (-1) (gu y.1 y.2)/\True)):=by kernel_rfl
theorem Qj:(cr (fun(y:aQ.Y nS)=>bE vb (cM y)) 400 pn)=(∀(y:Bs×Int),
 y.1.length<=1000000->
 ∃(y_1:Bs×Int),
 y.1=y_1.1/\
 ax y.2 y_1.2/\
 y_1.1.length<=1000000/\
 br (bO (gu y_1.1 y_1.2) 0)
 (y.1=Prod.fst (dh y.1 y.2)/\
 Array.toList (ByteArray.data {data:=#[]})=Prod.fst (Prod.snd (dh y.1 y.2))/\
 false=Prod.snd (Prod.snd (dh y.1 y.2))/\True)
 (ck (nn (gu y_1.1 y_1.2))
 (ck (Nat.ble (Int.toNat (gu y_1.1 y_1.2)) y.1.length)
 (ck (bw .i64 (gu y_1.1 y_1.2+1))
 (ck (nn (gu y_1.1 y_1.2+1))
 (ck (Nat.ble (Int.toNat (gu y_1.1 y_1.2+1)) y.1.length)
 (List.take (Int.toNat (gu y_1.1 y_1.2)) y.1=Prod.fst (dh y.1 y.2)/\
 List.drop (Int.toNat (gu y_1.1 y_1.2+1)) y.1=Prod.fst (Prod.snd (dh y.1 y.2))/\
 true=Prod.snd (Prod.snd (dh y.1 y.2))/\True))))))):=by kernel_rfl
theorem Nw:(cr (fun(y:aQ.Y qe)=>bE ve (cX lj 2 (uu y))) 400 lj)=(∀(y:Bs×Int),
 y.1.length<=100000->
 (∃(x:Bs×List Bs),
 (aM y.1 y.2=x.2++aM x.1 y.2/\
 x.2.length+x.1.length<=y.1.length)/\
 (y.1=x.1/\ax y.2 y.2/\True/\True)/\
 ((x.2=[]/\ ∀(x:Bs),List.length (dG x)=1)/\True)/\True)/\
 ∀(x:Bs×List Bs),
 aM y.1 y.2=x.2++aM x.1 y.2/\
 x.2.length+x.1.length<=y.1.length->
 ∃(y_1:Bs×Int),
 x.1=y_1.1/\
 ax y.2 y_1.2/\
 y_1.1.length<=1000000/\
 ∃(x_1:Bs),
 [SV.str x_1]=[SV.str (Prod.fst (dh y_1.1 y_1.2))]/\
 ck (Nat.ble ((x.2.length+List.length [x_1])*16) 16777216&&Nat.ble (x.2.length+List.length [x_1]) 16777216)
 (br (!Prod.snd (Prod.snd (dh y_1.1 y_1.2)))
 (SV.aH Bs (x.2++[x_1]) dG=SV.aH Bs (aM y.1 y.2) dG/\
 True)
 (∃(y_2:Bs×List Bs),
 (aM y.1 y.2=y_2.2++aM y_2.1 y.2/\
 y_2.2.length+y_2.1.length<=y.1.length)/\
 aK.μ (uu y) y_2<aK.μ (uu y) x/\
 (Prod.fst (Prod.snd (dh y_1.1 y_1.2))=y_2.1/\ax y.2 y.2/\True/\True)/\
 (SV.aH Bs (x.2++[x_1]) dG=SV.aH Bs y_2.2 dG/\True)/\True))):=by kernel_rfl
theorem Qk:(cr (fun(y:aQ.Y nT)=>bE bS (cM y)) 400 oX)=(∀(y:UInt8),True->br (bA 48 (nB y)) (bA (nB y) 57=cT y/\True) (false=cT y/\True)):=by kernel_rfl
theorem Pj:(cr (fun(y:aQ.Y qm)=>bE vg (cX kV 2 (uU y))) 400 kV)=(∀(y:List UInt8),
 y.length<=1000000->
 (∃(x:Nat),x<=cK y/\(y=y/\ax 0 ↑x/\True)/\True/\True)/\
 ∀(x:Nat),
 x<=cK y->
 br (bO (↑x) (Int.ofNat y.length))
 (so y[Int.toNat ↑x]? fun(val:UInt8)=>
 ∃(y_1:UInt8),
 ax (Int.ofNat (UInt8.toNat val)) (nB y_1)/\
 True/\
 br (cT y_1)
 (ck (bw .i64 (↑x+1))
 (∃(y_2:Nat),
 y_2<=cK y/\
 aK.μ (uU y) y_2<aK.μ (uU y) x/\(y=y/\ax (↑x+1) ↑y_2/\True)/\True/\True))
 (ax ↑x ↑(cK y)/\True))
 (ax ↑x ↑(cK y)/\True)):=by kernel_rfl
theorem Ql:(cr (fun(y:aQ.Y jE)=>bE qq (cX kW 8 (gL y))) 400 kW)=(∀(y:List UInt8),
 y.length<=1000000->
 br (!y==Array.toList (ByteArray.data {data:=#[]}))
 (so y[Int.toNat 0]? fun(val:UInt8)=>
 br (Int.ofNat (UInt8.toNat val)==45)
 (ck (Nat.ble (Int.toNat 1) y.length)
 (br (List.drop (Int.toNat 1) y==Array.toList (ByteArray.data {data:=#[]}))
 (ax 0 (Prod.fst (aW y))/\false=Prod.snd (aW y)/\True)
 (∃(y_1:List UInt8),
 List.drop (Int.toNat 1) y=y_1/\
 y_1.length<=1000000/\
 br (bO (↑(cK y_1)) (Int.ofNat (List.length (List.drop (Int.toNat 1) y))))
 (ax 0 (Prod.fst (aW y))/\false=Prod.snd (aW y)/\True)
 ((∃(x:Nat),
 (x<=List.length (au y)/\ ∀(b:UInt8),b∈au y->cT b=true)/\
 (List.drop (Int.toNat 1) y=au y/\
 ax (-1) (if cj y=true then -1 else 1)/\
 ax 0 (List.foldl bL 0 (List.take x (au y)))/\
 ax (Int.ofNat (List.length (List.drop (Int.toNat 1) y))) (Int.ofNat (List.length (au y)))/\ax 0 ↑x/\True)/\
 True/\True)/\
 ∀(x:Nat),
 (x<=List.length (au y)/\ ∀(b:UInt8),b∈au y->cT b=true)->
 br (bO (↑x) (Int.ofNat (List.length (au y))))
 (ck (bw .i64 (List.foldl bL 0 (List.take x (au y))*10))
 (so (au y)[Int.toNat ↑x]? fun(val:UInt8)=>
 ck
 (bw .i64
 (List.foldl bL 0 (List.take x (au y))*10+
 Go.IntKind.wrap .i64 (Go.IntKind.wrap Go.IntKind.u8 (Int.ofNat (UInt8.toNat val) - 48))))
 (ck (bw .i64 (↑x+1))
 (∃(y_2:Nat),
 (y_2<=List.length (au y)/\ ∀(b:UInt8),b∈au y->cT b=true)/\
 aK.μ (gL y) y_2<aK.μ (gL y) x/\
 (au y=au y/\
 ax (if cj y=true then -1 else 1) (if cj y=true then -1 else 1)/\
 ax
 (if
 1099511627776<
 List.foldl bL 0 (List.take x (au y))*10+
 Go.IntKind.wrap .i64 (Go.IntKind.wrap Go.IntKind.u8 (Int.ofNat (UInt8.toNat val) - 48))then
 1099511627776
 else
 List.foldl bL 0 (List.take x (au y))*10+
 Go.IntKind.wrap .i64 (Go.IntKind.wrap Go.IntKind.u8 (Int.ofNat (UInt8.toNat val) - 48)))
 (List.foldl bL 0 (List.take y_2 (au y)))/\
 ax (Int.ofNat (List.length (au y))) (Int.ofNat (List.length (au y)))/\
 ax (↑x+1) ↑y_2/\True)/\
 True/\True))))
 (ck
 (bw .i64 ((if cj y=true then -1 else 1)*List.foldl bL 0 (List.take x (au y))))
 (ax ((if cj y=true then -1 else 1)*List.foldl bL 0 (List.take x (au y)))
 (Prod.fst (aW y))/\
 true=Prod.snd (aW y)/\True))))))
 (br (y==Array.toList (ByteArray.data {data:=#[]})) (ax 0 (Prod.fst (aW y))/\false=Prod.snd (aW y)/\True)
 (∃(y_1:List UInt8),
 y=y_1/\
 y_1.length<=1000000/\
 br (bO (↑(cK y_1)) (Int.ofNat y.length))
 (ax 0 (Prod.fst (aW y))/\false=Prod.snd (aW y)/\True)
 ((∃(x:Nat),
 (x<=List.length (au y)/\ ∀(b:UInt8),b∈au y->cT b=true)/\
 (y=au y/\
 ax 1 (if cj y=true then -1 else 1)/\
 ax 0 (List.foldl bL 0 (List.take x (au y)))/\
 ax (Int.ofNat y.length) (Int.ofNat (List.length (au y)))/\ax 0 ↑x/\True)/\
 True/\True)/\
 ∀(x:Nat),
 (x<=List.length (au y)/\ ∀(b:UInt8),b∈au y->cT b=true)->
 br (bO (↑x) (Int.ofNat (List.length (au y))))
 (ck (bw .i64 (List.foldl bL 0 (List.take x (au y))*10))
 (so (au y)[Int.toNat ↑x]? fun(val:UInt8)=>
 ck
 (bw .i64
 (List.foldl bL 0 (List.take x (au y))*10+
 Go.IntKind.wrap .i64 (Go.IntKind.wrap Go.IntKind.u8 (Int.ofNat (UInt8.toNat val) - 48))))
 (ck (bw .i64 (↑x+1))
 (∃(y_2:Nat),
 (y_2<=List.length (au y)/\ ∀(b:UInt8),b∈au y->cT b=true)/\
 aK.μ (gL y) y_2<aK.μ (gL y) x/\
 (au y=au y/\
 ax (if cj y=true then -1 else 1) (if cj y=true then -1 else 1)/\
 ax
 (if
 1099511627776<
 List.foldl bL 0 (List.take x (au y))*10+
 Go.IntKind.wrap .i64 (Go.IntKind.wrap Go.IntKind.u8 (Int.ofNat (UInt8.toNat val) - 48))then
 1099511627776
 else
 List.foldl bL 0 (List.take x (au y))*10+
 Go.IntKind.wrap .i64 (Go.IntKind.wrap Go.IntKind.u8 (Int.ofNat (UInt8.toNat val) - 48)))
 (List.foldl bL 0 (List.take y_2 (au y)))/\
 ax (Int.ofNat (List.length (au y))) (Int.ofNat (List.length (au y)))/\
 ax (↑x+1) ↑y_2/\True)/\
 True/\True))))
 (ck (bw .i64 ((if cj y=true then -1 else 1)*List.foldl bL 0 (List.take x (au y))))
 (ax ((if cj y=true then -1 else 1)*List.foldl bL 0 (List.take x (au y)))
 (Prod.fst (aW y))/\
 true=Prod.snd (aW y)/\True))))))
 (br (y==Array.toList (ByteArray.data {data:=#[]})) (ax 0 (Prod.fst (aW y))/\false=Prod.snd (aW y)/\True)
 (∃(y_1:List UInt8),
 y=y_1/\
 y_1.length<=1000000/\
 br (bO (↑(cK y_1)) (Int.ofNat y.length))
 (ax 0 (Prod.fst (aW y))/\false=Prod.snd (aW y)/\True)
 ((∃(x:Nat),
 (x<=List.length (au y)/\ ∀(b:UInt8),b∈au y->cT b=true)/\
 (y=au y/\
 ax 1 (if cj y=true then -1 else 1)/\
 ax 0 (List.foldl bL 0 (List.take x (au y)))/\
 ax (Int.ofNat y.length) (Int.ofNat (List.length (au y)))/\ax 0 ↑x/\True)/\
 True/\True)/\
 ∀(x:Nat),
 (x<=List.length (au y)/\ ∀(b:UInt8),b∈au y->cT b=true)->
 br (bO (↑x) (Int.ofNat (List.length (au y))))
 (ck (bw .i64 (List.foldl bL 0 (List.take x (au y))*10))
 (so (au y)[Int.toNat ↑x]? fun(val:UInt8)=>
 ck
 (bw .i64
 (List.foldl bL 0 (List.take x (au y))*10+
 Go.IntKind.wrap .i64 (Go.IntKind.wrap Go.IntKind.u8 (Int.ofNat (UInt8.toNat val) - 48))))
 (ck (bw .i64 (↑x+1))
 (∃(y_2:Nat),
 (y_2<=List.length (au y)/\ ∀(b:UInt8),b∈au y->cT b=true)/\
 aK.μ (gL y) y_2<aK.μ (gL y) x/\
 (au y=au y/\
 ax (if cj y=true then -1 else 1) (if cj y=true then -1 else 1)/\
 ax
 (if
 1099511627776<
 List.foldl bL 0 (List.take x (au y))*10+
 Go.IntKind.wrap .i64 (Go.IntKind.wrap Go.IntKind.u8 (Int.ofNat (UInt8.toNat val) - 48))then
 1099511627776
 else
 List.foldl bL 0 (List.take x (au y))*10+
 Go.IntKind.wrap .i64 (Go.IntKind.wrap Go.IntKind.u8 (Int.ofNat (UInt8.toNat val) - 48)))
 (List.foldl bL 0 (List.take y_2 (au y)))/\
 ax (Int.ofNat (List.length (au y))) (Int.ofNat (List.length (au y)))/\
 ax (↑x+1) ↑y_2/\True)/\
 True/\True))))
 (ck (bw .i64 ((if cj y=true then -1 else 1)*List.foldl bL 0 (List.take x (au y))))
 (ax ((if cj y=true then -1 else 1)*List.foldl bL 0 (List.take x (au y)))
 (Prod.fst (aW y))/\
 true=Prod.snd (aW y)/\True)))))):=by kernel_rfl
theorem Nq:(cr (fun(y:aQ.Y qn)=>bE bS (cX lr 2 (um y))) 400 lr)=(∀(y:Bs×Int),
 y.1.length<=1000000->
 (∃(x:Nat),
 (x<=y.1.length/\ ∀(j:Nat) (h:j<y.1.length),j<x->ax (nB y.1[j]) y.2->False)/\
 (y.1=y.1/\ax y.2 y.2/\ax 0 ↑x/\True)/\True/\True)/\
 ∀(x:Nat),
 (x<=y.1.length/\ ∀(j:Nat) (h:j<y.1.length),j<x->ax (nB y.1[j]) y.2->False)->
 br (bO (↑x) (Int.ofNat y.1.length))
 (so y.1[Int.toNat ↑x]? fun(val:UInt8)=>
 br (Int.ofNat (UInt8.toNat val)==y.2) (ax (↑x) (gu y.1 y.2)/\True)
 (ck (bw .i64 (↑x+1))
 (∃(y_1:Nat),
 (y_1<=y.1.length/\ ∀(j:Nat) (h:j<y.1.length),j<y_1->ax (nB y.1[j]) y.2->False)/\
 aK.μ (um y) y_1<aK.μ (um y) x/\
 (y.1=y.1/\ax y.2 y.2/\ax (↑x+1) ↑y_1/\True)/\True/\True)))
 (ax (-1) (gu y.1 y.2)/\True)):=by kernel_rfl
theorem Nj:(cr (fun(y:aQ.Y qe)=>bE bS (cX ll 4 (pU y))) 400 ll)=(∀(y:Bs×Int),
 y.1.length<=100000->
 (∃(x:Nat×Nat×List Bs),
 (x.1<=x.2.1/\
 x.2.1<=y.1.length/\
 aM y.1 y.2=x.2.2++aM (List.drop x.1 y.1) y.2/\
 x.2.2.length<=x.1/\
 ∀(j:Nat) (h:j<y.1.length),x.1<=j->j<x.2.1->ax (nB y.1[j]) y.2->False)/\
 (y.1=y.1/\ax y.2 y.2/\True/\ax 0 ↑x.1/\ax 0 ↑x.2.1/\True)/\
 (SV.aH (View.X {X:=Bs,enc:=dG}) [] (View.enc {X:=Bs,enc:=dG})=
 SV.aH Bs x.2.2 dG/\
 True)/\
 True)/\
 ∀(x:Nat×Nat×List Bs),
 (x.1<=x.2.1/\
 x.2.1<=y.1.length/\
 aM y.1 y.2=x.2.2++aM (List.drop x.1 y.1) y.2/\
 x.2.2.length<=x.1/\
 ∀(j:Nat) (h:j<y.1.length),x.1<=j->j<x.2.1->ax (nB y.1[j]) y.2->False)->
 br (bO (↑x.2.1) (Int.ofNat y.1.length))
 (so y.1[Int.toNat ↑x.2.1]? fun(val:UInt8)=>
 br (Int.ofNat (UInt8.toNat val)==y.2)
 (ck (Nat.ble (Int.toNat ↑x.1) (Int.toNat ↑x.2.1)&&Nat.ble (Int.toNat ↑x.2.1) y.1.length)
 (∃(x_1:Bs),
 [SV.str x_1]=
 [SV.str (List.take (Int.toNat ↑x.2.1 - Int.toNat ↑x.1) (List.drop (Int.toNat ↑x.1) y.1))]/\
 ck
 (Nat.ble ((x.2.2.length+List.length [x_1])*16) 16777216&&
 Nat.ble (x.2.2.length+List.length [x_1]) 16777216)
 (ck (bw .i64 (↑x.2.1+1))
 (ck (bw .i64 (↑x.2.1+1))
 (∃(y_1:Nat×Nat×List Bs),
 (y_1.1<=y_1.2.1/\
 y_1.2.1<=y.1.length/\
 aM y.1 y.2=y_1.2.2++aM (List.drop y_1.1 y.1) y.2/\
 y_1.2.2.length<=y_1.1/\
 ∀(j:Nat) (h:j<y.1.length),
 y_1.1<=j->j<y_1.2.1->ax (nB y.1[j]) y.2->False)/\
 aK.μ (pU y) y_1<aK.μ (pU y) x/\
 (y.1=y.1/\
 ax y.2 y.2/\
 True/\
 ax (↑x.2.1+1) ↑y_1.1/\ax (↑x.2.1+1) ↑y_1.2.1/\True)/\
 (SV.aH Bs (x.2.2++[x_1]) dG=
 SV.aH Bs y_1.2.2 dG/\
 True)/\
 True)))))
 (ck (bw .i64 (↑x.2.1+1))
 (∃(y_1:Nat×Nat×List Bs),
 (y_1.1<=y_1.2.1/\
 y_1.2.1<=y.1.length/\
 aM y.1 y.2=y_1.2.2++aM (List.drop y_1.1 y.1) y.2/\
 y_1.2.2.length<=y_1.1/\
 ∀(j:Nat) (h:j<y.1.length),
 y_1.1<=j->j<y_1.2.1->ax (nB y.1[j]) y.2->False)/\
 aK.μ (pU y) y_1<aK.μ (pU y) x/\
 (y.1=y.1/\
 ax y.2 y.2/\
 True/\ax ↑x.1 ↑y_1.1/\ax (↑x.2.1+1) ↑y_1.2.1/\True)/\
 (SV.aH Bs x.2.2 dG=SV.aH Bs y_1.2.2 dG/\True)/\True)))
 (ck (Nat.ble (Int.toNat ↑x.1) y.1.length)
 (∃(x_1:Bs),
 [SV.str x_1]=[SV.str (List.drop (Int.toNat ↑x.1) y.1)]/\
 ck
 (Nat.ble ((x.2.2.length+List.length [x_1])*16) 16777216&&
 Nat.ble (x.2.2.length+List.length [x_1]) 16777216)
 (SV.aH Bs (x.2.2++[x_1]) dG=
 SV.aH Bs (aM y.1 y.2) dG/\
 True)))):=by kernel_rfl
theorem Np:(cr (fun(y:aQ.Y qm)=>bE bS (cX kZ 3 (kg y))) 400 kZ)=(∀(y:List UInt8),
 y.length<=1000000->
 (∃(x:Nat),x<=y.length/\(y=y/\ax 0 (Int.ofNat (Min.min x (cK y)))/\ax 0 ↑x/\True)/\True/\True)/\
 ∀(x:Nat),
 x<=y.length->
 br (bO (↑x) (Int.ofNat y.length))
 (br (Int.ofNat (Min.min x (cK y))==↑x)
 (so y[Int.toNat ↑x]? fun(val:UInt8)=>
 br (bA 48 (Int.ofNat (UInt8.toNat val)))
 (so y[Int.toNat ↑x]? fun(val:UInt8)=>
 br (bA (Int.ofNat (UInt8.toNat val)) 57)
 (ck (bw .i64 (Int.ofNat (Min.min x (cK y))+1))
 (ck (bw .i64 (↑x+1))
 (∃(y_1:Nat),
 y_1<=y.length/\
 aK.μ (kg y) y_1<aK.μ (kg y) x/\
 (y=y/\ax (Int.ofNat (Min.min x (cK y))+1) (Int.ofNat (Min.min y_1 (cK y)))/\ax (↑x+1) ↑y_1/\True)/\
 True/\True)))
 (ck (bw .i64 (↑x+1))
 (∃(y_1:Nat),
 y_1<=y.length/\
 aK.μ (kg y) y_1<aK.μ (kg y) x/\
 (y=y/\ax (Int.ofNat (Min.min x (cK y))) (Int.ofNat (Min.min y_1 (cK y)))/\ax (↑x+1) ↑y_1/\True)/\
 True/\True)))
 (ck (bw .i64 (↑x+1))
 (∃(y_1:Nat),
 y_1<=y.length/\
 aK.μ (kg y) y_1<aK.μ (kg y) x/\
 (y=y/\ax (Int.ofNat (Min.min x (cK y))) (Int.ofNat (Min.min y_1 (cK y)))/\ax (↑x+1) ↑y_1/\True)/\
 True/\True)))
 (ck (bw .i64 (↑x+1))
 (∃(y_1:Nat),
 y_1<=y.length/\
 aK.μ (kg y) y_1<aK.μ (kg y) x/\
 (y=y/\ax (Int.ofNat (Min.min x (cK y))) (Int.ofNat (Min.min y_1 (cK y)))/\ax (↑x+1) ↑y_1/\True)/\
 True/\True)))
 (ax (Int.ofNat (Min.min x (cK y))) ↑(cK y)/\True)):=by kernel_rfl
theorem Pp:(cr (fun(y:aQ.Y jE)=>bE qq (cX lg 8 (gX y))) 400 lg)=(∀(y:List UInt8),
 y.length<=1000000->
 br (bO 0 (Int.ofNat y.length))
 (so y[Int.toNat 0]? fun(val:UInt8)=>
 br (Int.ofNat (UInt8.toNat val)==45)
 (br (Int.ofNat y.length==1) (ax 0 (Prod.fst (aW y))/\false=Prod.snd (aW y)/\True)
 (ck (Nat.ble (Int.toNat 1) y.length)
 (∃(y_1:List UInt8),
 List.drop (Int.toNat 1) y=y_1/\
 y_1.length<=1000000/\
 ck (bw .i64 (Int.ofNat y.length - 1))
 (br (bO (↑(cK y_1)) (Int.ofNat y.length - 1))
 (ax 0 (Prod.fst (aW y))/\false=Prod.snd (aW y)/\True)
 ((∃(x:Nat),
 (bH y<=x/\x<=y.length/\ ∀(b:UInt8),b∈au y->cT b=true)/\
 (y=y/\
 ax 1 (Int.ofNat (bH y))/\
 ax 0 (List.foldl bL 0 (List.take (x - bH y) (au y)))/\ax 1 ↑x/\True)/\
 True/\True)/\
 ∀(x:Nat),
 (bH y<=x/\x<=y.length/\ ∀(b:UInt8),b∈au y->cT b=true)->
 br (bO (↑x) (Int.ofNat y.length))
 (ck (bw .i64 (List.foldl bL 0 (List.take (x - bH y) (au y))*10))
 (so y[Int.toNat ↑x]? fun(val:UInt8)=>
 ck
 (bw .i64
 (List.foldl bL 0 (List.take (x - bH y) (au y))*10+
 Go.IntKind.wrap .i64 (Int.ofNat (UInt8.toNat val))))
 (ck
 (bw .i64
 (List.foldl bL 0 (List.take (x - bH y) (au y))*10+
 Go.IntKind.wrap .i64 (Int.ofNat (UInt8.toNat val)) -
 48))
 (br
 (bO 1099511627776
 (List.foldl bL 0 (List.take (x - bH y) (au y))*10+
 Go.IntKind.wrap .i64 (Int.ofNat (UInt8.toNat val)) -
 48))
 (ck (bw .i64 (↑x+1))
 (∃(y_2:Nat),
 (bH y<=y_2/\y_2<=y.length/\ ∀(b:UInt8),b∈au y->cT b=true)/\
 aK.μ (gX y) y_2<aK.μ (gX y) x/\
 (y=y/\
 ax (Int.ofNat (bH y)) (Int.ofNat (bH y))/\
 ax 1099511627776 (List.foldl bL 0 (List.take (y_2 - bH y) (au y)))/\
 ax (↑x+1) ↑y_2/\True)/\
 True/\True))
 (ck (bw .i64 (↑x+1))
 (∃(y_2:Nat),
 (bH y<=y_2/\y_2<=y.length/\ ∀(b:UInt8),b∈au y->cT b=true)/\
 aK.μ (gX y) y_2<aK.μ (gX y) x/\
 (y=y/\
 ax (Int.ofNat (bH y)) (Int.ofNat (bH y))/\
 ax
 (List.foldl bL 0 (List.take (x - bH y) (au y))*10+
 Go.IntKind.wrap .i64 (Int.ofNat (UInt8.toNat val)) -
 48)
 (List.foldl bL 0 (List.take (y_2 - bH y) (au y)))/\
 ax (↑x+1) ↑y_2/\True)/\
 True/\True))))))
 (br (Int.ofNat (bH y)==1)
 (ck (bw .i64 (0 - List.foldl bL 0 (List.take (x - bH y) (au y))))
 (ax (0 - List.foldl bL 0 (List.take (x - bH y) (au y))) (Prod.fst (aW y))/\
 true=Prod.snd (aW y)/\True))
 (ax (List.foldl bL 0 (List.take (x - bH y) (au y))) (Prod.fst (aW y))/\
 true=Prod.snd (aW y)/\True)))))))
 (br (Int.ofNat y.length==0) (ax 0 (Prod.fst (aW y))/\false=Prod.snd (aW y)/\True)
 (∃(y_1:List UInt8),
 List.drop (Int.toNat 0) y=y_1/\
 y_1.length<=1000000/\
 ck (bw .i64 (Int.ofNat y.length - 0))
 (br (bO (↑(cK y_1)) (Int.ofNat y.length - 0))
 (ax 0 (Prod.fst (aW y))/\false=Prod.snd (aW y)/\True)
 ((∃(x:Nat),
 (bH y<=x/\x<=y.length/\ ∀(b:UInt8),b∈au y->cT b=true)/\
 (y=y/\
 ax 0 (Int.ofNat (bH y))/\
 ax 0 (List.foldl bL 0 (List.take (x - bH y) (au y)))/\ax 0 ↑x/\True)/\
 True/\True)/\
 ∀(x:Nat),
 (bH y<=x/\x<=y.length/\ ∀(b:UInt8),b∈au y->cT b=true)->
 br (bO (↑x) (Int.ofNat y.length))
 (ck (bw .i64 (List.foldl bL 0 (List.take (x - bH y) (au y))*10))
 (so y[Int.toNat ↑x]? fun(val:UInt8)=>
 ck
 (bw .i64
 (List.foldl bL 0 (List.take (x - bH y) (au y))*10+
 Go.IntKind.wrap .i64 (Int.ofNat (UInt8.toNat val))))
 (ck
 (bw .i64
 (List.foldl bL 0 (List.take (x - bH y) (au y))*10+
 Go.IntKind.wrap .i64 (Int.ofNat (UInt8.toNat val)) -
 48))
 (br
 (bO 1099511627776
 (List.foldl bL 0 (List.take (x - bH y) (au y))*10+
 Go.IntKind.wrap .i64 (Int.ofNat (UInt8.toNat val)) -
 48))
 (ck (bw .i64 (↑x+1))
 (∃(y_2:Nat),
 (bH y<=y_2/\y_2<=y.length/\ ∀(b:UInt8),b∈au y->cT b=true)/\
 aK.μ (gX y) y_2<aK.μ (gX y) x/\
 (y=y/\
 ax (Int.ofNat (bH y)) (Int.ofNat (bH y))/\
 ax 1099511627776 (List.foldl bL 0 (List.take (y_2 - bH y) (au y)))/\
 ax (↑x+1) ↑y_2/\True)/\
 True/\True))
 (ck (bw .i64 (↑x+1))
 (∃(y_2:Nat),
 (bH y<=y_2/\y_2<=y.length/\ ∀(b:UInt8),b∈au y->cT b=true)/\
 aK.μ (gX y) y_2<aK.μ (gX y) x/\
 (y=y/\
 ax (Int.ofNat (bH y)) (Int.ofNat (bH y))/\
 ax
 (List.foldl bL 0 (List.take (x - bH y) (au y))*10+
 Go.IntKind.wrap .i64 (Int.ofNat (UInt8.toNat val)) -
 48)
 (List.foldl bL 0 (List.take (y_2 - bH y) (au y)))/\
 ax (↑x+1) ↑y_2/\True)/\
 True/\True))))))
 (br (Int.ofNat (bH y)==1)
 (ck (bw .i64 (0 - List.foldl bL 0 (List.take (x - bH y) (au y))))
 (ax (0 - List.foldl bL 0 (List.take (x - bH y) (au y))) (Prod.fst (aW y))/\
 true=Prod.snd (aW y)/\True))
 (ax (List.foldl bL 0 (List.take (x - bH y) (au y))) (Prod.fst (aW y))/\
 true=Prod.snd (aW y)/\True)))))))
 (br (Int.ofNat y.length==0) (ax 0 (Prod.fst (aW y))/\false=Prod.snd (aW y)/\True)
 (∃(y_1:List UInt8),
 List.drop (Int.toNat 0) y=y_1/\
 y_1.length<=1000000/\
 ck (bw .i64 (Int.ofNat y.length - 0))
 (br (bO (↑(cK y_1)) (Int.ofNat y.length - 0))
 (ax 0 (Prod.fst (aW y))/\false=Prod.snd (aW y)/\True)
 ((∃(x:Nat),
 (bH y<=x/\x<=y.length/\ ∀(b:UInt8),b∈au y->cT b=true)/\
 (y=y/\
 ax 0 (Int.ofNat (bH y))/\
 ax 0 (List.foldl bL 0 (List.take (x - bH y) (au y)))/\ax 0 ↑x/\True)/\
 True/\True)/\
 ∀(x:Nat),
 (bH y<=x/\x<=y.length/\ ∀(b:UInt8),b∈au y->cT b=true)->
 br (bO (↑x) (Int.ofNat y.length))
 (ck (bw .i64 (List.foldl bL 0 (List.take (x - bH y) (au y))*10))
 (so y[Int.toNat ↑x]? fun(val:UInt8)=>
 ck
 (bw .i64
 (List.foldl bL 0 (List.take (x - bH y) (au y))*10+
 Go.IntKind.wrap .i64 (Int.ofNat (UInt8.toNat val))))
 (ck
 (bw .i64
 (List.foldl bL 0 (List.take (x - bH y) (au y))*10+
 Go.IntKind.wrap .i64 (Int.ofNat (UInt8.toNat val)) -
 48))
 (br
 (bO 1099511627776
 (List.foldl bL 0 (List.take (x - bH y) (au y))*10+
 Go.IntKind.wrap .i64 (Int.ofNat (UInt8.toNat val)) -
 48))
 (ck (bw .i64 (↑x+1))
 (∃(y_2:Nat),
 (bH y<=y_2/\y_2<=y.length/\ ∀(b:UInt8),b∈au y->cT b=true)/\
 aK.μ (gX y) y_2<aK.μ (gX y) x/\
 (y=y/\
 ax (Int.ofNat (bH y)) (Int.ofNat (bH y))/\
 ax 1099511627776 (List.foldl bL 0 (List.take (y_2 - bH y) (au y)))/\
 ax (↑x+1) ↑y_2/\True)/\
 True/\True))
 (ck (bw .i64 (↑x+1))
 (∃(y_2:Nat),
 (bH y<=y_2/\y_2<=y.length/\ ∀(b:UInt8),b∈au y->cT b=true)/\
 aK.μ (gX y) y_2<aK.μ (gX y) x/\
 (y=y/\
 ax (Int.ofNat (bH y)) (Int.ofNat (bH y))/\
 ax
 (List.foldl bL 0 (List.take (x - bH y) (au y))*10+
 Go.IntKind.wrap .i64 (Int.ofNat (UInt8.toNat val)) -
 48)
 (List.foldl bL 0 (List.take (y_2 - bH y) (au y)))/\
 ax (↑x+1) ↑y_2/\True)/\
 True/\True))))))
 (br (Int.ofNat (bH y)==1)
 (ck (bw .i64 (0 - List.foldl bL 0 (List.take (x - bH y) (au y))))
 (ax (0 - List.foldl bL 0 (List.take (x - bH y) (au y))) (Prod.fst (aW y))/\
 true=Prod.snd (aW y)/\True))
 (ax (List.foldl bL 0 (List.take (x - bH y) (au y))) (Prod.fst (aW y))/\
 true=Prod.snd (aW y)/\True))))))):=by kernel_rfl
theorem O3:(cr (fun(y:aQ.Y yb)=>bE bS (cX lu 6 (uX y))) 400 lu)=(∀(y:Nat),
 y<=1099511627776->
 (∃(x:Nat×Nat×Bs),
 (x.1<=30/\
 x.2.2.length<=30/\
 iu y=jT (10+x.1) x.2.1++x.2.2/\
 x.2.2.length+x.1<=30/\x.2.1<10 ^ (x.1+1)/\x.2.1<=y)/\
 (ax ↑y ↑x.2.1/\Array.toList (ByteArray.data {data:=#[]})=x.2.2/\True)/\True/\True)/\
 ∀(x:Nat×Nat×Bs),
 x.1<=30/\
 x.2.2.length<=30/\
 iu y=jT (10+x.1) x.2.1++x.2.2/\
 x.2.2.length+x.1<=30/\x.2.1<10 ^ (x.1+1)/\x.2.1<=y->
 br (bO 9 ↑x.2.1)
 (ck (bw .i64 (48+Int.tmod (↑x.2.1) 10))
 (∃(c:List UInt8),
 [SV.int Go.IntKind.u8 (Go.IntKind.wrap Go.IntKind.u8 (48+Int.tmod (↑x.2.1) 10))]=oC c/\
 ck (Nat.ble (c.length+x.2.2.length) 1048576)
 (ck (bw .i64 (Int.tdiv (↑x.2.1) 10))
 (∃(y_1:Nat×Nat×Bs),
 (y_1.1<=30/\
 y_1.2.2.length<=30/\
 iu y=jT (10+y_1.1) y_1.2.1++y_1.2.2/\
 y_1.2.2.length+y_1.1<=30/\y_1.2.1<10 ^ (y_1.1+1)/\y_1.2.1<=y)/\
 aK.μ (uX y) y_1<aK.μ (uX y) x/\
 (ax (Int.tdiv (↑x.2.1) 10) ↑y_1.2.1/\c++x.2.2=y_1.2.2/\True)/\
 True/\True))))
 (ck (bw .i64 (48+↑x.2.1))
 (∃(c:List UInt8),
 [SV.int Go.IntKind.u8 (Go.IntKind.wrap Go.IntKind.u8 (48+↑x.2.1))]=oC c/\
 ck (Nat.ble (c.length+x.2.2.length) 1048576) (c++x.2.2=iu y/\True)))):=by kernel_rfl
end
section
variable [Inhabited aI]
abbrev CO (f:FuncId) (C:aQ):Prop:=Go.Sy.ch  Tryz.prog Tryz.tab f C
theorem fZ:∀g C,bS g=some C->CO g C:=fun _ _ h=>by cases h
theorem dg (i:Nat) (h:i<1000000000):bw .i64 ((i:Int)+1)=true:=by rw[gj];omega
theorem GB (b:UInt8):Int.ofNat b.toNat=nB b:=rfl
theorem MS (b:UInt8):0<=nB b/\nB b<=255:=by
 have:=b.toNat_lt;unfold nB;constructor
 . exact Int.natCast_nonneg _
 . show((b.toNat:Nat):Int)<=255
   omega
theorem Fv {s:Bs} {c:Int} {i:Nat} (h:i<s.length) (h1:nB s[i]=c) (h2:∀(j:Nat) (h:j<s.length),j<i->nB s[j]=c->False):gu s c=i:=by
 have:cu s c=some i:=ew.2 ⟨h,h1,fun j hj=>h2 j (by omega) hj⟩;unfold gu;rw[this]
theorem LB {s:Bs} {c:Int} (h2:∀(j:Nat) (h:j<s.length),nB s[j]=c->False):gu s c= -1:=by
 have:cu s c=none:=gT.2 h2;unfold gu;rw[this]
theorem zT (s:Bs) (c:Int) (i:Nat) (hall:∀(j:Nat) (h:j<s.length),j<i->nB s[j]=c->False) (hi:i<=s.length) (h:¬(i:Int)<Int.ofNat s.length):gu s c= -1:=
 LB fun j hj=>hall j hj (by simp only[Aa]at h;omega)
theorem Ol:CO lp qn:=bZ (cfg:=fun y=>bE bS (cX lp 3 (uV y))) bJ (fun _=>rfl) (fun _=>fZ) (n:=400) (by
 rw[Pk];rintro⟨s,c⟩ hpre;simp only at hpre;refine⟨⟨0,⟨by simp,fun j h hj=>by omega⟩,⟨rfl,rfl,rfl,rfl,rfl,trivial⟩,trivial,trivial⟩,?_⟩;rintro i ⟨hi,hall⟩;simp only[ah,aA,aq,cp,Ae,Ag,Dg]at hi hall⊢;refine⟨fun hlt=>?_,fun hge=>(zT s c i hall hi hge).symm⟩;have hlt':i<s.length:=by simp only[Aa]at hlt;omega
 refine⟨s[i],by simp[hlt'],fun h1=>(Fv hlt' (by simpa [nB]using h1) hall).symm,fun h1=>⟨dg i (by omega),i+1,⟨by omega,fun j h hj he=>?_⟩,?_,by simp[ax]⟩⟩
 . by_cases hji:j=i
   . subst hji;exact absurd he (by simpa [nB]using h1)
   . exact hall j h (by omega) he
 . show s.length - (i+1)<s.length - i
   omega)
theorem Oe:CO lr qn:=bZ (cfg:=fun y=>bE bS (cX lr 2 (um y))) bJ (fun _=>rfl) (fun _=>fZ) (n:=400) (by
 rw[Nq];rintro⟨s,c⟩ hpre;simp only at hpre;refine⟨⟨0,⟨by simp,fun j h hj=>by omega⟩,⟨rfl,rfl,rfl,trivial⟩,trivial,trivial⟩,?_⟩;rintro i ⟨hi,hall⟩;simp only[ah,aA,aq,cp,Ae,Ag,Dg]at hi hall⊢;refine⟨fun hlt=>?_,fun hge=>(zT s c i hall hi hge).symm⟩;have hlt':i<s.length:=by simp only[Aa]at hlt;omega
 refine⟨s[i],by simp[hlt'],fun h1=>(Fv hlt' (by simpa [nB]using h1) hall).symm,fun h1=>⟨dg i (by omega),i+1,⟨by omega,fun j h hj he=>?_⟩,?_,by simp[ax]⟩⟩
 . by_cases hji:j=i
   . subst hji;exact absurd he (by simpa [nB]using h1)
   . exact hall j h (by omega) he
 . show s.length - (i+1)<s.length - i
   omega)
theorem E6:∀g C,vb g=some C->CO g C:=bU Ol pP
theorem wH (s:Bs) (c:Int):(∃i,cu s c=some i/\gu s c=(i:Int)/\i<s.length)\/(cu s c=none/\gu s c= -1):=by
 unfold gu
 cases h:cu s c with
 |none=>exact .inr ⟨rfl,rfl⟩
 |some i=>
  obtain⟨h1,_⟩:=ew.1 h;exact .inl ⟨i,rfl,rfl,h1⟩
theorem Qe:CO pn nS:=bZ (cfg:=fun y=>bE vb (cM y)) bJ (fun _=>rfl) (fun _=>E6) (n:=400) (by
 rw[Qj];rintro⟨s,c⟩ hpre;refine⟨(s,c),rfl,rfl,hpre,?_⟩;simp only at hpre⊢;rcases wH s c with⟨i,h1,h2,h3⟩|⟨h1,h2⟩
 . simp only[ah,aq,h2,dh,h1,cp,kO,Ae,Ag];refine⟨fun h=>by omega,fun _=>⟨by omega,?_,?_,by omega,?_,?_⟩⟩
   . rw[AY];simp;omega
   . exact dg i (by omega)
   . rw[AY];omega
   . rw[show((i:Int)+1).toNat=i+1 by omega];simp
 . simp only[ah,aq,h2,dh,h1,cp,kO,Ae,Ag];exact⟨fun _=>by simp,fun h=>absurd (by decide) h⟩)
theorem E7:∀g C,ve g=some C->CO g C:=bU Qe E6
theorem NJ:CO lj qe:=bZ (cfg:=fun y=>bE ve (cX lj 2 (uu y))) bJ (fun _=>rfl) (fun _=>E7) (n:=400) (by
 rw[Nw];rintro⟨s,c⟩ hpre;simp only at hpre;refine⟨⟨(s,[]),⟨by simp,by simp⟩,⟨rfl,rfl,trivial,trivial⟩,⟨⟨rfl,fun _=>rfl⟩,trivial⟩,trivial⟩,?_⟩;rintro⟨t,l⟩ ⟨h1,h2⟩;simp only at h1 h2;refine⟨(t,c),rfl,rfl,by simp only;omega,(dh t c).1,rfl,?_⟩;simp only[ah,aq];refine⟨by simp;omega,fun h=>⟨?_,trivial⟩,fun h=>⟨((dh t c).2.1,l++[(dh t c).1]),⟨?_,?_⟩,?_,by simp[ax]⟩⟩
 . have h3:=sR t c
   cases hp:cu t c with
   |none=>rw[hp]at h3;simp only at h3;simp only[dh,hp];rw[h1,h3]
   |some i=>simp[dh,hp]at h
 . have h3:=sR t c
   cases hp:cu t c with
   |none=>simp[dh,hp]at h
   |some i=>rw[hp]at h3;simp only at h3;simp only[dh,hp];rw[h1,h3];simp
 . cases hp:cu t c with
   |none=>simp[dh,hp]at h
   |some i=>
    obtain⟨h4,_⟩:=ew.1 hp;simp[dh,hp];omega
 . show(dh t c).2.1.length<t.length
   cases hp:cu t c with
   |none=>simp[dh,hp]at h
   |some i=>
    obtain⟨h4,_⟩:=ew.1 hp;simp[dh,hp];omega)
theorem Qf:CO oX nT:=bZ (cfg:=fun y=>bE bS (cM y)) bJ (fun _=>rfl) (fun _=>fZ) (n:=400) (by
 rw[Qk];intro y _;simp only[ah,eI,cT,Dg];constructor<;>intro h<;>simp[h])
theorem E8:∀g C,vg g=some C->CO g C:=bU NJ (bU Qf E7)
theorem ON:CO kV qm:=bZ (cfg:=fun y=>bE vg (cX kV 2 (uU y))) bJ (fun _=>rfl) (fun _=>E8) (n:=400) (by
 rw[Pj];intro s hpre;refine⟨⟨0,by simp,⟨rfl,rfl,trivial⟩,trivial,trivial⟩,?_⟩;intro i hi;have hle:=tG s;simp only[ah,aA,aq,cp,Ae,Ag,Dg];refine⟨fun hlt=>?_,fun hge=>?_⟩
 . have hlt':i<s.length:=by simp only[Aa]at hlt;omega
   refine⟨s[i],by simp[hlt'],s[i],rfl,trivial,fun h=>⟨dg i (by omega),i+1,?_,?_,by simp[ax]⟩,fun h=>?_⟩
   . apply Bg;intro hn;have:cK s=i:=by omega
     have h2:=wO (s:=s) (by omega);simp only[this]at h2;rw[h]at h2
     cases h2
   . show s.length - (i+1)<s.length - i
     omega
   . apply Bg;intro hn;have hlt2:i<cK s:=by simp only[ax]at hn;omega
     obtain⟨_,h2⟩:=Cj hlt2;rw[h2]at h
     cases h
 . simp only[Aa]at hge;simp only[ax];omega)
theorem Cr (n:Int) (h: -9223372036854775808<=n/\n<=9223372036854775807):Go.IntKind.wrap Go.IntKind.i64 n=n:=by rw[IntKind.wrap_i64];omega
theorem FD {b:UInt8} (h:cT b=true):Go.IntKind.wrap Go.IntKind.i64 (Go.IntKind.wrap Go.IntKind.u8 (Int.ofNat (UInt8.toNat b) - 48))=nB b - 48/\Go.IntKind.wrap Go.IntKind.i64 (Int.ofNat (UInt8.toNat b))=nB b/\0<=nB b - 48/\nB b - 48<=9:=by
 rw[np]at h;rw[GB];have h1:Go.IntKind.wrap Go.IntKind.u8 (nB b - 48)=nB b - 48:=by simp only[IntKind.wrap,IntKind.signed,IntKind.bits,A4,Ao,AP];omega
 rw[h1,Cr _ (by omega),Cr _ (by omega)];exact⟨rfl,rfl,by omega,by omega⟩
theorem fold_succ (s:Bs) (x:Nat) (h:x<s.length):(s.take (x+1)).foldl bL 0=bL ((s.take x).foldl bL 0) s[x]:=by
 rw[As h,Ed];rfl
theorem zW (s:Bs) (h:∀b∈s,cT b=true) (x:Nat):0<=(s.take x).foldl bL 0/\(s.take x).foldl bL 0<=1099511627776:=
 zo _ (fun b hb=>h b (EN hb)) 0 (by omega) (by omega)
theorem xE {y:Bs} (hne:au y≠[]) (hd:∀b∈au y,cT b=true):aW y=((if cj y then -1 else 1)*(au y).foldl bL 0,true):=by
 have h1:¬cK (au y)<(au y).length:=by
  intro h;have h2:=wO h;rw[hd _ (Au h)]at h2
  cases h2
 unfold aW;rw[Ai (by rintro(h|h);exact hne h;exact h1 h)]
theorem qi {y:Bs} (h:au y=[]\/cK (au y)<(au y).length):aW y=(0,false):=by
 unfold aW;rw[An h]
theorem C9 (y t:Bs) (K:Int) (ht:t=au y) (hK:K=if cj y=true then -1 else 1) (hne:au y≠[]) (hd:∀b∈au y,cT b=true) (hl:(au y).length<=1000000):((∃(x:Nat),
      (x<=List.length (au y)/\ ∀(b:UInt8),b∈au y->cT b=Bool.true)/\
      (t=au y/\
      ax K (if cj y=Bool.true then -1 else 1)/\
      ax 0 (List.foldl bL 0 (List.take x (au y)))/\
      ax (Int.ofNat (List.length t)) (Int.ofNat (List.length (au y)))/\ax 0 ↑x/\True)/\
      True/\True)/\
      ∀(x:Nat),
      (x<=List.length (au y)/\ ∀(b:UInt8),b∈au y->cT b=Bool.true)->
      br (bO (↑x) (Int.ofNat (List.length (au y))))
      (ck (bw Go.IntKind.i64 (List.foldl bL 0 (List.take x (au y))*10))
      (so (au y)[Int.toNat ↑x]? fun(val:UInt8)=>
      ck
      (bw Go.IntKind.i64
      (List.foldl bL 0 (List.take x (au y))*10+
      Go.IntKind.wrap Go.IntKind.i64 (Go.IntKind.wrap Go.IntKind.u8 (Int.ofNat (UInt8.toNat val) - 48))))
      (ck (bw Go.IntKind.i64 (↑x+1))
      (∃(y_2:Nat),
      (y_2<=List.length (au y)/\ ∀(b:UInt8),b∈au y->cT b=Bool.true)/\
      aK.μ (gL y) y_2<aK.μ (gL y) x/\
      (au y=au y/\
      ax (if cj y=Bool.true then -1 else 1) (if cj y=Bool.true then -1 else 1)/\
      ax
      (if
      1099511627776<
      List.foldl bL 0 (List.take x (au y))*10+
      Go.IntKind.wrap Go.IntKind.i64 (Go.IntKind.wrap Go.IntKind.u8 (Int.ofNat (UInt8.toNat val) - 48))then
      1099511627776
      else
      List.foldl bL 0 (List.take x (au y))*10+
      Go.IntKind.wrap Go.IntKind.i64 (Go.IntKind.wrap Go.IntKind.u8 (Int.ofNat (UInt8.toNat val) - 48)))
      (List.foldl bL 0 (List.take y_2 (au y)))/\
      ax (Int.ofNat (List.length (au y))) (Int.ofNat (List.length (au y)))/\
      ax (↑x+1) ↑y_2/\True)/\
      True/\True))))
      (ck
      (bw Go.IntKind.i64 ((if cj y=Bool.true then -1 else 1)*List.foldl bL 0 (List.take x (au y))))
      (ax ((if cj y=Bool.true then -1 else 1)*List.foldl bL 0 (List.take x (au y)))
      (Prod.fst (aW y))/\
      Bool.true=Prod.snd (aW y)/\True))):=by
 refine⟨⟨0,⟨by simp,hd⟩,⟨ht,hK,by simp[ax],by rw[ht],by simp[ax],trivial⟩,trivial,trivial⟩,?_⟩;rintro x ⟨hx,_⟩;obtain⟨r1,r2⟩:=zW _ hd x;simp only[ah,aA,aq,cp,Ae,Ag,Dg];refine⟨fun hlt=>?_,fun hge=>?_⟩
 . have hlt':x<(au y).length:=by simp only[Aa]at hlt;omega
   obtain⟨d1,_,d3,d4⟩:=FD (hd _ (Au hlt'));refine⟨by rw[gj];omega,(au y)[x],by simp[hlt'],?_,dg x (by omega),x+1,⟨by omega,hd⟩,?_,?_⟩
   . rw[d1,gj];omega
   . show(au y).length - (x+1)<(au y).length - x
     omega
   . refine⟨trivial,trivial,?_,trivial,by simp[ax]⟩;rw[fold_succ _ _ hlt',d1];simp only[bL,ax];omega
 . have he:x=(au y).length:=by simp only[Aa]at hge;omega
   subst he;rw[Bn,xE hne hd]at*;refine⟨?_,by simp[ax]⟩;rw[gj];split<;>omega
theorem CB (y:Bs) (K:Int) (hK:K=Int.ofNat (bH y)) (hne:au y≠[]) (hd:∀b∈au y,cT b=true) (hl:y.length<=1000000):((∃(x:Nat),
        (bH y<=x/\x<=List.length y/\ ∀(b:UInt8),b∈au y->cT b=Bool.true)/\
        (y=y/\
        ax K (Int.ofNat (bH y))/\
        ax 0 (List.foldl bL 0 (List.take (x - bH y) (au y)))/\ax K ↑x/\True)/\
        True/\True)/\
        ∀(x:Nat),
        (bH y<=x/\x<=List.length y/\ ∀(b:UInt8),b∈au y->cT b=Bool.true)->
        br (bO (↑x) (Int.ofNat (List.length y)))
        (ck (bw Go.IntKind.i64 (List.foldl bL 0 (List.take (x - bH y) (au y))*10))
        (so y[Int.toNat ↑x]? fun(val:UInt8)=>
        ck
        (bw Go.IntKind.i64
        (List.foldl bL 0 (List.take (x - bH y) (au y))*10+
        Go.IntKind.wrap Go.IntKind.i64 (Int.ofNat (UInt8.toNat val))))
        (ck
        (bw Go.IntKind.i64
        (List.foldl bL 0 (List.take (x - bH y) (au y))*10+
        Go.IntKind.wrap Go.IntKind.i64 (Int.ofNat (UInt8.toNat val)) -
        48))
        (br
        (bO 1099511627776
        (List.foldl bL 0 (List.take (x - bH y) (au y))*10+
        Go.IntKind.wrap Go.IntKind.i64 (Int.ofNat (UInt8.toNat val)) -
        48))
        (ck (bw Go.IntKind.i64 (↑x+1))
        (∃(y_2:Nat),
        (bH y<=y_2/\y_2<=List.length y/\ ∀(b:UInt8),b∈au y->cT b=Bool.true)/\
        aK.μ (gX y) y_2<aK.μ (gX y) x/\
        (y=y/\
        ax (Int.ofNat (bH y)) (Int.ofNat (bH y))/\
        ax 1099511627776 (List.foldl bL 0 (List.take (y_2 - bH y) (au y)))/\
        ax (↑x+1) ↑y_2/\True)/\
        True/\True))
        (ck (bw Go.IntKind.i64 (↑x+1))
        (∃(y_2:Nat),
        (bH y<=y_2/\y_2<=List.length y/\ ∀(b:UInt8),b∈au y->cT b=Bool.true)/\
        aK.μ (gX y) y_2<aK.μ (gX y) x/\
        (y=y/\
        ax (Int.ofNat (bH y)) (Int.ofNat (bH y))/\
        ax
        (List.foldl bL 0 (List.take (x - bH y) (au y))*10+
        Go.IntKind.wrap Go.IntKind.i64 (Int.ofNat (UInt8.toNat val)) -
        48)
        (List.foldl bL 0 (List.take (y_2 - bH y) (au y)))/\
        ax (↑x+1) ↑y_2/\True)/\
        True/\True))))))
        (br (Int.ofNat (bH y)==1)
        (ck (bw Go.IntKind.i64 (0 - List.foldl bL 0 (List.take (x - bH y) (au y))))
        (ax (0 - List.foldl bL 0 (List.take (x - bH y) (au y))) (Prod.fst (aW y))/\
        Bool.true=Prod.snd (aW y)/\True))
        (ax (List.foldl bL 0 (List.take (x - bH y) (au y))) (Prod.fst (aW y))/\
        Bool.true=Prod.snd (aW y)/\True))):=by
 have hlen:(au y).length=y.length - bH y:=by unfold au bH;split<;>simp
 have hpos:0<(au y).length:=Bb.2 hne;have hget:∀x (h:x<y.length),bH y<=x->y[x]=(au y)[x - bH y]'(by omega):=by
   intro x h h2;have e:(au y)[x - bH y]? =y[x]? :=by
     unfold au bH;unfold bH at h2;split
     . rename_i hn;rw[An hn]at h2;rw[B8];congr 1
       omega
     . simp
   rw[Af h,Af (by omega)]at e;exact(Di e).symm
 refine⟨⟨bH y,⟨Aj _,by omega,hd⟩,⟨rfl,hK,by simp[ax],by simp[ax,hK],trivial⟩,trivial,trivial⟩,?_⟩;rintro x ⟨hx0,hx,_⟩;obtain⟨r1,r2⟩:=zW _ hd (x - bH y);simp only[ah,aA,aq,cp,Ae,Ag,Dg];refine⟨fun hlt=>?_,fun hge=>?_⟩
 . have hlt':x<y.length:=by simp only[Aa]at hlt;omega
   have hg:=hget x hlt' hx0;have hdx:cT y[x]=true:=by rw[hg];exact hd _ (Au _)
   obtain⟨_,d1,d3,d4⟩:=FD hdx;have hs:List.foldl bL 0 (List.take (x+1 - bH y) (au y))=bL (List.foldl bL 0 (List.take (x - bH y) (au y))) y[x]:=by
     rw[show x+1 - bH y=(x - bH y)+1 by omega,fold_succ _ _ (by omega),hg]
   have hm:aK.μ (gX y) (x+1)<aK.μ (gX y) x:=by
     show y.length - (x+1)<y.length - x
     omega
   refine⟨by rw[gj];omega,y[x],by simp[hlt'],?_,?_,fun h1=>⟨dg x (by omega),x+1,⟨by omega,by omega,hd⟩,hm,?_⟩,fun h1=>⟨dg x (by omega),x+1,⟨by omega,by omega,hd⟩,hm,?_⟩⟩
   . rw[d1,gj];omega
   . rw[d1,gj];omega
   . refine⟨trivial,trivial,?_,by simp[ax]⟩;rw[d1]at h1;rw[hs];simp only[bL,ax];omega
   . refine⟨trivial,trivial,?_,by simp[ax]⟩;rw[d1]at h1;rw[hs,d1];simp only[bL,ax];omega
 . have he:x=y.length:=by simp only[Aa]at hge;omega
   subst he;rw[show y.length - bH y=(au y).length by omega,Bn]at*;rw[xE hne hd];unfold bH
   cases hn:cj y
   . simp[ax]
   . simp only[Bq];refine⟨fun _=>⟨by rw[gj];omega,by simp[ax]⟩,fun h=>by simp at h⟩
theorem Oc:CO kZ qm:=bZ (cfg:=fun y=>bE bS (cX kZ 3 (kg y))) bJ (fun _=>rfl) (fun _=>fZ) (n:=400) (by
 rw[Np];intro s hpre;refine⟨⟨0,by simp,⟨rfl,by simp[ax],rfl,trivial⟩,trivial,trivial⟩,?_⟩;intro i hi;have hle:=tG s;simp only[ah,aA,aq,cp,eI,Ae,Ag,Dg];refine⟨fun hlt=>?_,fun hge=>?_⟩
 . have hlt':i<s.length:=by simp only[Aa]at hlt;omega
   have hm:aK.μ (kg s) (i+1)<aK.μ (kg s) i:=by
     show s.length - (i+1)<s.length - i
     omega
   have no:cT s[i]=false->cK s<=i:=by
     intro h;apply Bg;intro hn;obtain⟨_,h2⟩:=Cj (show i<cK s by omega);rw[h2]at h
     cases h
   have step:∀(n:Int),n=Int.ofNat (min (i+1) (cK s))->n=Int.ofNat (min (i+1) (cK s)):=fun _ h=>h
   refine⟨fun hq=>⟨s[i],by simp[hlt'],fun h1=>⟨s[i],by simp[hlt'],fun h2=>⟨by rw[gj];simp only[Aa];omega,dg i (by omega),i+1,by omega,hm,trivial,?_,by simp[ax]⟩,fun h2=>⟨dg i (by omega),i+1,by omega,hm,trivial,?_,by simp[ax]⟩⟩,fun h1=>⟨dg i (by omega),i+1,by omega,hm,trivial,?_,by simp[ax]⟩⟩,fun hq=>⟨dg i (by omega),i+1,by omega,hm,trivial,?_,by simp[ax]⟩⟩
   . have hd:cT s[i]=true:=by rw[np];exact⟨h1,h2⟩
     have:¬cK s<=i:=by
      intro hn;simp only[Aa,BX]at hq;have he:cK s=i:=by omega
      have h3:=wO (s:=s) (by omega);simp only[he]at h3;rw[hd]at h3
      cases h3
     simp only[ax,Aa];omega
   . have hd:cT s[i]=false:=by rw[AB];intro h;rw[np]at h;exact h2 h.2
     have:=no hd;simp only[ax,Aa];omega
   . have hd:cT s[i]=false:=by rw[AB];intro h;rw[np]at h;exact h1 h.1
     have:=no hd;simp only[ax,Aa];omega
   . simp only[Aa,BG]at hq;simp only[ax,Aa];omega
 . simp only[Aa]at hge;simp only[ax,Aa];omega)
theorem Jn {s:Bs} {c:Int} {a i:Nat} (hai:a<=i) (h:i<s.length) (h1:nB s[i]=c) (h2:∀(j:Nat) (h:j<s.length),a<=j->j<i->nB s[j]=c->False):aM (s.drop a) c=(s.drop a).take (i - a)::aM (s.drop (i+1)) c:=by
 have hp:cu (s.drop a) c=some (i - a):=ew.2 ⟨by simp;omega,by rw[Dc];simp only[show a+(i - a)=i by omega];exact h1,fun j hj=>by
  rw[Dc];exact fun e=>h2 (a+j) (by omega) (by omega) (by omega) e⟩
 rw[sR,hp];simp only[Es];rw[show a+(i - a+1)=i+1 by omega]
theorem Jo {s:Bs} {c:Int} {a:Nat} (h2:∀(j:Nat) (h:j<s.length),a<=j->nB s[j]=c->False):aM (s.drop a) c=[s.drop a]:=by
 have hp:cu (s.drop a) c=none:=gT.2 (fun j hj=>by
  rw[Dc];exact fun e=>h2 (a+j) (by simp at hj;omega) (by omega) e)
 rw[sR,hp]
theorem Mo:CO ll qe:=bZ (cfg:=fun y=>bE bS (cX ll 4 (pU y))) bJ (fun _=>rfl) (fun _=>fZ) (n:=400) (by
 rw[Nj];rintro⟨s,c⟩ hpre;simp only at hpre;refine⟨⟨(0,0,[]),⟨by simp,by simp,by simp,by simp,fun j h _ hj=>by simp at hj⟩,⟨rfl,rfl,trivial,rfl,rfl,trivial⟩,⟨rfl,trivial⟩,trivial⟩,?_⟩;rintro⟨a,i,l⟩ ⟨h1,h2,h3,h4,h5⟩;simp only at h1 h2 h3 h4 h5;simp only[ah,aA,aq,cp,Ae,Ag,Dg,DO];refine⟨fun hlt=>?_,fun hge=>?_⟩
 . have hlt':i<s.length:=by simp only[Aa]at hlt;omega
   refine⟨s[i],by simp[hlt'],fun hc=>?_,fun hc=>⟨dg i (by omega),(a,i+1,l),⟨by simp only;omega,by simp only;omega,h3,h4,fun j hj ha hji he=>?_⟩,?_,by simp[ax]⟩⟩
   . have hc':nB s[i]=c:=by simpa [nB]using hc
     have hs:=Jn h1 hlt' hc' h5;refine⟨by simp;omega,_,rfl,by simp;omega,dg i (by omega),dg i (by omega),(i+1,i+1,l++[(s.drop a).take (i - a)]),⟨by simp,by simp only;omega,?_,by simp;omega,fun j hj ha hji=>by simp only at ha hji;omega⟩,?_,by simp[ax]⟩
     . rw[h3,hs];simp
     . show s.length - (i+1)<s.length - i
       omega
   . by_cases hji2:j=i
     . subst hji2;exact absurd he (by simpa [nB]using hc)
     . exact h5 j hj ha (by simp only at hji;omega) he
   . show s.length - (i+1)<s.length - i
     omega
 . have he:i=s.length:=by simp only[Aa]at hge;omega
   subst he;refine⟨by simpa using h1,_,rfl,by simp;omega,?_⟩;rw[h3,Jo (fun j hj ha=>h5 j hj ha hj)])
theorem pK {y:Bs} (h:cj y=true):au y=y.drop 1:=by unfold au;rw[An h]
theorem rB {y:Bs} (h:cj y=false):au y=y:=by unfold au;rw[Ai (by simp[h])]
theorem lO {b:UInt8} {y:Bs}:cj (b::y)=(Int.ofNat b.toNat==45):=rfl
theorem sW {y:Bs} (h:¬(↑(cK y):Int)<Int.ofNat y.length):∀b∈y,cT b=true:=tu (by simp only[Aa]at h;omega)
theorem wR:∀g C,qq g=some C->CO g C:=bU ON (bU Oc E8)
theorem Qh:CO kW jE:=bZ (cfg:=fun y=>bE qq (cX kW 8 (gL y))) bJ (fun _=>rfl) (fun _=>wR) (n:=400) (by
 rw[Ql];intro y hpre
 cases y with
 |nil=>
  have hn:aW []=(0,false):=rfl;refine ah.2 ⟨fun h=>by simp at h,fun _=>ah.2 ⟨fun _=>by rw[hn];exact⟨rfl,rfl,trivial⟩,fun h=>by simp at h⟩⟩
 |cons b s=>
  refine ah.2 ⟨fun _=>aA.2 ⟨b,rfl,ah.2 ⟨fun hb=>aq.2 ⟨by simp,ah.2 ⟨fun h=>?_,fun h=>⟨s,rfl,by simp at hpre;omega,ah.2 ⟨fun hd=>?_,fun hd=>?_⟩⟩⟩⟩,fun hb=>ah.2 ⟨fun h=>by simp at h,fun _=>⟨b::s,rfl,hpre,ah.2 ⟨fun hd=>?_,fun hd=>?_⟩⟩⟩⟩⟩,fun h=>by simp at h⟩
  . have hg:cj (b::s)=true:=by rw[lO];exact hb
    have he:au (b::s)=[]:=by rw[pK hg];simpa using h
    rw[qi (.inl he)];exact⟨rfl,rfl,trivial⟩
  . have hg:cj (b::s)=true:=by rw[lO];exact hb
    rw[cp,Ae]at hd;rw[qi (.inr (by rw[pK hg];simp only[Aa]at hd;simp at hd⊢;omega))];exact⟨rfl,rfl,trivial⟩
  . have hg:cj (b::s)=true:=by rw[lO];exact hb
    rw[cp,Ag]at hd;have ha:=pK hg;exact C9 _ _ _ ha.symm (by rw[An hg]) (by rw[ha];simpa using h) (by rw[ha];exact sW hd) (by rw[ha];simp at hpre⊢;omega)
  . have hg:cj (b::s)=false:=by rw[lO];exact hb
    rw[cp,Ae]at hd;rw[qi (.inr (by rw[rB hg];simp only[Aa]at hd;omega))];exact⟨rfl,rfl,trivial⟩
  . have hg:cj (b::s)=false:=by rw[lO];exact hb
    rw[cp,Ag]at hd;have ha:=rB hg;exact C9 _ _ _ ha.symm (by rw[Ai (by simp[hg])]) (by rw[ha];simp) (by rw[ha];exact sW hd) (by rw[ha];exact hpre))
theorem Ov:CO lg jE:=bZ (cfg:=fun y=>bE qq (cX lg 8 (gX y))) bJ (fun _=>rfl) (fun _=>wR) (n:=400) (by
 rw[Pp];intro y hpre
 cases y with
 |nil=>
  have hn:aW []=(0,false):=rfl;refine ah.2 ⟨fun h=>by simp[cp]at h,fun _=>ah.2 ⟨fun _=>by rw[hn];exact⟨rfl,rfl,trivial⟩,fun h=>by simp at h⟩⟩
 |cons b s=>
  have hbig:s.length+1<=1000000:=by simpa using hpre
  have hln:Int.ofNat (b::s).length=(s.length:Int)+1:=by simp
  rw[hln];refine ah.2 ⟨fun _=>aA.2 ⟨b,rfl,ah.2 ⟨fun hb=>ah.2 ⟨fun h=>?_,fun h=>aq.2 ⟨by simp,s,rfl,by omega,aq.2 ⟨by rw[gj];omega,ah.2 ⟨fun hd=>?_,fun hd=>?_⟩⟩⟩⟩,fun hb=>ah.2 ⟨fun h=>by simp at h;omega,fun _=>⟨b::s,rfl,hpre,aq.2 ⟨by rw[gj];omega,ah.2 ⟨fun hd=>?_,fun hd=>?_⟩⟩⟩⟩⟩⟩,fun h=>by rw[cp]at h;simp at h<;>omega⟩
  . have hg:cj (b::s)=true:=by rw[lO];exact hb
    have hs:s=[]:=by simp at h;exact AI (by omega)
    rw[qi (.inl (by rw[pK hg];simpa using hs))];exact⟨rfl,rfl,trivial⟩
  . have hg:cj (b::s)=true:=by rw[lO];exact hb
    rw[cp,Ae]at hd;rw[qi (.inr (by rw[pK hg];simp at hd⊢;omega))];exact⟨rfl,rfl,trivial⟩
  . have hg:cj (b::s)=true:=by rw[lO];exact hb
    rw[cp,Ag]at hd;have ha:=pK hg;have:=CB (b::s) 1 (by unfold bH;rw[An hg];rfl) (by rw[ha];intro e;simp at e;subst e;simp at h) (by rw[ha];exact sW (by simp at hd⊢;omega)) hpre;rw[hln]at this;exact this
  . have hg:cj (b::s)=false:=by rw[lO];exact hb
    rw[cp,Ae]at hd;rw[qi (.inr (by rw[rB hg];simp at hd⊢;omega))];exact⟨rfl,rfl,trivial⟩
  . have hg:cj (b::s)=false:=by rw[lO];exact hb
    rw[cp,Ag]at hd;have ha:=rB hg;have:=CB (b::s) 0 (by unfold bH;rw[Ai (by simp[hg])];rfl) (by rw[ha];simp) (by rw[ha];exact sW (by simp at hd⊢;omega)) hpre;rw[hln]at this;exact this)
theorem CT (k n:Nat) (h:n<=9):jT (k+1) n=[UInt8.ofNat (48+n)]:=by simp[jT,h]
theorem O6:CO lu yb:=bZ (cfg:=fun y=>bE bS (cX lu 6 (uX y))) bJ (fun _=>rfl) (fun _=>fZ) (n:=400) (by
 rw[O3];intro n hpre;have hpre:n<=1099511627776:=hpre;refine⟨⟨(30,n,[]),⟨by simp,by simp,by simp[iu],by simp,?_,Aj _⟩,⟨rfl,rfl,trivial⟩,trivial,trivial⟩,?_⟩
 . exact Nat.lt_of_le_of_lt hpre (by show 1099511627776<10 ^ 31;decide)
 rintro⟨k,m,s⟩ ⟨h1,h2,h3,h4,h5,h6⟩;simp only at h1 h2 h3 h4 h5 h6;have wr:∀d:Nat,d<=9->[SV.int Go.IntKind.u8 (Go.IntKind.wrap Go.IntKind.u8 (48+(d:Int)))]=oC [UInt8.ofNat (48+d)]:=by
   intro d hd;have:Go.IntKind.wrap Go.IntKind.u8 (48+(d:Int))=Int.ofNat (UInt8.ofNat (48+d)).toNat:=by
    simp only[IntKind.wrap,IntKind.signed,IntKind.bits,A4,Ao,AP,UInt8.toNat_ofNat',Aa];omega
   rw[this];rfl
 have hk:9<m->1<=k:=by
   intro hm;apply Bg;intro hn;have:k=0:=by omega
   subst this;simp at h5;omega
 have tm:Int.tmod (m:Int) 10=((m % 10:Nat):Int):=rfl;have td:Int.tdiv (m:Int) 10=((m / 10:Nat):Int):=rfl;simp only[tm,td];refine ah.2 ⟨fun h=>aq.2 ⟨?_,[UInt8.ofNat (48+m % 10)],wr _ (by omega),aq.2 ⟨by simp;omega,aq.2 ⟨?_,(k - 1,m / 10,UInt8.ofNat (48+m % 10)::s),⟨by simp only;omega,?_,?_,?_,?_,?_⟩,?_,⟨rfl,rfl,trivial⟩,trivial,trivial⟩⟩⟩,fun h=>aq.2 ⟨?_,[UInt8.ofNat (48+m)],wr _ ?_,aq.2 ⟨by simp;omega,?_,trivial⟩⟩⟩
 . rw[gj];omega
 . rw[gj];omega
 all_goals (simp only[cp,Ae,Ag]at h)
 . have:=hk (by omega);simp;omega
 . have:=hk (by omega);rw[h3,show 10+k=(10+(k - 1))+1 by omega];have hm:¬m<=9:=by omega
   simp only[jT,Ai hm];simp
 . have:=hk (by omega);simp;omega
 . have:=hk (by omega);simp only;rw[show k - 1+1=k by omega];rw[Nat.pow_succ]at h5;omega
 . simp only;omega
 . show m / 10<m
   omega
 . rw[gj];omega
 . omega
 . rw[h3,show 10+k=(9+k)+1 by omega,CT _ _ (by omega)])
theorem L2:∀g C,GV g=some C->CO g C:=bU Qh (bU Ov (bU Oe (bU Mo (bU O6 wR))))
end
section
variable [Inhabited aI]
def xO:aQ:={Y:=UInt8×Bool,pre:=fun _=>True,args:=fun y=>[.int .u8 (nB y.1), .bool y.2],res:=fun y=> .bool (fE (nB y.1) y.2)}
def ya:aQ:={Y:=UInt8,pre:=fun _=>True,args:=fun y=>[.int .u8 (nB y)],res:=fun y=> .bool (gk y)}
def fg (p:Bs->Bool):aQ:={Y:=Bs,pre:=fun y=>y.length<=100000,args:=fun y=>[.str y],res:=fun y=> .bool (p y)}
def nC (y:Bs):aK:={α:=Nat,ok:=fun i=>i<=y.length/\ ∀j (h:j<y.length),j<i->fE (nB y[j]) (j==0||j==y.length - 1)=true,μ:=fun i=>y.length - i,bn:=[],aU:=fun i=>[(0, .str y),(12,i64 (Int.ofNat y.length)),(13,i64 i)],bP:=fun _=>[]}
def nG (y:Bs):aK:={α:=Nat,ok:=fun i=>i<=(aM y 46).length/\ ∀j (h:j<(aM y 46).length),j<i->fN (aM y 46)[j]=true,μ:=fun i=>(aM y 46).length - i,bn:=[],aU:=fun i=>[(13,strs (aM y 46)),(14,i64 (Int.ofNat (aM y 46).length)),(15,i64 i)],bP:=fun _=>[]}
def gf (y:Bs):aK:=let l:=(y.drop 1).take (y.length - 2);{α:=Nat,ok:=fun i=>i<=l.length/\ ∀j (h:j<l.length),j<i->cI l[j]=true,μ:=fun i=>l.length - i,bn:=[],aU:=fun i=>[(31, .aH UInt8 l cH),(32,i64 (Int.ofNat l.length)),(33,i64 i)],bP:=fun _=>[]}
def fY (y:Bs):aK:={α:=Nat,ok:=fun i=>1<=i/\i+1<=y.length/\ ∀j (h:j<y.length),1<=j->j<i->cI y[j]=true,μ:=fun i=>y.length - i,bn:=[],aU:=fun i=>[(0, .str y),(3,i64 i)],bP:=fun _=>[]}
def uW (y:Bs):aK:={α:=Nat,ok:=fun i=>i<=(aM y 46).length/\ ∀j (h:j<(aM y 46).length),j<i->eo (aM y 46)[j]=true,μ:=fun i=>(aM y 46).length - i,bn:=[],aU:=fun i=>[(13,strs (aM y 46)),(14,i64 (Int.ofNat (aM y 46).length)),(15,i64 i)],bP:=fun _=>[]}
def xh:aQ:={Y:=Bs,pre:=fun y=>y.length<=100000,args:=fun y=>[.str y],res:=fun y=>strs (if dE y then aM y 46 else[])}
def pX:aQ:={Y:=Bs×Bs,pre:=fun y=>y.1.length<=100000/\y.2.length<=100000,args:=fun y=>[.str y.1, .str y.2],res:=fun y=> .bool (decide (y.1.take y.2.length=y.2))}
def xM:aQ:={Y:=Bs,pre:=fun y=>y.length<=100000,args:=fun y=>[.str y],res:=fun y=> .bj [.agg [.str (fj y).1, .bool (fj y).2.1, .bool (fj y).2.2], .bool (ik y)]}
def mG (l:List Bs):Int:=if 256<l.length then 3 else if l.all ik then 0 else 1
def xg:aQ:={Y:=List Bs,pre:=fun y=>y.length<=100000/\ ∀s∈y,s.length<=100000,args:=fun y=>[strs y],res:=fun y=>i64 (mG y)}
def tT (y:List Bs):aK:={α:=Nat,ok:=fun i=>i<=y.length/\ ∀j (h:j<y.length),j<i->ik y[j]=true,μ:=fun i=>y.length - i,bn:=[],aU:=fun i=>[(10,strs y),(11,i64 (Int.ofNat y.length)),(12,i64 i)],bP:=fun _=>[]}
def tU (y:Bs):aK:={α:=Nat,ok:=fun i=>i<=y.length/\ ∀j (h:j<y.length),j<i->gk y[j]=true,μ:=fun i=>y.length - i,bn:=[],aU:=fun i=>[(0, .str y),(3,i64 i)],bP:=fun _=>[]}
def uo (y:Bs):aK:={α:=Nat,ok:=fun i=>i<=4/\ ∀j (h:j<(aM y 46).length),j<i->fN (aM y 46)[j]=true,μ:=fun i=>4 - i,bn:=[],aU:=fun i=>[(3,strs (aM y 46)),(4,i64 i)],bP:=fun _=>[]}
def ur (y:Bs):aK:={α:=Nat,ok:=fun i=>i<=(aM y 46).length/\ ∀j (h:j<(aM y 46).length),j<i->eo (aM y 46)[j]=true,μ:=fun i=>(aM y 46).length - i,bn:=[],aU:=fun i=>[(3,strs (aM y 46)),(4,i64 i)],bP:=fun _=>[]}
noncomputable def kn (f:FuncId):Option aQ:=bif Nat.beq f po then some xO else bif Nat.beq f ph then some ya else GV f
noncomputable def nF (f:FuncId):Option aQ:=bif Nat.beq f lq then some (fg eo)else bif Nat.beq f ln then some (fg eo)else bif Nat.beq f lz then some (fg eP)else bif Nat.beq f lx then some (fg eP)else bif Nat.beq f kY then some (fg eA)else bif Nat.beq f kU then some (fg eA)else kn f
noncomputable def uI (f:FuncId):Option aQ:=bif Nat.beq f oU then some (fg gi)else bif Nat.beq f oS then some (fg gi)else bif Nat.beq f lv then some (fg dE)else nF f
noncomputable def qw (f:FuncId):Option aQ:=bif Nat.beq f lA then some (fg dE)else bif Nat.beq f yr then some pX else uI f
noncomputable def uJ (f:FuncId):Option aQ:=bif Nat.beq f o6 then some xh else bif Nat.beq f oK then some pX else qw f
noncomputable def uK (f:FuncId):Option aQ:=bif Nat.beq f oV then some xM else uJ f
noncomputable def GW (f:FuncId):Option aQ:=bif Nat.beq f lh then some xg else uK f
end
section
variable [Inhabited aI]
theorem Nv:(cr (fun(y:aQ.Y xO)=>bE bS (cM y)) 400 po)=(∀(y:UInt8×Bool),
 True->
 br (nB y.1==45)
 (br y.2 (false=fE (nB y.1) y.2/\True)
 (true=fE (nB y.1) y.2/\True))
 (br (bA 97 (nB y.1))
 (br (bA (nB y.1) 122) (true=fE (nB y.1) y.2/\True)
 (br (bA 48 (nB y.1))
 (br (bA (nB y.1) 57) (true=fE (nB y.1) y.2/\True)
 (br (nB y.1==95) (true=fE (nB y.1) y.2/\True)
 (false=fE (nB y.1) y.2/\True)))
 (br (nB y.1==95) (true=fE (nB y.1) y.2/\True)
 (false=fE (nB y.1) y.2/\True))))
 (br (bA 48 (nB y.1))
 (br (bA (nB y.1) 57) (true=fE (nB y.1) y.2/\True)
 (br (nB y.1==95) (true=fE (nB y.1) y.2/\True)
 (false=fE (nB y.1) y.2/\True)))
 (br (nB y.1==95) (true=fE (nB y.1) y.2/\True)
 (false=fE (nB y.1) y.2/\True))))):=by kernel_rfl
theorem Pr:(cr (fun(y:aQ.Y ya)=>bE bS (cM y)) 400 ph)=(∀(y:UInt8),
 True->
 br (bA 97 (nB y))
 (br (bA (nB y) 122) (true=gk y/\True)
 (br (bA 48 (nB y))
 (br (bA (nB y) 57) (true=gk y/\True)
 (br (nB y==45) (true=gk y/\True) ((nB y==95)=gk y/\True)))
 (br (nB y==45) (true=gk y/\True) ((nB y==95)=gk y/\True))))
 (br (bA 48 (nB y))
 (br (bA (nB y) 57) (true=gk y/\True)
 (br (nB y==45) (true=gk y/\True) ((nB y==95)=gk y/\True)))
 (br (nB y==45) (true=gk y/\True) ((nB y==95)=gk y/\True)))):=by kernel_rfl
theorem Ns:(cr (fun(y:aQ.Y (fg eo))=>bE kn (cX lq 4 (nC y))) 400 lq)=(∀(y:List UInt8),
 y.length<=100000->
 br (y==Array.toList (ByteArray.data {data:=#[]})) (false=eo y/\True)
 (br (bO 63 (Int.ofNat y.length)) (false=eo y/\True)
 ((∃(x:Nat),
 (x<=y.length/\ ∀(j:Nat) (h:j<y.length),j<x->fE (nB y[j]) (j==0||j==y.length - 1)=true)/\
 (y=y/\ax (Int.ofNat y.length) (Int.ofNat y.length)/\ax 0 ↑x/\True)/\True/\True)/\
 ∀(x:Nat),
 (x<=y.length/\ ∀(j:Nat) (h:j<y.length),j<x->fE (nB y[j]) (j==0||j==y.length - 1)=true)->
 br (bO (↑x) (Int.ofNat y.length))
 (so y[Int.toNat ↑x]? fun(val:UInt8)=>
 br ((↑x:Int)==0)
 (∃(y_1:UInt8×Bool),
 ax (Int.ofNat (UInt8.toNat val)) (nB y_1.1)/\
 true=y_1.2/\
 True/\
 br (!fE (nB y_1.1) y_1.2) (false=eo y/\True)
 (ck (bw .i64 (↑x+1))
 (∃(y_2:Nat),
 (y_2<=y.length/\
 ∀(j:Nat) (h:j<y.length),j<y_2->fE (nB y[j]) (j==0||j==y.length - 1)=true)/\
 aK.μ (nC y) y_2<aK.μ (nC y) x/\
 (y=y/\ax (Int.ofNat y.length) (Int.ofNat y.length)/\ax (↑x+1) ↑y_2/\True)/\True/\True)))
 (ck (bw .i64 (Int.ofNat y.length - 1))
 (∃(y_1:UInt8×Bool),
 ax (Int.ofNat (UInt8.toNat val)) (nB y_1.1)/\
 ((↑x:Int)==Int.ofNat y.length - 1)=y_1.2/\
 True/\
 br (!fE (nB y_1.1) y_1.2) (false=eo y/\True)
 (ck (bw .i64 (↑x+1))
 (∃(y_2:Nat),
 (y_2<=y.length/\
 ∀(j:Nat) (h:j<y.length),j<y_2->fE (nB y[j]) (j==0||j==y.length - 1)=true)/\
 aK.μ (nC y) y_2<aK.μ (nC y) x/\
 (y=y/\ax (Int.ofNat y.length) (Int.ofNat y.length)/\ax (↑x+1) ↑y_2/\True)/\True/\True)))))
 (true=eo y/\True)))):=by kernel_rfl
theorem L9:(cr (fun(y:aQ.Y (fg eo))=>bE kn (cX ln 4 (tU y))) 400 ln)=(∀(y:List UInt8),
 y.length<=100000->
 br (bO (Int.ofNat y.length) 1) (false=eo y/\True)
 (br (bO 63 (Int.ofNat y.length)) (false=eo y/\True)
 (so y[Int.toNat 0]? fun(val:UInt8)=>
 br (Int.ofNat (UInt8.toNat val)==45) (false=eo y/\True)
 (ck (bw .i64 (Int.ofNat y.length - 1))
 (ck (nn (Int.ofNat y.length - 1))
 (so y[Int.toNat (Int.ofNat y.length - 1)]? fun(val:UInt8)=>
 br (Int.ofNat (UInt8.toNat val)==45) (false=eo y/\True)
 ((∃(x:Nat),
 (x<=y.length/\ ∀(j:Nat) (h:j<y.length),j<x->gk y[j]=true)/\(y=y/\ax 0 ↑x/\True)/\True/\True)/\
 ∀(x:Nat),
 (x<=y.length/\ ∀(j:Nat) (h:j<y.length),j<x->gk y[j]=true)->
 br (bO (↑x) (Int.ofNat y.length))
 (so y[Int.toNat ↑x]? fun(val:UInt8)=>
 ∃(y_1:UInt8),
 ax (Int.ofNat (UInt8.toNat val)) (nB y_1)/\
 True/\
 br (!gk y_1) (false=eo y/\True)
 (ck (bw .i64 (↑x+1))
 (∃(y_2:Nat),
 (y_2<=y.length/\ ∀(j:Nat) (h:j<y.length),j<y_2->gk y[j]=true)/\
 aK.μ (tU y) y_2<aK.μ (tU y) x/\(y=y/\ax (↑x+1) ↑y_2/\True)/\True/\True)))
 (true=eo y/\True)))))))):=by kernel_rfl
theorem Pl:(cr (fun(y:aQ.Y (fg eP))=>bE kn (cX lz 5 (nG y))) 400 lz)=(∀(y:List UInt8),
 y.length<=100000->
 ∃(y_1:Bs×Int),
 y=y_1.1/\
 ax 46 y_1.2/\
 y_1.1.length<=100000/\
 br (!Int.ofNat (List.length (aM y_1.1 y_1.2))==4) (false=eP y/\True)
 ((∃(x:Nat),
 (x<=List.length (aM y 46)/\
 ∀(j:Nat) (h:j<List.length (aM y 46)),j<x->fN (aM y 46)[j]=true)/\
 (SV.aH Bs (aM y_1.1 y_1.2) dG=SV.aH Bs (aM y 46) dG/\
 ax (Int.ofNat (List.length (aM y_1.1 y_1.2))) (Int.ofNat (List.length (aM y 46)))/\
 ax 0 ↑x/\True)/\
 True/\True)/\
 ∀(x:Nat),
 (x<=List.length (aM y 46)/\
 ∀(j:Nat) (h:j<List.length (aM y 46)),j<x->fN (aM y 46)[j]=true)->
 br (bO (↑x) (Int.ofNat (List.length (aM y 46))))
 (so (aM y 46)[Int.toNat ↑x]? fun(val:Bs)=>
 ∃(y_2:List UInt8),
 val=y_2/\
 y_2.length<=1000000/\
 br (val==Array.toList (ByteArray.data {data:=#[]})) (false=eP y/\True)
 (∃(y_3:List UInt8),
 val=y_3/\
 y_3.length<=1000000/\
 br (bO (↑(cK y_3)) (Int.ofNat val.length)) (false=eP y/\True)
 (br (bO 255 (Prod.fst (aW y_2))) (false=eP y/\True)
 (br (bO 1 (Int.ofNat val.length))
 (so val[Int.toNat 0]? fun(val:UInt8)=>
 br (Int.ofNat (UInt8.toNat val)==48) (false=eP y/\True)
 (ck (bw .i64 (↑x+1))
 (∃(y_4:Nat),
 (y_4<=List.length (aM y 46)/\
 ∀(j:Nat) (h:j<List.length (aM y 46)),
 j<y_4->fN (aM y 46)[j]=true)/\
 aK.μ (nG y) y_4<aK.μ (nG y) x/\
 (SV.aH Bs (aM y 46) dG=
 SV.aH Bs (aM y 46) dG/\
 ax (Int.ofNat (List.length (aM y 46))) (Int.ofNat (List.length (aM y 46)))/\
 ax (↑x+1) ↑y_4/\True)/\
 True/\True)))
 (ck (bw .i64 (↑x+1))
 (∃(y_4:Nat),
 (y_4<=List.length (aM y 46)/\
 ∀(j:Nat) (h:j<List.length (aM y 46)),j<y_4->fN (aM y 46)[j]=true)/\
 aK.μ (nG y) y_4<aK.μ (nG y) x/\
 (SV.aH Bs (aM y 46) dG=
 SV.aH Bs (aM y 46) dG/\
 ax (Int.ofNat (List.length (aM y 46))) (Int.ofNat (List.length (aM y 46)))/\
 ax (↑x+1) ↑y_4/\True)/\
 True/\True))))))
 (true=eP y/\True))):=by kernel_rfl
theorem Nr:(cr (fun(y:aQ.Y (fg eP))=>bE kn (cX lx 5 (uo y))) 400 lx)=(∀(y:List UInt8),
 y.length<=100000->
 ∃(y_1:Bs×Int),
 y=y_1.1/\
 ax 46 y_1.2/\
 y_1.1.length<=100000/\
 br (!Int.ofNat (List.length (aM y_1.1 y_1.2))==4) (false=eP y/\True)
 ((∃(x:Nat),
 (x<=4/\ ∀(j:Nat) (h:j<List.length (aM y 46)),j<x->fN (aM y 46)[j]=true)/\
 (SV.aH Bs (aM y_1.1 y_1.2) dG=SV.aH Bs (aM y 46) dG/\
 ax 0 ↑x/\True)/\
 True/\True)/\
 ∀(x:Nat),
 (x<=4/\ ∀(j:Nat) (h:j<List.length (aM y 46)),j<x->fN (aM y 46)[j]=true)->
 br (bO (↑x) 4)
 (so (aM y 46)[Int.toNat ↑x]? fun(val:Bs)=>
 br (bO (Int.ofNat val.length) 1) (false=eP y/\True)
 (so (aM y 46)[Int.toNat ↑x]? fun(val:Bs)=>
 br (bO 3 (Int.ofNat val.length)) (false=eP y/\True)
 (so (aM y 46)[Int.toNat ↑x]? fun(val:Bs)=>
 so (aM y 46)[Int.toNat ↑x]? fun(val_1:Bs)=>
 ∃(y_2:List UInt8),
 val=y_2/\
 y_2.length<=1000000/\
 br (!↑(cK y_2)==Int.ofNat val_1.length) (false=eP y/\True)
 (so (aM y 46)[Int.toNat ↑x]? fun(val:Bs)=>
 ∃(y_3:List UInt8),
 val=y_3/\
 y_3.length<=1000000/\
 br (bO 255 (Prod.fst (aW y_3))) (false=eP y/\True)
 (so (aM y 46)[Int.toNat ↑x]? fun(val:Bs)=>
 ∃(y_4:Nat),
 ax (Prod.fst (aW y_3)) ↑y_4/\
 y_4<=1099511627776/\
 br (!iu y_4==val) (false=eP y/\True)
 (ck (bw .i64 (↑x+1))
 (∃(y_5:Nat),
 (y_5<=4/\
 ∀(j:Nat) (h:j<List.length (aM y 46)),
 j<y_5->fN (aM y 46)[j]=true)/\
 aK.μ (uo y) y_5<aK.μ (uo y) x/\
 (SV.aH Bs (aM y 46) dG=
 SV.aH Bs (aM y 46) dG/\
 ax (↑x+1) ↑y_5/\True)/\
 True/\True)))))))
 (true=eP y/\True))):=by kernel_rfl
theorem Nn:(cr (fun(y:aQ.Y (fg eA))=>bE kn (cX kY 4 (gf y))) 400 kY)=(∀(y:List UInt8),
 y.length<=100000->
 br (bO (Int.ofNat y.length) 4) (false=eA y/\True)
 (br (bO 47 (Int.ofNat y.length)) (false=eA y/\True)
 (so y[Int.toNat 0]? fun(val:UInt8)=>
 br (!Int.ofNat (UInt8.toNat val)==91) (false=eA y/\True)
 (ck (bw .i64 (Int.ofNat y.length - 1))
 (ck (nn (Int.ofNat y.length - 1))
 (so y[Int.toNat (Int.ofNat y.length - 1)]? fun(val:UInt8)=>
 br (!Int.ofNat (UInt8.toNat val)==93) (false=eA y/\True)
 (ck (bw .i64 (Int.ofNat y.length - 1))
 (ck (nn (Int.ofNat y.length - 1))
 (ck (Nat.ble (Int.toNat 1) (Int.toNat (Int.ofNat y.length - 1))&&Nat.ble (Int.toNat (Int.ofNat y.length - 1)) y.length)
 ((∃(x:Nat),
 (x<=List.length (List.take (y.length - 2) (List.drop 1 y))/\
 ∀(j:Nat) (h:j<List.length (List.take (y.length - 2) (List.drop 1 y))),
 j<x->cI (List.take (y.length - 2) (List.drop 1 y))[j]=true)/\
 (SV.aH UInt8 (List.take (Int.toNat (Int.ofNat y.length - 1) - Int.toNat 1) (List.drop (Int.toNat 1) y)) cH=
 SV.aH UInt8 (List.take (y.length - 2) (List.drop 1 y)) cH/\
 ax (Int.ofNat (List.length (List.take (Int.toNat (Int.ofNat y.length - 1) - Int.toNat 1) (List.drop (Int.toNat 1) y))))
 (Int.ofNat (List.length (List.take (y.length - 2) (List.drop 1 y))))/\
 ax 0 ↑x/\True)/\
 True/\True)/\
 ∀(x:Nat),
 (x<=List.length (List.take (y.length - 2) (List.drop 1 y))/\
 ∀(j:Nat) (h:j<List.length (List.take (y.length - 2) (List.drop 1 y))),
 j<x->cI (List.take (y.length - 2) (List.drop 1 y))[j]=true)->
 br (bO (↑x) (Int.ofNat (List.length (List.take (y.length - 2) (List.drop 1 y)))))
 (so (List.take (y.length - 2) (List.drop 1 y))[Int.toNat ↑x]? fun(val:UInt8)=>
 br (bA 48 (Int.ofNat (UInt8.toNat val)))
 (br (bA (Int.ofNat (UInt8.toNat val)) 57)
 (ck (bw .i64 (↑x+1))
 (∃(y_1:Nat),
 (y_1<=List.length (List.take (y.length - 2) (List.drop 1 y))/\
 ∀(j:Nat) (h:j<List.length (List.take (y.length - 2) (List.drop 1 y))),
 j<y_1->cI (List.take (y.length - 2) (List.drop 1 y))[j]=true)/\
 aK.μ (gf y) y_1<aK.μ (gf y) x/\
 (SV.aH UInt8 (List.take (y.length - 2) (List.drop 1 y)) cH=
 SV.aH UInt8 (List.take (y.length - 2) (List.drop 1 y)) cH/\
 ax (Int.ofNat (List.length (List.take (y.length - 2) (List.drop 1 y))))
 (Int.ofNat (List.length (List.take (y.length - 2) (List.drop 1 y))))/\
 ax (↑x+1) ↑y_1/\True)/\
 True/\True))
 (br (bA 97 (Int.ofNat (UInt8.toNat val)))
 (br (bA (Int.ofNat (UInt8.toNat val)) 102)
 (ck (bw .i64 (↑x+1))
 (∃(y_1:Nat),
 (y_1<=List.length (List.take (y.length - 2) (List.drop 1 y))/\
 ∀(j:Nat) (h:j<List.length (List.take (y.length - 2) (List.drop 1 y))),
 j<y_1->cI (List.take (y.length - 2) (List.drop 1 y))[j]=true)/\
 aK.μ (gf y) y_1<aK.μ (gf y) x/\
 (SV.aH UInt8 (List.take (y.length - 2) (List.drop 1 y)) cH=
 SV.aH UInt8 (List.take (y.length - 2) (List.drop 1 y)) cH/\
 ax (Int.ofNat (List.length (List.take (y.length - 2) (List.drop 1 y))))
 (Int.ofNat (List.length (List.take (y.length - 2) (List.drop 1 y))))/\
 ax (↑x+1) ↑y_1/\True)/\
 True/\True))
 (br (Int.ofNat (UInt8.toNat val)==58)
 (ck (bw .i64 (↑x+1))
 (∃(y_1:Nat),
 (y_1<=List.length (List.take (y.length - 2) (List.drop 1 y))/\
 ∀(j:Nat) (h:j<List.length (List.take (y.length - 2) (List.drop 1 y))),
 j<y_1->cI (List.take (y.length - 2) (List.drop 1 y))[j]=true)/\
 aK.μ (gf y) y_1<aK.μ (gf y) x/\
 (SV.aH UInt8 (List.take (y.length - 2) (List.drop 1 y)) cH=
 SV.aH UInt8 (List.take (y.length - 2) (List.drop 1 y)) cH/\
 ax (Int.ofNat (List.length (List.take (y.length - 2) (List.drop 1 y))))
 (Int.ofNat (List.length (List.take (y.length - 2) (List.drop 1 y))))/\
 ax (↑x+1) ↑y_1/\True)/\
 True/\True))
 (br (!Int.ofNat (UInt8.toNat val)==46) (false=eA y/\True)
 (ck (bw .i64 (↑x+1))
 (∃(y_1:Nat),
 (y_1<=List.length (List.take (y.length - 2) (List.drop 1 y))/\
 ∀(j:Nat) (h:j<List.length (List.take (y.length - 2) (List.drop 1 y))),
 j<y_1->cI (List.take (y.length - 2) (List.drop 1 y))[j]=true)/\
 aK.μ (gf y) y_1<aK.μ (gf y) x/\
 (SV.aH UInt8 (List.take (y.length - 2) (List.drop 1 y)) cH=
 SV.aH UInt8 (List.take (y.length - 2) (List.drop 1 y)) cH/\
 ax (Int.ofNat (List.length (List.take (y.length - 2) (List.drop 1 y))))
 (Int.ofNat (List.length (List.take (y.length - 2) (List.drop 1 y))))/\
 ax (↑x+1) ↑y_1/\True)/\
 True/\True)))))
 (br (Int.ofNat (UInt8.toNat val)==58)
 (ck (bw .i64 (↑x+1))
 (∃(y_1:Nat),
 (y_1<=List.length (List.take (y.length - 2) (List.drop 1 y))/\
 ∀(j:Nat) (h:j<List.length (List.take (y.length - 2) (List.drop 1 y))),
 j<y_1->cI (List.take (y.length - 2) (List.drop 1 y))[j]=true)/\
 aK.μ (gf y) y_1<aK.μ (gf y) x/\
 (SV.aH UInt8 (List.take (y.length - 2) (List.drop 1 y)) cH=
 SV.aH UInt8 (List.take (y.length - 2) (List.drop 1 y)) cH/\
 ax (Int.ofNat (List.length (List.take (y.length - 2) (List.drop 1 y))))
 (Int.ofNat (List.length (List.take (y.length - 2) (List.drop 1 y))))/\
 ax (↑x+1) ↑y_1/\True)/\
 True/\True))
 (br (!Int.ofNat (UInt8.toNat val)==46) (false=eA y/\True)
 (ck (bw .i64 (↑x+1))
 (∃(y_1:Nat),
 (y_1<=List.length (List.take (y.length - 2) (List.drop 1 y))/\
 ∀(j:Nat) (h:j<List.length (List.take (y.length - 2) (List.drop 1 y))),
 j<y_1->cI (List.take (y.length - 2) (List.drop 1 y))[j]=true)/\
 aK.μ (gf y) y_1<aK.μ (gf y) x/\
 (SV.aH UInt8 (List.take (y.length - 2) (List.drop 1 y)) cH=
 SV.aH UInt8 (List.take (y.length - 2) (List.drop 1 y)) cH/\
 ax (Int.ofNat (List.length (List.take (y.length - 2) (List.drop 1 y))))
 (Int.ofNat (List.length (List.take (y.length - 2) (List.drop 1 y))))/\
 ax (↑x+1) ↑y_1/\True)/\
 True/\True))))))
 (br (bA 97 (Int.ofNat (UInt8.toNat val)))
 (br (bA (Int.ofNat (UInt8.toNat val)) 102)
 (ck (bw .i64 (↑x+1))
 (∃(y_1:Nat),
 (y_1<=List.length (List.take (y.length - 2) (List.drop 1 y))/\
 ∀(j:Nat) (h:j<List.length (List.take (y.length - 2) (List.drop 1 y))),
 j<y_1->cI (List.take (y.length - 2) (List.drop 1 y))[j]=true)/\
 aK.μ (gf y) y_1<aK.μ (gf y) x/\
 (SV.aH UInt8 (List.take (y.length - 2) (List.drop 1 y)) cH=
 SV.aH UInt8 (List.take (y.length - 2) (List.drop 1 y)) cH/\
 ax (Int.ofNat (List.length (List.take (y.length - 2) (List.drop 1 y))))
 (Int.ofNat (List.length (List.take (y.length - 2) (List.drop 1 y))))/\
 ax (↑x+1) ↑y_1/\True)/\
 True/\True))
 (br (Int.ofNat (UInt8.toNat val)==58)
 (ck (bw .i64 (↑x+1))
 (∃(y_1:Nat),
 (y_1<=List.length (List.take (y.length - 2) (List.drop 1 y))/\
 ∀(j:Nat) (h:j<List.length (List.take (y.length - 2) (List.drop 1 y))),
 j<y_1->cI (List.take (y.length - 2) (List.drop 1 y))[j]=true)/\
 aK.μ (gf y) y_1<aK.μ (gf y) x/\
 (SV.aH UInt8 (List.take (y.length - 2) (List.drop 1 y)) cH=
 SV.aH UInt8 (List.take (y.length - 2) (List.drop 1 y)) cH/\
 ax (Int.ofNat (List.length (List.take (y.length - 2) (List.drop 1 y))))
 (Int.ofNat (List.length (List.take (y.length - 2) (List.drop 1 y))))/\
 ax (↑x+1) ↑y_1/\True)/\
 True/\True))
 (br (!Int.ofNat (UInt8.toNat val)==46) (false=eA y/\True)
 (ck (bw .i64 (↑x+1))
 (∃(y_1:Nat),
 (y_1<=List.length (List.take (y.length - 2) (List.drop 1 y))/\
 ∀(j:Nat) (h:j<List.length (List.take (y.length - 2) (List.drop 1 y))),
 j<y_1->cI (List.take (y.length - 2) (List.drop 1 y))[j]=true)/\
 aK.μ (gf y) y_1<aK.μ (gf y) x/\
 (SV.aH UInt8 (List.take (y.length - 2) (List.drop 1 y)) cH=
 SV.aH UInt8 (List.take (y.length - 2) (List.drop 1 y)) cH/\
 ax (Int.ofNat (List.length (List.take (y.length - 2) (List.drop 1 y))))
 (Int.ofNat (List.length (List.take (y.length - 2) (List.drop 1 y))))/\
 ax (↑x+1) ↑y_1/\True)/\
 True/\True)))))
 (br (Int.ofNat (UInt8.toNat val)==58)
 (ck (bw .i64 (↑x+1))
 (∃(y_1:Nat),
 (y_1<=List.length (List.take (y.length - 2) (List.drop 1 y))/\
 ∀(j:Nat) (h:j<List.length (List.take (y.length - 2) (List.drop 1 y))),
 j<y_1->cI (List.take (y.length - 2) (List.drop 1 y))[j]=true)/\
 aK.μ (gf y) y_1<aK.μ (gf y) x/\
 (SV.aH UInt8 (List.take (y.length - 2) (List.drop 1 y)) cH=
 SV.aH UInt8 (List.take (y.length - 2) (List.drop 1 y)) cH/\
 ax (Int.ofNat (List.length (List.take (y.length - 2) (List.drop 1 y))))
 (Int.ofNat (List.length (List.take (y.length - 2) (List.drop 1 y))))/\
 ax (↑x+1) ↑y_1/\True)/\
 True/\True))
 (br (!Int.ofNat (UInt8.toNat val)==46) (false=eA y/\True)
 (ck (bw .i64 (↑x+1))
 (∃(y_1:Nat),
 (y_1<=List.length (List.take (y.length - 2) (List.drop 1 y))/\
 ∀(j:Nat) (h:j<List.length (List.take (y.length - 2) (List.drop 1 y))),
 j<y_1->cI (List.take (y.length - 2) (List.drop 1 y))[j]=true)/\
 aK.μ (gf y) y_1<aK.μ (gf y) x/\
 (SV.aH UInt8 (List.take (y.length - 2) (List.drop 1 y)) cH=
 SV.aH UInt8 (List.take (y.length - 2) (List.drop 1 y)) cH/\
 ax (Int.ofNat (List.length (List.take (y.length - 2) (List.drop 1 y))))
 (Int.ofNat (List.length (List.take (y.length - 2) (List.drop 1 y))))/\
 ax (↑x+1) ↑y_1/\True)/\
 True/\True))))))
 (true=eA y/\True))))))))))):=by kernel_rfl
theorem L5:(cr (fun(y:aQ.Y (fg eA))=>bE bS (cX kU 4 (fY y))) 400 kU)=(∀(y:List UInt8),
 y.length<=100000->
 br (bO (Int.ofNat y.length) 4) (false=eA y/\True)
 (br (bO 47 (Int.ofNat y.length)) (false=eA y/\True)
 (so y[Int.toNat 0]? fun(val:UInt8)=>
 br (!Int.ofNat (UInt8.toNat val)==91) (false=eA y/\True)
 (ck (bw .i64 (Int.ofNat y.length - 1))
 (ck (nn (Int.ofNat y.length - 1))
 (so y[Int.toNat (Int.ofNat y.length - 1)]? fun(val:UInt8)=>
 br (!Int.ofNat (UInt8.toNat val)==93) (false=eA y/\True)
 ((∃(x:Nat),
 (1<=x/\x+1<=y.length/\ ∀(j:Nat) (h:j<y.length),1<=j->j<x->cI y[j]=true)/\
 (y=y/\ax 1 ↑x/\True)/\True/\True)/\
 ∀(x:Nat),
 (1<=x/\x+1<=y.length/\ ∀(j:Nat) (h:j<y.length),1<=j->j<x->cI y[j]=true)->
 ck (bw .i64 (Int.ofNat y.length - 1))
 (br (bO (↑x) (Int.ofNat y.length - 1))
 (so y[Int.toNat ↑x]? fun(val:UInt8)=>
 br (bA 48 (Int.ofNat (UInt8.toNat val)))
 (br (bA (Int.ofNat (UInt8.toNat val)) 57)
 (ck (bw .i64 (↑x+1))
 (∃(y_1:Nat),
 (1<=y_1/\y_1+1<=y.length/\ ∀(j:Nat) (h:j<y.length),1<=j->j<y_1->cI y[j]=true)/\
 aK.μ (fY y) y_1<aK.μ (fY y) x/\(y=y/\ax (↑x+1) ↑y_1/\True)/\True/\True))
 (br (bA 97 (Int.ofNat (UInt8.toNat val)))
 (br (bA (Int.ofNat (UInt8.toNat val)) 102)
 (ck (bw .i64 (↑x+1))
 (∃(y_1:Nat),
 (1<=y_1/\y_1+1<=y.length/\ ∀(j:Nat) (h:j<y.length),1<=j->j<y_1->cI y[j]=true)/\
 aK.μ (fY y) y_1<aK.μ (fY y) x/\(y=y/\ax (↑x+1) ↑y_1/\True)/\True/\True))
 (br (Int.ofNat (UInt8.toNat val)==58)
 (ck (bw .i64 (↑x+1))
 (∃(y_1:Nat),
 (1<=y_1/\y_1+1<=y.length/\ ∀(j:Nat) (h:j<y.length),1<=j->j<y_1->cI y[j]=true)/\
 aK.μ (fY y) y_1<aK.μ (fY y) x/\
 (y=y/\ax (↑x+1) ↑y_1/\True)/\True/\True))
 (br (!Int.ofNat (UInt8.toNat val)==46) (false=eA y/\True)
 (ck (bw .i64 (↑x+1))
 (∃(y_1:Nat),
 (1<=y_1/\y_1+1<=y.length/\ ∀(j:Nat) (h:j<y.length),1<=j->j<y_1->cI y[j]=true)/\
 aK.μ (fY y) y_1<aK.μ (fY y) x/\
 (y=y/\ax (↑x+1) ↑y_1/\True)/\True/\True)))))
 (br (Int.ofNat (UInt8.toNat val)==58)
 (ck (bw .i64 (↑x+1))
 (∃(y_1:Nat),
 (1<=y_1/\y_1+1<=y.length/\ ∀(j:Nat) (h:j<y.length),1<=j->j<y_1->cI y[j]=true)/\
 aK.μ (fY y) y_1<aK.μ (fY y) x/\(y=y/\ax (↑x+1) ↑y_1/\True)/\True/\True))
 (br (!Int.ofNat (UInt8.toNat val)==46) (false=eA y/\True)
 (ck (bw .i64 (↑x+1))
 (∃(y_1:Nat),
 (1<=y_1/\y_1+1<=y.length/\ ∀(j:Nat) (h:j<y.length),1<=j->j<y_1->cI y[j]=true)/\
 aK.μ (fY y) y_1<aK.μ (fY y) x/\
 (y=y/\ax (↑x+1) ↑y_1/\True)/\True/\True))))))
 (br (bA 97 (Int.ofNat (UInt8.toNat val)))
 (br (bA (Int.ofNat (UInt8.toNat val)) 102)
 (ck (bw .i64 (↑x+1))
 (∃(y_1:Nat),
 (1<=y_1/\y_1+1<=y.length/\ ∀(j:Nat) (h:j<y.length),1<=j->j<y_1->cI y[j]=true)/\
 aK.μ (fY y) y_1<aK.μ (fY y) x/\(y=y/\ax (↑x+1) ↑y_1/\True)/\True/\True))
 (br (Int.ofNat (UInt8.toNat val)==58)
 (ck (bw .i64 (↑x+1))
 (∃(y_1:Nat),
 (1<=y_1/\y_1+1<=y.length/\ ∀(j:Nat) (h:j<y.length),1<=j->j<y_1->cI y[j]=true)/\
 aK.μ (fY y) y_1<aK.μ (fY y) x/\(y=y/\ax (↑x+1) ↑y_1/\True)/\True/\True))
 (br (!Int.ofNat (UInt8.toNat val)==46) (false=eA y/\True)
 (ck (bw .i64 (↑x+1))
 (∃(y_1:Nat),
 (1<=y_1/\y_1+1<=y.length/\ ∀(j:Nat) (h:j<y.length),1<=j->j<y_1->cI y[j]=true)/\
 aK.μ (fY y) y_1<aK.μ (fY y) x/\
 (y=y/\ax (↑x+1) ↑y_1/\True)/\True/\True)))))
 (br (Int.ofNat (UInt8.toNat val)==58)
 (ck (bw .i64 (↑x+1))
 (∃(y_1:Nat),
 (1<=y_1/\y_1+1<=y.length/\ ∀(j:Nat) (h:j<y.length),1<=j->j<y_1->cI y[j]=true)/\
 aK.μ (fY y) y_1<aK.μ (fY y) x/\(y=y/\ax (↑x+1) ↑y_1/\True)/\True/\True))
 (br (!Int.ofNat (UInt8.toNat val)==46) (false=eA y/\True)
 (ck (bw .i64 (↑x+1))
 (∃(y_1:Nat),
 (1<=y_1/\y_1+1<=y.length/\ ∀(j:Nat) (h:j<y.length),1<=j->j<y_1->cI y[j]=true)/\
 aK.μ (fY y) y_1<aK.μ (fY y) x/\
 (y=y/\ax (↑x+1) ↑y_1/\True)/\True/\True))))))
 (true=eA y/\True))))))))):=by kernel_rfl
theorem Nl:(cr (fun(y:aQ.Y (fg gi))=>bE nF (cM y)) 400 oS)=(∀(y:List UInt8),
 y.length<=100000->
 ∃(y_1:List UInt8),
 y=y_1/\
 y_1.length<=100000/\
 br (eP y_1) (true=gi y/\True)
 (∃(y_2:List UInt8),y=y_2/\y_2.length<=100000/\eA y_2=gi y/\True)):=by kernel_rfl
theorem Pf:(cr (fun(y:aQ.Y (fg gi))=>bE nF (cM y)) 400 oU)=(∀(y:List UInt8),
 y.length<=100000->
 ∃(y_1:List UInt8),
 y=y_1/\
 y_1.length<=100000/\
 br (eP y_1) (true=gi y/\True)
 (∃(y_2:List UInt8),y=y_2/\y_2.length<=100000/\eA y_2=gi y/\True)):=by kernel_rfl
theorem Po:(cr (fun(y:aQ.Y (fg dE))=>bE uI (cX lA 4 (uW y))) 400 lA)=(∀(y:List UInt8),
 y.length<=100000->
 br (bO 256 (Int.ofNat y.length)) (false=dE y/\True)
 (∃(y_1:List UInt8),
 y=y_1/\
 y_1.length<=100000/\
 br (gi y_1) (false=dE y/\True)
 (∃(y_2:Bs×Int),
 y=y_2.1/\
 ax 46 y_2.2/\
 y_2.1.length<=100000/\
 (∃(x:Nat),
 (x<=List.length (aM y 46)/\
 ∀(j:Nat) (h:j<List.length (aM y 46)),j<x->eo (aM y 46)[j]=true)/\
 (SV.aH Bs (aM y_2.1 y_2.2) dG=
 SV.aH Bs (aM y 46) dG/\
 ax (Int.ofNat (List.length (aM y_2.1 y_2.2))) (Int.ofNat (List.length (aM y 46)))/\
 ax 0 ↑x/\True)/\
 True/\True)/\
 ∀(x:Nat),
 (x<=List.length (aM y 46)/\
 ∀(j:Nat) (h:j<List.length (aM y 46)),j<x->eo (aM y 46)[j]=true)->
 br (bO (↑x) (Int.ofNat (List.length (aM y 46))))
 (so (aM y 46)[Int.toNat ↑x]? fun(val:Bs)=>
 ∃(y_3:List UInt8),
 val=y_3/\
 y_3.length<=100000/\
 br (!eo y_3) (false=dE y/\True)
 (ck (bw .i64 (↑x+1))
 (∃(y_4:Nat),
 (y_4<=List.length (aM y 46)/\
 ∀(j:Nat) (h:j<List.length (aM y 46)),j<y_4->eo (aM y 46)[j]=true)/\
 aK.μ (uW y) y_4<aK.μ (uW y) x/\
 (SV.aH Bs (aM y 46) dG=
 SV.aH Bs (aM y 46) dG/\
 ax (Int.ofNat (List.length (aM y 46))) (Int.ofNat (List.length (aM y 46)))/\
 ax (↑x+1) ↑y_4/\True)/\
 True/\True)))
 (true=dE y/\True)))):=by kernel_rfl
theorem Nt:(cr (fun(y:aQ.Y (fg dE))=>bE nF (cX lv 5 (ur y))) 400 lv)=(∀(y:List UInt8),
 y.length<=100000->
 br (bO 256 (Int.ofNat y.length)) (false=dE y/\True)
 (∃(y_1:List UInt8),
 y=y_1/\
 y_1.length<=100000/\
 br (eP y_1) (false=dE y/\True)
 (∃(y_2:Bs×Int),
 y=y_2.1/\
 ax 46 y_2.2/\
 y_2.1.length<=100000/\
 (∃(x:Nat),
 (x<=List.length (aM y 46)/\
 ∀(j:Nat) (h:j<List.length (aM y 46)),j<x->eo (aM y 46)[j]=true)/\
 (SV.aH Bs (aM y_2.1 y_2.2) dG=
 SV.aH Bs (aM y 46) dG/\
 ax 0 ↑x/\True)/\
 True/\True)/\
 ∀(x:Nat),
 (x<=List.length (aM y 46)/\
 ∀(j:Nat) (h:j<List.length (aM y 46)),j<x->eo (aM y 46)[j]=true)->
 br (bO (↑x) (Int.ofNat (List.length (aM y 46))))
 (so (aM y 46)[Int.toNat ↑x]? fun(val:Bs)=>
 ∃(y_3:List UInt8),
 val=y_3/\
 y_3.length<=100000/\
 br (!eo y_3) (false=dE y/\True)
 (ck (bw .i64 (↑x+1))
 (∃(y_4:Nat),
 (y_4<=List.length (aM y 46)/\
 ∀(j:Nat) (h:j<List.length (aM y 46)),j<y_4->eo (aM y 46)[j]=true)/\
 aK.μ (ur y) y_4<aK.μ (ur y) x/\
 (SV.aH Bs (aM y 46) dG=
 SV.aH Bs (aM y 46) dG/\
 ax (↑x+1) ↑y_4/\True)/\
 True/\True)))
 (true=dE y/\True)))):=by kernel_rfl
theorem Mb:(cr (fun(y:aQ.Y pX)=>bE bS (cM y)) 400 yr)=(∀(y:Bs×Bs),
 y.1.length<=100000/\y.2.length<=100000->
 br (bA (Int.ofNat y.2.length) (Int.ofNat y.1.length))
 (ck (Nat.ble (Int.toNat (Int.ofNat y.2.length)) y.1.length)
 ((List.take (Int.toNat (Int.ofNat y.2.length)) y.1==y.2)=
 Decidable.decide (List.take y.2.length y.1=y.2)/\
 True))
 (false=Decidable.decide (List.take y.2.length y.1=y.2)/\True)):=by kernel_rfl
theorem K3:(cr (fun(y:aQ.Y pX)=>bE qw (cM y)) 400 oK)=(∀(y:Bs×Bs),
 y.1.length<=100000/\y.2.length<=100000->
 ∃(y_1:Bs×Bs),
 y.1=y_1.1/\
 y.2=y_1.2/\
 (y_1.1.length<=100000/\y_1.2.length<=100000)/\
 Decidable.decide (List.take y_1.2.length y_1.1=y_1.2)=
 Decidable.decide (List.take y.2.length y.1=y.2)/\
 True):=by kernel_rfl
theorem Ma:(cr (fun(y:aQ.Y xh)=>bE qw (cM y)) 400 o6)=(∀(y:List UInt8),
 y.length<=100000->
 ∃(y_1:List UInt8),
 y=y_1/\
 y_1.length<=100000/\
 br (!dE y_1) ((if dE y=true then aM y 46 else[])=[]/\True)
 (∃(y_2:Bs×Int),
 y=y_2.1/\
 ax 46 y_2.2/\
 y_2.1.length<=100000/\
 SV.aH Bs (aM y_2.1 y_2.2) dG=
 SV.aH Bs (if dE y=true then aM y 46 else[]) dG/\
 True)):=by kernel_rfl
theorem Nu:(cr (fun(y:aQ.Y xM)=>bE uJ (cM y)) 400 oV)=(∀(y:List UInt8),
 y.length<=100000->
 ∃(y_1:Bs×Bs),
 y=y_1.1/\
 Array.toList (ByteArray.data {data:=#[42,46]})=y_1.2/\
 (y_1.1.length<=100000/\y_1.2.length<=100000)/\
 br (Decidable.decide (List.take y_1.2.length y_1.1=y_1.2))
 (ck (Nat.ble (Int.toNat 2) y.length)
 (∃(y_2:List UInt8),
 List.drop (Int.toNat 2) y=y_2/\
 y_2.length<=100000/\
 br (bO 0 (Int.ofNat (List.length (if dE y_2=true then aM y_2 46 else[]))))
 (List.drop (Int.toNat 2) y=Prod.fst (fj y)/\
 true=Prod.fst (Prod.snd (fj y))/\false=Prod.snd (Prod.snd (fj y))/\true=ik y/\True)
 (List.drop (Int.toNat 2) y=Prod.fst (fj y)/\
 true=Prod.fst (Prod.snd (fj y))/\false=Prod.snd (Prod.snd (fj y))/\false=ik y/\True)))
 (∃(y_2:Bs×Bs),
 y=y_2.1/\
 Array.toList (ByteArray.data {data:=#[33]})=y_2.2/\
 (y_2.1.length<=100000/\y_2.2.length<=100000)/\
 br (Decidable.decide (List.take y_2.2.length y_2.1=y_2.2))
 (ck (Nat.ble (Int.toNat 1) y.length)
 (∃(y_3:List UInt8),
 List.drop (Int.toNat 1) y=y_3/\
 y_3.length<=100000/\
 br (bO 0 (Int.ofNat (List.length (if dE y_3=true then aM y_3 46 else[]))))
 (List.drop (Int.toNat 1) y=Prod.fst (fj y)/\
 false=Prod.fst (Prod.snd (fj y))/\
 true=Prod.snd (Prod.snd (fj y))/\
 bO 1 (Int.ofNat (List.length (if dE y_3=true then aM y_3 46 else[])))=ik y/\True)
 (List.drop (Int.toNat 1) y=Prod.fst (fj y)/\
 false=Prod.fst (Prod.snd (fj y))/\
 true=Prod.snd (Prod.snd (fj y))/\false=ik y/\True)))
 (∃(y_3:List UInt8),
 y=y_3/\
 y_3.length<=100000/\
 br (bO 0 (Int.ofNat (List.length (if dE y_3=true then aM y_3 46 else[]))))
 (y=Prod.fst (fj y)/\
 false=Prod.fst (Prod.snd (fj y))/\
 false=Prod.snd (Prod.snd (fj y))/\true=ik y/\True)
 (y=Prod.fst (fj y)/\
 false=Prod.fst (Prod.snd (fj y))/\
 false=Prod.snd (Prod.snd (fj y))/\false=ik y/\True)))):=by kernel_rfl
theorem L7:(cr (fun(y:aQ.Y xg)=>bE uK (cX lh 4 (tT y))) 400 lh)=(∀(y:List Bs),
 (y.length<=100000/\ ∀(s:Bs),s∈y->s.length<=100000)->
 br (bO 256 (Int.ofNat y.length)) (ax 3 (mG y)/\True)
 ((∃(x:Nat),
 (x<=y.length/\ ∀(j:Nat) (h:j<y.length),j<x->ik y[j]=true)/\
 (SV.aH Bs y dG=SV.aH Bs y dG/\
 ax (Int.ofNat y.length) (Int.ofNat y.length)/\ax 0 ↑x/\True)/\
 True/\True)/\
 ∀(x:Nat),
 (x<=y.length/\ ∀(j:Nat) (h:j<y.length),j<x->ik y[j]=true)->
 br (bO (↑x) (Int.ofNat y.length))
 (so y[Int.toNat ↑x]? fun(val:Bs)=>
 ∃(y_1:List UInt8),
 val=y_1/\
 y_1.length<=100000/\
 br (!ik y_1) (ax 1 (mG y)/\True)
 (ck (bw .i64 (↑x+1))
 (∃(y_2:Nat),
 (y_2<=y.length/\ ∀(j:Nat) (h:j<y.length),j<y_2->ik y[j]=true)/\
 aK.μ (tT y) y_2<aK.μ (tT y) x/\
 (SV.aH Bs y dG=SV.aH Bs y dG/\
 ax (Int.ofNat y.length) (Int.ofNat y.length)/\ax (↑x+1) ↑y_2/\True)/\
 True/\True)))
 (ax 0 (mG y)/\True))):=by kernel_rfl
end
section
variable [Inhabited aI]
section
variable {α:Type} {l:List α} {p:α->Bool} {x:Nat}
theorem od (h:∀(j:Nat) (h:j<l.length),j<x->p l[j]=true) (hx:¬(x:Int)<Int.ofNat l.length):l.all p=true:=by
 rw[Aq];intro a ha;obtain⟨j,hj,rfl⟩:=AS ha;exact h j hj (by simp only[Aa]at hx;omega)
theorem pL (h:x<l.length) (hp:p l[x]=false):l.all p=false:=by
 rw[AB];intro ha;rw[Aq]at ha;rw[ha _ (Au h)]at hp
 cases hp
theorem oe (h:∀(j:Nat) (h:j<l.length),j<x->p l[j]=true) (hx:x<l.length) (hp:p l[x]=true):∀(j:Nat) (h:j<l.length),j<x+1->p l[j]=true:=by
 intro j hj hjx;by_cases e:j=x
 . subst e;exact hp
 . exact h j hj (by omega)
end
theorem cN {x n:Nat} (h:bO (x:Int) (Int.ofNat n)=true):x<n:=by
 rw[cp,Ae,Aa]at h;omega
theorem jI {x n:Nat} (h:bO (x:Int) (Int.ofNat n)=false):¬(x:Int)<Int.ofNat n:=by
 rw[cp,Ag]at h;exact h
theorem ee {α:Type} {l:List α} {x:Nat} (h:x<l.length):l[Int.toNat (x:Int)]? =some l[x]:=by simp[h]
theorem NF:CO po xO:=bZ (cfg:=fun y=>bE bS (cM y)) bJ (fun _=>rfl) (fun _=>fZ) (n:=400) (by
 rw[Nv];rintro⟨b,e⟩ -;simp only[ah,eI,fE,Dg,Ae,Ag,BX,BG];refine⟨fun h=>⟨fun h2=>by simp[h,h2],fun h2=>by simp[h,h2]⟩,fun h=>⟨fun h1=>⟨fun h2=>?_,fun h2=>⟨fun h3=>⟨fun h4=>?_,fun h4=>⟨fun h5=>?_,fun h5=>?_⟩⟩,fun h3=>⟨fun h5=>?_,fun h5=>?_⟩⟩⟩,fun h1=>⟨fun h3=>⟨fun h4=>?_,fun h4=>⟨fun h5=>?_,fun h5=>?_⟩⟩,fun h3=>⟨fun h5=>?_,fun h5=>?_⟩⟩⟩⟩
 all_goals (simp_all<;>omega))
theorem O5:CO ph ya:=bZ (cfg:=fun y=>bE bS (cM y)) bJ (fun _=>rfl) (fun _=>fZ) (n:=400) (by
 rw[Pr];intro b _;simp only[ah,eI,gk,Dg,Ae,Ag,BX,BG];refine⟨fun h1=>⟨fun h2=>?_,fun h2=>⟨fun h3=>⟨fun h4=>?_,fun h4=>⟨fun h5=>?_,fun h5=>?_⟩⟩,fun h3=>⟨fun h5=>?_,fun h5=>?_⟩⟩⟩,fun h1=>⟨fun h3=>⟨fun h4=>?_,fun h4=>⟨fun h5=>?_,fun h5=>?_⟩⟩,fun h3=>⟨fun h5=>?_,fun h5=>?_⟩⟩⟩
 all_goals (simp_all<;>omega))
theorem pO:∀g C,kn g=some C->CO g C:=bU NF (bU O5 L2)
theorem tQ (b:UInt8) (e:Bool):fE (nB b) e=(gk b&& !(nB b==45&&e)):=by
 unfold fE gk;by_cases h:nB b=45
 . simp[h]
 . have:(nB b==45)=false:=by simpa using h
   simp[h,this]
theorem iH (b:UInt8):b=45↔nB b=45:=⟨fun h=>by rw[h];rfl,fun h=>rR (h.trans rfl)⟩
theorem z8 (s:Bs) (h0:s≠[]) (h63:s.length<=63):eo s=true↔∀(j:Nat) (h:j<s.length),fE (nB s[j]) (j==0||j==s.length - 1)=true:=by
 have hp:0<s.length:=Bb.2 h0;have hhd:s.head? =some s[0]:=by rw[B7];simp[hp]
 have htl:s.getLast? =some (s[s.length - 1]'(by omega)):=by rw[DJ];simp[hp]
 unfold eo;rw[hhd,htl];simp only[Ad,bne_iff_ne,EL,h0,not_false_eq_true,Ae,h63,true_and,Aq,A1];constructor
 . rintro⟨⟨h1,h2⟩,h3⟩ j hj;rw[tQ,h1 _ (Au hj)];by_cases e0:j=0
   . subst e0;rw[iH]at h2;simp[h2]
   . by_cases e1:j=s.length - 1
     . subst e1;rw[iH]at h3;simp[h3]
     . simp[e0,e1]
 . intro h;refine⟨⟨fun b hb=>?_,?_⟩,?_⟩
   . obtain⟨j,hj,rfl⟩:=AS hb;have:=h j hj;rw[tQ,Ad]at this;exact this.1
   . have:=h 0 hp;rw[tQ,Ad]at this;rw[iH];have h2:=this.2;simpa using h2
   . have:=h (s.length - 1) (by omega);rw[tQ,Ad]at this;rw[iH];have h2:=this.2;simpa using h2
theorem zO {s:Bs} (h0:s≠[]) (h63:s.length<=63) {x:Nat} (h:x<s.length) (hx:fE (nB s[x]) (x==0||x==s.length - 1)=false):eo s=false:=by
 rw[AB];intro hl;rw[(z8 s h0 h63).1 hl x h]at hx
 cases hx
theorem z7 {s:Bs} (h:63<s.length):eo s=false:=by
 unfold eo;have:decide (s.length<=63)=false:=by simp;omega
 simp[this]
theorem Oh:CO lq (fg eo):=bZ (cfg:=fun y=>bE kn (cX lq 4 (nC y))) bJ (fun _=>rfl) (fun _=>pO) (n:=400) (by
 rw[Ns];intro s hpre;have hpre:s.length<=100000:=hpre;refine ah.2 ⟨fun h=>?_,fun h=>ah.2 ⟨fun h2=>?_,fun h2=>⟨⟨0,⟨by simp,fun j h hj=>by omega⟩,⟨rfl,rfl,rfl,trivial⟩,trivial,trivial⟩,?_⟩⟩⟩
 . have:s=[]:=by simpa using h
   subst this;exact⟨rfl,trivial⟩
 . rw[cp,Ae,Aa]at h2;exact⟨(z7 (by omega)).symm,trivial⟩
 have h0:s≠[]:=by simpa using h
 have h63:s.length<=63:=by
   rw[cp,Ag,Aa]at h2;omega
 rintro x ⟨hx,hall⟩;refine ah.2 ⟨fun hlt=>aA.2 ⟨_,ee (cN hlt),?_⟩,fun hge=>⟨((z8 s h0 h63).2 fun j hj=>hall j hj (by have:=jI hge;simp only[Aa]at this;omega)).symm,trivial⟩⟩;have hlt':=cN hlt;have next:fE (nB s[x]) (x==0||x==s.length - 1)=true->∃(y_2:Nat),(y_2<=s.length/\ ∀(j:Nat) (h:j<s.length),j<y_2->fE (nB s[j]) (j==0||j==s.length - 1)=true)/\(nC s).μ y_2<(nC s).μ x/\(s=s/\ax (Int.ofNat s.length) (Int.ofNat s.length)/\ax (↑x+1) ↑y_2/\True)/\True/\True:=by
   intro he;refine⟨x+1,⟨by omega,fun j hj hjx=>?_⟩,?_,⟨rfl,rfl,by simp[ax],trivial⟩,trivial,trivial⟩
   . by_cases e:j=x
     . subst e;exact he
     . exact hall j hj (by omega)
   . show s.length - (x+1)<s.length - x
     omega
 refine ah.2 ⟨fun hx0=>⟨(s[x],true),rfl,rfl,trivial,ah.2 ⟨fun hs=>?_,fun hs=>aq.2 ⟨dg x (by omega),next ?_⟩⟩⟩,fun hx0=>aq.2 ⟨by rw[gj,Aa];omega,(s[x],(x:Int)==Int.ofNat s.length - 1),rfl,rfl,trivial,ah.2 ⟨fun hs=>?_,fun hs=>aq.2 ⟨dg x (by omega),next ?_⟩⟩⟩⟩
 . have:x=0:=by simpa using hx0
   subst this;exact⟨(zO h0 h63 hlt' (by simpa using hs)).symm,trivial⟩
 . have:x=0:=by simpa using hx0
   subst this;simpa using hs
 . have hx1:¬x=0:=by simpa using hx0
   have e:((x:Int)==Int.ofNat s.length - 1)=(x==0||x==s.length - 1):=by
     rw[AE];simp[hx1];omega
   rw[e]at hs;exact⟨(zO h0 h63 hlt' (by simpa using hs)).symm,trivial⟩
 . have hx1:¬x=0:=by simpa using hx0
   have e:((x:Int)==Int.ofNat s.length - 1)=(x==0||x==s.length - 1):=by
     rw[AE];simp[hx1];omega
   rw[e]at hs;simpa using hs)
theorem zp {s:Bs} {x:Nat} (h:x<s.length) (hx:gk s[x]=false):eo s=false:=by
 unfold eo;rw[pL h hx];simp
theorem Mg:CO ln (fg eo):=bZ (cfg:=fun y=>bE kn (cX ln 4 (tU y))) bJ (fun _=>rfl) (fun _=>pO) (n:=400) (by
 rw[L9];intro s hpre;have hpre:s.length<=100000:=hpre;refine ah.2 ⟨fun h=>?_,fun h=>ah.2 ⟨fun h2=>?_,fun h2=>?_⟩⟩
 . rw[cp,Ae,Aa]at h;have:s=[]:=AI (by omega);subst this;exact⟨rfl,trivial⟩
 . rw[cp,Ae,Aa]at h2;exact⟨(z7 (by omega)).symm,trivial⟩
 rw[cp,Ag,Aa]at h h2;have hp:0<s.length:=by omega
 have h0:s≠[]:=Bb.1 hp;have hhd:s.head? =some s[0]:=by rw[B7];simp[hp]
 have htl:s.getLast? =some (s[s.length - 1]'(by omega)):=by rw[DJ];simp[hp]
 have hlast:s[Int.toNat (Int.ofNat s.length - 1)]? =some (s[s.length - 1]'(by omega)):=by
   rw[show Int.toNat (Int.ofNat s.length - 1)=s.length - 1 by rw[Aa];omega];simp[hp]
 refine aA.2 ⟨s[0],by simp[hp],ah.2 ⟨fun h3=>?_,fun h3=>aq.2 ⟨by rw[gj,Aa];omega,aq.2 ⟨by rw[kO,Ae,Aa];omega,aA.2 ⟨_,hlast,ah.2 ⟨fun h4=>?_,fun h4=>⟨⟨0,⟨by simp,fun j h hj=>by omega⟩,⟨rfl,rfl,trivial⟩,trivial,trivial⟩,?_⟩⟩⟩⟩⟩⟩⟩
 . have:s[0]=45:=by rw[iH];simpa [nB]using h3
   refine⟨?_,trivial⟩;unfold eo;rw[hhd,this];simp
 . have:s[s.length - 1]'(by omega)=45:=by rw[iH];simpa [nB]using h4
   refine⟨?_,trivial⟩;unfold eo;rw[htl,this];simp
 rintro x ⟨hx,hall⟩;refine ah.2 ⟨fun hlt=>aA.2 ⟨_,ee (cN hlt),s[x]'(cN hlt),rfl,trivial,ah.2 ⟨fun hs=>⟨(zp (cN hlt) (by simpa using hs)).symm,trivial⟩,fun hs=>aq.2 ⟨dg x (by have:=cN hlt;omega),x+1,⟨cN hlt,oe hall (cN hlt) (by simpa using hs)⟩,?_,⟨rfl,by simp[ax],trivial⟩,trivial,trivial⟩⟩⟩,fun hge=>⟨?_,trivial⟩⟩
 . have:=cN hlt;show s.length - (x+1)<s.length - x
   omega
 . have ha:=od hall (jI hge);have n1:s[0]≠45:=by intro e;rw[iH]at e;simp[nB]at e h3;exact h3 e
   have n2:(s[s.length - 1]'(by omega))≠45:=by intro e;rw[iH]at e;simp[nB]at e h4;exact h4 e
   unfold eo;rw[ha,hhd,htl];simp[h0,n1,n2];omega)
theorem F6 {p:Bs} (h0:p≠[]) (hd:∀b∈p,cT b=true):aW p=(p.foldl bL 0,true):=by
 cases p with
 |nil=>exact absurd rfl h0
 | cons b s=>
  have hb:=(np b).1 (hd b Ap);have hn:cj (b::s)=false:=by
   show(nB b==45)=false
   rw[BG];omega
  have ha:=rB hn;rw[xE (by rw[ha];simp) (by rw[ha];exact hd),ha,hn];simp
theorem pW {b:UInt8} {n:Nat} (h:nB b=48+(n:Int)):UInt8.ofNat (48+n)=b:=by
 apply rR;have:=MS b;rw[h];unfold nB;rw[UInt8.toNat_ofNat'];rw[Nat.mod_eq_of_lt (by omega)];simp
theorem lN {b:UInt8} (h:cT b=true):∃d:Nat,d<=9/\nB b=48+(d:Int):=by
 rw[np]at h;exact⟨(nB b - 48).toNat,by omega,by omega⟩
theorem lL {n:Int} {b:UInt8} {d:Nat} (hb:nB b=48+(d:Int)) (hd:d<=9) (h0:0<=n) (hn:n<=100000):bL n b=n*10+d:=by
 unfold bL;rw[hb];omega
theorem NX (s:Bs) (hd:∀b∈s,cT b=true):∀n:Int,1000<=n->n<=1099511627776->1000<=s.foldl bL n:=by
 induction s with
 |nil=>intro n h _;exact h
 |cons b s ih=>
  intro n h1 h2;have hb:=(np b).1 (hd b Ap);refine ih (fun c hc=>hd c (Aw _ hc)) _ ?_ ?_<;>unfold bL<;>omega
theorem yh (d:Nat) (h:d<=9):iu d=[UInt8.ofNat (48+d)]:=by unfold iu;exact CT 39 d h
theorem Hz (n:Nat) (h:9<n) (h2:n<=99):iu n=[UInt8.ofNat (48+n / 10),UInt8.ofNat (48+n % 10)]:=by
 unfold iu;show jT (39+1) n=_
 have:¬n<=9:=by omega
 simp only[jT,Ai this];rw[An (by omega)];rfl
theorem Qi (n:Nat) (h:99<n) (h2:n<=999):iu n=[UInt8.ofNat (48+n / 100),UInt8.ofNat (48+n / 10 % 10),UInt8.ofNat (48+n % 10)]:=by
 unfold iu;show jT (39+1) n=_
 have h3:¬n<=9:=by omega
 have h4:¬n / 10<=9:=by omega
 simp only[jT,Ai h3,Ai h4];rw[An (by omega)];rw[show n / 10 / 10=n / 100 by omega];rfl
theorem Mv {p:Bs} (h1:1<=p.length) (hd:cK p=p.length):0<=(aW p).1/\(aW p).1<=1099511627776:=by
 have hdd:∀b∈p,cT b=true:=tu (by omega);rw[F6 (Bb.1 h1) hdd];exact zo p hdd 0 (by omega) (by omega)
theorem wx {p:Bs} (h1:1<=p.length) (hd:cK p=p.length) (h2:(aW p).1<=255):(decide (1<p.length)&&p.head? ==some 48)=false↔(p.length<=3/\iu (aW p).1.toNat=p):=by
 have hdd:∀b∈p,cT b=true:=tu (by omega);rw[F6 (Bb.1 h1) hdd]at h2⊢;simp only at h2⊢;have e48:∀b:UInt8,b=48↔nB b=48:=fun b=>⟨fun h=>by rw[h];rfl,fun h=>rR (h.trans rfl)⟩
 match p,h1 with
 |[a],_=>
  obtain⟨d,d9,hb⟩:=lN (hdd a (by simp));simp only[Bw,Ep,lL hb d9 (Ei 0) (by omega)];rw[show((0:Int)*10+(d:Int)).toNat=d by omega,yh d d9,pW hb];simp
 |[a,b],_=>
  obtain⟨d,d9,hb⟩:=lN (hdd a (by simp));obtain⟨d2,d29,hb2⟩:=lN (hdd b (by simp));simp only[Bw,Ep,lL hb d9 (Ei 0) (by omega)];rw[lL hb2 d29 (by omega) (by omega),show(((0:Int)*10+(d:Int))*10+(d2:Int)).toNat=d*10+d2 by omega];by_cases hz:d=0
  . subst hz;have:a=48:=by rw[e48];simpa using hb
    rw[show 0*10+d2=d2 by omega,yh d2 d29];simp[this]
  . have:a≠48:=by intro e;rw[e48]at e;omega
    rw[Hz _ (by omega) (by omega),show(d*10+d2) / 10=d by omega,show(d*10+d2) % 10=d2 by omega,pW hb,pW hb2];simp[this]
 |[a,b,c],_=>
  obtain⟨d,d9,hb⟩:=lN (hdd a (by simp));obtain⟨d2,d29,hb2⟩:=lN (hdd b (by simp));obtain⟨d3,d39,hb3⟩:=lN (hdd c (by simp));simp only[Bw,Ep,lL hb d9 (Ei 0) (by omega)];rw[lL hb2 d29 (by omega) (by omega),lL hb3 d39 (by omega) (by omega),show((((0:Int)*10+(d:Int))*10+(d2:Int))*10+(d3:Int)).toNat=d*100+d2*10+d3 by omega];by_cases hz:d=0
  . subst hz;have:a=48:=by rw[e48];simpa using hb
    have hlt:(iu (0*100+d2*10+d3)).length<3:=by
     by_cases h:d2=0
     . subst h;rw[show 0*100+0*10+d3=d3 by omega,yh d3 d39];simp
     . rw[Hz _ (by omega) (by omega)];simp
    have hne:iu (0*100+d2*10+d3)≠[a,b,c]:=by
     intro e;rw[e]at hlt;simp at hlt
    simp only[this,AX,Bc,Ek];rw[this]at hne;have hne2:iu (d2*10+d3)≠[48,b,c]:=by simpa using hne
    simp[hne2]
  . have:a≠48:=by intro e;rw[e48]at e;omega
    rw[Qi _ (by omega) (by omega),show(d*100+d2*10+d3) / 100=d by omega,show(d*100+d2*10+d3) / 10 % 10=d2 by omega,show(d*100+d2*10+d3) % 10=d3 by omega,pW hb,pW hb2,pW hb3];simp[this]
 |a::b::c::e::s,_=>
  obtain⟨d,d9,hb⟩:=lN (hdd a (by simp));obtain⟨d2,d29,hb2⟩:=lN (hdd b (by simp));obtain⟨d3,d39,hb3⟩:=lN (hdd c (by simp));obtain⟨d4,d49,hb4⟩:=lN (hdd e (by simp));have hz:d=0:=by
    apply Bg;intro hz;simp only[Bw,lL hb d9 (Ei 0) (by omega)]at h2;rw[lL hb2 d29 (by omega) (by omega),lL hb3 d39 (by omega) (by omega),lL hb4 d49 (by omega) (by omega)]at h2;have:=NX s (fun x hx=>hdd x (by simp[hx])) (((((0:Int)*10+(d:Int))*10+(d2:Int))*10+(d3:Int))*10+(d4:Int)) (by omega) (by omega);omega
  subst hz;have:a=48:=by rw[e48];simpa using hb
  constructor
  . intro h;simp[this]at h
  . rintro⟨h,_⟩;simp at h
theorem zY {s:Bs} {x:Nat} (h:x<(aM s 46).length) (hp:fN (aM s 46)[x]=false):eP s=false:=by
 unfold eP;rw[pL h hp];simp
theorem tM {s:Bs} {x:Nat} (h:x<(aM s 46).length):((aM s 46)[x]).length<=s.length:=Jp s 46 _ (Au h)
theorem Om:CO lz (fg eP):=bZ (cfg:=fun y=>bE kn (cX lz 5 (nG y))) bJ (fun _=>rfl) (fun _=>pO) (n:=400) (by
 rw[Pl];intro s hpre;have hpre:s.length<=100000:=hpre;have hsl:=wq s 46;refine⟨(s,46),rfl,rfl,hpre,ah.2 ⟨fun h=>?_,fun h=>⟨⟨0,⟨by simp,fun j h hj=>by omega⟩,⟨rfl,rfl,rfl,trivial⟩,trivial,trivial⟩,?_⟩⟩⟩
 . refine⟨?_,trivial⟩;unfold eP;have:¬(aM s 46).length=4:=by
     simp only[AA,BG,EL,Aa]at h;omega
   simp[this]
 have h4:(aM s 46).length=4:=by
   simp only[D8,BX,Aa]at h;omega
 rintro x ⟨hx,hall⟩;refine ah.2 ⟨fun hlt=>aA.2 ⟨_,ee (cN hlt),?_⟩,fun hge=>⟨?_,trivial⟩⟩
 . have hx':=cN hlt;have hpl:=tM hx';have next:fN (aM s 46)[x]=true->ck (bw Go.IntKind.i64 (↑x+1)) (∃(y_4:Nat),(y_4<=(aM s 46).length/\ ∀(j:Nat) (h:j<(aM s 46).length),j<y_4->fN (aM s 46)[j]=true)/\(nG s).μ y_4<(nG s).μ x/\(SV.aH Bs (aM s 46) dG=SV.aH Bs (aM s 46) dG/\ax (Int.ofNat (aM s 46).length) (Int.ofNat (aM s 46).length)/\ax (↑x+1) ↑y_4/\True)/\True/\True):=by
     intro hp;refine aq.2 ⟨dg x (by omega),x+1,⟨hx',oe hall hx' hp⟩,?_,⟨rfl,rfl,by simp[ax],trivial⟩,trivial,trivial⟩;show(aM s 46).length - (x+1)<(aM s 46).length - x
     omega
   generalize hpe:(aM s 46)[x]=p at*
   have fail:fN p=false->false=eP s:=fun h=>(zY hx' (by rw[hpe];exact h)).symm
   refine⟨p,rfl,by omega,ah.2 ⟨fun h1=>⟨fail ?_,trivial⟩,fun h1=>⟨p,rfl,by omega,ah.2 ⟨fun h2=>⟨fail ?_,trivial⟩,fun h2=>ah.2 ⟨fun h3=>⟨fail ?_,trivial⟩,fun h3=>ah.2 ⟨fun h5=>?_,fun h5=>next ?_⟩⟩⟩⟩⟩⟩
   . have:p=[]:=by simpa using h1
     subst this;rfl
   . have:=cN h2;unfold fN;have h2':¬cK p=p.length:=by omega
     simp[h2']
   . rw[cp,Ae]at h3;unfold fN;have:¬(aW p).1<=255:=by omega
     simp[this]
   all_goals (have hp0:p≠[]:=by simpa using h1)
   all_goals (have hd:cK p=p.length:=by have:=jI h2;have:=tG p;simp only[Aa]at*;omega)
   all_goals (have h255:(aW p).1<=255:=by rw[cp,Ag]at h3;omega)
   . rw [cp,Ae,Aa]at h5;have hpl1:1<p.length:=by omega
     refine aA.2 ⟨p[0],by simp[show 0<p.length by omega],ah.2 ⟨fun h6=>⟨fail ?_,trivial⟩,fun h6=>next ?_⟩⟩
     . have:p.head? =some 48:=by
        rw[B7,Af (by omega)];congr 1
        exact rR (by simpa [nB]using h6)
       unfold fN;simp[this,hpl1]
     . have:¬p.head? =some 48:=by
        rw[B7,Af (by omega)];intro e;simp only[A1]at e;rw[e]at h6;simp at h6
       unfold fN;simp[this,hp0,hd,h255]
   . rw[cp,Ag,Aa]at h5;have hpl1:¬1<p.length:=by omega
     unfold fN;simp[hpl1,hp0,hd,h255]
 . unfold eP;rw[od hall (jI hge)];simp[h4])
theorem Og:CO lx (fg eP):=bZ (cfg:=fun y=>bE kn (cX lx 5 (uo y))) bJ (fun _=>rfl) (fun _=>pO) (n:=400) (by
 rw[Nr];intro s hpre;have hpre:s.length<=100000:=hpre;refine⟨(s,46),rfl,rfl,hpre,ah.2 ⟨fun h=>?_,fun h=>⟨⟨0,⟨by simp,fun j h hj=>by omega⟩,⟨rfl,rfl,trivial⟩,trivial,trivial⟩,?_⟩⟩⟩
 . refine⟨?_,trivial⟩;unfold eP;have:¬(aM s 46).length=4:=by
     simp only[AA,BG,EL,Aa]at h;omega
   simp[this]
 have h4:(aM s 46).length=4:=by
   simp only[D8,BX,Aa]at h;omega
 rintro x ⟨hx,hall⟩;refine ah.2 ⟨fun hlt=>?_,fun hge=>⟨?_,trivial⟩⟩
 . have hx':x<(aM s 46).length:=by rw[cp,Ae]at hlt;omega
   have hpl:=tM hx';have hget:(aM s 46)[Int.toNat (x:Int)]? =some (aM s 46)[x]:=ee hx';have next:=oe hall hx';generalize hpe:(aM s 46)[x]=p at*
   have fail:fN p=false->false=eP s:=fun h=>(zY hx' (by rw[hpe];exact h)).symm
   refine aA.2 ⟨p,hget,ah.2 ⟨fun h1=>⟨fail ?_,trivial⟩,fun h1=>aA.2 ⟨p,hget,ah.2 ⟨fun h2=>⟨fail ?_,trivial⟩,fun h2=>aA.2 ⟨p,hget,aA.2 ⟨p,hget,p,rfl,by omega,ah.2 ⟨fun h3=>⟨fail ?_,trivial⟩,fun h3=>aA.2 ⟨p,hget,p,rfl,by omega,ah.2 ⟨fun h5=>⟨fail ?_,trivial⟩,fun h5=>aA.2 ⟨p,hget,(aW p).1.toNat,?_,?_,ah.2 ⟨fun h6=>⟨fail ?_,trivial⟩,fun h6=>aq.2 ⟨dg x (by omega),x+1,⟨by omega,next ?_⟩,?_,⟨rfl,by simp[ax],trivial⟩,trivial,trivial⟩⟩⟩⟩⟩⟩⟩⟩⟩⟩⟩⟩
   . rw[cp,Ae,Aa]at h1;have:p=[]:=AI (by omega);subst this;rfl
   all_goals (have hp1:1<=p.length:=by rw[cp,Ag,Aa]at h1;omega)
   . rw[cp,Ae,Aa]at h2;rw[AB];intro hp;unfold fN at hp;simp only[Ad,Ae,AA]at hp;have:=(wx hp1 hp.1.1.2 hp.1.2).1 hp.2;omega
   . have h3':¬cK p=p.length:=by
      simp only[AA,BG,EL,Aa]at h3;omega
     unfold fN;simp[h3']
   all_goals (have hd:cK p=p.length:=by simp only[D8,BX,Aa]at h3;omega)
   all_goals (have hnn:=Mv hp1 hd)
   . rw[cp,Ae]at h5;unfold fN;have:¬(aW p).1<=255:=by omega
     simp[this]
   . simp only[ax];omega
   . omega
   all_goals (have h255:(aW p).1<=255:=by rw[cp,Ag]at h5;omega)
   . rw[AB];intro hp;unfold fN at hp;simp only[Ad,Ae,AA]at hp;have:=((wx hp1 hd h255).1 hp.2).2;rw[this]at h6;simp at h6
   . have hl3:p.length<=3:=by rw[cp,Ag,Aa]at h2;omega
     have ht:iu (aW p).1.toNat=p:=by simpa using h6
     have:=(wx hp1 hd h255).2 ⟨hl3,ht⟩;unfold fN;rw[this];have hp0:p≠[]:=Bb.1 hp1;simp[hp0,hd,h255]
   . show 4 - (x+1)<4 - x
     omega
 . unfold eP;rw[cp,Ag]at hge;rw[od hall (by rw[h4,Aa];omega)];simp[h4])
theorem Gy {b:UInt8} {P Q:Prop} (hp:cI b=true->P) (hq:cI b=false->Q):
  br (bA 48 (Int.ofNat (UInt8.toNat b))) (br (bA (Int.ofNat (UInt8.toNat b)) 57) P (br (bA 97 (Int.ofNat (UInt8.toNat b))) (br (bA (Int.ofNat (UInt8.toNat b)) 102) P (br (Int.ofNat (UInt8.toNat b)==58) P (br (!Int.ofNat (UInt8.toNat b)==46) Q P))) (br (Int.ofNat (UInt8.toNat b)==58) P (br (!Int.ofNat (UInt8.toNat b)==46) Q P))))
   (br (bA 97 (Int.ofNat (UInt8.toNat b))) (br (bA (Int.ofNat (UInt8.toNat b)) 102) P (br (Int.ofNat (UInt8.toNat b)==58) P (br (!Int.ofNat (UInt8.toNat b)==46) Q P))) (br (Int.ofNat (UInt8.toNat b)==58) P (br (!Int.ofNat (UInt8.toNat b)==46) Q P))):=by
 rw[GB];have e:cI b=((bA 48 (nB b)&&bA (nB b) 57)||(bA 97 (nB b)&&bA (nB b) 102)||(nB b==58)||(nB b==46)):=by
  simp only[eI];rfl
 rw[e]at hp hq;generalize bA 48 (nB b)=a1 at*
 generalize bA (nB b) 57=a2 at*
 generalize bA 97 (nB b)=a3 at*
 generalize bA (nB b) 102=a4 at*
 generalize (nB b==58)=a5 at*
 generalize (nB b==46)=a6 at*
 cases a1<;>cases a2<;>cases a3<;>cases a4<;>cases a5<;>cases a6<;>simp_all[br]
theorem tD {s:Bs} (h4:4<=s.length):s.head? =some (s[0]'(by omega))/\s.getLast? =some (s[s.length - 1]'(by omega)):=by
 rw[B7,DJ];exact⟨by simp[show 0<s.length by omega],by simp[show 0<s.length by omega]⟩
theorem F2 {s:Bs} {j:Nat} (h:j<((s.drop 1).take (s.length - 2)).length):((s.drop 1).take (s.length - 2))[j]=s[j+1]'(by simp at h;omega):=by
 rw[Eb,Dc];congr 1
 omega
theorem yN {s:Bs} (h:s.length<4):eA s=false:=by
 unfold eA;have:decide (4<=s.length)=false:=by simp;omega
 simp[this]
theorem Cb {s:Bs} (h:47<s.length):eA s=false:=by
 unfold eA;have:decide (s.length<=47)=false:=by simp;omega
 simp[this]
theorem fW {b:UInt8} {n:UInt8}:(Int.ofNat b.toNat==nB n)=true↔b=n:=by
 constructor
 . intro h;exact rR (by simpa [nB]using h)
 . intro h;subst h;simp[nB]
theorem yM {s:Bs} (h4:4<=s.length) (h:(!Int.ofNat (UInt8.toNat (s[0]'(by omega)))==91)=true):eA s=false:=by
 have:s[0]'(by omega)≠91:=by
  intro e;rw[AA]at h;rw[show(91:Int)=nB 91 from rfl,fW.2 e]at h
  cases h
 unfold eA;rw[(tD h4).1];simp[this]
theorem zC {s:Bs} (h4:4<=s.length) (h:(!Int.ofNat (UInt8.toNat (s[s.length - 1]'(by omega)))==93)=true):eA s=false:=by
 have:s[s.length - 1]'(by omega)≠93:=by
  intro e;rw[AA]at h;rw[show(93:Int)=nB 93 from rfl,fW.2 e]at h
  cases h
 unfold eA;rw[(tD h4).2];simp[this]
theorem Cc {s:Bs} (h4:4<=s.length) (h47:s.length<=47) (h1:(!Int.ofNat (UInt8.toNat (s[0]'(by omega)))==91)=false) (h2:(!Int.ofNat (UInt8.toNat (s[s.length - 1]'(by omega)))==93)=false):eA s=((s.drop 1).take (s.length - 2)).all cI:=by
 have e1:s[0]'(by omega)=91:=fW.1 (by simpa [nB]using h1);have e2:s[s.length - 1]'(by omega)=93:=fW.1 (by simpa [nB]using h2);unfold eA;rw[(tD h4).1,(tD h4).2,e1,e2];simp[h4,h47]
theorem N8:CO kY (fg eA):=bZ (cfg:=fun y=>bE kn (cX kY 4 (gf y))) bJ (fun _=>rfl) (fun _=>pO) (n:=400) (by
 rw[Nn];intro s hpre;have hpre:s.length<=100000:=hpre;refine ah.2 ⟨fun h=>⟨(yN (by rw[cp,Ae,Aa]at h;omega)).symm,trivial⟩,fun h=>ah.2 ⟨fun h2=>⟨(Cb (by rw[cp,Ae,Aa]at h2;omega)).symm,trivial⟩,fun h2=>?_⟩⟩;have h4:4<=s.length:=by rw[cp,Ag,Aa]at h;omega
 have h47:s.length<=47:=by rw[cp,Ag,Aa]at h2;omega
 have hi:Int.toNat (Int.ofNat s.length - 1)=s.length - 1:=by rw[Aa];omega
 have hr:bw Go.IntKind.i64 (Int.ofNat s.length - 1)=true:=by rw[gj,Aa];omega
 have hn:nn (Int.ofNat s.length - 1)=true:=by rw[kO,Ae,Aa];omega
 rw[hi];refine aA.2 ⟨s[0]'(by omega),by simp[show 0<s.length by omega],ah.2 ⟨fun h5=>⟨(yM h4 h5).symm,trivial⟩,fun h5=>aq.2 ⟨hr,aq.2 ⟨hn,aA.2 ⟨s[s.length - 1]'(by omega),by simp[show 0<s.length by omega],ah.2 ⟨fun h6=>⟨(zC h4 h6).symm,trivial⟩,fun h6=>aq.2 ⟨hr,aq.2 ⟨hn,aq.2 ⟨by simp;omega,⟨0,⟨by simp,fun j h hj=>by omega⟩,⟨?_,?_,rfl,trivial⟩,trivial,trivial⟩,?_⟩⟩⟩⟩⟩⟩⟩⟩⟩
 . rw[show s.length - 1 - Int.toNat 1=s.length - 2 by simp;omega];rfl
 . rw[show s.length - 1 - Int.toNat 1=s.length - 2 by simp;omega];rfl
 have hb:=Cc h4 h47 h5 h6;rintro x ⟨hx,hall⟩;refine ah.2 ⟨fun hlt=>aA.2 ⟨_,ee (cN hlt),Gy (fun hh=>aq.2 ⟨dg x (by have:=cN hlt;simp at this;omega),x+1,⟨cN hlt,oe hall (cN hlt) hh⟩,?_,⟨rfl,rfl,by simp[ax],trivial⟩,trivial,trivial⟩) (fun hh=>⟨?_,trivial⟩)⟩,fun hge=>⟨?_,trivial⟩⟩
 . have:=cN hlt;show((s.drop 1).take (s.length - 2)).length - (x+1)<((s.drop 1).take (s.length - 2)).length - x
   omega
 . rw[hb,pL (cN hlt) hh]
 . rw[hb,od hall (jI hge)])
theorem M3:CO kU (fg eA):=bZ (cfg:=fun y=>bE bS (cX kU 4 (fY y))) bJ (fun _=>rfl) (fun _=>fZ) (n:=400) (by
 rw[L5];intro s hpre;have hpre:s.length<=100000:=hpre;refine ah.2 ⟨fun h=>⟨(yN (by rw[cp,Ae,Aa]at h;omega)).symm,trivial⟩,fun h=>ah.2 ⟨fun h2=>⟨(Cb (by rw[cp,Ae,Aa]at h2;omega)).symm,trivial⟩,fun h2=>?_⟩⟩;have h4:4<=s.length:=by rw[cp,Ag,Aa]at h;omega
 have h47:s.length<=47:=by rw[cp,Ag,Aa]at h2;omega
 have hi:Int.toNat (Int.ofNat s.length - 1)=s.length - 1:=by rw[Aa];omega
 have hr:bw Go.IntKind.i64 (Int.ofNat s.length - 1)=true:=by rw[gj,Aa];omega
 have hn:nn (Int.ofNat s.length - 1)=true:=by rw[kO,Ae,Aa];omega
 rw[hi];refine aA.2 ⟨s[0]'(by omega),by simp[show 0<s.length by omega],ah.2 ⟨fun h5=>⟨(yM h4 h5).symm,trivial⟩,fun h5=>aq.2 ⟨hr,aq.2 ⟨hn,aA.2 ⟨s[s.length - 1]'(by omega),by simp[show 0<s.length by omega],ah.2 ⟨fun h6=>⟨(zC h4 h6).symm,trivial⟩,fun h6=>⟨⟨1,⟨by omega,by omega,fun j h h1 hj=>by omega⟩,⟨rfl,rfl,trivial⟩,trivial,trivial⟩,?_⟩⟩⟩⟩⟩⟩⟩;have hb:=Cc h4 h47 h5 h6;rintro x ⟨hx1,hx,hall⟩;refine aq.2 ⟨hr,ah.2 ⟨fun hlt=>?_,fun hge=>⟨?_,trivial⟩⟩⟩
 . have hlt':x+1<s.length:=by rw[cp,Ae,Aa]at hlt;omega
   refine aA.2 ⟨s[x],ee (by omega),Gy (fun hh=>aq.2 ⟨dg x (by omega),x+1,⟨by omega,by omega,fun j hj h1 hjx=>?_⟩,?_,⟨rfl,by simp[ax],trivial⟩,trivial,trivial⟩) (fun hh=>⟨?_,trivial⟩)⟩
   . by_cases e:j=x
     . subst e;exact hh
     . exact hall j hj h1 (by omega)
   . show s.length - (x+1)<s.length - x
     omega
   . have hl:x - 1<((s.drop 1).take (s.length - 2)).length:=by simp;omega
     rw[hb,pL hl (by rw[F2 hl];simp only[show x - 1+1=x by omega];exact hh)]
 . rw[cp,Ag,Aa]at hge;rw[hb];symm;rw[Aq];intro b hbm;obtain⟨j,hj,rfl⟩:=AS hbm;rw[F2 hj];simp at hj;exact hall (j+1) (by omega) (by omega) (by omega))
theorem tE:∀g C,nF g=some C->CO g C:=bU Oh (bU Mg (bU Om (bU Og (bU N8 (bU M3 pO)))))
theorem OI:CO oU (fg gi):=bZ (cfg:=fun y=>bE nF (cM y)) bJ (fun _=>rfl) (fun _=>tE) (n:=400) (by
 rw[Pf];intro s hpre;refine⟨s,rfl,hpre,ah.2 ⟨fun h=>⟨by unfold gi;rw[h];rfl,trivial⟩,fun h=>⟨s,rfl,hpre,by unfold gi;rw[h];rfl,trivial⟩⟩⟩)
theorem N6:CO oS (fg gi):=bZ (cfg:=fun y=>bE nF (cM y)) bJ (fun _=>rfl) (fun _=>tE) (n:=400) (by
 rw[Nl];intro s hpre;refine⟨s,rfl,hpre,ah.2 ⟨fun h=>⟨by unfold gi;rw[h];rfl,trivial⟩,fun h=>⟨s,rfl,hpre,by unfold gi;rw[h];rfl,trivial⟩⟩⟩)
theorem C7 {s:Bs} (h:256<s.length):dE s=false:=by
 unfold dE;have:decide (s.length<=256)=false:=by simp;omega
 simp[this]
theorem CA {s:Bs} (h:eP s=true):dE s=false:=by
 unfold dE;simp[h]
theorem J2 {s:Bs} (h:eA s=true):dE s=false:=by
 unfold eA at h;simp only[Ad,BX]at h;have h1:=h.1.1.2
 cases s with
 |nil=>simp at h1
 | cons b s=>
  simp only[Ek,A1]at h1;subst h1;have:(aM (91::s) 46).all eo=false:=by
   have hs:aM (91::s) 46=(match aM s 46 with|h::t=>(91::h)::t|[]=>[[91]]):=by
    rw[aM];rw[Ai (by decide)]
    try (cases aM s 46<;>rfl)
   rw[hs];have hl:∀h:Bs,eo (91::h)=false:=fun h=>zp (s:=91::h) (x:=0) (by simp) (by simp[gk,nB])
   cases aM s 46 with
   |nil=>simp[hl]
   |cons h t=>simp[hl]
  unfold dE;rw[this];simp
theorem Cz {s:Bs} {x:Nat} (h:x<(aM s 46).length) (hp:eo (aM s 46)[x]=false):dE s=false:=by
 unfold dE;rw[pL h hp];simp
theorem Cw {s:Bs} (h1:s.length<=256) (h2:eP s=false):dE s=(aM s 46).all eo:=by
 unfold dE;simp[h1,h2]
theorem Nx:CO lv (fg dE):=bZ (cfg:=fun y=>bE nF (cX lv 5 (ur y))) bJ (fun _=>rfl) (fun _=>tE) (n:=400) (by
 rw[Nt];intro s hpre;have hpre:s.length<=100000:=hpre;have hsl:=wq s 46;refine ah.2 ⟨fun h=>⟨(C7 (by rw[cp,Ae,Aa]at h;omega)).symm,trivial⟩,fun h=>⟨s,rfl,hpre,ah.2 ⟨fun h2=>⟨(CA h2).symm,trivial⟩,fun h2=>⟨(s,46),rfl,rfl,hpre,⟨0,⟨by simp,fun j h hj=>by omega⟩,⟨rfl,rfl,trivial⟩,trivial,trivial⟩,?_⟩⟩⟩⟩;have h256:s.length<=256:=by rw[cp,Ag,Aa]at h;omega
 rintro x ⟨hx,hall⟩;refine ah.2 ⟨fun hlt=>aA.2 ⟨_,ee (cN hlt),_,rfl,?_,ah.2 ⟨fun hh=>⟨(Cz (cN hlt) (by simpa using hh)).symm,trivial⟩,fun hh=>aq.2 ⟨dg x (by have:=cN hlt;omega),x+1,⟨cN hlt,oe hall (cN hlt) (by simpa using hh)⟩,?_,⟨rfl,by simp[ax],trivial⟩,trivial,trivial⟩⟩⟩,fun hge=>⟨?_,trivial⟩⟩
 . have:=tM (cN hlt);omega
 . have:=cN hlt;show(aM s 46).length - (x+1)<(aM s 46).length - x
   omega
 . rw[Cw h256 h2,od hall (jI hge)])
theorem Fb:∀g C,uI g=some C->CO g C:=bU OI (bU N6 (bU Nx tE))
theorem Ou:CO lA (fg dE):=bZ (cfg:=fun y=>bE uI (cX lA 4 (uW y))) bJ (fun _=>rfl) (fun _=>Fb) (n:=400) (by
 rw[Po];intro s hpre;have hpre:s.length<=100000:=hpre;have hsl:=wq s 46;refine ah.2 ⟨fun h=>⟨(C7 (by rw[cp,Ae,Aa]at h;omega)).symm,trivial⟩,fun h=>⟨s,rfl,hpre,ah.2 ⟨fun h2=>⟨?_,trivial⟩,fun h2=>⟨(s,46),rfl,rfl,hpre,⟨0,⟨by simp,fun j h hj=>by omega⟩,⟨rfl,rfl,rfl,trivial⟩,trivial,trivial⟩,?_⟩⟩⟩⟩
 . unfold gi at h2;rw[Da]at h2;rcases h2 with h2|h2
   . exact(CA h2).symm
   . exact(J2 h2).symm
 have h256:s.length<=256:=by rw[cp,Ag,Aa]at h;omega
 have h3:eP s=false:=by unfold gi at h2;rw[Bool.or_eq_false_iff]at h2;exact h2.1
 rintro x ⟨hx,hall⟩;refine ah.2 ⟨fun hlt=>aA.2 ⟨_,ee (cN hlt),_,rfl,?_,ah.2 ⟨fun hh=>⟨(Cz (cN hlt) (by simpa using hh)).symm,trivial⟩,fun hh=>aq.2 ⟨dg x (by have:=cN hlt;omega),x+1,⟨cN hlt,oe hall (cN hlt) (by simpa using hh)⟩,?_,⟨rfl,rfl,by simp[ax],trivial⟩,trivial,trivial⟩⟩⟩,fun hge=>⟨?_,trivial⟩⟩
 . have:=tM (cN hlt);omega
 . have:=cN hlt;show(aM s 46).length - (x+1)<(aM s 46).length - x
   omega
 . rw[Cw h256 h3,od hall (jI hge)])
theorem Mj:CO yr pX:=bZ (cfg:=fun y=>bE bS (cM y)) bJ (fun _=>rfl) (fun _=>fZ) (n:=400) (by
 rw[Mb];rintro⟨s,t⟩ _;refine ah.2 ⟨fun h=>aq.2 ⟨?_,?_,trivial⟩,fun h=>⟨?_,trivial⟩⟩
 . rw[eI,Ae]at h;simp at h⊢;exact h
 . rw[AE];simp
 . rw[eI,Ag]at h;symm;rw[Ag];intro e;have:=Ay List.length e;simp at this h;omega)
theorem wV:∀g C,qw g=some C->CO g C:=bU Ou (bU Mj Fb)
theorem Lq:CO oK pX:=bZ (cfg:=fun y=>bE qw (cM y)) bJ (fun _=>rfl) (fun _=>wV) (n:=400) (by
 rw[K3];rintro⟨s,t⟩ h;exact⟨(s,t),rfl,rfl,h,rfl,trivial⟩)
theorem Mh:CO o6 xh:=bZ (cfg:=fun y=>bE qw (cM y)) bJ (fun _=>rfl) (fun _=>wV) (n:=400) (by
 rw[Ma];intro s hpre;refine⟨s,rfl,hpre,ah.2 ⟨fun h=>⟨?_,trivial⟩,fun h=>⟨(s,46),rfl,rfl,hpre,?_,trivial⟩⟩⟩
 . rw[Ai (by simpa using h)]
 . rw[An (by simpa using h)])
theorem Fc:∀g C,uJ g=some C->CO g C:=bU Mh (bU Lq wV)
theorem sU (s:Bs):bO 0 (Int.ofNat (if dE s=true then aM s 46 else[]).length)=dE s:=by
 have:=Bb.2 (Cp s 46);rw[cp,Aa]
 cases h:dE s
 . simp
 . simp;omega
theorem NA:CO oV xM:=bZ (cfg:=fun y=>bE uJ (cM y)) bJ (fun _=>rfl) (fun _=>Fc) (n:=400) (by
 rw[Nu];intro s hpre;have hpre:s.length<=100000:=hpre;refine⟨(s,[42,46]),rfl,rfl,⟨hpre,by simp⟩,ah.2 ⟨fun h=>?_,fun h=>⟨(s,[33]),rfl,rfl,⟨hpre,by simp⟩,ah.2 ⟨fun h2=>?_,fun h2=>?_⟩⟩⟩⟩
 . have h':s.take 2=[42,46]:=by simpa using h
   have hl:2<=s.length:=by have:=Ay List.length h';simp at this;omega
   have hr:fj s=(s.drop 2,true,false):=by unfold fj;rw[An h']
   have hi:ik s=dE (s.drop 2):=by unfold ik;rw[hr];simp
   refine aq.2 ⟨by simp;omega,s.drop 2,rfl,by simp;omega,ah.2 ⟨fun h3=>?_,fun h3=>?_⟩⟩
   all_goals (rw[sU]at h3;rw[hr,hi,h3];exact⟨rfl,rfl,rfl,rfl,trivial⟩)
 . have h0:¬s.take 2=[42,46]:=by simpa using h
   have h':s.take 1=[33]:=by simpa using h2
   have hl:1<=s.length:=by have:=Ay List.length h';simp at this;omega
   have hr:fj s=(s.drop 1,false,true):=by unfold fj;rw[Ai h0,An h']
   have hi:ik s=(dE (s.drop 1)&&decide (1<(aM (s.drop 1) 46).length)):=by unfold ik;rw[hr];simp
   refine aq.2 ⟨by simp;omega,s.drop 1,rfl,by simp;omega,ah.2 ⟨fun h3=>?_,fun h3=>?_⟩⟩
   . rw[sU]at h3;rw[hr,hi,h3,An rfl];refine⟨rfl,rfl,rfl,?_,trivial⟩;rw[cp,AE];simp;omega
   . rw[sU]at h3;rw[hr,hi,h3];exact⟨rfl,rfl,rfl,rfl,trivial⟩
 . have h0:¬s.take 2=[42,46]:=by simpa using h
   have h1:¬s.take 1=[33]:=by simpa using h2
   have hr:fj s=(s,false,false):=by unfold fj;rw[Ai h0,Ai h1]
   have hi:ik s=dE s:=by unfold ik;rw[hr];simp
   refine⟨s,rfl,hpre,ah.2 ⟨fun h3=>?_,fun h3=>?_⟩⟩
   all_goals (rw[sU]at h3;rw[hr,hi,h3];exact⟨rfl,rfl,rfl,rfl,trivial⟩))
theorem Fe:∀g C,uK g=some C->CO g C:=bU NA Fc
theorem Md:CO lh xg:=bZ (cfg:=fun y=>bE uK (cX lh 4 (tT y))) bJ (fun _=>rfl) (fun _=>Fe) (n:=400) (by
 rw[L7];rintro l ⟨hpre,hs⟩;refine ah.2 ⟨fun h=>⟨?_,trivial⟩,fun h=>⟨⟨0,⟨by simp,fun j h hj=>by omega⟩,⟨rfl,rfl,rfl,trivial⟩,trivial,trivial⟩,?_⟩⟩
 . rw[cp,Ae,Aa]at h;unfold mG;rw[An (by omega)]
 have h256:¬256<l.length:=by rw[cp,Ag,Aa]at h;omega
 rintro x ⟨hx,hall⟩;refine ah.2 ⟨fun hlt=>aA.2 ⟨_,ee (cN hlt),_,rfl,hs _ (Au _),ah.2 ⟨fun hh=>⟨?_,trivial⟩,fun hh=>aq.2 ⟨dg x (by omega),x+1,⟨cN hlt,oe hall (cN hlt) (by simpa using hh)⟩,?_,⟨rfl,rfl,by simp[ax],trivial⟩,trivial,trivial⟩⟩⟩,fun hge=>⟨?_,trivial⟩⟩
 . unfold mG;rw[Ai h256,pL (cN hlt) (by simpa using hh)];simp[ax]
 . have:=cN hlt;show l.length - (x+1)<l.length - x
   omega
 . unfold mG;rw[Ai h256,od hall (jI hge)];simp[ax])
theorem LH:∀g C,GW g=some C->CO g C:=bU Md Fe
end
end Go.Proofs
