/- Part 5: an evaluator, proved sound, and its use at this seat; no condition. -/
import Derived.KernelRfl
import Derived.Test.YtggljmdeadplkaaGreatP1
import Derived.Test.YtggljmdeadplkaaGreatP2
set_option linter.unusedSimpArgs false
set_option linter.unusedVariables false
set_option linter.unusedSectionVars false
set_option linter.deprecated false
set_option maxRecDepth 100000
set_option maxHeartbeats 4000000
namespace Go.Proofs
open Go Go.Am Go.RowKit Go.Sy
section
variable [Inhabited aL]
noncomputable def Nu:TypeId->Option View:=fun t=>bif Nat.beq t Ty.string then some ⟨Bs,cI⟩else none
noncomputable def aQ (fH:FuncId->Option aH) (lk:FuncId->Nat->Option aE):fy:={tab:=mI,view:=Nu,fH,lk}
def cF {Y:Type}:Y->FuncId->Nat->Option aE:=fun _ _ _=>none
def cq (f r:Nat) (A:aE):FuncId->Nat->Option aE:=fun g s=>bif Nat.beq g f&&Nat.beq s r then some A else none
def i64 (n:Int):SV:= .int .i64 n
def strs (l:List Bs):SV:= .ax Bs l cI
def oH:aH:={Y:=Bs×Int,pre:=fun y=>y.1.length<=1000000,args:=fun y=>[.str y.1, .int .u8 y.2],res:=fun y=>i64 (eG y.1 y.2)}
def si (y:Bs×Int):aE:={α:=Nat,ok:=fun i=>i<=y.1.length/\ ∀j (h:j<y.1.length),j<i->nB y.1[j]≠y.2,μ:=fun i=>y.1.length - i,bu:=[],aV:=fun i=>[(0, .str y.1),(1, .int .u8 y.2),(5,i64 (-1)),(8,i64 (Int.ofNat y.1.length)),(9,i64 i)],bK:=fun _=>[]}
def lY:aH:={Y:=Bs×Int,pre:=fun y=>y.1.length<=1000000,args:=fun y=>[.str y.1, .int .u8 y.2],res:=fun y=> .bg [.str (bV y.1 y.2).1, .str (bV y.1 y.2).2.1, .bool (bV y.1 y.2).2.2]}
def oq:aH:={Y:=Bs×Int,pre:=fun y=>y.1.length<=100000,args:=fun y=>[.str y.1, .int .u8 y.2],res:=fun y=>strs (aB y.1 y.2)}
def rU (y:Bs×Int):aE:={α:=Bs×List Bs,ok:=fun x=>aB y.1 y.2=x.2++aB x.1 y.2/\x.2.length+x.1.length<=y.1.length,μ:=fun x=>x.1.length,bu:=[],aV:=fun x=>[(0, .str x.1),(1, .int .u8 y.2),(5, .own 0)],bK:=fun x=>[(0, .arr Bs x.2 cI Ty.string)]}
def lZ:aH:={Y:=UInt8,pre:=fun _=>True,args:=fun y=>[.int .u8 (nB y)],res:=fun y=> .bool (cy y)}
def oG:aH:={Y:=Bs,pre:=fun y=>y.length<=1000000,args:=fun y=>[.str y],res:=fun y=>i64 (cm y)}
def sO (y:Bs):aE:={α:=Nat,ok:=fun i=>i<=cm y,μ:=fun i=>y.length - i,bu:=[],aV:=fun i=>[(0, .str y),(3,i64 i)],bK:=fun _=>[]}
def gY:aH:={Y:=Bs,pre:=fun y=>y.length<=1000000,args:=fun y=>[.str y],res:=fun y=> .bg [i64 (aS y).1, .bool (aS y).2]}
def fv (y:Bs):aE:={α:=Nat,ok:=fun i=>i<=(ak y).length/\ ∀b∈ak y,cy b=true,μ:=fun i=>(ak y).length - i,bu:=[],aV:=fun i=>[(4, .str (ak y)),(5,i64 (if bS y then -1 else 1)),(6,i64 (((ak y).take i).foldl bB 0)),(28,i64 (Int.ofNat (ak y).length)),(29,i64 i)],bK:=fun _=>[]}
def rP (y:Bs×Int):aE:={α:=Nat,ok:=fun i=>i<=y.1.length/\ ∀j (h:j<y.1.length),j<i->nB y.1[j]≠y.2,μ:=fun i=>y.1.length - i,bu:=[],aV:=fun i=>[(0, .str y.1),(1, .int .u8 y.2),(5,i64 i)],bK:=fun _=>[]}
def nY (y:Bs×Int):aE:={α:=Nat×Nat×List Bs,ok:=fun x=>x.1<=x.2.1/\x.2.1<=y.1.length/\aB y.1 y.2=x.2.2++aB (y.1.drop x.1) y.2/\x.2.2.length<=x.1/\ ∀j (h:j<y.1.length),x.1<=j->j<x.2.1->nB y.1[j]≠y.2,μ:=fun x=>y.1.length - x.2.1,bu:=[],aV:=fun x=>[(0, .str y.1),(1, .int .u8 y.2),(5, .own 0),(6,i64 x.1),(7,i64 x.2.1)],bK:=fun x=>[(0, .arr Bs x.2.2 cI Ty.string)]}
def iC (y:Bs):aE:={α:=Nat,ok:=fun i=>i<=y.length,μ:=fun i=>y.length - i,bu:=[],aV:=fun i=>[(0, .str y),(3,i64 (Int.ofNat (min i (cm y)))),(4,i64 i)],bK:=fun _=>[]}
def bw (y:Bs):Nat:=if bS y then 1 else 0
def fF (y:Bs):aE:={α:=Nat,ok:=fun i=>bw y<=i/\i<=y.length/\ ∀b∈ak y,cy b=true,μ:=fun i=>y.length - i,bu:=[],aV:=fun i=>[(0, .str y),(4,i64 (Int.ofNat (bw y))),(5,i64 (((ak y).take (i - bw y)).foldl bB 0)),(6,i64 i)],bK:=fun _=>[]}
def wg:aH:={Y:=Nat,pre:=fun y=>y<=1099511627776,args:=fun y=>[i64 y],res:=fun y=> .str (fU y)}
def sm (y:Nat):aE:={α:=Nat×Nat×Bs,ok:=fun x=>x.1<=30/\x.2.2.length<=30/\fU y=ij (10+x.1) x.2.1++x.2.2/\x.2.2.length+x.1<=30/\x.2.1<10 ^ (x.1+1)/\x.2.1<=y,μ:=fun x=>x.2.1,bu:=[],aV:=fun x=>[(0,i64 x.2.1),(3, .str x.2.2)],bK:=fun _=>[]}
noncomputable def sA (f:FuncId):Option aH:=bif Nat.beq f ju then some oH else none
noncomputable def sB (f:FuncId):Option aH:=bif Nat.beq f ny then some lY else sA f
noncomputable def sC (f:FuncId):Option aH:=bif Nat.beq f jq then some oq else bif Nat.beq f mW then some lZ else sB f
noncomputable def oK (f:FuncId):Option aH:=bif Nat.beq f je then some oG else bif Nat.beq f ji then some oG else sC f
noncomputable def sD (f:FuncId):Option aH:=bif Nat.beq f jf then some gY else bif Nat.beq f jk then some gY else bif Nat.beq f jw then some oH else bif Nat.beq f jr then some oq else bif Nat.beq f jx then some wg else oK f
noncomputable def bI (_:FuncId):Option aH:=none
end
section
variable [Inhabited aL]
theorem Ma:(bx (fun(y:aH.Y oH)=>aQ bI (cq ju 3 (si y))) 400 ju)=(∀(y:Bs×Int),
 y.1.length<=1000000->
 (∃(x:Nat),
 (x<=y.1.length/\ ∀(j:Nat) (h:j<y.1.length),j<x->aj (nB y.1[j]) y.2->False)/\
 (y.1=y.1/\
 aj y.2 y.2/\
 aj (-1) (-1)/\aj (Int.ofNat y.1.length) (Int.ofNat y.1.length)/\aj 0 ↑x/\True)/\
 True/\True)/\
 ∀(x:Nat),
 (x<=y.1.length/\ ∀(j:Nat) (h:j<y.1.length),j<x->aj (nB y.1[j]) y.2->False)->
 br (bj (↑x) (Int.ofNat y.1.length))
 (so y.1[Int.toNat ↑x]? fun(val:UInt8)=>
 br (Int.ofNat (UInt8.toNat val)==y.2) (aj (↑x) (eG y.1 y.2)/\True)
 (ck (aX .i64 (↑x+1))
 (∃(y_1:Nat),
 (y_1<=y.1.length/\ ∀(j:Nat) (h:j<y.1.length),j<y_1->aj (nB y.1[j]) y.2->False)/\
 aE.μ (si y) y_1<aE.μ (si y) x/\
 (y.1=y.1/\
 aj y.2 y.2/\
 aj (-1) (-1)/\aj (Int.ofNat y.1.length) (Int.ofNat y.1.length)/\aj (↑x+1) ↑y_1/\True)/\
 True/\True)))
 (aj (-1) (eG y.1 y.2)/\True)):=by kernel_rfl
theorem Nc:(bx (fun(y:aH.Y lY)=>aQ sA (cF y)) 400 ny)=(∀(y:Bs×Int),
 y.1.length<=1000000->
 ∃(y_1:Bs×Int),
 y.1=y_1.1/\
 aj y.2 y_1.2/\
 y_1.1.length<=1000000/\
 br (bj (eG y_1.1 y_1.2) 0)
 (y.1=Prod.fst (bV y.1 y.2)/\
 Array.toList (ByteArray.data {data:=#[]})=Prod.fst (Prod.snd (bV y.1 y.2))/\
 false=Prod.snd (Prod.snd (bV y.1 y.2))/\True)
 (ck (nn (eG y_1.1 y_1.2))
 (ck (Nat.ble (Int.toNat (eG y_1.1 y_1.2)) y.1.length)
 (ck (aX .i64 (eG y_1.1 y_1.2+1))
 (ck (nn (eG y_1.1 y_1.2+1))
 (ck (Nat.ble (Int.toNat (eG y_1.1 y_1.2+1)) y.1.length)
 (List.take (Int.toNat (eG y_1.1 y_1.2)) y.1=Prod.fst (bV y.1 y.2)/\
 List.drop (Int.toNat (eG y_1.1 y_1.2+1)) y.1=Prod.fst (Prod.snd (bV y.1 y.2))/\
 true=Prod.snd (Prod.snd (bV y.1 y.2))/\True))))))):=by kernel_rfl
theorem J8:(bx (fun(y:aH.Y oq)=>aQ sB (cq jq 2 (rU y))) 400 jq)=(∀(y:Bs×Int),
 y.1.length<=100000->
 (∃(x:Bs×List Bs),
 (aB y.1 y.2=x.2++aB x.1 y.2/\
 x.2.length+x.1.length<=y.1.length)/\
 (y.1=x.1/\aj y.2 y.2/\True/\True)/\
 ((x.2=[]/\ ∀(x:Bs),List.length (cI x)=1)/\True)/\True)/\
 ∀(x:Bs×List Bs),
 aB y.1 y.2=x.2++aB x.1 y.2/\
 x.2.length+x.1.length<=y.1.length->
 ∃(y_1:Bs×Int),
 x.1=y_1.1/\
 aj y.2 y_1.2/\
 y_1.1.length<=1000000/\
 ∃(x_1:Bs),
 [SV.str x_1]=[SV.str (Prod.fst (bV y_1.1 y_1.2))]/\
 ck (Nat.ble ((x.2.length+List.length [x_1])*16) 16777216&&Nat.ble (x.2.length+List.length [x_1]) 16777216)
 (br (!Prod.snd (Prod.snd (bV y_1.1 y_1.2)))
 (SV.ax Bs (x.2++[x_1]) cI=SV.ax Bs (aB y.1 y.2) cI/\
 True)
 (∃(y_2:Bs×List Bs),
 (aB y.1 y.2=y_2.2++aB y_2.1 y.2/\
 y_2.2.length+y_2.1.length<=y.1.length)/\
 aE.μ (rU y) y_2<aE.μ (rU y) x/\
 (Prod.fst (Prod.snd (bV y_1.1 y_1.2))=y_2.1/\aj y.2 y.2/\True/\True)/\
 (SV.ax Bs (x.2++[x_1]) cI=SV.ax Bs y_2.2 cI/\True)/\True))):=by kernel_rfl
theorem Nd:(bx (fun(y:aH.Y lZ)=>aQ bI (cF y)) 400 mW)=(∀(y:UInt8),True->br (bA 48 (nB y)) (bA (nB y) 57=cy y/\True) (false=cy y/\True)):=by kernel_rfl
theorem L9:(bx (fun(y:aH.Y oG)=>aQ sC (cq je 2 (sO y))) 400 je)=(∀(y:List UInt8),
 y.length<=1000000->
 (∃(x:Nat),x<=cm y/\(y=y/\aj 0 ↑x/\True)/\True/\True)/\
 ∀(x:Nat),
 x<=cm y->
 br (bj (↑x) (Int.ofNat y.length))
 (so y[Int.toNat ↑x]? fun(val:UInt8)=>
 ∃(y_1:UInt8),
 aj (Int.ofNat (UInt8.toNat val)) (nB y_1)/\
 True/\
 br (cy y_1)
 (ck (aX .i64 (↑x+1))
 (∃(y_2:Nat),
 y_2<=cm y/\
 aE.μ (sO y) y_2<aE.μ (sO y) x/\(y=y/\aj (↑x+1) ↑y_2/\True)/\True/\True))
 (aj ↑x ↑(cm y)/\True))
 (aj ↑x ↑(cm y)/\True)):=by kernel_rfl
theorem Nf:(bx (fun(y:aH.Y gY)=>aQ oK (cq jf 8 (fv y))) 400 jf)=(∀(y:List UInt8),
 y.length<=1000000->
 br (!y==Array.toList (ByteArray.data {data:=#[]}))
 (so y[Int.toNat 0]? fun(val:UInt8)=>
 br (Int.ofNat (UInt8.toNat val)==45)
 (ck (Nat.ble (Int.toNat 1) y.length)
 (br (List.drop (Int.toNat 1) y==Array.toList (ByteArray.data {data:=#[]}))
 (aj 0 (Prod.fst (aS y))/\false=Prod.snd (aS y)/\True)
 (∃(y_1:List UInt8),
 List.drop (Int.toNat 1) y=y_1/\
 y_1.length<=1000000/\
 br (bj (↑(cm y_1)) (Int.ofNat (List.length (List.drop (Int.toNat 1) y))))
 (aj 0 (Prod.fst (aS y))/\false=Prod.snd (aS y)/\True)
 ((∃(x:Nat),
 (x<=List.length (ak y)/\ ∀(b:UInt8),b∈ak y->cy b=true)/\
 (List.drop (Int.toNat 1) y=ak y/\
 aj (-1) (if bS y=true then -1 else 1)/\
 aj 0 (List.foldl bB 0 (List.take x (ak y)))/\
 aj (Int.ofNat (List.length (List.drop (Int.toNat 1) y))) (Int.ofNat (List.length (ak y)))/\aj 0 ↑x/\True)/\
 True/\True)/\
 ∀(x:Nat),
 (x<=List.length (ak y)/\ ∀(b:UInt8),b∈ak y->cy b=true)->
 br (bj (↑x) (Int.ofNat (List.length (ak y))))
 (ck (aX .i64 (List.foldl bB 0 (List.take x (ak y))*10))
 (so (ak y)[Int.toNat ↑x]? fun(val:UInt8)=>
 ck
 (aX .i64
 (List.foldl bB 0 (List.take x (ak y))*10+
 Go.IntKind.wrap .i64 (Go.IntKind.wrap Go.IntKind.u8 (Int.ofNat (UInt8.toNat val) - 48))))
 (ck (aX .i64 (↑x+1))
 (∃(y_2:Nat),
 (y_2<=List.length (ak y)/\ ∀(b:UInt8),b∈ak y->cy b=true)/\
 aE.μ (fv y) y_2<aE.μ (fv y) x/\
 (ak y=ak y/\
 aj (if bS y=true then -1 else 1) (if bS y=true then -1 else 1)/\
 aj
 (if
 1099511627776<
 List.foldl bB 0 (List.take x (ak y))*10+
 Go.IntKind.wrap .i64 (Go.IntKind.wrap Go.IntKind.u8 (Int.ofNat (UInt8.toNat val) - 48))then
 1099511627776
 else
 List.foldl bB 0 (List.take x (ak y))*10+
 Go.IntKind.wrap .i64 (Go.IntKind.wrap Go.IntKind.u8 (Int.ofNat (UInt8.toNat val) - 48)))
 (List.foldl bB 0 (List.take y_2 (ak y)))/\
 aj (Int.ofNat (List.length (ak y))) (Int.ofNat (List.length (ak y)))/\
 aj (↑x+1) ↑y_2/\True)/\
 True/\True))))
 (ck
 (aX .i64 ((if bS y=true then -1 else 1)*List.foldl bB 0 (List.take x (ak y))))
 (aj ((if bS y=true then -1 else 1)*List.foldl bB 0 (List.take x (ak y)))
 (Prod.fst (aS y))/\
 true=Prod.snd (aS y)/\True))))))
 (br (y==Array.toList (ByteArray.data {data:=#[]})) (aj 0 (Prod.fst (aS y))/\false=Prod.snd (aS y)/\True)
 (∃(y_1:List UInt8),
 y=y_1/\
 y_1.length<=1000000/\
 br (bj (↑(cm y_1)) (Int.ofNat y.length))
 (aj 0 (Prod.fst (aS y))/\false=Prod.snd (aS y)/\True)
 ((∃(x:Nat),
 (x<=List.length (ak y)/\ ∀(b:UInt8),b∈ak y->cy b=true)/\
 (y=ak y/\
 aj 1 (if bS y=true then -1 else 1)/\
 aj 0 (List.foldl bB 0 (List.take x (ak y)))/\
 aj (Int.ofNat y.length) (Int.ofNat (List.length (ak y)))/\aj 0 ↑x/\True)/\
 True/\True)/\
 ∀(x:Nat),
 (x<=List.length (ak y)/\ ∀(b:UInt8),b∈ak y->cy b=true)->
 br (bj (↑x) (Int.ofNat (List.length (ak y))))
 (ck (aX .i64 (List.foldl bB 0 (List.take x (ak y))*10))
 (so (ak y)[Int.toNat ↑x]? fun(val:UInt8)=>
 ck
 (aX .i64
 (List.foldl bB 0 (List.take x (ak y))*10+
 Go.IntKind.wrap .i64 (Go.IntKind.wrap Go.IntKind.u8 (Int.ofNat (UInt8.toNat val) - 48))))
 (ck (aX .i64 (↑x+1))
 (∃(y_2:Nat),
 (y_2<=List.length (ak y)/\ ∀(b:UInt8),b∈ak y->cy b=true)/\
 aE.μ (fv y) y_2<aE.μ (fv y) x/\
 (ak y=ak y/\
 aj (if bS y=true then -1 else 1) (if bS y=true then -1 else 1)/\
 aj
 (if
 1099511627776<
 List.foldl bB 0 (List.take x (ak y))*10+
 Go.IntKind.wrap .i64 (Go.IntKind.wrap Go.IntKind.u8 (Int.ofNat (UInt8.toNat val) - 48))then
 1099511627776
 else
 List.foldl bB 0 (List.take x (ak y))*10+
 Go.IntKind.wrap .i64 (Go.IntKind.wrap Go.IntKind.u8 (Int.ofNat (UInt8.toNat val) - 48)))
 (List.foldl bB 0 (List.take y_2 (ak y)))/\
 aj (Int.ofNat (List.length (ak y))) (Int.ofNat (List.length (ak y)))/\
 aj (↑x+1) ↑y_2/\True)/\
 True/\True))))
 (ck (aX .i64 ((if bS y=true then -1 else 1)*List.foldl bB 0 (List.take x (ak y))))
 (aj ((if bS y=true then -1 else 1)*List.foldl bB 0 (List.take x (ak y)))
 (Prod.fst (aS y))/\
 true=Prod.snd (aS y)/\True))))))
 (br (y==Array.toList (ByteArray.data {data:=#[]})) (aj 0 (Prod.fst (aS y))/\false=Prod.snd (aS y)/\True)
 (∃(y_1:List UInt8),
 y=y_1/\
 y_1.length<=1000000/\
 br (bj (↑(cm y_1)) (Int.ofNat y.length))
 (aj 0 (Prod.fst (aS y))/\false=Prod.snd (aS y)/\True)
 ((∃(x:Nat),
 (x<=List.length (ak y)/\ ∀(b:UInt8),b∈ak y->cy b=true)/\
 (y=ak y/\
 aj 1 (if bS y=true then -1 else 1)/\
 aj 0 (List.foldl bB 0 (List.take x (ak y)))/\
 aj (Int.ofNat y.length) (Int.ofNat (List.length (ak y)))/\aj 0 ↑x/\True)/\
 True/\True)/\
 ∀(x:Nat),
 (x<=List.length (ak y)/\ ∀(b:UInt8),b∈ak y->cy b=true)->
 br (bj (↑x) (Int.ofNat (List.length (ak y))))
 (ck (aX .i64 (List.foldl bB 0 (List.take x (ak y))*10))
 (so (ak y)[Int.toNat ↑x]? fun(val:UInt8)=>
 ck
 (aX .i64
 (List.foldl bB 0 (List.take x (ak y))*10+
 Go.IntKind.wrap .i64 (Go.IntKind.wrap Go.IntKind.u8 (Int.ofNat (UInt8.toNat val) - 48))))
 (ck (aX .i64 (↑x+1))
 (∃(y_2:Nat),
 (y_2<=List.length (ak y)/\ ∀(b:UInt8),b∈ak y->cy b=true)/\
 aE.μ (fv y) y_2<aE.μ (fv y) x/\
 (ak y=ak y/\
 aj (if bS y=true then -1 else 1) (if bS y=true then -1 else 1)/\
 aj
 (if
 1099511627776<
 List.foldl bB 0 (List.take x (ak y))*10+
 Go.IntKind.wrap .i64 (Go.IntKind.wrap Go.IntKind.u8 (Int.ofNat (UInt8.toNat val) - 48))then
 1099511627776
 else
 List.foldl bB 0 (List.take x (ak y))*10+
 Go.IntKind.wrap .i64 (Go.IntKind.wrap Go.IntKind.u8 (Int.ofNat (UInt8.toNat val) - 48)))
 (List.foldl bB 0 (List.take y_2 (ak y)))/\
 aj (Int.ofNat (List.length (ak y))) (Int.ofNat (List.length (ak y)))/\
 aj (↑x+1) ↑y_2/\True)/\
 True/\True))))
 (ck (aX .i64 ((if bS y=true then -1 else 1)*List.foldl bB 0 (List.take x (ak y))))
 (aj ((if bS y=true then -1 else 1)*List.foldl bB 0 (List.take x (ak y)))
 (Prod.fst (aS y))/\
 true=Prod.snd (aS y)/\True)))))):=by kernel_rfl
theorem Kx:(bx (fun(y:aH.Y oH)=>aQ bI (cq jw 2 (rP y))) 400 jw)=(∀(y:Bs×Int),
 y.1.length<=1000000->
 (∃(x:Nat),
 (x<=y.1.length/\ ∀(j:Nat) (h:j<y.1.length),j<x->aj (nB y.1[j]) y.2->False)/\
 (y.1=y.1/\aj y.2 y.2/\aj 0 ↑x/\True)/\True/\True)/\
 ∀(x:Nat),
 (x<=y.1.length/\ ∀(j:Nat) (h:j<y.1.length),j<x->aj (nB y.1[j]) y.2->False)->
 br (bj (↑x) (Int.ofNat y.1.length))
 (so y.1[Int.toNat ↑x]? fun(val:UInt8)=>
 br (Int.ofNat (UInt8.toNat val)==y.2) (aj (↑x) (eG y.1 y.2)/\True)
 (ck (aX .i64 (↑x+1))
 (∃(y_1:Nat),
 (y_1<=y.1.length/\ ∀(j:Nat) (h:j<y.1.length),j<y_1->aj (nB y.1[j]) y.2->False)/\
 aE.μ (rP y) y_1<aE.μ (rP y) x/\
 (y.1=y.1/\aj y.2 y.2/\aj (↑x+1) ↑y_1/\True)/\True/\True)))
 (aj (-1) (eG y.1 y.2)/\True)):=by kernel_rfl
theorem JX:(bx (fun(y:aH.Y oq)=>aQ bI (cq jr 4 (nY y))) 400 jr)=(∀(y:Bs×Int),
 y.1.length<=100000->
 (∃(x:Nat×Nat×List Bs),
 (x.1<=x.2.1/\
 x.2.1<=y.1.length/\
 aB y.1 y.2=x.2.2++aB (List.drop x.1 y.1) y.2/\
 x.2.2.length<=x.1/\
 ∀(j:Nat) (h:j<y.1.length),x.1<=j->j<x.2.1->aj (nB y.1[j]) y.2->False)/\
 (y.1=y.1/\aj y.2 y.2/\True/\aj 0 ↑x.1/\aj 0 ↑x.2.1/\True)/\
 (SV.ax (View.X {X:=Bs,enc:=cI}) [] (View.enc {X:=Bs,enc:=cI})=
 SV.ax Bs x.2.2 cI/\
 True)/\
 True)/\
 ∀(x:Nat×Nat×List Bs),
 (x.1<=x.2.1/\
 x.2.1<=y.1.length/\
 aB y.1 y.2=x.2.2++aB (List.drop x.1 y.1) y.2/\
 x.2.2.length<=x.1/\
 ∀(j:Nat) (h:j<y.1.length),x.1<=j->j<x.2.1->aj (nB y.1[j]) y.2->False)->
 br (bj (↑x.2.1) (Int.ofNat y.1.length))
 (so y.1[Int.toNat ↑x.2.1]? fun(val:UInt8)=>
 br (Int.ofNat (UInt8.toNat val)==y.2)
 (ck (Nat.ble (Int.toNat ↑x.1) (Int.toNat ↑x.2.1)&&Nat.ble (Int.toNat ↑x.2.1) y.1.length)
 (∃(x_1:Bs),
 [SV.str x_1]=
 [SV.str (List.take (Int.toNat ↑x.2.1 - Int.toNat ↑x.1) (List.drop (Int.toNat ↑x.1) y.1))]/\
 ck
 (Nat.ble ((x.2.2.length+List.length [x_1])*16) 16777216&&
 Nat.ble (x.2.2.length+List.length [x_1]) 16777216)
 (ck (aX .i64 (↑x.2.1+1))
 (ck (aX .i64 (↑x.2.1+1))
 (∃(y_1:Nat×Nat×List Bs),
 (y_1.1<=y_1.2.1/\
 y_1.2.1<=y.1.length/\
 aB y.1 y.2=y_1.2.2++aB (List.drop y_1.1 y.1) y.2/\
 y_1.2.2.length<=y_1.1/\
 ∀(j:Nat) (h:j<y.1.length),
 y_1.1<=j->j<y_1.2.1->aj (nB y.1[j]) y.2->False)/\
 aE.μ (nY y) y_1<aE.μ (nY y) x/\
 (y.1=y.1/\
 aj y.2 y.2/\
 True/\
 aj (↑x.2.1+1) ↑y_1.1/\aj (↑x.2.1+1) ↑y_1.2.1/\True)/\
 (SV.ax Bs (x.2.2++[x_1]) cI=
 SV.ax Bs y_1.2.2 cI/\
 True)/\
 True)))))
 (ck (aX .i64 (↑x.2.1+1))
 (∃(y_1:Nat×Nat×List Bs),
 (y_1.1<=y_1.2.1/\
 y_1.2.1<=y.1.length/\
 aB y.1 y.2=y_1.2.2++aB (List.drop y_1.1 y.1) y.2/\
 y_1.2.2.length<=y_1.1/\
 ∀(j:Nat) (h:j<y.1.length),
 y_1.1<=j->j<y_1.2.1->aj (nB y.1[j]) y.2->False)/\
 aE.μ (nY y) y_1<aE.μ (nY y) x/\
 (y.1=y.1/\
 aj y.2 y.2/\
 True/\aj ↑x.1 ↑y_1.1/\aj (↑x.2.1+1) ↑y_1.2.1/\True)/\
 (SV.ax Bs x.2.2 cI=SV.ax Bs y_1.2.2 cI/\True)/\True)))
 (ck (Nat.ble (Int.toNat ↑x.1) y.1.length)
 (∃(x_1:Bs),
 [SV.str x_1]=[SV.str (List.drop (Int.toNat ↑x.1) y.1)]/\
 ck
 (Nat.ble ((x.2.2.length+List.length [x_1])*16) 16777216&&
 Nat.ble (x.2.2.length+List.length [x_1]) 16777216)
 (SV.ax Bs (x.2.2++[x_1]) cI=
 SV.ax Bs (aB y.1 y.2) cI/\
 True)))):=by kernel_rfl
theorem Kw:(bx (fun(y:aH.Y oG)=>aQ bI (cq ji 3 (iC y))) 400 ji)=(∀(y:List UInt8),
 y.length<=1000000->
 (∃(x:Nat),x<=y.length/\(y=y/\aj 0 (Int.ofNat (Min.min x (cm y)))/\aj 0 ↑x/\True)/\True/\True)/\
 ∀(x:Nat),
 x<=y.length->
 br (bj (↑x) (Int.ofNat y.length))
 (br (Int.ofNat (Min.min x (cm y))==↑x)
 (so y[Int.toNat ↑x]? fun(val:UInt8)=>
 br (bA 48 (Int.ofNat (UInt8.toNat val)))
 (so y[Int.toNat ↑x]? fun(val:UInt8)=>
 br (bA (Int.ofNat (UInt8.toNat val)) 57)
 (ck (aX .i64 (Int.ofNat (Min.min x (cm y))+1))
 (ck (aX .i64 (↑x+1))
 (∃(y_1:Nat),
 y_1<=y.length/\
 aE.μ (iC y) y_1<aE.μ (iC y) x/\
 (y=y/\aj (Int.ofNat (Min.min x (cm y))+1) (Int.ofNat (Min.min y_1 (cm y)))/\aj (↑x+1) ↑y_1/\True)/\
 True/\True)))
 (ck (aX .i64 (↑x+1))
 (∃(y_1:Nat),
 y_1<=y.length/\
 aE.μ (iC y) y_1<aE.μ (iC y) x/\
 (y=y/\aj (Int.ofNat (Min.min x (cm y))) (Int.ofNat (Min.min y_1 (cm y)))/\aj (↑x+1) ↑y_1/\True)/\
 True/\True)))
 (ck (aX .i64 (↑x+1))
 (∃(y_1:Nat),
 y_1<=y.length/\
 aE.μ (iC y) y_1<aE.μ (iC y) x/\
 (y=y/\aj (Int.ofNat (Min.min x (cm y))) (Int.ofNat (Min.min y_1 (cm y)))/\aj (↑x+1) ↑y_1/\True)/\
 True/\True)))
 (ck (aX .i64 (↑x+1))
 (∃(y_1:Nat),
 y_1<=y.length/\
 aE.μ (iC y) y_1<aE.μ (iC y) x/\
 (y=y/\aj (Int.ofNat (Min.min x (cm y))) (Int.ofNat (Min.min y_1 (cm y)))/\aj (↑x+1) ↑y_1/\True)/\
 True/\True)))
 (aj (Int.ofNat (Min.min x (cm y))) ↑(cm y)/\True)):=by kernel_rfl
theorem Mf:(bx (fun(y:aH.Y gY)=>aQ oK (cq jk 8 (fF y))) 400 jk)=(∀(y:List UInt8),
 y.length<=1000000->
 br (bj 0 (Int.ofNat y.length))
 (so y[Int.toNat 0]? fun(val:UInt8)=>
 br (Int.ofNat (UInt8.toNat val)==45)
 (br (Int.ofNat y.length==1) (aj 0 (Prod.fst (aS y))/\false=Prod.snd (aS y)/\True)
 (ck (Nat.ble (Int.toNat 1) y.length)
 (∃(y_1:List UInt8),
 List.drop (Int.toNat 1) y=y_1/\
 y_1.length<=1000000/\
 ck (aX .i64 (Int.ofNat y.length - 1))
 (br (bj (↑(cm y_1)) (Int.ofNat y.length - 1))
 (aj 0 (Prod.fst (aS y))/\false=Prod.snd (aS y)/\True)
 ((∃(x:Nat),
 (bw y<=x/\x<=y.length/\ ∀(b:UInt8),b∈ak y->cy b=true)/\
 (y=y/\
 aj 1 (Int.ofNat (bw y))/\
 aj 0 (List.foldl bB 0 (List.take (x - bw y) (ak y)))/\aj 1 ↑x/\True)/\
 True/\True)/\
 ∀(x:Nat),
 (bw y<=x/\x<=y.length/\ ∀(b:UInt8),b∈ak y->cy b=true)->
 br (bj (↑x) (Int.ofNat y.length))
 (ck (aX .i64 (List.foldl bB 0 (List.take (x - bw y) (ak y))*10))
 (so y[Int.toNat ↑x]? fun(val:UInt8)=>
 ck
 (aX .i64
 (List.foldl bB 0 (List.take (x - bw y) (ak y))*10+
 Go.IntKind.wrap .i64 (Int.ofNat (UInt8.toNat val))))
 (ck
 (aX .i64
 (List.foldl bB 0 (List.take (x - bw y) (ak y))*10+
 Go.IntKind.wrap .i64 (Int.ofNat (UInt8.toNat val)) -
 48))
 (br
 (bj 1099511627776
 (List.foldl bB 0 (List.take (x - bw y) (ak y))*10+
 Go.IntKind.wrap .i64 (Int.ofNat (UInt8.toNat val)) -
 48))
 (ck (aX .i64 (↑x+1))
 (∃(y_2:Nat),
 (bw y<=y_2/\y_2<=y.length/\ ∀(b:UInt8),b∈ak y->cy b=true)/\
 aE.μ (fF y) y_2<aE.μ (fF y) x/\
 (y=y/\
 aj (Int.ofNat (bw y)) (Int.ofNat (bw y))/\
 aj 1099511627776 (List.foldl bB 0 (List.take (y_2 - bw y) (ak y)))/\
 aj (↑x+1) ↑y_2/\True)/\
 True/\True))
 (ck (aX .i64 (↑x+1))
 (∃(y_2:Nat),
 (bw y<=y_2/\y_2<=y.length/\ ∀(b:UInt8),b∈ak y->cy b=true)/\
 aE.μ (fF y) y_2<aE.μ (fF y) x/\
 (y=y/\
 aj (Int.ofNat (bw y)) (Int.ofNat (bw y))/\
 aj
 (List.foldl bB 0 (List.take (x - bw y) (ak y))*10+
 Go.IntKind.wrap .i64 (Int.ofNat (UInt8.toNat val)) -
 48)
 (List.foldl bB 0 (List.take (y_2 - bw y) (ak y)))/\
 aj (↑x+1) ↑y_2/\True)/\
 True/\True))))))
 (br (Int.ofNat (bw y)==1)
 (ck (aX .i64 (0 - List.foldl bB 0 (List.take (x - bw y) (ak y))))
 (aj (0 - List.foldl bB 0 (List.take (x - bw y) (ak y))) (Prod.fst (aS y))/\
 true=Prod.snd (aS y)/\True))
 (aj (List.foldl bB 0 (List.take (x - bw y) (ak y))) (Prod.fst (aS y))/\
 true=Prod.snd (aS y)/\True)))))))
 (br (Int.ofNat y.length==0) (aj 0 (Prod.fst (aS y))/\false=Prod.snd (aS y)/\True)
 (∃(y_1:List UInt8),
 List.drop (Int.toNat 0) y=y_1/\
 y_1.length<=1000000/\
 ck (aX .i64 (Int.ofNat y.length - 0))
 (br (bj (↑(cm y_1)) (Int.ofNat y.length - 0))
 (aj 0 (Prod.fst (aS y))/\false=Prod.snd (aS y)/\True)
 ((∃(x:Nat),
 (bw y<=x/\x<=y.length/\ ∀(b:UInt8),b∈ak y->cy b=true)/\
 (y=y/\
 aj 0 (Int.ofNat (bw y))/\
 aj 0 (List.foldl bB 0 (List.take (x - bw y) (ak y)))/\aj 0 ↑x/\True)/\
 True/\True)/\
 ∀(x:Nat),
 (bw y<=x/\x<=y.length/\ ∀(b:UInt8),b∈ak y->cy b=true)->
 br (bj (↑x) (Int.ofNat y.length))
 (ck (aX .i64 (List.foldl bB 0 (List.take (x - bw y) (ak y))*10))
 (so y[Int.toNat ↑x]? fun(val:UInt8)=>
 ck
 (aX .i64
 (List.foldl bB 0 (List.take (x - bw y) (ak y))*10+
 Go.IntKind.wrap .i64 (Int.ofNat (UInt8.toNat val))))
 (ck
 (aX .i64
 (List.foldl bB 0 (List.take (x - bw y) (ak y))*10+
 Go.IntKind.wrap .i64 (Int.ofNat (UInt8.toNat val)) -
 48))
 (br
 (bj 1099511627776
 (List.foldl bB 0 (List.take (x - bw y) (ak y))*10+
 Go.IntKind.wrap .i64 (Int.ofNat (UInt8.toNat val)) -
 48))
 (ck (aX .i64 (↑x+1))
 (∃(y_2:Nat),
 (bw y<=y_2/\y_2<=y.length/\ ∀(b:UInt8),b∈ak y->cy b=true)/\
 aE.μ (fF y) y_2<aE.μ (fF y) x/\
 (y=y/\
 aj (Int.ofNat (bw y)) (Int.ofNat (bw y))/\
 aj 1099511627776 (List.foldl bB 0 (List.take (y_2 - bw y) (ak y)))/\
 aj (↑x+1) ↑y_2/\True)/\
 True/\True))
 (ck (aX .i64 (↑x+1))
 (∃(y_2:Nat),
 (bw y<=y_2/\y_2<=y.length/\ ∀(b:UInt8),b∈ak y->cy b=true)/\
 aE.μ (fF y) y_2<aE.μ (fF y) x/\
 (y=y/\
 aj (Int.ofNat (bw y)) (Int.ofNat (bw y))/\
 aj
 (List.foldl bB 0 (List.take (x - bw y) (ak y))*10+
 Go.IntKind.wrap .i64 (Int.ofNat (UInt8.toNat val)) -
 48)
 (List.foldl bB 0 (List.take (y_2 - bw y) (ak y)))/\
 aj (↑x+1) ↑y_2/\True)/\
 True/\True))))))
 (br (Int.ofNat (bw y)==1)
 (ck (aX .i64 (0 - List.foldl bB 0 (List.take (x - bw y) (ak y))))
 (aj (0 - List.foldl bB 0 (List.take (x - bw y) (ak y))) (Prod.fst (aS y))/\
 true=Prod.snd (aS y)/\True))
 (aj (List.foldl bB 0 (List.take (x - bw y) (ak y))) (Prod.fst (aS y))/\
 true=Prod.snd (aS y)/\True)))))))
 (br (Int.ofNat y.length==0) (aj 0 (Prod.fst (aS y))/\false=Prod.snd (aS y)/\True)
 (∃(y_1:List UInt8),
 List.drop (Int.toNat 0) y=y_1/\
 y_1.length<=1000000/\
 ck (aX .i64 (Int.ofNat y.length - 0))
 (br (bj (↑(cm y_1)) (Int.ofNat y.length - 0))
 (aj 0 (Prod.fst (aS y))/\false=Prod.snd (aS y)/\True)
 ((∃(x:Nat),
 (bw y<=x/\x<=y.length/\ ∀(b:UInt8),b∈ak y->cy b=true)/\
 (y=y/\
 aj 0 (Int.ofNat (bw y))/\
 aj 0 (List.foldl bB 0 (List.take (x - bw y) (ak y)))/\aj 0 ↑x/\True)/\
 True/\True)/\
 ∀(x:Nat),
 (bw y<=x/\x<=y.length/\ ∀(b:UInt8),b∈ak y->cy b=true)->
 br (bj (↑x) (Int.ofNat y.length))
 (ck (aX .i64 (List.foldl bB 0 (List.take (x - bw y) (ak y))*10))
 (so y[Int.toNat ↑x]? fun(val:UInt8)=>
 ck
 (aX .i64
 (List.foldl bB 0 (List.take (x - bw y) (ak y))*10+
 Go.IntKind.wrap .i64 (Int.ofNat (UInt8.toNat val))))
 (ck
 (aX .i64
 (List.foldl bB 0 (List.take (x - bw y) (ak y))*10+
 Go.IntKind.wrap .i64 (Int.ofNat (UInt8.toNat val)) -
 48))
 (br
 (bj 1099511627776
 (List.foldl bB 0 (List.take (x - bw y) (ak y))*10+
 Go.IntKind.wrap .i64 (Int.ofNat (UInt8.toNat val)) -
 48))
 (ck (aX .i64 (↑x+1))
 (∃(y_2:Nat),
 (bw y<=y_2/\y_2<=y.length/\ ∀(b:UInt8),b∈ak y->cy b=true)/\
 aE.μ (fF y) y_2<aE.μ (fF y) x/\
 (y=y/\
 aj (Int.ofNat (bw y)) (Int.ofNat (bw y))/\
 aj 1099511627776 (List.foldl bB 0 (List.take (y_2 - bw y) (ak y)))/\
 aj (↑x+1) ↑y_2/\True)/\
 True/\True))
 (ck (aX .i64 (↑x+1))
 (∃(y_2:Nat),
 (bw y<=y_2/\y_2<=y.length/\ ∀(b:UInt8),b∈ak y->cy b=true)/\
 aE.μ (fF y) y_2<aE.μ (fF y) x/\
 (y=y/\
 aj (Int.ofNat (bw y)) (Int.ofNat (bw y))/\
 aj
 (List.foldl bB 0 (List.take (x - bw y) (ak y))*10+
 Go.IntKind.wrap .i64 (Int.ofNat (UInt8.toNat val)) -
 48)
 (List.foldl bB 0 (List.take (y_2 - bw y) (ak y)))/\
 aj (↑x+1) ↑y_2/\True)/\
 True/\True))))))
 (br (Int.ofNat (bw y)==1)
 (ck (aX .i64 (0 - List.foldl bB 0 (List.take (x - bw y) (ak y))))
 (aj (0 - List.foldl bB 0 (List.take (x - bw y) (ak y))) (Prod.fst (aS y))/\
 true=Prod.snd (aS y)/\True))
 (aj (List.foldl bB 0 (List.take (x - bw y) (ak y))) (Prod.fst (aS y))/\
 true=Prod.snd (aS y)/\True))))))):=by kernel_rfl
theorem LR:(bx (fun(y:aH.Y wg)=>aQ bI (cq jx 6 (sm y))) 400 jx)=(∀(y:Nat),
 y<=1099511627776->
 (∃(x:Nat×Nat×Bs),
 (x.1<=30/\
 x.2.2.length<=30/\
 fU y=ij (10+x.1) x.2.1++x.2.2/\
 x.2.2.length+x.1<=30/\x.2.1<10 ^ (x.1+1)/\x.2.1<=y)/\
 (aj ↑y ↑x.2.1/\Array.toList (ByteArray.data {data:=#[]})=x.2.2/\True)/\True/\True)/\
 ∀(x:Nat×Nat×Bs),
 x.1<=30/\
 x.2.2.length<=30/\
 fU y=ij (10+x.1) x.2.1++x.2.2/\
 x.2.2.length+x.1<=30/\x.2.1<10 ^ (x.1+1)/\x.2.1<=y->
 br (bj 9 ↑x.2.1)
 (ck (aX .i64 (48+Int.tmod (↑x.2.1) 10))
 (∃(c:List UInt8),
 [SV.int Go.IntKind.u8 (Go.IntKind.wrap Go.IntKind.u8 (48+Int.tmod (↑x.2.1) 10))]=mF c/\
 ck (Nat.ble (c.length+x.2.2.length) 1048576)
 (ck (aX .i64 (Int.tdiv (↑x.2.1) 10))
 (∃(y_1:Nat×Nat×Bs),
 (y_1.1<=30/\
 y_1.2.2.length<=30/\
 fU y=ij (10+y_1.1) y_1.2.1++y_1.2.2/\
 y_1.2.2.length+y_1.1<=30/\y_1.2.1<10 ^ (y_1.1+1)/\y_1.2.1<=y)/\
 aE.μ (sm y) y_1<aE.μ (sm y) x/\
 (aj (Int.tdiv (↑x.2.1) 10) ↑y_1.2.1/\c++x.2.2=y_1.2.2/\True)/\
 True/\True))))
 (ck (aX .i64 (48+↑x.2.1))
 (∃(c:List UInt8),
 [SV.int Go.IntKind.u8 (Go.IntKind.wrap Go.IntKind.u8 (48+↑x.2.1))]=mF c/\
 ck (Nat.ble (c.length+x.2.2.length) 1048576) (c++x.2.2=fU y/\True)))):=by kernel_rfl
end
section
variable [Inhabited aL]
abbrev CO (f:FuncId) (C:aH):Prop:=Go.Sy.bX  Tryz.prog Tryz.tab f C
theorem fb:∀g C,bI g=some C->CO g C:=fun _ _ h=>by cases h
theorem cB (i:Nat) (h:i<1000000000):aX .i64 ((i:Int)+1)=true:=by rw[dQ];omega
theorem CR (b:UInt8):Int.ofNat b.toNat=nB b:=rfl
theorem JA (b:UInt8):0<=nB b/\nB b<=255:=by
 have:=b.toNat_lt;unfold nB;constructor
 . exact Int.natCast_nonneg _
 . show((b.toNat:Nat):Int)<=255
   omega
theorem zp {s:Bs} {c:Int} {i:Nat} (h:i<s.length) (h1:nB s[i]=c) (h2:∀(j:Nat) (h:j<s.length),j<i->nB s[j]=c->False):eG s c=i:=by
 have:bP s c=some i:=dF.2 ⟨h,h1,fun j hj=>h2 j (by omega) hj⟩;unfold eG;rw[this]
theorem Jn {s:Bs} {c:Int} (h2:∀(j:Nat) (h:j<s.length),nB s[j]=c->False):eG s c= -1:=by
 have:bP s c=none:=fB.2 h2;unfold eG;rw[this]
theorem xL (s:Bs) (c:Int) (i:Nat) (hall:∀(j:Nat) (h:j<s.length),j<i->nB s[j]=c->False) (hi:i<=s.length) (h:¬(i:Int)<Int.ofNat s.length):eG s c= -1:=
 Jn fun j hj=>hall j hj (by simp only[Aa]at h;omega)
theorem Lp:CO ju oH:=bO (cfg:=fun y=>aQ bI (cq ju 3 (si y))) bD (fun _=>rfl) (fun _=>fb) (n:=400) (by
 rw[Ma];rintro⟨s,c⟩ hpre;simp only at hpre;refine⟨⟨0,⟨by simp,fun j h hj=>by omega⟩,⟨rfl,rfl,rfl,rfl,rfl,trivial⟩,trivial,trivial⟩,?_⟩;rintro i ⟨hi,hall⟩;simp only[af,au,ag,bF,Ac,Ae,BH]at hi hall⊢;refine⟨fun hlt=>?_,fun hge=>(xL s c i hall hi hge).symm⟩;have hlt':i<s.length:=by simp only[Aa]at hlt;omega
 refine⟨s[i],by simp[hlt'],fun h1=>(zp hlt' (by simpa [nB]using h1) hall).symm,fun h1=>⟨cB i (by omega),i+1,⟨by omega,fun j h hj he=>?_⟩,?_,by simp[aj]⟩⟩
 . by_cases hji:j=i
   . subst hji;exact absurd he (by simpa [nB]using h1)
   . exact hall j h (by omega) he
 . show s.length - (i+1)<s.length - i
   omega)
theorem KO:CO jw oH:=bO (cfg:=fun y=>aQ bI (cq jw 2 (rP y))) bD (fun _=>rfl) (fun _=>fb) (n:=400) (by
 rw[Kx];rintro⟨s,c⟩ hpre;simp only at hpre;refine⟨⟨0,⟨by simp,fun j h hj=>by omega⟩,⟨rfl,rfl,rfl,trivial⟩,trivial,trivial⟩,?_⟩;rintro i ⟨hi,hall⟩;simp only[af,au,ag,bF,Ac,Ae,BH]at hi hall⊢;refine⟨fun hlt=>?_,fun hge=>(xL s c i hall hi hge).symm⟩;have hlt':i<s.length:=by simp only[Aa]at hlt;omega
 refine⟨s[i],by simp[hlt'],fun h1=>(zp hlt' (by simpa [nB]using h1) hall).symm,fun h1=>⟨cB i (by omega),i+1,⟨by omega,fun j h hj he=>?_⟩,?_,by simp[aj]⟩⟩
 . by_cases hji:j=i
   . subst hji;exact absurd he (by simpa [nB]using h1)
   . exact hall j h (by omega) he
 . show s.length - (i+1)<s.length - i
   omega)
theorem y6:∀g C,sA g=some C->CO g C:=bM Lp q8
theorem pB (s:Bs) (c:Int):(∃i,bP s c=some i/\eG s c=(i:Int)/\i<s.length)\/(bP s c=none/\eG s c= -1):=by
 unfold eG
 cases h:bP s c with
 |none=>exact .inr ⟨rfl,rfl⟩
 |some i=>
  obtain⟨h1,_⟩:=dF.1 h;exact .inl ⟨i,rfl,rfl,h1⟩
theorem MY:CO ny lY:=bO (cfg:=fun y=>aQ sA (cF y)) bD (fun _=>rfl) (fun _=>y6) (n:=400) (by
 rw[Nc];rintro⟨s,c⟩ hpre;refine⟨(s,c),rfl,rfl,hpre,?_⟩;simp only at hpre⊢;rcases pB s c with⟨i,h1,h2,h3⟩|⟨h1,h2⟩
 . simp only[af,ag,h2,bV,h1,bF,iX,Ac,Ae];refine⟨fun h=>by omega,fun _=>⟨by omega,?_,?_,by omega,?_,?_⟩⟩
   . rw[AI];simp;omega
   . exact cB i (by omega)
   . rw[AI];omega
   . rw[show((i:Int)+1).toNat=i+1 by omega];simp
 . simp only[af,ag,h2,bV,h1,bF,iX,Ac,Ae];exact⟨fun _=>by simp,fun h=>absurd (by decide) h⟩)
theorem y7:∀g C,sB g=some C->CO g C:=bM MY y6
theorem Kg:CO jq oq:=bO (cfg:=fun y=>aQ sB (cq jq 2 (rU y))) bD (fun _=>rfl) (fun _=>y7) (n:=400) (by
 rw[J8];rintro⟨s,c⟩ hpre;simp only at hpre;refine⟨⟨(s,[]),⟨by simp,by simp⟩,⟨rfl,rfl,trivial,trivial⟩,⟨⟨rfl,fun _=>rfl⟩,trivial⟩,trivial⟩,?_⟩;rintro⟨t,l⟩ ⟨h1,h2⟩;simp only at h1 h2;refine⟨(t,c),rfl,rfl,by simp only;omega,(bV t c).1,rfl,?_⟩;simp only[af,ag];refine⟨by simp;omega,fun h=>⟨?_,trivial⟩,fun h=>⟨((bV t c).2.1,l++[(bV t c).1]),⟨?_,?_⟩,?_,by simp[aj]⟩⟩
 . have h3:=nH t c
   cases hp:bP t c with
   |none=>rw[hp]at h3;simp only at h3;simp only[bV,hp];rw[h1,h3]
   |some i=>simp[bV,hp]at h
 . have h3:=nH t c
   cases hp:bP t c with
   |none=>simp[bV,hp]at h
   |some i=>rw[hp]at h3;simp only at h3;simp only[bV,hp];rw[h1,h3];simp
 . cases hp:bP t c with
   |none=>simp[bV,hp]at h
   |some i=>
    obtain⟨h4,_⟩:=dF.1 hp;simp[bV,hp];omega
 . show(bV t c).2.1.length<t.length
   cases hp:bP t c with
   |none=>simp[bV,hp]at h
   |some i=>
    obtain⟨h4,_⟩:=dF.1 hp;simp[bV,hp];omega)
theorem MZ:CO mW lZ:=bO (cfg:=fun y=>aQ bI (cF y)) bD (fun _=>rfl) (fun _=>fb) (n:=400) (by
 rw[Nd];intro y _;simp only[af,dN,cy,BH];constructor<;>intro h<;>simp[h])
theorem y8:∀g C,sC g=some C->CO g C:=bM Kg (bM MZ y7)
theorem Lm:CO je oG:=bO (cfg:=fun y=>aQ sC (cq je 2 (sO y))) bD (fun _=>rfl) (fun _=>y8) (n:=400) (by
 rw[L9];intro s hpre;refine⟨⟨0,by simp,⟨rfl,rfl,trivial⟩,trivial,trivial⟩,?_⟩;intro i hi;have hle:=q9 s;simp only[af,au,ag,bF,Ac,Ae,BH];refine⟨fun hlt=>?_,fun hge=>?_⟩
 . have hlt':i<s.length:=by simp only[Aa]at hlt;omega
   refine⟨s[i],by simp[hlt'],s[i],rfl,trivial,fun h=>⟨cB i (by omega),i+1,?_,?_,by simp[aj]⟩,fun h=>?_⟩
   . apply Bt;intro hn;have:cm s=i:=by omega
     have h2:=uR (s:=s) (by omega);simp only[this]at h2;rw[h]at h2
     cases h2
   . show s.length - (i+1)<s.length - i
     omega
   . apply Bt;intro hn;have hlt2:i<cm s:=by simp only[aj]at hn;omega
     obtain⟨_,h2⟩:=yd hlt2;rw[h2]at h
     cases h
 . simp only[Aa]at hge;simp only[aj];omega)
theorem uq (n:Int) (h: -9223372036854775808<=n/\n<=9223372036854775807):Go.IntKind.wrap Go.IntKind.i64 n=n:=by rw[IntKind.wrap_i64];omega
theorem zK {b:UInt8} (h:cy b=true):Go.IntKind.wrap Go.IntKind.i64 (Go.IntKind.wrap Go.IntKind.u8 (Int.ofNat (UInt8.toNat b) - 48))=nB b - 48/\Go.IntKind.wrap Go.IntKind.i64 (Int.ofNat (UInt8.toNat b))=nB b/\0<=nB b - 48/\nB b - 48<=9:=by
 rw[lr]at h;rw[CR];have h1:Go.IntKind.wrap Go.IntKind.u8 (nB b - 48)=nB b - 48:=by simp only[IntKind.wrap,IntKind.signed,IntKind.bits,Bf,Ar,AE];omega
 rw[h1,uq _ (by omega),uq _ (by omega)];exact⟨rfl,rfl,by omega,by omega⟩
theorem fold_succ (s:Bs) (x:Nat) (h:x<s.length):(s.take (x+1)).foldl bB 0=bB ((s.take x).foldl bB 0) s[x]:=by
 rw[Al h,Dy];rfl
theorem yi (s:Bs) (h:∀b∈s,cy b=true) (x:Nat):0<=(s.take x).foldl bB 0/\(s.take x).foldl bB 0<=1099511627776:=
 xB _ (fun b hb=>h b (List.mem_of_mem_take hb)) 0 (by omega) (by omega)
theorem vq {y:Bs} (hne:ak y≠[]) (hd:∀b∈ak y,cy b=true):aS y=((if bS y then -1 else 1)*(ak y).foldl bB 0,true):=by
 have h1:¬cm (ak y)<(ak y).length:=by
  intro h;have h2:=uR h;rw[hd _ (Av h)]at h2
  cases h2
 unfold aS;rw[Ah (by rintro(h|h);exact hne h;exact h1 h)]
theorem oz {y:Bs} (h:ak y=[]\/cm (ak y)<(ak y).length):aS y=(0,false):=by
 unfold aS;rw[Ai h]
theorem zA (y t:Bs) (K:Int) (ht:t=ak y) (hK:K=if bS y=true then -1 else 1) (hne:ak y≠[]) (hd:∀b∈ak y,cy b=true) (hl:(ak y).length<=1000000):((∃(x:Nat),
      (x<=List.length (ak y)/\ ∀(b:UInt8),b∈ak y->cy b=Bool.true)/\
      (t=ak y/\
      aj K (if bS y=Bool.true then -1 else 1)/\
      aj 0 (List.foldl bB 0 (List.take x (ak y)))/\
      aj (Int.ofNat (List.length t)) (Int.ofNat (List.length (ak y)))/\aj 0 ↑x/\True)/\
      True/\True)/\
      ∀(x:Nat),
      (x<=List.length (ak y)/\ ∀(b:UInt8),b∈ak y->cy b=Bool.true)->
      br (bj (↑x) (Int.ofNat (List.length (ak y))))
      (ck (aX Go.IntKind.i64 (List.foldl bB 0 (List.take x (ak y))*10))
      (so (ak y)[Int.toNat ↑x]? fun(val:UInt8)=>
      ck
      (aX Go.IntKind.i64
      (List.foldl bB 0 (List.take x (ak y))*10+
      Go.IntKind.wrap Go.IntKind.i64 (Go.IntKind.wrap Go.IntKind.u8 (Int.ofNat (UInt8.toNat val) - 48))))
      (ck (aX Go.IntKind.i64 (↑x+1))
      (∃(y_2:Nat),
      (y_2<=List.length (ak y)/\ ∀(b:UInt8),b∈ak y->cy b=Bool.true)/\
      aE.μ (fv y) y_2<aE.μ (fv y) x/\
      (ak y=ak y/\
      aj (if bS y=Bool.true then -1 else 1) (if bS y=Bool.true then -1 else 1)/\
      aj
      (if
      1099511627776<
      List.foldl bB 0 (List.take x (ak y))*10+
      Go.IntKind.wrap Go.IntKind.i64 (Go.IntKind.wrap Go.IntKind.u8 (Int.ofNat (UInt8.toNat val) - 48))then
      1099511627776
      else
      List.foldl bB 0 (List.take x (ak y))*10+
      Go.IntKind.wrap Go.IntKind.i64 (Go.IntKind.wrap Go.IntKind.u8 (Int.ofNat (UInt8.toNat val) - 48)))
      (List.foldl bB 0 (List.take y_2 (ak y)))/\
      aj (Int.ofNat (List.length (ak y))) (Int.ofNat (List.length (ak y)))/\
      aj (↑x+1) ↑y_2/\True)/\
      True/\True))))
      (ck
      (aX Go.IntKind.i64 ((if bS y=Bool.true then -1 else 1)*List.foldl bB 0 (List.take x (ak y))))
      (aj ((if bS y=Bool.true then -1 else 1)*List.foldl bB 0 (List.take x (ak y)))
      (Prod.fst (aS y))/\
      Bool.true=Prod.snd (aS y)/\True))):=by
 refine⟨⟨0,⟨by simp,hd⟩,⟨ht,hK,by simp[aj],by rw[ht],by simp[aj],trivial⟩,trivial,trivial⟩,?_⟩;rintro x ⟨hx,_⟩;obtain⟨r1,r2⟩:=yi _ hd x;simp only[af,au,ag,bF,Ac,Ae,BH];refine⟨fun hlt=>?_,fun hge=>?_⟩
 . have hlt':x<(ak y).length:=by simp only[Aa]at hlt;omega
   obtain⟨d1,_,d3,d4⟩:=zK (hd _ (Av hlt'));refine⟨by rw[dQ];omega,(ak y)[x],by simp[hlt'],?_,cB x (by omega),x+1,⟨by omega,hd⟩,?_,?_⟩
   . rw[d1,dQ];omega
   . show(ak y).length - (x+1)<(ak y).length - x
     omega
   . refine⟨trivial,trivial,?_,trivial,by simp[aj]⟩;rw[fold_succ _ _ hlt',d1];simp only[bB,aj];omega
 . have he:x=(ak y).length:=by simp only[Aa]at hge;omega
   subst he;rw[Di,vq hne hd]at*;refine⟨?_,by simp[aj]⟩;rw[dQ];split<;>omega
theorem yz (y:Bs) (K:Int) (hK:K=Int.ofNat (bw y)) (hne:ak y≠[]) (hd:∀b∈ak y,cy b=true) (hl:y.length<=1000000):((∃(x:Nat),
        (bw y<=x/\x<=List.length y/\ ∀(b:UInt8),b∈ak y->cy b=Bool.true)/\
        (y=y/\
        aj K (Int.ofNat (bw y))/\
        aj 0 (List.foldl bB 0 (List.take (x - bw y) (ak y)))/\aj K ↑x/\True)/\
        True/\True)/\
        ∀(x:Nat),
        (bw y<=x/\x<=List.length y/\ ∀(b:UInt8),b∈ak y->cy b=Bool.true)->
        br (bj (↑x) (Int.ofNat (List.length y)))
        (ck (aX Go.IntKind.i64 (List.foldl bB 0 (List.take (x - bw y) (ak y))*10))
        (so y[Int.toNat ↑x]? fun(val:UInt8)=>
        ck
        (aX Go.IntKind.i64
        (List.foldl bB 0 (List.take (x - bw y) (ak y))*10+
        Go.IntKind.wrap Go.IntKind.i64 (Int.ofNat (UInt8.toNat val))))
        (ck
        (aX Go.IntKind.i64
        (List.foldl bB 0 (List.take (x - bw y) (ak y))*10+
        Go.IntKind.wrap Go.IntKind.i64 (Int.ofNat (UInt8.toNat val)) -
        48))
        (br
        (bj 1099511627776
        (List.foldl bB 0 (List.take (x - bw y) (ak y))*10+
        Go.IntKind.wrap Go.IntKind.i64 (Int.ofNat (UInt8.toNat val)) -
        48))
        (ck (aX Go.IntKind.i64 (↑x+1))
        (∃(y_2:Nat),
        (bw y<=y_2/\y_2<=List.length y/\ ∀(b:UInt8),b∈ak y->cy b=Bool.true)/\
        aE.μ (fF y) y_2<aE.μ (fF y) x/\
        (y=y/\
        aj (Int.ofNat (bw y)) (Int.ofNat (bw y))/\
        aj 1099511627776 (List.foldl bB 0 (List.take (y_2 - bw y) (ak y)))/\
        aj (↑x+1) ↑y_2/\True)/\
        True/\True))
        (ck (aX Go.IntKind.i64 (↑x+1))
        (∃(y_2:Nat),
        (bw y<=y_2/\y_2<=List.length y/\ ∀(b:UInt8),b∈ak y->cy b=Bool.true)/\
        aE.μ (fF y) y_2<aE.μ (fF y) x/\
        (y=y/\
        aj (Int.ofNat (bw y)) (Int.ofNat (bw y))/\
        aj
        (List.foldl bB 0 (List.take (x - bw y) (ak y))*10+
        Go.IntKind.wrap Go.IntKind.i64 (Int.ofNat (UInt8.toNat val)) -
        48)
        (List.foldl bB 0 (List.take (y_2 - bw y) (ak y)))/\
        aj (↑x+1) ↑y_2/\True)/\
        True/\True))))))
        (br (Int.ofNat (bw y)==1)
        (ck (aX Go.IntKind.i64 (0 - List.foldl bB 0 (List.take (x - bw y) (ak y))))
        (aj (0 - List.foldl bB 0 (List.take (x - bw y) (ak y))) (Prod.fst (aS y))/\
        Bool.true=Prod.snd (aS y)/\True))
        (aj (List.foldl bB 0 (List.take (x - bw y) (ak y))) (Prod.fst (aS y))/\
        Bool.true=Prod.snd (aS y)/\True))):=by
 have hlen:(ak y).length=y.length - bw y:=by unfold ak bw;split<;>simp
 have hpos:0<(ak y).length:=A5.2 hne;have hget:∀x (h:x<y.length),bw y<=x->y[x]=(ak y)[x - bw y]'(by omega):=by
   intro x h h2;have e:(ak y)[x - bw y]? =y[x]? :=by
     unfold ak bw;unfold bw at h2;split
     . rename_i hn;rw[Ai hn]at h2;rw[BB];congr 1
       omega
     . simp
   rw[Af h,Af (by omega)]at e;exact(Bi e).symm
 refine⟨⟨bw y,⟨An _,by omega,hd⟩,⟨rfl,hK,by simp[aj],by simp[aj,hK],trivial⟩,trivial,trivial⟩,?_⟩;rintro x ⟨hx0,hx,_⟩;obtain⟨r1,r2⟩:=yi _ hd (x - bw y);simp only[af,au,ag,bF,Ac,Ae,BH];refine⟨fun hlt=>?_,fun hge=>?_⟩
 . have hlt':x<y.length:=by simp only[Aa]at hlt;omega
   have hg:=hget x hlt' hx0;have hdx:cy y[x]=true:=by rw[hg];exact hd _ (Av _)
   obtain⟨_,d1,d3,d4⟩:=zK hdx;have hs:List.foldl bB 0 (List.take (x+1 - bw y) (ak y))=bB (List.foldl bB 0 (List.take (x - bw y) (ak y))) y[x]:=by
     rw[show x+1 - bw y=(x - bw y)+1 by omega,fold_succ _ _ (by omega),hg]
   have hm:aE.μ (fF y) (x+1)<aE.μ (fF y) x:=by
     show y.length - (x+1)<y.length - x
     omega
   refine⟨by rw[dQ];omega,y[x],by simp[hlt'],?_,?_,fun h1=>⟨cB x (by omega),x+1,⟨by omega,by omega,hd⟩,hm,?_⟩,fun h1=>⟨cB x (by omega),x+1,⟨by omega,by omega,hd⟩,hm,?_⟩⟩
   . rw[d1,dQ];omega
   . rw[d1,dQ];omega
   . refine⟨trivial,trivial,?_,by simp[aj]⟩;rw[d1]at h1;rw[hs];simp only[bB,aj];omega
   . refine⟨trivial,trivial,?_,by simp[aj]⟩;rw[d1]at h1;rw[hs,d1];simp only[bB,aj];omega
 . have he:x=y.length:=by simp only[Aa]at hge;omega
   subst he;rw[show y.length - bw y=(ak y).length by omega,Di]at*;rw[vq hne hd];unfold bw
   cases hn:bS y
   . simp[aj]
   . simp only[AY];refine⟨fun _=>⟨by rw[dQ];omega,by simp[aj]⟩,fun h=>by simp at h⟩
theorem KN:CO ji oG:=bO (cfg:=fun y=>aQ bI (cq ji 3 (iC y))) bD (fun _=>rfl) (fun _=>fb) (n:=400) (by
 rw[Kw];intro s hpre;refine⟨⟨0,by simp,⟨rfl,by simp[aj],rfl,trivial⟩,trivial,trivial⟩,?_⟩;intro i hi;have hle:=q9 s;simp only[af,au,ag,bF,dN,Ac,Ae,BH];refine⟨fun hlt=>?_,fun hge=>?_⟩
 . have hlt':i<s.length:=by simp only[Aa]at hlt;omega
   have hm:aE.μ (iC s) (i+1)<aE.μ (iC s) i:=by
     show s.length - (i+1)<s.length - i
     omega
   have no:cy s[i]=false->cm s<=i:=by
     intro h;apply Bt;intro hn;obtain⟨_,h2⟩:=yd (show i<cm s by omega);rw[h2]at h
     cases h
   have step:∀(n:Int),n=Int.ofNat (min (i+1) (cm s))->n=Int.ofNat (min (i+1) (cm s)):=fun _ h=>h
   refine⟨fun hq=>⟨s[i],by simp[hlt'],fun h1=>⟨s[i],by simp[hlt'],fun h2=>⟨by rw[dQ];simp only[Aa];omega,cB i (by omega),i+1,by omega,hm,trivial,?_,by simp[aj]⟩,fun h2=>⟨cB i (by omega),i+1,by omega,hm,trivial,?_,by simp[aj]⟩⟩,fun h1=>⟨cB i (by omega),i+1,by omega,hm,trivial,?_,by simp[aj]⟩⟩,fun hq=>⟨cB i (by omega),i+1,by omega,hm,trivial,?_,by simp[aj]⟩⟩
   . have hd:cy s[i]=true:=by rw[lr];exact⟨h1,h2⟩
     have:¬cm s<=i:=by
      intro hn;simp only[Aa,AK]at hq;have he:cm s=i:=by omega
      have h3:=uR (s:=s) (by omega);simp only[he]at h3;rw[hd]at h3
      cases h3
     simp only[aj,Aa];omega
   . have hd:cy s[i]=false:=by rw[Ap];intro h;rw[lr]at h;exact h2 h.2
     have:=no hd;simp only[aj,Aa];omega
   . have hd:cy s[i]=false:=by rw[Ap];intro h;rw[lr]at h;exact h1 h.1
     have:=no hd;simp only[aj,Aa];omega
   . simp only[Aa,AJ]at hq;simp only[aj,Aa];omega
 . simp only[Aa]at hge;simp only[aj,Aa];omega)
theorem Gz {s:Bs} {c:Int} {a i:Nat} (hai:a<=i) (h:i<s.length) (h1:nB s[i]=c) (h2:∀(j:Nat) (h:j<s.length),a<=j->j<i->nB s[j]=c->False):aB (s.drop a) c=(s.drop a).take (i - a)::aB (s.drop (i+1)) c:=by
 have hp:bP (s.drop a) c=some (i - a):=dF.2 ⟨by simp;omega,by rw[BQ];simp only[show a+(i - a)=i by omega];exact h1,fun j hj=>by
  rw[BQ];exact fun e=>h2 (a+j) (by omega) (by omega) (by omega) e⟩
 rw[nH,hp];simp only[Dq];rw[show a+(i - a+1)=i+1 by omega]
theorem GA {s:Bs} {c:Int} {a:Nat} (h2:∀(j:Nat) (h:j<s.length),a<=j->nB s[j]=c->False):aB (s.drop a) c=[s.drop a]:=by
 have hp:bP (s.drop a) c=none:=fB.2 (fun j hj=>by
  rw[BQ];exact fun e=>h2 (a+j) (by simp at hj;omega) (by omega) e)
 rw[nH,hp]
theorem I5:CO jr oq:=bO (cfg:=fun y=>aQ bI (cq jr 4 (nY y))) bD (fun _=>rfl) (fun _=>fb) (n:=400) (by
 rw[JX];rintro⟨s,c⟩ hpre;simp only at hpre;refine⟨⟨(0,0,[]),⟨by simp,by simp,by simp,by simp,fun j h _ hj=>by simp at hj⟩,⟨rfl,rfl,trivial,rfl,rfl,trivial⟩,⟨rfl,trivial⟩,trivial⟩,?_⟩;rintro⟨a,i,l⟩ ⟨h1,h2,h3,h4,h5⟩;simp only at h1 h2 h3 h4 h5;simp only[af,au,ag,bF,Ac,Ae,BH,Dc];refine⟨fun hlt=>?_,fun hge=>?_⟩
 . have hlt':i<s.length:=by simp only[Aa]at hlt;omega
   refine⟨s[i],by simp[hlt'],fun hc=>?_,fun hc=>⟨cB i (by omega),(a,i+1,l),⟨by simp only;omega,by simp only;omega,h3,h4,fun j hj ha hji he=>?_⟩,?_,by simp[aj]⟩⟩
   . have hc':nB s[i]=c:=by simpa [nB]using hc
     have hs:=Gz h1 hlt' hc' h5;refine⟨by simp;omega,_,rfl,by simp;omega,cB i (by omega),cB i (by omega),(i+1,i+1,l++[(s.drop a).take (i - a)]),⟨by simp,by simp only;omega,?_,by simp;omega,fun j hj ha hji=>by simp only at ha hji;omega⟩,?_,by simp[aj]⟩
     . rw[h3,hs];simp
     . show s.length - (i+1)<s.length - i
       omega
   . by_cases hji2:j=i
     . subst hji2;exact absurd he (by simpa [nB]using hc)
     . exact h5 j hj ha (by simp only at hji;omega) he
   . show s.length - (i+1)<s.length - i
     omega
 . have he:i=s.length:=by simp only[Aa]at hge;omega
   subst he;refine⟨by simpa using h1,_,rfl,by simp;omega,?_⟩;rw[h3,GA (fun j hj ha=>h5 j hj ha hj)])
theorem nM {y:Bs} (h:bS y=true):ak y=y.drop 1:=by unfold ak;rw[Ai h]
theorem pL {y:Bs} (h:bS y=false):ak y=y:=by unfold ak;rw[Ah (by simp[h])]
theorem jP {b:UInt8} {y:Bs}:bS (b::y)=(Int.ofNat b.toNat==45):=rfl
theorem qZ {y:Bs} (h:¬(↑(cm y):Int)<Int.ofNat y.length):∀b∈y,cy b=true:=qT (by simp only[Aa]at h;omega)
theorem uG:∀g C,oK g=some C->CO g C:=bM Lm (bM KN y8)
theorem M6:CO jf gY:=bO (cfg:=fun y=>aQ oK (cq jf 8 (fv y))) bD (fun _=>rfl) (fun _=>uG) (n:=400) (by
 rw[Nf];intro y hpre
 cases y with
 |nil=>
  have hn:aS []=(0,false):=rfl;refine af.2 ⟨fun h=>by simp at h,fun _=>af.2 ⟨fun _=>by rw[hn];exact⟨rfl,rfl,trivial⟩,fun h=>by simp at h⟩⟩
 |cons b s=>
  refine af.2 ⟨fun _=>au.2 ⟨b,rfl,af.2 ⟨fun hb=>ag.2 ⟨by simp,af.2 ⟨fun h=>?_,fun h=>⟨s,rfl,by simp at hpre;omega,af.2 ⟨fun hd=>?_,fun hd=>?_⟩⟩⟩⟩,fun hb=>af.2 ⟨fun h=>by simp at h,fun _=>⟨b::s,rfl,hpre,af.2 ⟨fun hd=>?_,fun hd=>?_⟩⟩⟩⟩⟩,fun h=>by simp at h⟩
  . have hg:bS (b::s)=true:=by rw[jP];exact hb
    have he:ak (b::s)=[]:=by rw[nM hg];simpa using h
    rw[oz (.inl he)];exact⟨rfl,rfl,trivial⟩
  . have hg:bS (b::s)=true:=by rw[jP];exact hb
    rw[bF,Ac]at hd;rw[oz (.inr (by rw[nM hg];simp only[Aa]at hd;simp at hd⊢;omega))];exact⟨rfl,rfl,trivial⟩
  . have hg:bS (b::s)=true:=by rw[jP];exact hb
    rw[bF,Ae]at hd;have ha:=nM hg;exact zA _ _ _ ha.symm (by rw[Ai hg]) (by rw[ha];simpa using h) (by rw[ha];exact qZ hd) (by rw[ha];simp at hpre⊢;omega)
  . have hg:bS (b::s)=false:=by rw[jP];exact hb
    rw[bF,Ac]at hd;rw[oz (.inr (by rw[pL hg];simp only[Aa]at hd;omega))];exact⟨rfl,rfl,trivial⟩
  . have hg:bS (b::s)=false:=by rw[jP];exact hb
    rw[bF,Ae]at hd;have ha:=pL hg;exact zA _ _ _ ha.symm (by rw[Ah (by simp[hg])]) (by rw[ha];simp) (by rw[ha];exact qZ hd) (by rw[ha];exact hpre))
theorem K2:CO jk gY:=bO (cfg:=fun y=>aQ oK (cq jk 8 (fF y))) bD (fun _=>rfl) (fun _=>uG) (n:=400) (by
 rw[Mf];intro y hpre
 cases y with
 |nil=>
  have hn:aS []=(0,false):=rfl;refine af.2 ⟨fun h=>by simp[bF]at h,fun _=>af.2 ⟨fun _=>by rw[hn];exact⟨rfl,rfl,trivial⟩,fun h=>by simp at h⟩⟩
 |cons b s=>
  have hbig:s.length+1<=1000000:=by simpa using hpre
  have hln:Int.ofNat (b::s).length=(s.length:Int)+1:=by simp
  rw[hln];refine af.2 ⟨fun _=>au.2 ⟨b,rfl,af.2 ⟨fun hb=>af.2 ⟨fun h=>?_,fun h=>ag.2 ⟨by simp,s,rfl,by omega,ag.2 ⟨by rw[dQ];omega,af.2 ⟨fun hd=>?_,fun hd=>?_⟩⟩⟩⟩,fun hb=>af.2 ⟨fun h=>by simp at h;omega,fun _=>⟨b::s,rfl,hpre,ag.2 ⟨by rw[dQ];omega,af.2 ⟨fun hd=>?_,fun hd=>?_⟩⟩⟩⟩⟩⟩,fun h=>by rw[bF]at h;simp at h<;>omega⟩
  . have hg:bS (b::s)=true:=by rw[jP];exact hb
    have hs:s=[]:=by simp at h;exact Ay (by omega)
    rw[oz (.inl (by rw[nM hg];simpa using hs))];exact⟨rfl,rfl,trivial⟩
  . have hg:bS (b::s)=true:=by rw[jP];exact hb
    rw[bF,Ac]at hd;rw[oz (.inr (by rw[nM hg];simp at hd⊢;omega))];exact⟨rfl,rfl,trivial⟩
  . have hg:bS (b::s)=true:=by rw[jP];exact hb
    rw[bF,Ae]at hd;have ha:=nM hg;have:=yz (b::s) 1 (by unfold bw;rw[Ai hg];rfl) (by rw[ha];intro e;simp at e;subst e;simp at h) (by rw[ha];exact qZ (by simp at hd⊢;omega)) hpre;rw[hln]at this;exact this
  . have hg:bS (b::s)=false:=by rw[jP];exact hb
    rw[bF,Ac]at hd;rw[oz (.inr (by rw[pL hg];simp at hd⊢;omega))];exact⟨rfl,rfl,trivial⟩
  . have hg:bS (b::s)=false:=by rw[jP];exact hb
    rw[bF,Ae]at hd;have ha:=pL hg;have:=yz (b::s) 0 (by unfold bw;rw[Ah (by simp[hg])];rfl) (by rw[ha];simp) (by rw[ha];exact qZ (by simp at hd⊢;omega)) hpre;rw[hln]at this;exact this)
theorem zh (k n:Nat) (h:n<=9):ij (k+1) n=[UInt8.ofNat (48+n)]:=by simp[ij,h]
theorem LW:CO jx wg:=bO (cfg:=fun y=>aQ bI (cq jx 6 (sm y))) bD (fun _=>rfl) (fun _=>fb) (n:=400) (by
 rw[LR];intro n hpre;have hpre:n<=1099511627776:=hpre;refine⟨⟨(30,n,[]),⟨by simp,by simp,by simp[fU],by simp,?_,An _⟩,⟨rfl,rfl,trivial⟩,trivial,trivial⟩,?_⟩
 . exact Nat.lt_of_le_of_lt hpre (by show 1099511627776<10 ^ 31;decide)
 rintro⟨k,m,s⟩ ⟨h1,h2,h3,h4,h5,h6⟩;simp only at h1 h2 h3 h4 h5 h6;have wr:∀d:Nat,d<=9->[SV.int Go.IntKind.u8 (Go.IntKind.wrap Go.IntKind.u8 (48+(d:Int)))]=mF [UInt8.ofNat (48+d)]:=by
   intro d hd;have:Go.IntKind.wrap Go.IntKind.u8 (48+(d:Int))=Int.ofNat (UInt8.ofNat (48+d)).toNat:=by
    simp only[IntKind.wrap,IntKind.signed,IntKind.bits,Bf,Ar,AE,UInt8.toNat_ofNat',Aa];omega
   rw[this];rfl
 have hk:9<m->1<=k:=by
   intro hm;apply Bt;intro hn;have:k=0:=by omega
   subst this;simp at h5;omega
 have tm:Int.tmod (m:Int) 10=((m % 10:Nat):Int):=rfl;have td:Int.tdiv (m:Int) 10=((m / 10:Nat):Int):=rfl;simp only[tm,td];refine af.2 ⟨fun h=>ag.2 ⟨?_,[UInt8.ofNat (48+m % 10)],wr _ (by omega),ag.2 ⟨by simp;omega,ag.2 ⟨?_,(k - 1,m / 10,UInt8.ofNat (48+m % 10)::s),⟨by simp only;omega,?_,?_,?_,?_,?_⟩,?_,⟨rfl,rfl,trivial⟩,trivial,trivial⟩⟩⟩,fun h=>ag.2 ⟨?_,[UInt8.ofNat (48+m)],wr _ ?_,ag.2 ⟨by simp;omega,?_,trivial⟩⟩⟩
 . rw[dQ];omega
 . rw[dQ];omega
 all_goals (simp only[bF,Ac,Ae]at h)
 . have:=hk (by omega);simp;omega
 . have:=hk (by omega);rw[h3,show 10+k=(10+(k - 1))+1 by omega];have hm:¬m<=9:=by omega
   simp only[ij,Ah hm];simp
 . have:=hk (by omega);simp;omega
 . have:=hk (by omega);simp only;rw[show k - 1+1=k by omega];rw[Nat.pow_succ]at h5;omega
 . simp only;omega
 . show m / 10<m
   omega
 . rw[dQ];omega
 . omega
 . rw[h3,show 10+k=(9+k)+1 by omega,zh _ _ (by omega)])
theorem uH:∀g C,sD g=some C->CO g C:=bM M6 (bM K2 (bM KO (bM I5 (bM LW uG))))
end
section
variable [Inhabited aL]
def vH:aH:={Y:=UInt8×Bool,pre:=fun _=>True,args:=fun y=>[.int .u8 (nB y.1), .bool y.2],res:=fun y=> .bool (eI (nB y.1) y.2)}
def v8:aH:={Y:=UInt8,pre:=fun _=>True,args:=fun y=>[.int .u8 (nB y)],res:=fun y=> .bool (eT y)}
def dY (p:Bs->Bool):aH:={Y:=Bs,pre:=fun y=>y.length<=100000,args:=fun y=>[.str y],res:=fun y=> .bool (p y)}
def lH (y:Bs):aE:={α:=Nat,ok:=fun i=>i<=y.length/\ ∀j (h:j<y.length),j<i->eI (nB y[j]) (j==0||j==y.length - 1)=true,μ:=fun i=>y.length - i,bu:=[],aV:=fun i=>[(0, .str y),(12,i64 (Int.ofNat y.length)),(13,i64 i)],bK:=fun _=>[]}
def lN (y:Bs):aE:={α:=Nat,ok:=fun i=>i<=(aB y 46).length/\ ∀j (h:j<(aB y 46).length),j<i->eP (aB y 46)[j]=true,μ:=fun i=>(aB y 46).length - i,bu:=[],aV:=fun i=>[(13,strs (aB y 46)),(14,i64 (Int.ofNat (aB y 46).length)),(15,i64 i)],bK:=fun _=>[]}
def eY (y:Bs):aE:=let l:=(y.drop 1).take (y.length - 2);{α:=Nat,ok:=fun i=>i<=l.length/\ ∀j (h:j<l.length),j<i->cg l[j]=true,μ:=fun i=>l.length - i,bu:=[],aV:=fun i=>[(31, .ax UInt8 l cf),(32,i64 (Int.ofNat l.length)),(33,i64 i)],bK:=fun _=>[]}
def eW (y:Bs):aE:={α:=Nat,ok:=fun i=>1<=i/\i+1<=y.length/\ ∀j (h:j<y.length),1<=j->j<i->cg y[j]=true,μ:=fun i=>y.length - i,bu:=[],aV:=fun i=>[(0, .str y),(3,i64 i)],bK:=fun _=>[]}
def sk (y:Bs):aE:={α:=Nat,ok:=fun i=>i<=(aB y 46).length/\ ∀j (h:j<(aB y 46).length),j<i->di (aB y 46)[j]=true,μ:=fun i=>(aB y 46).length - i,bu:=[],aV:=fun i=>[(13,strs (aB y 46)),(14,i64 (Int.ofNat (aB y 46).length)),(15,i64 i)],bK:=fun _=>[]}
def ve:aH:={Y:=Bs,pre:=fun y=>y.length<=100000,args:=fun y=>[.str y],res:=fun y=>strs (if bU y then aB y 46 else[])}
def oc:aH:={Y:=Bs×Bs,pre:=fun y=>y.1.length<=100000/\y.2.length<=100000,args:=fun y=>[.str y.1, .str y.2],res:=fun y=> .bool (decide (y.1.take y.2.length=y.2))}
def vF:aH:={Y:=Bs,pre:=fun y=>y.length<=100000,args:=fun y=>[.str y],res:=fun y=> .bg [.agg [.str (bG y).1, .bool (bG y).2.1, .bool (bG y).2.2], .bool (cX y)]}
def gR (l:List Bs):Int:=if 256<l.length then 3 else if l.all cX then 0 else 1
def vb:aH:={Y:=List Bs,pre:=fun y=>y.length<=100000/\ ∀s∈y,s.length<=100000,args:=fun y=>[strs y],res:=fun y=>i64 (gR y)}
def rE (y:List Bs):aE:={α:=Nat,ok:=fun i=>i<=y.length/\ ∀j (h:j<y.length),j<i->cX y[j]=true,μ:=fun i=>y.length - i,bu:=[],aV:=fun i=>[(10,strs y),(11,i64 (Int.ofNat y.length)),(12,i64 i)],bK:=fun _=>[]}
def rF (y:Bs):aE:={α:=Nat,ok:=fun i=>i<=y.length/\ ∀j (h:j<y.length),j<i->eT y[j]=true,μ:=fun i=>y.length - i,bu:=[],aV:=fun i=>[(0, .str y),(3,i64 i)],bK:=fun _=>[]}
def rQ (y:Bs):aE:={α:=Nat,ok:=fun i=>i<=4/\ ∀j (h:j<(aB y 46).length),j<i->eP (aB y 46)[j]=true,μ:=fun i=>4 - i,bu:=[],aV:=fun i=>[(3,strs (aB y 46)),(4,i64 i)],bK:=fun _=>[]}
def rS (y:Bs):aE:={α:=Nat,ok:=fun i=>i<=(aB y 46).length/\ ∀j (h:j<(aB y 46).length),j<i->di (aB y 46)[j]=true,μ:=fun i=>(aB y 46).length - i,bu:=[],aV:=fun i=>[(3,strs (aB y 46)),(4,i64 i)],bK:=fun _=>[]}
def cN (y:Bs):Int×Bs:=if 2<y.length/\y.take 2=[42,46]then(42,y.drop 2)else if 1<y.length/\y.head? =some 33 then(33,y.drop 1)else(0,y)
def vg:aH:={Y:=Bs,pre:=fun y=>y.length<=100000,args:=fun y=>[.str y],res:=fun y=> .bg [.int .u8 (cN y).1, .str (cN y).2]}
def vG:aH:={Y:=List Bs,pre:=fun y=>y.length<=100000/\ ∀s∈y,s.length<=100000,args:=fun y=>[strs y],res:=fun y=> .bool (y.all cX)}
def rT (y:List Bs):aE:={α:=Nat,ok:=fun i=>i<=y.length/\ ∀j (h:j<y.length),j<i->cX y[j]=true,μ:=fun i=>y.length - i,bu:=[],aV:=fun i=>[(0,strs y),(3,i64 i)],bK:=fun _=>[]}
noncomputable def iF (f:FuncId):Option aH:=bif Nat.beq f nz then some vH else bif Nat.beq f np then some v8 else sD f
noncomputable def lL (f:FuncId):Option aH:=bif Nat.beq f jv then some (dY di)else bif Nat.beq f js then some (dY di)else bif Nat.beq f jB then some (dY dO)else bif Nat.beq f jz then some (dY dO)else bif Nat.beq f jh then some (dY dK)else bif Nat.beq f jd then some (dY dK)else iF f
noncomputable def sH (f:FuncId):Option aH:=bif Nat.beq f mT then some (dY eX)else bif Nat.beq f mR then some (dY eX)else bif Nat.beq f jy then some (dY bU)else lL f
noncomputable def oM (f:FuncId):Option aH:=bif Nat.beq f jC then some (dY bU)else bif Nat.beq f wK then some oc else sH f
noncomputable def oN (f:FuncId):Option aH:=bif Nat.beq f na then some ve else bif Nat.beq f mM then some oc else bif Nat.beq f nb then some vg else oM f
noncomputable def oO (f:FuncId):Option aH:=bif Nat.beq f mU then some vF else bif Nat.beq f nq then some (dY cX)else oN f
noncomputable def wk (f:FuncId):Option aH:=bif Nat.beq f jo then some vb else bif Nat.beq f jt then some vG else oO f
end
section
variable [Inhabited aL]
theorem J7:(bx (fun(y:aH.Y vH)=>aQ bI (cF y)) 400 nz)=(∀(y:UInt8×Bool),
 True->
 br (nB y.1==45)
 (br y.2 (false=eI (nB y.1) y.2/\True)
 (true=eI (nB y.1) y.2/\True))
 (br (bA 97 (nB y.1))
 (br (bA (nB y.1) 122) (true=eI (nB y.1) y.2/\True)
 (br (bA 48 (nB y.1))
 (br (bA (nB y.1) 57) (true=eI (nB y.1) y.2/\True)
 (br (nB y.1==95) (true=eI (nB y.1) y.2/\True)
 (false=eI (nB y.1) y.2/\True)))
 (br (nB y.1==95) (true=eI (nB y.1) y.2/\True)
 (false=eI (nB y.1) y.2/\True))))
 (br (bA 48 (nB y.1))
 (br (bA (nB y.1) 57) (true=eI (nB y.1) y.2/\True)
 (br (nB y.1==95) (true=eI (nB y.1) y.2/\True)
 (false=eI (nB y.1) y.2/\True)))
 (br (nB y.1==95) (true=eI (nB y.1) y.2/\True)
 (false=eI (nB y.1) y.2/\True))))):=by kernel_rfl
theorem LQ:(bx (fun(y:aH.Y v8)=>aQ bI (cF y)) 400 np)=(∀(y:UInt8),
 True->
 br (bA 97 (nB y))
 (br (bA (nB y) 122) (true=eT y/\True)
 (br (bA 48 (nB y))
 (br (bA (nB y) 57) (true=eT y/\True)
 (br (nB y==45) (true=eT y/\True) ((nB y==95)=eT y/\True)))
 (br (nB y==45) (true=eT y/\True) ((nB y==95)=eT y/\True))))
 (br (bA 48 (nB y))
 (br (bA (nB y) 57) (true=eT y/\True)
 (br (nB y==45) (true=eT y/\True) ((nB y==95)=eT y/\True)))
 (br (nB y==45) (true=eT y/\True) ((nB y==95)=eT y/\True)))):=by kernel_rfl
theorem J1:(bx (fun(y:aH.Y (dY di))=>aQ iF (cq jv 4 (lH y))) 400 jv)=(∀(y:List UInt8),
 y.length<=100000->
 br (y==Array.toList (ByteArray.data {data:=#[]})) (false=di y/\True)
 (br (bj 63 (Int.ofNat y.length)) (false=di y/\True)
 ((∃(x:Nat),
 (x<=y.length/\ ∀(j:Nat) (h:j<y.length),j<x->eI (nB y[j]) (j==0||j==y.length - 1)=true)/\
 (y=y/\aj (Int.ofNat y.length) (Int.ofNat y.length)/\aj 0 ↑x/\True)/\True/\True)/\
 ∀(x:Nat),
 (x<=y.length/\ ∀(j:Nat) (h:j<y.length),j<x->eI (nB y[j]) (j==0||j==y.length - 1)=true)->
 br (bj (↑x) (Int.ofNat y.length))
 (so y[Int.toNat ↑x]? fun(val:UInt8)=>
 br ((↑x:Int)==0)
 (∃(y_1:UInt8×Bool),
 aj (Int.ofNat (UInt8.toNat val)) (nB y_1.1)/\
 true=y_1.2/\
 True/\
 br (!eI (nB y_1.1) y_1.2) (false=di y/\True)
 (ck (aX .i64 (↑x+1))
 (∃(y_2:Nat),
 (y_2<=y.length/\
 ∀(j:Nat) (h:j<y.length),j<y_2->eI (nB y[j]) (j==0||j==y.length - 1)=true)/\
 aE.μ (lH y) y_2<aE.μ (lH y) x/\
 (y=y/\aj (Int.ofNat y.length) (Int.ofNat y.length)/\aj (↑x+1) ↑y_2/\True)/\True/\True)))
 (ck (aX .i64 (Int.ofNat y.length - 1))
 (∃(y_1:UInt8×Bool),
 aj (Int.ofNat (UInt8.toNat val)) (nB y_1.1)/\
 ((↑x:Int)==Int.ofNat y.length - 1)=y_1.2/\
 True/\
 br (!eI (nB y_1.1) y_1.2) (false=di y/\True)
 (ck (aX .i64 (↑x+1))
 (∃(y_2:Nat),
 (y_2<=y.length/\
 ∀(j:Nat) (h:j<y.length),j<y_2->eI (nB y[j]) (j==0||j==y.length - 1)=true)/\
 aE.μ (lH y) y_2<aE.μ (lH y) x/\
 (y=y/\aj (Int.ofNat y.length) (Int.ofNat y.length)/\aj (↑x+1) ↑y_2/\True)/\True/\True)))))
 (true=di y/\True)))):=by kernel_rfl
theorem IM:(bx (fun(y:aH.Y (dY di))=>aQ iF (cq js 4 (rF y))) 400 js)=(∀(y:List UInt8),
 y.length<=100000->
 br (bj (Int.ofNat y.length) 1) (false=di y/\True)
 (br (bj 63 (Int.ofNat y.length)) (false=di y/\True)
 (so y[Int.toNat 0]? fun(val:UInt8)=>
 br (Int.ofNat (UInt8.toNat val)==45) (false=di y/\True)
 (ck (aX .i64 (Int.ofNat y.length - 1))
 (ck (nn (Int.ofNat y.length - 1))
 (so y[Int.toNat (Int.ofNat y.length - 1)]? fun(val:UInt8)=>
 br (Int.ofNat (UInt8.toNat val)==45) (false=di y/\True)
 ((∃(x:Nat),
 (x<=y.length/\ ∀(j:Nat) (h:j<y.length),j<x->eT y[j]=true)/\(y=y/\aj 0 ↑x/\True)/\True/\True)/\
 ∀(x:Nat),
 (x<=y.length/\ ∀(j:Nat) (h:j<y.length),j<x->eT y[j]=true)->
 br (bj (↑x) (Int.ofNat y.length))
 (so y[Int.toNat ↑x]? fun(val:UInt8)=>
 ∃(y_1:UInt8),
 aj (Int.ofNat (UInt8.toNat val)) (nB y_1)/\
 True/\
 br (!eT y_1) (false=di y/\True)
 (ck (aX .i64 (↑x+1))
 (∃(y_2:Nat),
 (y_2<=y.length/\ ∀(j:Nat) (h:j<y.length),j<y_2->eT y[j]=true)/\
 aE.μ (rF y) y_2<aE.μ (rF y) x/\(y=y/\aj (↑x+1) ↑y_2/\True)/\True/\True)))
 (true=di y/\True)))))))):=by kernel_rfl
theorem Mb:(bx (fun(y:aH.Y (dY dO))=>aQ iF (cq jB 5 (lN y))) 400 jB)=(∀(y:List UInt8),
 y.length<=100000->
 ∃(y_1:Bs×Int),
 y=y_1.1/\
 aj 46 y_1.2/\
 y_1.1.length<=100000/\
 br (!Int.ofNat (List.length (aB y_1.1 y_1.2))==4) (false=dO y/\True)
 ((∃(x:Nat),
 (x<=List.length (aB y 46)/\
 ∀(j:Nat) (h:j<List.length (aB y 46)),j<x->eP (aB y 46)[j]=true)/\
 (SV.ax Bs (aB y_1.1 y_1.2) cI=SV.ax Bs (aB y 46) cI/\
 aj (Int.ofNat (List.length (aB y_1.1 y_1.2))) (Int.ofNat (List.length (aB y 46)))/\
 aj 0 ↑x/\True)/\
 True/\True)/\
 ∀(x:Nat),
 (x<=List.length (aB y 46)/\
 ∀(j:Nat) (h:j<List.length (aB y 46)),j<x->eP (aB y 46)[j]=true)->
 br (bj (↑x) (Int.ofNat (List.length (aB y 46))))
 (so (aB y 46)[Int.toNat ↑x]? fun(val:Bs)=>
 ∃(y_2:List UInt8),
 val=y_2/\
 y_2.length<=1000000/\
 br (val==Array.toList (ByteArray.data {data:=#[]})) (false=dO y/\True)
 (∃(y_3:List UInt8),
 val=y_3/\
 y_3.length<=1000000/\
 br (bj (↑(cm y_3)) (Int.ofNat val.length)) (false=dO y/\True)
 (br (bj 255 (Prod.fst (aS y_2))) (false=dO y/\True)
 (br (bj 1 (Int.ofNat val.length))
 (so val[Int.toNat 0]? fun(val:UInt8)=>
 br (Int.ofNat (UInt8.toNat val)==48) (false=dO y/\True)
 (ck (aX .i64 (↑x+1))
 (∃(y_4:Nat),
 (y_4<=List.length (aB y 46)/\
 ∀(j:Nat) (h:j<List.length (aB y 46)),
 j<y_4->eP (aB y 46)[j]=true)/\
 aE.μ (lN y) y_4<aE.μ (lN y) x/\
 (SV.ax Bs (aB y 46) cI=
 SV.ax Bs (aB y 46) cI/\
 aj (Int.ofNat (List.length (aB y 46))) (Int.ofNat (List.length (aB y 46)))/\
 aj (↑x+1) ↑y_4/\True)/\
 True/\True)))
 (ck (aX .i64 (↑x+1))
 (∃(y_4:Nat),
 (y_4<=List.length (aB y 46)/\
 ∀(j:Nat) (h:j<List.length (aB y 46)),j<y_4->eP (aB y 46)[j]=true)/\
 aE.μ (lN y) y_4<aE.μ (lN y) x/\
 (SV.ax Bs (aB y 46) cI=
 SV.ax Bs (aB y 46) cI/\
 aj (Int.ofNat (List.length (aB y 46))) (Int.ofNat (List.length (aB y 46)))/\
 aj (↑x+1) ↑y_4/\True)/\
 True/\True))))))
 (true=dO y/\True))):=by kernel_rfl
theorem Ky:(bx (fun(y:aH.Y (dY dO))=>aQ iF (cq jz 5 (rQ y))) 400 jz)=(∀(y:List UInt8),
 y.length<=100000->
 ∃(y_1:Bs×Int),
 y=y_1.1/\
 aj 46 y_1.2/\
 y_1.1.length<=100000/\
 br (!Int.ofNat (List.length (aB y_1.1 y_1.2))==4) (false=dO y/\True)
 ((∃(x:Nat),
 (x<=4/\ ∀(j:Nat) (h:j<List.length (aB y 46)),j<x->eP (aB y 46)[j]=true)/\
 (SV.ax Bs (aB y_1.1 y_1.2) cI=SV.ax Bs (aB y 46) cI/\
 aj 0 ↑x/\True)/\
 True/\True)/\
 ∀(x:Nat),
 (x<=4/\ ∀(j:Nat) (h:j<List.length (aB y 46)),j<x->eP (aB y 46)[j]=true)->
 br (bj (↑x) 4)
 (so (aB y 46)[Int.toNat ↑x]? fun(val:Bs)=>
 br (bj (Int.ofNat val.length) 1) (false=dO y/\True)
 (so (aB y 46)[Int.toNat ↑x]? fun(val:Bs)=>
 br (bj 3 (Int.ofNat val.length)) (false=dO y/\True)
 (so (aB y 46)[Int.toNat ↑x]? fun(val:Bs)=>
 so (aB y 46)[Int.toNat ↑x]? fun(val_1:Bs)=>
 ∃(y_2:List UInt8),
 val=y_2/\
 y_2.length<=1000000/\
 br (!↑(cm y_2)==Int.ofNat val_1.length) (false=dO y/\True)
 (so (aB y 46)[Int.toNat ↑x]? fun(val:Bs)=>
 ∃(y_3:List UInt8),
 val=y_3/\
 y_3.length<=1000000/\
 br (bj 255 (Prod.fst (aS y_3))) (false=dO y/\True)
 (so (aB y 46)[Int.toNat ↑x]? fun(val:Bs)=>
 ∃(y_4:Nat),
 aj (Prod.fst (aS y_3)) ↑y_4/\
 y_4<=1099511627776/\
 br (!fU y_4==val) (false=dO y/\True)
 (ck (aX .i64 (↑x+1))
 (∃(y_5:Nat),
 (y_5<=4/\
 ∀(j:Nat) (h:j<List.length (aB y 46)),
 j<y_5->eP (aB y 46)[j]=true)/\
 aE.μ (rQ y) y_5<aE.μ (rQ y) x/\
 (SV.ax Bs (aB y 46) cI=
 SV.ax Bs (aB y 46) cI/\
 aj (↑x+1) ↑y_5/\True)/\
 True/\True)))))))
 (true=dO y/\True))):=by kernel_rfl
theorem Kv:(bx (fun(y:aH.Y (dY dK))=>aQ iF (cq jh 4 (eY y))) 400 jh)=(∀(y:List UInt8),
 y.length<=100000->
 br (bj (Int.ofNat y.length) 4) (false=dK y/\True)
 (br (bj 47 (Int.ofNat y.length)) (false=dK y/\True)
 (so y[Int.toNat 0]? fun(val:UInt8)=>
 br (!Int.ofNat (UInt8.toNat val)==91) (false=dK y/\True)
 (ck (aX .i64 (Int.ofNat y.length - 1))
 (ck (nn (Int.ofNat y.length - 1))
 (so y[Int.toNat (Int.ofNat y.length - 1)]? fun(val:UInt8)=>
 br (!Int.ofNat (UInt8.toNat val)==93) (false=dK y/\True)
 (ck (aX .i64 (Int.ofNat y.length - 1))
 (ck (nn (Int.ofNat y.length - 1))
 (ck (Nat.ble (Int.toNat 1) (Int.toNat (Int.ofNat y.length - 1))&&Nat.ble (Int.toNat (Int.ofNat y.length - 1)) y.length)
 ((∃(x:Nat),
 (x<=List.length (List.take (y.length - 2) (List.drop 1 y))/\
 ∀(j:Nat) (h:j<List.length (List.take (y.length - 2) (List.drop 1 y))),
 j<x->cg (List.take (y.length - 2) (List.drop 1 y))[j]=true)/\
 (SV.ax UInt8 (List.take (Int.toNat (Int.ofNat y.length - 1) - Int.toNat 1) (List.drop (Int.toNat 1) y)) cf=
 SV.ax UInt8 (List.take (y.length - 2) (List.drop 1 y)) cf/\
 aj (Int.ofNat (List.length (List.take (Int.toNat (Int.ofNat y.length - 1) - Int.toNat 1) (List.drop (Int.toNat 1) y))))
 (Int.ofNat (List.length (List.take (y.length - 2) (List.drop 1 y))))/\
 aj 0 ↑x/\True)/\
 True/\True)/\
 ∀(x:Nat),
 (x<=List.length (List.take (y.length - 2) (List.drop 1 y))/\
 ∀(j:Nat) (h:j<List.length (List.take (y.length - 2) (List.drop 1 y))),
 j<x->cg (List.take (y.length - 2) (List.drop 1 y))[j]=true)->
 br (bj (↑x) (Int.ofNat (List.length (List.take (y.length - 2) (List.drop 1 y)))))
 (so (List.take (y.length - 2) (List.drop 1 y))[Int.toNat ↑x]? fun(val:UInt8)=>
 br (bA 48 (Int.ofNat (UInt8.toNat val)))
 (br (bA (Int.ofNat (UInt8.toNat val)) 57)
 (ck (aX .i64 (↑x+1))
 (∃(y_1:Nat),
 (y_1<=List.length (List.take (y.length - 2) (List.drop 1 y))/\
 ∀(j:Nat) (h:j<List.length (List.take (y.length - 2) (List.drop 1 y))),
 j<y_1->cg (List.take (y.length - 2) (List.drop 1 y))[j]=true)/\
 aE.μ (eY y) y_1<aE.μ (eY y) x/\
 (SV.ax UInt8 (List.take (y.length - 2) (List.drop 1 y)) cf=
 SV.ax UInt8 (List.take (y.length - 2) (List.drop 1 y)) cf/\
 aj (Int.ofNat (List.length (List.take (y.length - 2) (List.drop 1 y))))
 (Int.ofNat (List.length (List.take (y.length - 2) (List.drop 1 y))))/\
 aj (↑x+1) ↑y_1/\True)/\
 True/\True))
 (br (bA 97 (Int.ofNat (UInt8.toNat val)))
 (br (bA (Int.ofNat (UInt8.toNat val)) 102)
 (ck (aX .i64 (↑x+1))
 (∃(y_1:Nat),
 (y_1<=List.length (List.take (y.length - 2) (List.drop 1 y))/\
 ∀(j:Nat) (h:j<List.length (List.take (y.length - 2) (List.drop 1 y))),
 j<y_1->cg (List.take (y.length - 2) (List.drop 1 y))[j]=true)/\
 aE.μ (eY y) y_1<aE.μ (eY y) x/\
 (SV.ax UInt8 (List.take (y.length - 2) (List.drop 1 y)) cf=
 SV.ax UInt8 (List.take (y.length - 2) (List.drop 1 y)) cf/\
 aj (Int.ofNat (List.length (List.take (y.length - 2) (List.drop 1 y))))
 (Int.ofNat (List.length (List.take (y.length - 2) (List.drop 1 y))))/\
 aj (↑x+1) ↑y_1/\True)/\
 True/\True))
 (br (Int.ofNat (UInt8.toNat val)==58)
 (ck (aX .i64 (↑x+1))
 (∃(y_1:Nat),
 (y_1<=List.length (List.take (y.length - 2) (List.drop 1 y))/\
 ∀(j:Nat) (h:j<List.length (List.take (y.length - 2) (List.drop 1 y))),
 j<y_1->cg (List.take (y.length - 2) (List.drop 1 y))[j]=true)/\
 aE.μ (eY y) y_1<aE.μ (eY y) x/\
 (SV.ax UInt8 (List.take (y.length - 2) (List.drop 1 y)) cf=
 SV.ax UInt8 (List.take (y.length - 2) (List.drop 1 y)) cf/\
 aj (Int.ofNat (List.length (List.take (y.length - 2) (List.drop 1 y))))
 (Int.ofNat (List.length (List.take (y.length - 2) (List.drop 1 y))))/\
 aj (↑x+1) ↑y_1/\True)/\
 True/\True))
 (br (!Int.ofNat (UInt8.toNat val)==46) (false=dK y/\True)
 (ck (aX .i64 (↑x+1))
 (∃(y_1:Nat),
 (y_1<=List.length (List.take (y.length - 2) (List.drop 1 y))/\
 ∀(j:Nat) (h:j<List.length (List.take (y.length - 2) (List.drop 1 y))),
 j<y_1->cg (List.take (y.length - 2) (List.drop 1 y))[j]=true)/\
 aE.μ (eY y) y_1<aE.μ (eY y) x/\
 (SV.ax UInt8 (List.take (y.length - 2) (List.drop 1 y)) cf=
 SV.ax UInt8 (List.take (y.length - 2) (List.drop 1 y)) cf/\
 aj (Int.ofNat (List.length (List.take (y.length - 2) (List.drop 1 y))))
 (Int.ofNat (List.length (List.take (y.length - 2) (List.drop 1 y))))/\
 aj (↑x+1) ↑y_1/\True)/\
 True/\True)))))
 (br (Int.ofNat (UInt8.toNat val)==58)
 (ck (aX .i64 (↑x+1))
 (∃(y_1:Nat),
 (y_1<=List.length (List.take (y.length - 2) (List.drop 1 y))/\
 ∀(j:Nat) (h:j<List.length (List.take (y.length - 2) (List.drop 1 y))),
 j<y_1->cg (List.take (y.length - 2) (List.drop 1 y))[j]=true)/\
 aE.μ (eY y) y_1<aE.μ (eY y) x/\
 (SV.ax UInt8 (List.take (y.length - 2) (List.drop 1 y)) cf=
 SV.ax UInt8 (List.take (y.length - 2) (List.drop 1 y)) cf/\
 aj (Int.ofNat (List.length (List.take (y.length - 2) (List.drop 1 y))))
 (Int.ofNat (List.length (List.take (y.length - 2) (List.drop 1 y))))/\
 aj (↑x+1) ↑y_1/\True)/\
 True/\True))
 (br (!Int.ofNat (UInt8.toNat val)==46) (false=dK y/\True)
 (ck (aX .i64 (↑x+1))
 (∃(y_1:Nat),
 (y_1<=List.length (List.take (y.length - 2) (List.drop 1 y))/\
 ∀(j:Nat) (h:j<List.length (List.take (y.length - 2) (List.drop 1 y))),
 j<y_1->cg (List.take (y.length - 2) (List.drop 1 y))[j]=true)/\
 aE.μ (eY y) y_1<aE.μ (eY y) x/\
 (SV.ax UInt8 (List.take (y.length - 2) (List.drop 1 y)) cf=
 SV.ax UInt8 (List.take (y.length - 2) (List.drop 1 y)) cf/\
 aj (Int.ofNat (List.length (List.take (y.length - 2) (List.drop 1 y))))
 (Int.ofNat (List.length (List.take (y.length - 2) (List.drop 1 y))))/\
 aj (↑x+1) ↑y_1/\True)/\
 True/\True))))))
 (br (bA 97 (Int.ofNat (UInt8.toNat val)))
 (br (bA (Int.ofNat (UInt8.toNat val)) 102)
 (ck (aX .i64 (↑x+1))
 (∃(y_1:Nat),
 (y_1<=List.length (List.take (y.length - 2) (List.drop 1 y))/\
 ∀(j:Nat) (h:j<List.length (List.take (y.length - 2) (List.drop 1 y))),
 j<y_1->cg (List.take (y.length - 2) (List.drop 1 y))[j]=true)/\
 aE.μ (eY y) y_1<aE.μ (eY y) x/\
 (SV.ax UInt8 (List.take (y.length - 2) (List.drop 1 y)) cf=
 SV.ax UInt8 (List.take (y.length - 2) (List.drop 1 y)) cf/\
 aj (Int.ofNat (List.length (List.take (y.length - 2) (List.drop 1 y))))
 (Int.ofNat (List.length (List.take (y.length - 2) (List.drop 1 y))))/\
 aj (↑x+1) ↑y_1/\True)/\
 True/\True))
 (br (Int.ofNat (UInt8.toNat val)==58)
 (ck (aX .i64 (↑x+1))
 (∃(y_1:Nat),
 (y_1<=List.length (List.take (y.length - 2) (List.drop 1 y))/\
 ∀(j:Nat) (h:j<List.length (List.take (y.length - 2) (List.drop 1 y))),
 j<y_1->cg (List.take (y.length - 2) (List.drop 1 y))[j]=true)/\
 aE.μ (eY y) y_1<aE.μ (eY y) x/\
 (SV.ax UInt8 (List.take (y.length - 2) (List.drop 1 y)) cf=
 SV.ax UInt8 (List.take (y.length - 2) (List.drop 1 y)) cf/\
 aj (Int.ofNat (List.length (List.take (y.length - 2) (List.drop 1 y))))
 (Int.ofNat (List.length (List.take (y.length - 2) (List.drop 1 y))))/\
 aj (↑x+1) ↑y_1/\True)/\
 True/\True))
 (br (!Int.ofNat (UInt8.toNat val)==46) (false=dK y/\True)
 (ck (aX .i64 (↑x+1))
 (∃(y_1:Nat),
 (y_1<=List.length (List.take (y.length - 2) (List.drop 1 y))/\
 ∀(j:Nat) (h:j<List.length (List.take (y.length - 2) (List.drop 1 y))),
 j<y_1->cg (List.take (y.length - 2) (List.drop 1 y))[j]=true)/\
 aE.μ (eY y) y_1<aE.μ (eY y) x/\
 (SV.ax UInt8 (List.take (y.length - 2) (List.drop 1 y)) cf=
 SV.ax UInt8 (List.take (y.length - 2) (List.drop 1 y)) cf/\
 aj (Int.ofNat (List.length (List.take (y.length - 2) (List.drop 1 y))))
 (Int.ofNat (List.length (List.take (y.length - 2) (List.drop 1 y))))/\
 aj (↑x+1) ↑y_1/\True)/\
 True/\True)))))
 (br (Int.ofNat (UInt8.toNat val)==58)
 (ck (aX .i64 (↑x+1))
 (∃(y_1:Nat),
 (y_1<=List.length (List.take (y.length - 2) (List.drop 1 y))/\
 ∀(j:Nat) (h:j<List.length (List.take (y.length - 2) (List.drop 1 y))),
 j<y_1->cg (List.take (y.length - 2) (List.drop 1 y))[j]=true)/\
 aE.μ (eY y) y_1<aE.μ (eY y) x/\
 (SV.ax UInt8 (List.take (y.length - 2) (List.drop 1 y)) cf=
 SV.ax UInt8 (List.take (y.length - 2) (List.drop 1 y)) cf/\
 aj (Int.ofNat (List.length (List.take (y.length - 2) (List.drop 1 y))))
 (Int.ofNat (List.length (List.take (y.length - 2) (List.drop 1 y))))/\
 aj (↑x+1) ↑y_1/\True)/\
 True/\True))
 (br (!Int.ofNat (UInt8.toNat val)==46) (false=dK y/\True)
 (ck (aX .i64 (↑x+1))
 (∃(y_1:Nat),
 (y_1<=List.length (List.take (y.length - 2) (List.drop 1 y))/\
 ∀(j:Nat) (h:j<List.length (List.take (y.length - 2) (List.drop 1 y))),
 j<y_1->cg (List.take (y.length - 2) (List.drop 1 y))[j]=true)/\
 aE.μ (eY y) y_1<aE.μ (eY y) x/\
 (SV.ax UInt8 (List.take (y.length - 2) (List.drop 1 y)) cf=
 SV.ax UInt8 (List.take (y.length - 2) (List.drop 1 y)) cf/\
 aj (Int.ofNat (List.length (List.take (y.length - 2) (List.drop 1 y))))
 (Int.ofNat (List.length (List.take (y.length - 2) (List.drop 1 y))))/\
 aj (↑x+1) ↑y_1/\True)/\
 True/\True))))))
 (true=dK y/\True))))))))))):=by kernel_rfl
theorem IH:(bx (fun(y:aH.Y (dY dK))=>aQ bI (cq jd 4 (eW y))) 400 jd)=(∀(y:List UInt8),
 y.length<=100000->
 br (bj (Int.ofNat y.length) 4) (false=dK y/\True)
 (br (bj 47 (Int.ofNat y.length)) (false=dK y/\True)
 (so y[Int.toNat 0]? fun(val:UInt8)=>
 br (!Int.ofNat (UInt8.toNat val)==91) (false=dK y/\True)
 (ck (aX .i64 (Int.ofNat y.length - 1))
 (ck (nn (Int.ofNat y.length - 1))
 (so y[Int.toNat (Int.ofNat y.length - 1)]? fun(val:UInt8)=>
 br (!Int.ofNat (UInt8.toNat val)==93) (false=dK y/\True)
 ((∃(x:Nat),
 (1<=x/\x+1<=y.length/\ ∀(j:Nat) (h:j<y.length),1<=j->j<x->cg y[j]=true)/\
 (y=y/\aj 1 ↑x/\True)/\True/\True)/\
 ∀(x:Nat),
 (1<=x/\x+1<=y.length/\ ∀(j:Nat) (h:j<y.length),1<=j->j<x->cg y[j]=true)->
 ck (aX .i64 (Int.ofNat y.length - 1))
 (br (bj (↑x) (Int.ofNat y.length - 1))
 (so y[Int.toNat ↑x]? fun(val:UInt8)=>
 br (bA 48 (Int.ofNat (UInt8.toNat val)))
 (br (bA (Int.ofNat (UInt8.toNat val)) 57)
 (ck (aX .i64 (↑x+1))
 (∃(y_1:Nat),
 (1<=y_1/\y_1+1<=y.length/\ ∀(j:Nat) (h:j<y.length),1<=j->j<y_1->cg y[j]=true)/\
 aE.μ (eW y) y_1<aE.μ (eW y) x/\(y=y/\aj (↑x+1) ↑y_1/\True)/\True/\True))
 (br (bA 97 (Int.ofNat (UInt8.toNat val)))
 (br (bA (Int.ofNat (UInt8.toNat val)) 102)
 (ck (aX .i64 (↑x+1))
 (∃(y_1:Nat),
 (1<=y_1/\y_1+1<=y.length/\ ∀(j:Nat) (h:j<y.length),1<=j->j<y_1->cg y[j]=true)/\
 aE.μ (eW y) y_1<aE.μ (eW y) x/\(y=y/\aj (↑x+1) ↑y_1/\True)/\True/\True))
 (br (Int.ofNat (UInt8.toNat val)==58)
 (ck (aX .i64 (↑x+1))
 (∃(y_1:Nat),
 (1<=y_1/\y_1+1<=y.length/\ ∀(j:Nat) (h:j<y.length),1<=j->j<y_1->cg y[j]=true)/\
 aE.μ (eW y) y_1<aE.μ (eW y) x/\
 (y=y/\aj (↑x+1) ↑y_1/\True)/\True/\True))
 (br (!Int.ofNat (UInt8.toNat val)==46) (false=dK y/\True)
 (ck (aX .i64 (↑x+1))
 (∃(y_1:Nat),
 (1<=y_1/\y_1+1<=y.length/\ ∀(j:Nat) (h:j<y.length),1<=j->j<y_1->cg y[j]=true)/\
 aE.μ (eW y) y_1<aE.μ (eW y) x/\
 (y=y/\aj (↑x+1) ↑y_1/\True)/\True/\True)))))
 (br (Int.ofNat (UInt8.toNat val)==58)
 (ck (aX .i64 (↑x+1))
 (∃(y_1:Nat),
 (1<=y_1/\y_1+1<=y.length/\ ∀(j:Nat) (h:j<y.length),1<=j->j<y_1->cg y[j]=true)/\
 aE.μ (eW y) y_1<aE.μ (eW y) x/\(y=y/\aj (↑x+1) ↑y_1/\True)/\True/\True))
 (br (!Int.ofNat (UInt8.toNat val)==46) (false=dK y/\True)
 (ck (aX .i64 (↑x+1))
 (∃(y_1:Nat),
 (1<=y_1/\y_1+1<=y.length/\ ∀(j:Nat) (h:j<y.length),1<=j->j<y_1->cg y[j]=true)/\
 aE.μ (eW y) y_1<aE.μ (eW y) x/\
 (y=y/\aj (↑x+1) ↑y_1/\True)/\True/\True))))))
 (br (bA 97 (Int.ofNat (UInt8.toNat val)))
 (br (bA (Int.ofNat (UInt8.toNat val)) 102)
 (ck (aX .i64 (↑x+1))
 (∃(y_1:Nat),
 (1<=y_1/\y_1+1<=y.length/\ ∀(j:Nat) (h:j<y.length),1<=j->j<y_1->cg y[j]=true)/\
 aE.μ (eW y) y_1<aE.μ (eW y) x/\(y=y/\aj (↑x+1) ↑y_1/\True)/\True/\True))
 (br (Int.ofNat (UInt8.toNat val)==58)
 (ck (aX .i64 (↑x+1))
 (∃(y_1:Nat),
 (1<=y_1/\y_1+1<=y.length/\ ∀(j:Nat) (h:j<y.length),1<=j->j<y_1->cg y[j]=true)/\
 aE.μ (eW y) y_1<aE.μ (eW y) x/\(y=y/\aj (↑x+1) ↑y_1/\True)/\True/\True))
 (br (!Int.ofNat (UInt8.toNat val)==46) (false=dK y/\True)
 (ck (aX .i64 (↑x+1))
 (∃(y_1:Nat),
 (1<=y_1/\y_1+1<=y.length/\ ∀(j:Nat) (h:j<y.length),1<=j->j<y_1->cg y[j]=true)/\
 aE.μ (eW y) y_1<aE.μ (eW y) x/\
 (y=y/\aj (↑x+1) ↑y_1/\True)/\True/\True)))))
 (br (Int.ofNat (UInt8.toNat val)==58)
 (ck (aX .i64 (↑x+1))
 (∃(y_1:Nat),
 (1<=y_1/\y_1+1<=y.length/\ ∀(j:Nat) (h:j<y.length),1<=j->j<y_1->cg y[j]=true)/\
 aE.μ (eW y) y_1<aE.μ (eW y) x/\(y=y/\aj (↑x+1) ↑y_1/\True)/\True/\True))
 (br (!Int.ofNat (UInt8.toNat val)==46) (false=dK y/\True)
 (ck (aX .i64 (↑x+1))
 (∃(y_1:Nat),
 (1<=y_1/\y_1+1<=y.length/\ ∀(j:Nat) (h:j<y.length),1<=j->j<y_1->cg y[j]=true)/\
 aE.μ (eW y) y_1<aE.μ (eW y) x/\
 (y=y/\aj (↑x+1) ↑y_1/\True)/\True/\True))))))
 (true=dK y/\True))))))))):=by kernel_rfl
theorem Ku:(bx (fun(y:aH.Y (dY eX))=>aQ lL (cF y)) 400 mR)=(∀(y:List UInt8),
 y.length<=100000->
 ∃(y_1:List UInt8),
 y=y_1/\
 y_1.length<=100000/\
 br (dO y_1) (true=eX y/\True)
 (∃(y_2:List UInt8),y=y_2/\y_2.length<=100000/\dK y_2=eX y/\True)):=by kernel_rfl
theorem L6:(bx (fun(y:aH.Y (dY eX))=>aQ lL (cF y)) 400 mT)=(∀(y:List UInt8),
 y.length<=100000->
 ∃(y_1:List UInt8),
 y=y_1/\
 y_1.length<=100000/\
 br (dO y_1) (true=eX y/\True)
 (∃(y_2:List UInt8),y=y_2/\y_2.length<=100000/\dK y_2=eX y/\True)):=by kernel_rfl
theorem Me:(bx (fun(y:aH.Y (dY bU))=>aQ sH (cq jC 4 (sk y))) 400 jC)=(∀(y:List UInt8),
 y.length<=100000->
 br (bj 256 (Int.ofNat y.length)) (false=bU y/\True)
 (∃(y_1:List UInt8),
 y=y_1/\
 y_1.length<=100000/\
 br (eX y_1) (false=bU y/\True)
 (∃(y_2:Bs×Int),
 y=y_2.1/\
 aj 46 y_2.2/\
 y_2.1.length<=100000/\
 (∃(x:Nat),
 (x<=List.length (aB y 46)/\
 ∀(j:Nat) (h:j<List.length (aB y 46)),j<x->di (aB y 46)[j]=true)/\
 (SV.ax Bs (aB y_2.1 y_2.2) cI=
 SV.ax Bs (aB y 46) cI/\
 aj (Int.ofNat (List.length (aB y_2.1 y_2.2))) (Int.ofNat (List.length (aB y 46)))/\
 aj 0 ↑x/\True)/\
 True/\True)/\
 ∀(x:Nat),
 (x<=List.length (aB y 46)/\
 ∀(j:Nat) (h:j<List.length (aB y 46)),j<x->di (aB y 46)[j]=true)->
 br (bj (↑x) (Int.ofNat (List.length (aB y 46))))
 (so (aB y 46)[Int.toNat ↑x]? fun(val:Bs)=>
 ∃(y_3:List UInt8),
 val=y_3/\
 y_3.length<=100000/\
 br (!di y_3) (false=bU y/\True)
 (ck (aX .i64 (↑x+1))
 (∃(y_4:Nat),
 (y_4<=List.length (aB y 46)/\
 ∀(j:Nat) (h:j<List.length (aB y 46)),j<y_4->di (aB y 46)[j]=true)/\
 aE.μ (sk y) y_4<aE.μ (sk y) x/\
 (SV.ax Bs (aB y 46) cI=
 SV.ax Bs (aB y 46) cI/\
 aj (Int.ofNat (List.length (aB y 46))) (Int.ofNat (List.length (aB y 46)))/\
 aj (↑x+1) ↑y_4/\True)/\
 True/\True)))
 (true=bU y/\True)))):=by kernel_rfl
theorem J3:(bx (fun(y:aH.Y (dY bU))=>aQ lL (cq jy 5 (rS y))) 400 jy)=(∀(y:List UInt8),
 y.length<=100000->
 br (bj 256 (Int.ofNat y.length)) (false=bU y/\True)
 (∃(y_1:List UInt8),
 y=y_1/\
 y_1.length<=100000/\
 br (dO y_1) (false=bU y/\True)
 (∃(y_2:Bs×Int),
 y=y_2.1/\
 aj 46 y_2.2/\
 y_2.1.length<=100000/\
 (∃(x:Nat),
 (x<=List.length (aB y 46)/\
 ∀(j:Nat) (h:j<List.length (aB y 46)),j<x->di (aB y 46)[j]=true)/\
 (SV.ax Bs (aB y_2.1 y_2.2) cI=
 SV.ax Bs (aB y 46) cI/\
 aj 0 ↑x/\True)/\
 True/\True)/\
 ∀(x:Nat),
 (x<=List.length (aB y 46)/\
 ∀(j:Nat) (h:j<List.length (aB y 46)),j<x->di (aB y 46)[j]=true)->
 br (bj (↑x) (Int.ofNat (List.length (aB y 46))))
 (so (aB y 46)[Int.toNat ↑x]? fun(val:Bs)=>
 ∃(y_3:List UInt8),
 val=y_3/\
 y_3.length<=100000/\
 br (!di y_3) (false=bU y/\True)
 (ck (aX .i64 (↑x+1))
 (∃(y_4:Nat),
 (y_4<=List.length (aB y 46)/\
 ∀(j:Nat) (h:j<List.length (aB y 46)),j<y_4->di (aB y 46)[j]=true)/\
 aE.μ (rS y) y_4<aE.μ (rS y) x/\
 (SV.ax Bs (aB y 46) cI=
 SV.ax Bs (aB y 46) cI/\
 aj (↑x+1) ↑y_4/\True)/\
 True/\True)))
 (true=bU y/\True)))):=by kernel_rfl
theorem JU:(bx (fun(y:aH.Y oc)=>aQ bI (cF y)) 400 wK)=(∀(y:Bs×Bs),
 y.1.length<=100000/\y.2.length<=100000->
 br (bA (Int.ofNat y.2.length) (Int.ofNat y.1.length))
 (ck (Nat.ble (Int.toNat (Int.ofNat y.2.length)) y.1.length)
 ((List.take (Int.toNat (Int.ofNat y.2.length)) y.1==y.2)=
 Decidable.decide (List.take y.2.length y.1=y.2)/\
 True))
 (false=Decidable.decide (List.take y.2.length y.1=y.2)/\True)):=by kernel_rfl
theorem IB:(bx (fun(y:aH.Y oc)=>aQ oM (cF y)) 400 mM)=(∀(y:Bs×Bs),
 y.1.length<=100000/\y.2.length<=100000->
 ∃(y_1:Bs×Bs),
 y.1=y_1.1/\
 y.2=y_1.2/\
 (y_1.1.length<=100000/\y_1.2.length<=100000)/\
 Decidable.decide (List.take y_1.2.length y_1.1=y_1.2)=
 Decidable.decide (List.take y.2.length y.1=y.2)/\
 True):=by kernel_rfl
theorem IP:(bx (fun(y:aH.Y ve)=>aQ oM (cF y)) 400 na)=(∀(y:List UInt8),
 y.length<=100000->
 ∃(y_1:List UInt8),
 y=y_1/\
 y_1.length<=100000/\
 br (!bU y_1) ((if bU y=true then aB y 46 else[])=[]/\True)
 (∃(y_2:Bs×Int),
 y=y_2.1/\
 aj 46 y_2.2/\
 y_2.1.length<=100000/\
 SV.ax Bs (aB y_2.1 y_2.2) cI=
 SV.ax Bs (if bU y=true then aB y 46 else[]) cI/\
 True)):=by kernel_rfl
theorem JW:(bx (fun(y:aH.Y vg)=>aQ bI (cF y)) 400 nb)=(∀(y:List UInt8),
 y.length<=100000->
 br (bj 2 (Int.ofNat y.length))
 (ck (Nat.ble (Int.toNat 2) y.length)
 (br (List.take (Int.toNat 2) y==Array.toList (ByteArray.data {data:=#[42,46]}))
 (ck (Nat.ble (Int.toNat 2) y.length) (aj 42 (Prod.fst (cN y))/\List.drop (Int.toNat 2) y=Prod.snd (cN y)/\True))
 (br (bj 1 (Int.ofNat y.length))
 (so y[Int.toNat 0]? fun(val:UInt8)=>
 br (Int.ofNat (UInt8.toNat val)==33)
 (ck (Nat.ble (Int.toNat 1) y.length) (aj 33 (Prod.fst (cN y))/\List.drop (Int.toNat 1) y=Prod.snd (cN y)/\True))
 (aj 0 (Prod.fst (cN y))/\y=Prod.snd (cN y)/\True))
 (aj 0 (Prod.fst (cN y))/\y=Prod.snd (cN y)/\True))))
 (br (bj 1 (Int.ofNat y.length))
 (so y[Int.toNat 0]? fun(val:UInt8)=>
 br (Int.ofNat (UInt8.toNat val)==33)
 (ck (Nat.ble (Int.toNat 1) y.length) (aj 33 (Prod.fst (cN y))/\List.drop (Int.toNat 1) y=Prod.snd (cN y)/\True))
 (aj 0 (Prod.fst (cN y))/\y=Prod.snd (cN y)/\True))
 (aj 0 (Prod.fst (cN y))/\y=Prod.snd (cN y)/\True))):=by kernel_rfl
theorem J5:(bx (fun(y:aH.Y vF)=>aQ oN (cF y)) 400 mU)=(∀(y:List UInt8),
 y.length<=100000->
 ∃(y_1:Bs×Bs),
 y=y_1.1/\
 Array.toList (ByteArray.data {data:=#[42,46]})=y_1.2/\
 (y_1.1.length<=100000/\y_1.2.length<=100000)/\
 br (Decidable.decide (List.take y_1.2.length y_1.1=y_1.2))
 (ck (Nat.ble (Int.toNat 2) y.length)
 (∃(y_2:List UInt8),
 List.drop (Int.toNat 2) y=y_2/\
 y_2.length<=100000/\
 br (bj 0 (Int.ofNat (List.length (if bU y_2=true then aB y_2 46 else[]))))
 (List.drop (Int.toNat 2) y=Prod.fst (bG y)/\
 true=Prod.fst (Prod.snd (bG y))/\false=Prod.snd (Prod.snd (bG y))/\true=cX y/\True)
 (List.drop (Int.toNat 2) y=Prod.fst (bG y)/\
 true=Prod.fst (Prod.snd (bG y))/\false=Prod.snd (Prod.snd (bG y))/\false=cX y/\True)))
 (∃(y_2:Bs×Bs),
 y=y_2.1/\
 Array.toList (ByteArray.data {data:=#[33]})=y_2.2/\
 (y_2.1.length<=100000/\y_2.2.length<=100000)/\
 br (Decidable.decide (List.take y_2.2.length y_2.1=y_2.2))
 (ck (Nat.ble (Int.toNat 1) y.length)
 (∃(y_3:List UInt8),
 List.drop (Int.toNat 1) y=y_3/\
 y_3.length<=100000/\
 br (bj 0 (Int.ofNat (List.length (if bU y_3=true then aB y_3 46 else[]))))
 (List.drop (Int.toNat 1) y=Prod.fst (bG y)/\
 false=Prod.fst (Prod.snd (bG y))/\
 true=Prod.snd (Prod.snd (bG y))/\
 bj 1 (Int.ofNat (List.length (if bU y_3=true then aB y_3 46 else[])))=cX y/\True)
 (List.drop (Int.toNat 1) y=Prod.fst (bG y)/\
 false=Prod.fst (Prod.snd (bG y))/\
 true=Prod.snd (Prod.snd (bG y))/\false=cX y/\True)))
 (∃(y_3:List UInt8),
 y=y_3/\
 y_3.length<=100000/\
 br (bj 0 (Int.ofNat (List.length (if bU y_3=true then aB y_3 46 else[]))))
 (y=Prod.fst (bG y)/\
 false=Prod.fst (Prod.snd (bG y))/\
 false=Prod.snd (Prod.snd (bG y))/\true=cX y/\True)
 (y=Prod.fst (bG y)/\
 false=Prod.fst (Prod.snd (bG y))/\
 false=Prod.snd (Prod.snd (bG y))/\false=cX y/\True)))):=by kernel_rfl
theorem LP:(bx (fun(y:aH.Y (dY cX))=>aQ oN (cF y)) 400 nq)=(∀(y:List UInt8),
 y.length<=100000->
 ∃(y_1:List UInt8),
 y=y_1/\
 y_1.length<=100000/\
 ∃(y_2:List UInt8),
 Prod.snd (cN y_1)=y_2/\
 y_2.length<=100000/\
 br (bU y_2)
 (br (!Prod.fst (cN y_1)==33) (true=cX y/\True)
 (∃(y_3:Bs×Int),
 Prod.snd (cN y_1)=y_3.1/\
 aj 46 y_3.2/\
 y_3.1.length<=1000000/\bA 0 (eG y_3.1 y_3.2)=cX y/\True))
 (false=cX y/\True)):=by kernel_rfl
theorem IK:(bx (fun(y:aH.Y vb)=>aQ oO (cq jo 4 (rE y))) 400 jo)=(∀(y:List Bs),
 (y.length<=100000/\ ∀(s:Bs),s∈y->s.length<=100000)->
 br (bj 256 (Int.ofNat y.length)) (aj 3 (gR y)/\True)
 ((∃(x:Nat),
 (x<=y.length/\ ∀(j:Nat) (h:j<y.length),j<x->cX y[j]=true)/\
 (SV.ax Bs y cI=SV.ax Bs y cI/\
 aj (Int.ofNat y.length) (Int.ofNat y.length)/\aj 0 ↑x/\True)/\
 True/\True)/\
 ∀(x:Nat),
 (x<=y.length/\ ∀(j:Nat) (h:j<y.length),j<x->cX y[j]=true)->
 br (bj (↑x) (Int.ofNat y.length))
 (so y[Int.toNat ↑x]? fun(val:Bs)=>
 ∃(y_1:List UInt8),
 val=y_1/\
 y_1.length<=100000/\
 br (!cX y_1) (aj 1 (gR y)/\True)
 (ck (aX .i64 (↑x+1))
 (∃(y_2:Nat),
 (y_2<=y.length/\ ∀(j:Nat) (h:j<y.length),j<y_2->cX y[j]=true)/\
 aE.μ (rE y) y_2<aE.μ (rE y) x/\
 (SV.ax Bs y cI=SV.ax Bs y cI/\
 aj (Int.ofNat y.length) (Int.ofNat y.length)/\aj (↑x+1) ↑y_2/\True)/\
 True/\True)))
 (aj 0 (gR y)/\True))):=by kernel_rfl
theorem J6:(bx (fun(y:aH.Y vG)=>aQ oO (cq jt 2 (rT y))) 400 jt)=(∀(y:List Bs),
 (y.length<=100000/\ ∀(s:Bs),s∈y->s.length<=100000)->
 (∃(x:Nat),
 (x<=y.length/\ ∀(j:Nat) (h:j<y.length),j<x->cX y[j]=true)/\
 (SV.ax Bs y cI=SV.ax Bs y cI/\aj 0 ↑x/\True)/\True/\True)/\
 ∀(x:Nat),
 (x<=y.length/\ ∀(j:Nat) (h:j<y.length),j<x->cX y[j]=true)->
 br (bj (↑x) (Int.ofNat y.length))
 (so y[Int.toNat ↑x]? fun(val:Bs)=>
 ∃(y_1:List UInt8),
 val=y_1/\
 y_1.length<=100000/\
 br (!cX y_1) (false=List.all y cX/\True)
 (ck (aX .i64 (↑x+1))
 (∃(y_2:Nat),
 (y_2<=y.length/\ ∀(j:Nat) (h:j<y.length),j<y_2->cX y[j]=true)/\
 aE.μ (rT y) y_2<aE.μ (rT y) x/\
 (SV.ax Bs y cI=SV.ax Bs y cI/\aj (↑x+1) ↑y_2/\True)/\True/\True)))
 (true=List.all y cX/\True)):=by kernel_rfl
end
section
variable [Inhabited aL]
section
variable {α:Type} {l:List α} {p:α->Bool} {x:Nat}
theorem lE (h:∀(j:Nat) (h:j<l.length),j<x->p l[j]=true) (hx:¬(x:Int)<Int.ofNat l.length):l.all p=true:=by
 rw[Aq];intro a ha;obtain⟨j,hj,rfl⟩:=By ha;exact h j hj (by simp only[Aa]at hx;omega)
theorem mq (h:x<l.length) (hp:p l[x]=false):l.all p=false:=by
 rw[Ap];intro ha;rw[Aq]at ha;rw[ha _ (Av h)]at hp
 cases hp
theorem lF (h:∀(j:Nat) (h:j<l.length),j<x->p l[j]=true) (hx:x<l.length) (hp:p l[x]=true):∀(j:Nat) (h:j<l.length),j<x+1->p l[j]=true:=by
 intro j hj hjx;by_cases e:j=x
 . subst e;exact hp
 . exact h j hj (by omega)
end
theorem cp {x n:Nat} (h:bj (x:Int) (Int.ofNat n)=true):x<n:=by
 rw[bF,Ac,Aa]at h;omega
theorem ff {x n:Nat} (h:bj (x:Int) (Int.ofNat n)=false):¬(x:Int)<Int.ofNat n:=by
 rw[bF,Ae]at h;exact h
theorem dH {α:Type} {l:List α} {x:Nat} (h:x<l.length):l[Int.toNat (x:Int)]? =some l[x]:=by simp[h]
theorem Kf:CO nz vH:=bO (cfg:=fun y=>aQ bI (cF y)) bD (fun _=>rfl) (fun _=>fb) (n:=400) (by
 rw[J7];rintro⟨b,e⟩ -;simp only[af,dN,eI,BH,Ac,Ae,AK,AJ];refine⟨fun h=>⟨fun h2=>by simp[h,h2],fun h2=>by simp[h,h2]⟩,fun h=>⟨fun h1=>⟨fun h2=>?_,fun h2=>⟨fun h3=>⟨fun h4=>?_,fun h4=>⟨fun h5=>?_,fun h5=>?_⟩⟩,fun h3=>⟨fun h5=>?_,fun h5=>?_⟩⟩⟩,fun h1=>⟨fun h3=>⟨fun h4=>?_,fun h4=>⟨fun h5=>?_,fun h5=>?_⟩⟩,fun h3=>⟨fun h5=>?_,fun h5=>?_⟩⟩⟩⟩
 all_goals (simp_all<;>omega))
theorem K7:CO np v8:=bO (cfg:=fun y=>aQ bI (cF y)) bD (fun _=>rfl) (fun _=>fb) (n:=400) (by
 rw[LQ];intro b _;simp only[af,dN,eT,BH,Ac,Ae,AK,AJ];refine⟨fun h1=>⟨fun h2=>?_,fun h2=>⟨fun h3=>⟨fun h4=>?_,fun h4=>⟨fun h5=>?_,fun h5=>?_⟩⟩,fun h3=>⟨fun h5=>?_,fun h5=>?_⟩⟩⟩,fun h1=>⟨fun h3=>⟨fun h4=>?_,fun h4=>⟨fun h5=>?_,fun h5=>?_⟩⟩,fun h3=>⟨fun h5=>?_,fun h5=>?_⟩⟩⟩
 all_goals (simp_all<;>omega))
theorem nP:∀g C,iF g=some C->CO g C:=bM Kf (bM K7 uH)
theorem rl (b:UInt8) (e:Bool):eI (nB b) e=(eT b&& !(nB b==45&&e)):=by
 unfold eI eT;by_cases h:nB b=45
 . simp[h]
 . have:(nB b==45)=false:=by simpa using h
   simp[h,this]
theorem gi (b:UInt8):b=45↔nB b=45:=⟨fun h=>by rw[h];rfl,fun h=>lI (h.trans rfl)⟩
theorem xW (s:Bs) (h0:s≠[]) (h63:s.length<=63):di s=true↔∀(j:Nat) (h:j<s.length),eI (nB s[j]) (j==0||j==s.length - 1)=true:=by
 have hp:0<s.length:=A5.2 h0;have hhd:s.head? =some s[0]:=by rw[Bl];simp[hp]
 have htl:s.getLast? =some (s[s.length - 1]'(by omega)):=by rw[B9];simp[hp]
 unfold di;rw[hhd,htl];simp only[Ad,bne_iff_ne,BG,h0,AP,Ac,h63,DK,Aq,AW];constructor
 . rintro⟨⟨h1,h2⟩,h3⟩ j hj;rw[rl,h1 _ (Av hj)];by_cases e0:j=0
   . subst e0;rw[gi]at h2;simp[h2]
   . by_cases e1:j=s.length - 1
     . subst e1;rw[gi]at h3;simp[h3]
     . simp[e0,e1]
 . intro h;refine⟨⟨fun b hb=>?_,?_⟩,?_⟩
   . obtain⟨j,hj,rfl⟩:=By hb;have:=h j hj;rw[rl,Ad]at this;exact this.1
   . have:=h 0 hp;rw[rl,Ad]at this;rw[gi];have h2:=this.2;simpa using h2
   . have:=h (s.length - 1) (by omega);rw[rl,Ad]at this;rw[gi];have h2:=this.2;simpa using h2
theorem xH {s:Bs} (h0:s≠[]) (h63:s.length<=63) {x:Nat} (h:x<s.length) (hx:eI (nB s[x]) (x==0||x==s.length - 1)=false):di s=false:=by
 rw[Ap];intro hl;rw[(xW s h0 h63).1 hl x h]at hx
 cases hx
theorem xV {s:Bs} (h:63<s.length):di s=false:=by
 unfold di;have:decide (s.length<=63)=false:=by simp;omega
 simp[this]
theorem KR:CO jv (dY di):=bO (cfg:=fun y=>aQ iF (cq jv 4 (lH y))) bD (fun _=>rfl) (fun _=>nP) (n:=400) (by
 rw[J1];intro s hpre;have hpre:s.length<=100000:=hpre;refine af.2 ⟨fun h=>?_,fun h=>af.2 ⟨fun h2=>?_,fun h2=>⟨⟨0,⟨by simp,fun j h hj=>by omega⟩,⟨rfl,rfl,rfl,trivial⟩,trivial,trivial⟩,?_⟩⟩⟩
 . have:s=[]:=by simpa using h
   subst this;exact⟨rfl,trivial⟩
 . rw[bF,Ac,Aa]at h2;exact⟨(xV (by omega)).symm,trivial⟩
 have h0:s≠[]:=by simpa using h
 have h63:s.length<=63:=by
   rw[bF,Ae,Aa]at h2;omega
 rintro x ⟨hx,hall⟩;refine af.2 ⟨fun hlt=>au.2 ⟨_,dH (cp hlt),?_⟩,fun hge=>⟨((xW s h0 h63).2 fun j hj=>hall j hj (by have:=ff hge;simp only[Aa]at this;omega)).symm,trivial⟩⟩;have hlt':=cp hlt;have next:eI (nB s[x]) (x==0||x==s.length - 1)=true->∃(y_2:Nat),(y_2<=s.length/\ ∀(j:Nat) (h:j<s.length),j<y_2->eI (nB s[j]) (j==0||j==s.length - 1)=true)/\(lH s).μ y_2<(lH s).μ x/\(s=s/\aj (Int.ofNat s.length) (Int.ofNat s.length)/\aj (↑x+1) ↑y_2/\True)/\True/\True:=by
   intro he;refine⟨x+1,⟨by omega,fun j hj hjx=>?_⟩,?_,⟨rfl,rfl,by simp[aj],trivial⟩,trivial,trivial⟩
   . by_cases e:j=x
     . subst e;exact he
     . exact hall j hj (by omega)
   . show s.length - (x+1)<s.length - x
     omega
 refine af.2 ⟨fun hx0=>⟨(s[x],true),rfl,rfl,trivial,af.2 ⟨fun hs=>?_,fun hs=>ag.2 ⟨cB x (by omega),next ?_⟩⟩⟩,fun hx0=>ag.2 ⟨by rw[dQ,Aa];omega,(s[x],(x:Int)==Int.ofNat s.length - 1),rfl,rfl,trivial,af.2 ⟨fun hs=>?_,fun hs=>ag.2 ⟨cB x (by omega),next ?_⟩⟩⟩⟩
 . have:x=0:=by simpa using hx0
   subst this;exact⟨(xH h0 h63 hlt' (by simpa using hs)).symm,trivial⟩
 . have:x=0:=by simpa using hx0
   subst this;simpa using hs
 . have hx1:¬x=0:=by simpa using hx0
   have e:((x:Int)==Int.ofNat s.length - 1)=(x==0||x==s.length - 1):=by
     rw[Aw];simp[hx1];omega
   rw[e]at hs;exact⟨(xH h0 h63 hlt' (by simpa using hs)).symm,trivial⟩
 . have hx1:¬x=0:=by simpa using hx0
   have e:((x:Int)==Int.ofNat s.length - 1)=(x==0||x==s.length - 1):=by
     rw[Aw];simp[hx1];omega
   rw[e]at hs;simpa using hs)
theorem tV {s:Bs} {x:Nat} (h:x<s.length) (hx:eT s[x]=false):di s=false:=by
 unfold di;rw[mq h hx];simp
theorem IT:CO js (dY di):=bO (cfg:=fun y=>aQ iF (cq js 4 (rF y))) bD (fun _=>rfl) (fun _=>nP) (n:=400) (by
 rw[IM];intro s hpre;have hpre:s.length<=100000:=hpre;refine af.2 ⟨fun h=>?_,fun h=>af.2 ⟨fun h2=>?_,fun h2=>?_⟩⟩
 . rw[bF,Ac,Aa]at h;have:s=[]:=Ay (by omega);subst this;exact⟨rfl,trivial⟩
 . rw[bF,Ac,Aa]at h2;exact⟨(xV (by omega)).symm,trivial⟩
 rw[bF,Ae,Aa]at h h2;have hp:0<s.length:=by omega
 have h0:s≠[]:=A5.1 hp;have hhd:s.head? =some s[0]:=by rw[Bl];simp[hp]
 have htl:s.getLast? =some (s[s.length - 1]'(by omega)):=by rw[B9];simp[hp]
 have hlast:s[Int.toNat (Int.ofNat s.length - 1)]? =some (s[s.length - 1]'(by omega)):=by
   rw[show Int.toNat (Int.ofNat s.length - 1)=s.length - 1 by rw[Aa];omega];simp[hp]
 refine au.2 ⟨s[0],by simp[hp],af.2 ⟨fun h3=>?_,fun h3=>ag.2 ⟨by rw[dQ,Aa];omega,ag.2 ⟨by rw[iX,Ac,Aa];omega,au.2 ⟨_,hlast,af.2 ⟨fun h4=>?_,fun h4=>⟨⟨0,⟨by simp,fun j h hj=>by omega⟩,⟨rfl,rfl,trivial⟩,trivial,trivial⟩,?_⟩⟩⟩⟩⟩⟩⟩
 . have:s[0]=45:=by rw[gi];simpa [nB]using h3
   refine⟨?_,trivial⟩;unfold di;rw[hhd,this];simp
 . have:s[s.length - 1]'(by omega)=45:=by rw[gi];simpa [nB]using h4
   refine⟨?_,trivial⟩;unfold di;rw[htl,this];simp
 rintro x ⟨hx,hall⟩;refine af.2 ⟨fun hlt=>au.2 ⟨_,dH (cp hlt),s[x]'(cp hlt),rfl,trivial,af.2 ⟨fun hs=>⟨(tV (cp hlt) (by simpa using hs)).symm,trivial⟩,fun hs=>ag.2 ⟨cB x (by have:=cp hlt;omega),x+1,⟨cp hlt,lF hall (cp hlt) (by simpa using hs)⟩,?_,⟨rfl,by simp[aj],trivial⟩,trivial,trivial⟩⟩⟩,fun hge=>⟨?_,trivial⟩⟩
 . have:=cp hlt;show s.length - (x+1)<s.length - x
   omega
 . have ha:=lE hall (ff hge);have n1:s[0]≠45:=by intro e;rw[gi]at e;simp[nB]at e h3;exact h3 e
   have n2:(s[s.length - 1]'(by omega))≠45:=by intro e;rw[gi]at e;simp[nB]at e h4;exact h4 e
   unfold di;rw[ha,hhd,htl];simp[h0,n1,n2];omega)
theorem Cd {p:Bs} (h0:p≠[]) (hd:∀b∈p,cy b=true):aS p=(p.foldl bB 0,true):=by
 cases p with
 |nil=>exact absurd rfl h0
 | cons b s=>
  have hb:=(lr b).1 (hd b Aj);have hn:bS (b::s)=false:=by
   show(nB b==45)=false
   rw[AJ];omega
  have ha:=pL hn;rw[vq (by rw[ha];simp) (by rw[ha];exact hd),ha,hn];simp
theorem nZ {b:UInt8} {n:Nat} (h:nB b=48+(n:Int)):UInt8.ofNat (48+n)=b:=by
 apply lI;have:=JA b;rw[h];unfold nB;rw[UInt8.toNat_ofNat'];rw[Nat.mod_eq_of_lt (by omega)];simp
theorem jN {b:UInt8} (h:cy b=true):∃d:Nat,d<=9/\nB b=48+(d:Int):=by
 rw[lr]at h;exact⟨(nB b - 48).toNat,by omega,by omega⟩
theorem jJ {n:Int} {b:UInt8} {d:Nat} (hb:nB b=48+(d:Int)) (hd:d<=9) (h0:0<=n) (hn:n<=100000):bB n b=n*10+d:=by
 unfold bB;rw[hb];omega
theorem JN (s:Bs) (hd:∀b∈s,cy b=true):∀n:Int,1000<=n->n<=1099511627776->1000<=s.foldl bB n:=by
 induction s with
 |nil=>intro n h _;exact h
 |cons b s ih=>
  intro n h1 h2;have hb:=(lr b).1 (hd b Aj);refine ih (fun c hc=>hd c (Au _ hc)) _ ?_ ?_<;>unfold bB<;>omega
theorem wx (d:Nat) (h:d<=9):fU d=[UInt8.ofNat (48+d)]:=by unfold fU;exact zh 39 d h
theorem EH (n:Nat) (h:9<n) (h2:n<=99):fU n=[UInt8.ofNat (48+n / 10),UInt8.ofNat (48+n % 10)]:=by
 unfold fU;show ij (39+1) n=_
 have:¬n<=9:=by omega
 simp only[ij,Ah this];rw[Ai (by omega)];rfl
theorem Na (n:Nat) (h:99<n) (h2:n<=999):fU n=[UInt8.ofNat (48+n / 100),UInt8.ofNat (48+n / 10 % 10),UInt8.ofNat (48+n % 10)]:=by
 unfold fU;show ij (39+1) n=_
 have h3:¬n<=9:=by omega
 have h4:¬n / 10<=9:=by omega
 simp only[ij,Ah h3,Ah h4];rw[Ai (by omega)];rw[show n / 10 / 10=n / 100 by omega];rfl
theorem I8 {p:Bs} (h1:1<=p.length) (hd:cm p=p.length):0<=(aS p).1/\(aS p).1<=1099511627776:=by
 have hdd:∀b∈p,cy b=true:=qT (by omega);rw[Cd (A5.1 h1) hdd];exact xB p hdd 0 (by omega) (by omega)
theorem uj {p:Bs} (h1:1<=p.length) (hd:cm p=p.length) (h2:(aS p).1<=255):(decide (1<p.length)&&p.head? ==some 48)=false↔(p.length<=3/\fU (aS p).1.toNat=p):=by
 have hdd:∀b∈p,cy b=true:=qT (by omega);rw[Cd (A5.1 h1) hdd]at h2⊢;simp only at h2⊢;have e48:∀b:UInt8,b=48↔nB b=48:=fun b=>⟨fun h=>by rw[h];rfl,fun h=>lI (h.trans rfl)⟩
 match p,h1 with
 |[a],_=>
  obtain⟨d,d9,hb⟩:=jN (hdd a (by simp));simp only[BJ,DN,jJ hb d9 (DE 0) (by omega)];rw[show((0:Int)*10+(d:Int)).toNat=d by omega,wx d d9,nZ hb];simp
 |[a,b],_=>
  obtain⟨d,d9,hb⟩:=jN (hdd a (by simp));obtain⟨d2,d29,hb2⟩:=jN (hdd b (by simp));simp only[BJ,DN,jJ hb d9 (DE 0) (by omega)];rw[jJ hb2 d29 (by omega) (by omega),show(((0:Int)*10+(d:Int))*10+(d2:Int)).toNat=d*10+d2 by omega];by_cases hz:d=0
  . subst hz;have:a=48:=by rw[e48];simpa using hb
    rw[show 0*10+d2=d2 by omega,wx d2 d29];simp[this]
  . have:a≠48:=by intro e;rw[e48]at e;omega
    rw[EH _ (by omega) (by omega),show(d*10+d2) / 10=d by omega,show(d*10+d2) % 10=d2 by omega,nZ hb,nZ hb2];simp[this]
 |[a,b,c],_=>
  obtain⟨d,d9,hb⟩:=jN (hdd a (by simp));obtain⟨d2,d29,hb2⟩:=jN (hdd b (by simp));obtain⟨d3,d39,hb3⟩:=jN (hdd c (by simp));simp only[BJ,DN,jJ hb d9 (DE 0) (by omega)];rw[jJ hb2 d29 (by omega) (by omega),jJ hb3 d39 (by omega) (by omega),show((((0:Int)*10+(d:Int))*10+(d2:Int))*10+(d3:Int)).toNat=d*100+d2*10+d3 by omega];by_cases hz:d=0
  . subst hz;have:a=48:=by rw[e48];simpa using hb
    have hlt:(fU (0*100+d2*10+d3)).length<3:=by
     by_cases h:d2=0
     . subst h;rw[show 0*100+0*10+d3=d3 by omega,wx d3 d39];simp
     . rw[EH _ (by omega) (by omega)];simp
    have hne:fU (0*100+d2*10+d3)≠[a,b,c]:=by
     intro e;rw[e]at hlt;simp at hlt
    simp only[this,AN,A3,Dm];rw[this]at hne;have hne2:fU (d2*10+d3)≠[48,b,c]:=by simpa using hne
    simp[hne2]
  . have:a≠48:=by intro e;rw[e48]at e;omega
    rw[Na _ (by omega) (by omega),show(d*100+d2*10+d3) / 100=d by omega,show(d*100+d2*10+d3) / 10 % 10=d2 by omega,show(d*100+d2*10+d3) % 10=d3 by omega,nZ hb,nZ hb2,nZ hb3];simp[this]
 |a::b::c::e::s,_=>
  obtain⟨d,d9,hb⟩:=jN (hdd a (by simp));obtain⟨d2,d29,hb2⟩:=jN (hdd b (by simp));obtain⟨d3,d39,hb3⟩:=jN (hdd c (by simp));obtain⟨d4,d49,hb4⟩:=jN (hdd e (by simp));have hz:d=0:=by
    apply Bt;intro hz;simp only[BJ,jJ hb d9 (DE 0) (by omega)]at h2;rw[jJ hb2 d29 (by omega) (by omega),jJ hb3 d39 (by omega) (by omega),jJ hb4 d49 (by omega) (by omega)]at h2;have:=JN s (fun x hx=>hdd x (by simp[hx])) (((((0:Int)*10+(d:Int))*10+(d2:Int))*10+(d3:Int))*10+(d4:Int)) (by omega) (by omega);omega
  subst hz;have:a=48:=by rw[e48];simpa using hb
  constructor
  . intro h;simp[this]at h
  . rintro⟨h,_⟩;simp at h
theorem yl {s:Bs} {x:Nat} (h:x<(aB s 46).length) (hp:eP (aB s 46)[x]=false):dO s=false:=by
 unfold dO;rw[mq h hp];simp
theorem rj {s:Bs} {x:Nat} (h:x<(aB s 46).length):((aB s 46)[x]).length<=s.length:=xq s 46 _ (Av h)
theorem KY:CO jB (dY dO):=bO (cfg:=fun y=>aQ iF (cq jB 5 (lN y))) bD (fun _=>rfl) (fun _=>nP) (n:=400) (by
 rw[Mb];intro s hpre;have hpre:s.length<=100000:=hpre;have hsl:=kI s 46;refine⟨(s,46),rfl,rfl,hpre,af.2 ⟨fun h=>?_,fun h=>⟨⟨0,⟨by simp,fun j h hj=>by omega⟩,⟨rfl,rfl,rfl,trivial⟩,trivial,trivial⟩,?_⟩⟩⟩
 . refine⟨?_,trivial⟩;unfold dO;have:¬(aB s 46).length=4:=by
     simp only[AG,AJ,BG,Aa]at h;omega
   simp[this]
 have h4:(aB s 46).length=4:=by
   simp only[Dx,AK,Aa]at h;omega
 rintro x ⟨hx,hall⟩;refine af.2 ⟨fun hlt=>au.2 ⟨_,dH (cp hlt),?_⟩,fun hge=>⟨?_,trivial⟩⟩
 . have hx':=cp hlt;have hpl:=rj hx';have next:eP (aB s 46)[x]=true->ck (aX Go.IntKind.i64 (↑x+1)) (∃(y_4:Nat),(y_4<=(aB s 46).length/\ ∀(j:Nat) (h:j<(aB s 46).length),j<y_4->eP (aB s 46)[j]=true)/\(lN s).μ y_4<(lN s).μ x/\(SV.ax Bs (aB s 46) cI=SV.ax Bs (aB s 46) cI/\aj (Int.ofNat (aB s 46).length) (Int.ofNat (aB s 46).length)/\aj (↑x+1) ↑y_4/\True)/\True/\True):=by
     intro hp;refine ag.2 ⟨cB x (by omega),x+1,⟨hx',lF hall hx' hp⟩,?_,⟨rfl,rfl,by simp[aj],trivial⟩,trivial,trivial⟩;show(aB s 46).length - (x+1)<(aB s 46).length - x
     omega
   generalize hpe:(aB s 46)[x]=p at*
   have fail:eP p=false->false=dO s:=fun h=>(yl hx' (by rw[hpe];exact h)).symm
   refine⟨p,rfl,by omega,af.2 ⟨fun h1=>⟨fail ?_,trivial⟩,fun h1=>⟨p,rfl,by omega,af.2 ⟨fun h2=>⟨fail ?_,trivial⟩,fun h2=>af.2 ⟨fun h3=>⟨fail ?_,trivial⟩,fun h3=>af.2 ⟨fun h5=>?_,fun h5=>next ?_⟩⟩⟩⟩⟩⟩
   . have:p=[]:=by simpa using h1
     subst this;rfl
   . have:=cp h2;unfold eP;have h2':¬cm p=p.length:=by omega
     simp[h2']
   . rw[bF,Ac]at h3;unfold eP;have:¬(aS p).1<=255:=by omega
     simp[this]
   all_goals (have hp0:p≠[]:=by simpa using h1)
   all_goals (have hd:cm p=p.length:=by have:=ff h2;have:=q9 p;simp only[Aa]at*;omega)
   all_goals (have h255:(aS p).1<=255:=by rw[bF,Ae]at h3;omega)
   . rw [bF,Ac,Aa]at h5;have hpl1:1<p.length:=by omega
     refine au.2 ⟨p[0],by simp[show 0<p.length by omega],af.2 ⟨fun h6=>⟨fail ?_,trivial⟩,fun h6=>next ?_⟩⟩
     . have:p.head? =some 48:=by
        rw[Bl,Af (by omega)];congr 1
        exact lI (by simpa [nB]using h6)
       unfold eP;simp[this,hpl1]
     . have:¬p.head? =some 48:=by
        rw[Bl,Af (by omega)];intro e;simp only[AW]at e;rw[e]at h6;simp at h6
       unfold eP;simp[this,hp0,hd,h255]
   . rw[bF,Ae,Aa]at h5;have hpl1:¬1<p.length:=by omega
     unfold eP;simp[hpl1,hp0,hd,h255]
 . unfold dO;rw[lE hall (ff hge)];simp[h4])
theorem KP:CO jz (dY dO):=bO (cfg:=fun y=>aQ iF (cq jz 5 (rQ y))) bD (fun _=>rfl) (fun _=>nP) (n:=400) (by
 rw[Ky];intro s hpre;have hpre:s.length<=100000:=hpre;refine⟨(s,46),rfl,rfl,hpre,af.2 ⟨fun h=>?_,fun h=>⟨⟨0,⟨by simp,fun j h hj=>by omega⟩,⟨rfl,rfl,trivial⟩,trivial,trivial⟩,?_⟩⟩⟩
 . refine⟨?_,trivial⟩;unfold dO;have:¬(aB s 46).length=4:=by
     simp only[AG,AJ,BG,Aa]at h;omega
   simp[this]
 have h4:(aB s 46).length=4:=by
   simp only[Dx,AK,Aa]at h;omega
 rintro x ⟨hx,hall⟩;refine af.2 ⟨fun hlt=>?_,fun hge=>⟨?_,trivial⟩⟩
 . have hx':x<(aB s 46).length:=by rw[bF,Ac]at hlt;omega
   have hpl:=rj hx';have hget:(aB s 46)[Int.toNat (x:Int)]? =some (aB s 46)[x]:=dH hx';have next:=lF hall hx';generalize hpe:(aB s 46)[x]=p at*
   have fail:eP p=false->false=dO s:=fun h=>(yl hx' (by rw[hpe];exact h)).symm
   refine au.2 ⟨p,hget,af.2 ⟨fun h1=>⟨fail ?_,trivial⟩,fun h1=>au.2 ⟨p,hget,af.2 ⟨fun h2=>⟨fail ?_,trivial⟩,fun h2=>au.2 ⟨p,hget,au.2 ⟨p,hget,p,rfl,by omega,af.2 ⟨fun h3=>⟨fail ?_,trivial⟩,fun h3=>au.2 ⟨p,hget,p,rfl,by omega,af.2 ⟨fun h5=>⟨fail ?_,trivial⟩,fun h5=>au.2 ⟨p,hget,(aS p).1.toNat,?_,?_,af.2 ⟨fun h6=>⟨fail ?_,trivial⟩,fun h6=>ag.2 ⟨cB x (by omega),x+1,⟨by omega,next ?_⟩,?_,⟨rfl,by simp[aj],trivial⟩,trivial,trivial⟩⟩⟩⟩⟩⟩⟩⟩⟩⟩⟩⟩
   . rw[bF,Ac,Aa]at h1;have:p=[]:=Ay (by omega);subst this;rfl
   all_goals (have hp1:1<=p.length:=by rw[bF,Ae,Aa]at h1;omega)
   . rw[bF,Ac,Aa]at h2;rw[Ap];intro hp;unfold eP at hp;simp only[Ad,Ac,AG]at hp;have:=(uj hp1 hp.1.1.2 hp.1.2).1 hp.2;omega
   . have h3':¬cm p=p.length:=by
      simp only[AG,AJ,BG,Aa]at h3;omega
     unfold eP;simp[h3']
   all_goals (have hd:cm p=p.length:=by simp only[Dx,AK,Aa]at h3;omega)
   all_goals (have hnn:=I8 hp1 hd)
   . rw[bF,Ac]at h5;unfold eP;have:¬(aS p).1<=255:=by omega
     simp[this]
   . simp only[aj];omega
   . omega
   all_goals (have h255:(aS p).1<=255:=by rw[bF,Ae]at h5;omega)
   . rw[Ap];intro hp;unfold eP at hp;simp only[Ad,Ac,AG]at hp;have:=((uj hp1 hd h255).1 hp.2).2;rw[this]at h6;simp at h6
   . have hl3:p.length<=3:=by rw[bF,Ae,Aa]at h2;omega
     have ht:fU (aS p).1.toNat=p:=by simpa using h6
     have:=(uj hp1 hd h255).2 ⟨hl3,ht⟩;unfold eP;rw[this];have hp0:p≠[]:=A5.1 hp1;simp[hp0,hd,h255]
   . show 4 - (x+1)<4 - x
     omega
 . unfold dO;rw[bF,Ae]at hge;rw[lE hall (by rw[h4,Aa];omega)];simp[h4])
theorem CP {b:UInt8} {P Q:Prop} (hp:cg b=true->P) (hq:cg b=false->Q):
  br (bA 48 (Int.ofNat (UInt8.toNat b))) (br (bA (Int.ofNat (UInt8.toNat b)) 57) P (br (bA 97 (Int.ofNat (UInt8.toNat b))) (br (bA (Int.ofNat (UInt8.toNat b)) 102) P (br (Int.ofNat (UInt8.toNat b)==58) P (br (!Int.ofNat (UInt8.toNat b)==46) Q P))) (br (Int.ofNat (UInt8.toNat b)==58) P (br (!Int.ofNat (UInt8.toNat b)==46) Q P))))
   (br (bA 97 (Int.ofNat (UInt8.toNat b))) (br (bA (Int.ofNat (UInt8.toNat b)) 102) P (br (Int.ofNat (UInt8.toNat b)==58) P (br (!Int.ofNat (UInt8.toNat b)==46) Q P))) (br (Int.ofNat (UInt8.toNat b)==58) P (br (!Int.ofNat (UInt8.toNat b)==46) Q P))):=by
 rw[CR];have e:cg b=((bA 48 (nB b)&&bA (nB b) 57)||(bA 97 (nB b)&&bA (nB b) 102)||(nB b==58)||(nB b==46)):=by
  simp only[dN];rfl
 rw[e]at hp hq;generalize bA 48 (nB b)=a1 at*
 generalize bA (nB b) 57=a2 at*
 generalize bA 97 (nB b)=a3 at*
 generalize bA (nB b) 102=a4 at*
 generalize (nB b==58)=a5 at*
 generalize (nB b==46)=a6 at*
 cases a1<;>cases a2<;>cases a3<;>cases a4<;>cases a5<;>cases a6<;>simp_all[br]
theorem rn {s:Bs} (h4:4<=s.length):s.head? =some (s[0]'(by omega))/\s.getLast? =some (s[s.length - 1]'(by omega)):=by
 rw[Bl,B9];exact⟨by simp[show 0<s.length by omega],by simp[show 0<s.length by omega]⟩
theorem zZ {s:Bs} {j:Nat} (h:j<((s.drop 1).take (s.length - 2)).length):((s.drop 1).take (s.length - 2))[j]=s[j+1]'(by simp at h;omega):=by
 rw[List.getElem_take,BQ];congr 1
 omega
theorem xw {s:Bs} (h:s.length<4):dK s=false:=by
 unfold dK;have:decide (4<=s.length)=false:=by simp;omega
 simp[this]
theorem yr {s:Bs} (h:47<s.length):dK s=false:=by
 unfold dK;have:decide (s.length<=47)=false:=by simp;omega
 simp[this]
theorem dT {b:UInt8} {n:UInt8}:(Int.ofNat b.toNat==nB n)=true↔b=n:=by
 constructor
 . intro h;exact lI (by simpa [nB]using h)
 . intro h;subst h;simp[nB]
theorem xv {s:Bs} (h4:4<=s.length) (h:(!Int.ofNat (UInt8.toNat (s[0]'(by omega)))==91)=true):dK s=false:=by
 have:s[0]'(by omega)≠91:=by
  intro e;rw[AG]at h;rw[show(91:Int)=nB 91 from rfl,dT.2 e]at h
  cases h
 unfold dK;rw[(rn h4).1];simp[this]
theorem xk {s:Bs} (h4:4<=s.length) (h:(!Int.ofNat (UInt8.toNat (s[s.length - 1]'(by omega)))==93)=true):dK s=false:=by
 have:s[s.length - 1]'(by omega)≠93:=by
  intro e;rw[AG]at h;rw[show(93:Int)=nB 93 from rfl,dT.2 e]at h
  cases h
 unfold dK;rw[(rn h4).2];simp[this]
theorem yu {s:Bs} (h4:4<=s.length) (h47:s.length<=47) (h1:(!Int.ofNat (UInt8.toNat (s[0]'(by omega)))==91)=false) (h2:(!Int.ofNat (UInt8.toNat (s[s.length - 1]'(by omega)))==93)=false):dK s=((s.drop 1).take (s.length - 2)).all cg:=by
 have e1:s[0]'(by omega)=91:=dT.1 (by simpa [nB]using h1);have e2:s[s.length - 1]'(by omega)=93:=dT.1 (by simpa [nB]using h2);unfold dK;rw[(rn h4).1,(rn h4).2,e1,e2];simp[h4,h47]
theorem KI:CO jh (dY dK):=bO (cfg:=fun y=>aQ iF (cq jh 4 (eY y))) bD (fun _=>rfl) (fun _=>nP) (n:=400) (by
 rw[Kv];intro s hpre;have hpre:s.length<=100000:=hpre;refine af.2 ⟨fun h=>⟨(xw (by rw[bF,Ac,Aa]at h;omega)).symm,trivial⟩,fun h=>af.2 ⟨fun h2=>⟨(yr (by rw[bF,Ac,Aa]at h2;omega)).symm,trivial⟩,fun h2=>?_⟩⟩;have h4:4<=s.length:=by rw[bF,Ae,Aa]at h;omega
 have h47:s.length<=47:=by rw[bF,Ae,Aa]at h2;omega
 have hi:Int.toNat (Int.ofNat s.length - 1)=s.length - 1:=by rw[Aa];omega
 have hr:aX Go.IntKind.i64 (Int.ofNat s.length - 1)=true:=by rw[dQ,Aa];omega
 have hn:nn (Int.ofNat s.length - 1)=true:=by rw[iX,Ac,Aa];omega
 rw[hi];refine au.2 ⟨s[0]'(by omega),by simp[show 0<s.length by omega],af.2 ⟨fun h5=>⟨(xv h4 h5).symm,trivial⟩,fun h5=>ag.2 ⟨hr,ag.2 ⟨hn,au.2 ⟨s[s.length - 1]'(by omega),by simp[show 0<s.length by omega],af.2 ⟨fun h6=>⟨(xk h4 h6).symm,trivial⟩,fun h6=>ag.2 ⟨hr,ag.2 ⟨hn,ag.2 ⟨by simp;omega,⟨0,⟨by simp,fun j h hj=>by omega⟩,⟨?_,?_,rfl,trivial⟩,trivial,trivial⟩,?_⟩⟩⟩⟩⟩⟩⟩⟩⟩
 . rw[show s.length - 1 - Int.toNat 1=s.length - 2 by simp;omega];rfl
 . rw[show s.length - 1 - Int.toNat 1=s.length - 2 by simp;omega];rfl
 have hb:=yu h4 h47 h5 h6;rintro x ⟨hx,hall⟩;refine af.2 ⟨fun hlt=>au.2 ⟨_,dH (cp hlt),CP (fun hh=>ag.2 ⟨cB x (by have:=cp hlt;simp at this;omega),x+1,⟨cp hlt,lF hall (cp hlt) hh⟩,?_,⟨rfl,rfl,by simp[aj],trivial⟩,trivial,trivial⟩) (fun hh=>⟨?_,trivial⟩)⟩,fun hge=>⟨?_,trivial⟩⟩
 . have:=cp hlt;show((s.drop 1).take (s.length - 2)).length - (x+1)<((s.drop 1).take (s.length - 2)).length - x
   omega
 . rw[hb,mq (cp hlt) hh]
 . rw[hb,lE hall (ff hge)])
theorem JD:CO jd (dY dK):=bO (cfg:=fun y=>aQ bI (cq jd 4 (eW y))) bD (fun _=>rfl) (fun _=>fb) (n:=400) (by
 rw[IH];intro s hpre;have hpre:s.length<=100000:=hpre;refine af.2 ⟨fun h=>⟨(xw (by rw[bF,Ac,Aa]at h;omega)).symm,trivial⟩,fun h=>af.2 ⟨fun h2=>⟨(yr (by rw[bF,Ac,Aa]at h2;omega)).symm,trivial⟩,fun h2=>?_⟩⟩;have h4:4<=s.length:=by rw[bF,Ae,Aa]at h;omega
 have h47:s.length<=47:=by rw[bF,Ae,Aa]at h2;omega
 have hi:Int.toNat (Int.ofNat s.length - 1)=s.length - 1:=by rw[Aa];omega
 have hr:aX Go.IntKind.i64 (Int.ofNat s.length - 1)=true:=by rw[dQ,Aa];omega
 have hn:nn (Int.ofNat s.length - 1)=true:=by rw[iX,Ac,Aa];omega
 rw[hi];refine au.2 ⟨s[0]'(by omega),by simp[show 0<s.length by omega],af.2 ⟨fun h5=>⟨(xv h4 h5).symm,trivial⟩,fun h5=>ag.2 ⟨hr,ag.2 ⟨hn,au.2 ⟨s[s.length - 1]'(by omega),by simp[show 0<s.length by omega],af.2 ⟨fun h6=>⟨(xk h4 h6).symm,trivial⟩,fun h6=>⟨⟨1,⟨by omega,by omega,fun j h h1 hj=>by omega⟩,⟨rfl,rfl,trivial⟩,trivial,trivial⟩,?_⟩⟩⟩⟩⟩⟩⟩;have hb:=yu h4 h47 h5 h6;rintro x ⟨hx1,hx,hall⟩;refine ag.2 ⟨hr,af.2 ⟨fun hlt=>?_,fun hge=>⟨?_,trivial⟩⟩⟩
 . have hlt':x+1<s.length:=by rw[bF,Ac,Aa]at hlt;omega
   refine au.2 ⟨s[x],dH (by omega),CP (fun hh=>ag.2 ⟨cB x (by omega),x+1,⟨by omega,by omega,fun j hj h1 hjx=>?_⟩,?_,⟨rfl,by simp[aj],trivial⟩,trivial,trivial⟩) (fun hh=>⟨?_,trivial⟩)⟩
   . by_cases e:j=x
     . subst e;exact hh
     . exact hall j hj h1 (by omega)
   . show s.length - (x+1)<s.length - x
     omega
   . have hl:x - 1<((s.drop 1).take (s.length - 2)).length:=by simp;omega
     rw[hb,mq hl (by rw[zZ hl];simp only[show x - 1+1=x by omega];exact hh)]
 . rw[bF,Ae,Aa]at hge;rw[hb];symm;rw[Aq];intro b hbm;obtain⟨j,hj,rfl⟩:=By hbm;rw[zZ hj];simp at hj;exact hall (j+1) (by omega) (by omega) (by omega))
theorem rq:∀g C,lL g=some C->CO g C:=bM KR (bM IT (bM KY (bM KP (bM KI (bM JD nP)))))
theorem Lf:CO mT (dY eX):=bO (cfg:=fun y=>aQ lL (cF y)) bD (fun _=>rfl) (fun _=>rq) (n:=400) (by
 rw[L6];intro s hpre;refine⟨s,rfl,hpre,af.2 ⟨fun h=>⟨by unfold eX;rw[h];rfl,trivial⟩,fun h=>⟨s,rfl,hpre,by unfold eX;rw[h];rfl,trivial⟩⟩⟩)
theorem KG:CO mR (dY eX):=bO (cfg:=fun y=>aQ lL (cF y)) bD (fun _=>rfl) (fun _=>rq) (n:=400) (by
 rw[Ku];intro s hpre;refine⟨s,rfl,hpre,af.2 ⟨fun h=>⟨by unfold eX;rw[h];rfl,trivial⟩,fun h=>⟨s,rfl,hpre,by unfold eX;rw[h];rfl,trivial⟩⟩⟩)
theorem zx {s:Bs} (h:256<s.length):bU s=false:=by
 unfold bU;have:decide (s.length<=256)=false:=by simp;omega
 simp[this]
theorem yx {s:Bs} (h:dO s=true):bU s=false:=by
 unfold bU;simp[h]
theorem He {s:Bs} (h:dK s=true):bU s=false:=by
 unfold dK at h;simp only[Ad,AK]at h;have h1:=h.1.1.2
 cases s with
 |nil=>simp at h1
 | cons b s=>
  simp only[Dm,AW]at h1;subst h1;have:(aB (91::s) 46).all di=false:=by
   have hs:aB (91::s) 46=(match aB s 46 with|h::t=>(91::h)::t|[]=>[[91]]):=by
    rw[aB];rw[Ah (by decide)]
    try (cases aB s 46<;>rfl)
   rw[hs];have hl:∀h:Bs,di (91::h)=false:=fun h=>tV (s:=91::h) (x:=0) (by simp) (by simp[eT,nB])
   cases aB s 46 with
   |nil=>simp[hl]
   |cons h t=>simp[hl]
  unfold bU;rw[this];simp
theorem yw {s:Bs} {x:Nat} (h:x<(aB s 46).length) (hp:di (aB s 46)[x]=false):bU s=false:=by
 unfold bU;rw[mq h hp];simp
theorem x6 {s:Bs} (h1:s.length<=256) (h2:dO s=false):bU s=(aB s 46).all di:=by
 unfold bU;simp[h1,h2]
theorem KW:CO jy (dY bU):=bO (cfg:=fun y=>aQ lL (cq jy 5 (rS y))) bD (fun _=>rfl) (fun _=>rq) (n:=400) (by
 rw[J3];intro s hpre;have hpre:s.length<=100000:=hpre;have hsl:=kI s 46;refine af.2 ⟨fun h=>⟨(zx (by rw[bF,Ac,Aa]at h;omega)).symm,trivial⟩,fun h=>⟨s,rfl,hpre,af.2 ⟨fun h2=>⟨(yx h2).symm,trivial⟩,fun h2=>⟨(s,46),rfl,rfl,hpre,⟨0,⟨by simp,fun j h hj=>by omega⟩,⟨rfl,rfl,trivial⟩,trivial,trivial⟩,?_⟩⟩⟩⟩;have h256:s.length<=256:=by rw[bF,Ae,Aa]at h;omega
 rintro x ⟨hx,hall⟩;refine af.2 ⟨fun hlt=>au.2 ⟨_,dH (cp hlt),_,rfl,?_,af.2 ⟨fun hh=>⟨(yw (cp hlt) (by simpa using hh)).symm,trivial⟩,fun hh=>ag.2 ⟨cB x (by have:=cp hlt;omega),x+1,⟨cp hlt,lF hall (cp hlt) (by simpa using hh)⟩,?_,⟨rfl,by simp[aj],trivial⟩,trivial,trivial⟩⟩⟩,fun hge=>⟨?_,trivial⟩⟩
 . have:=rj (cp hlt);omega
 . have:=cp hlt;show(aB s 46).length - (x+1)<(aB s 46).length - x
   omega
 . rw[x6 h256 h2,lE hall (ff hge)])
theorem zb:∀g C,sH g=some C->CO g C:=bM Lf (bM KG (bM KW rq))
theorem K1:CO jC (dY bU):=bO (cfg:=fun y=>aQ sH (cq jC 4 (sk y))) bD (fun _=>rfl) (fun _=>zb) (n:=400) (by
 rw[Me];intro s hpre;have hpre:s.length<=100000:=hpre;have hsl:=kI s 46;refine af.2 ⟨fun h=>⟨(zx (by rw[bF,Ac,Aa]at h;omega)).symm,trivial⟩,fun h=>⟨s,rfl,hpre,af.2 ⟨fun h2=>⟨?_,trivial⟩,fun h2=>⟨(s,46),rfl,rfl,hpre,⟨0,⟨by simp,fun j h hj=>by omega⟩,⟨rfl,rfl,rfl,trivial⟩,trivial,trivial⟩,?_⟩⟩⟩⟩
 . unfold eX at h2;rw[A4]at h2;rcases h2 with h2|h2
   . exact(yx h2).symm
   . exact(He h2).symm
 have h256:s.length<=256:=by rw[bF,Ae,Aa]at h;omega
 have h3:dO s=false:=by unfold eX at h2;rw[Bool.or_eq_false_iff]at h2;exact h2.1
 rintro x ⟨hx,hall⟩;refine af.2 ⟨fun hlt=>au.2 ⟨_,dH (cp hlt),_,rfl,?_,af.2 ⟨fun hh=>⟨(yw (cp hlt) (by simpa using hh)).symm,trivial⟩,fun hh=>ag.2 ⟨cB x (by have:=cp hlt;omega),x+1,⟨cp hlt,lF hall (cp hlt) (by simpa using hh)⟩,?_,⟨rfl,rfl,by simp[aj],trivial⟩,trivial,trivial⟩⟩⟩,fun hge=>⟨?_,trivial⟩⟩
 . have:=rj (cp hlt);omega
 . have:=cp hlt;show(aB s 46).length - (x+1)<(aB s 46).length - x
   omega
 . rw[x6 h256 h3,lE hall (ff hge)])
theorem IX:CO wK oc:=bO (cfg:=fun y=>aQ bI (cF y)) bD (fun _=>rfl) (fun _=>fb) (n:=400) (by
 rw[JU];rintro⟨s,t⟩ _;refine af.2 ⟨fun h=>ag.2 ⟨?_,?_,trivial⟩,fun h=>⟨?_,trivial⟩⟩
 . rw[dN,Ac]at h;simp at h⊢;exact h
 . rw[Aw];simp
 . rw[dN,Ae]at h;symm;rw[Ae];intro e;have:=Az List.length e;simp at this h;omega)
theorem uK:∀g C,oM g=some C->CO g C:=bM K1 (bM IX zb)
theorem HH:CO mM oc:=bO (cfg:=fun y=>aQ oM (cF y)) bD (fun _=>rfl) (fun _=>uK) (n:=400) (by
 rw[IB];rintro⟨s,t⟩ h;exact⟨(s,t),rfl,rfl,h,rfl,trivial⟩)
theorem IU:CO na ve:=bO (cfg:=fun y=>aQ oM (cF y)) bD (fun _=>rfl) (fun _=>uK) (n:=400) (by
 rw[IP];intro s hpre;refine⟨s,rfl,hpre,af.2 ⟨fun h=>⟨?_,trivial⟩,fun h=>⟨(s,46),rfl,rfl,hpre,?_,trivial⟩⟩⟩
 . rw[Ah (by simpa using h)]
 . rw[Ai (by simpa using h)])
theorem I4:CO nb vg:=bO (cfg:=fun y=>aQ bI (cF y)) bD (fun _=>rfl) (fun _=>fb) (n:=400) (by
 rw[JW];intro s hpre;have bang:∀(_:1<s.length) (_:¬(2<s.length/\s.take 2=[42,46])),so s[Int.toNat 0]? fun(val:UInt8)=>br (Int.ofNat (UInt8.toNat val)==33) (ck (Nat.ble (Int.toNat 1) s.length) (aj 33 (cN s).1/\List.drop (Int.toNat 1) s=(cN s).2/\True)) (aj 0 (cN s).1/\s=(cN s).2/\True):=by
   intro h hn;have hhd:s.head? =some s[0]:=by rw[Bl];simp[show 0<s.length by omega]
   refine au.2 ⟨s[0],by simp[show 0<s.length by omega],af.2 ⟨fun hb=>ag.2 ⟨by simp;omega,?_⟩,fun hb=>?_⟩⟩
   . have:s[0]=33:=dT.1 hb;unfold cN;rw[Ah hn,Ai ⟨h,by rw[hhd,this]⟩];exact⟨rfl,rfl,trivial⟩
   . have:s[0]≠33:=fun e=>by rw[show(33:Int)=nB 33 from rfl,dT.2 e]at hb;cases hb
     unfold cN;rw[Ah hn,Ah (by rintro⟨_,e⟩;rw[hhd]at e;simp only[AW]at e;exact this e)];exact⟨rfl,rfl,trivial⟩
 have none1:¬(1<s.length)->¬(2<s.length/\s.take 2=[42,46])->aj 0 (cN s).1/\s=(cN s).2/\True:=by
   intro h hn;unfold cN;rw[Ah hn,Ah (fun e=>h e.1)];exact⟨rfl,rfl,trivial⟩
 have c2:bj 2 (Int.ofNat s.length)=true↔2<s.length:=by rw[bF,Ac,Aa];omega
 have c1:bj 1 (Int.ofNat s.length)=true↔1<s.length:=by rw[bF,Ac,Aa];omega
 have n1:bj 1 (Int.ofNat s.length)=false->¬1<s.length:=fun h h2=>by rw[c1.2 h2]at h;cases h
 refine af.2 ⟨fun h=>ag.2 ⟨by have:=c2.1 h;simp;omega,af.2 ⟨fun h2=>ag.2 ⟨by have:=c2.1 h;simp;omega,?_⟩,fun h2=>?_⟩⟩,fun h=>?_⟩
 . have:s.take 2=[42,46]:=by simpa using h2
   unfold cN;rw[Ai ⟨c2.1 h,this⟩];exact⟨rfl,rfl,trivial⟩
 . have hn:¬(2<s.length/\s.take 2=[42,46]):=by rintro⟨_,e⟩;simp[e]at h2
   exact af.2 ⟨fun h3=>bang (c1.1 h3) hn,fun h3=>none1 (n1 h3) hn⟩
 . have hn:¬(2<s.length/\s.take 2=[42,46]):=by rintro⟨e,_⟩;rw[c2.2 e]at h;cases h
   exact af.2 ⟨fun h3=>bang (c1.1 h3) hn,fun h3=>none1 (n1 h3) hn⟩)
theorem uL:∀g C,oN g=some C->CO g C:=bM IU (bM HH (bM I4 uK))
theorem qX (s:Bs):bj 0 (Int.ofNat (if bU s=true then aB s 46 else[]).length)=bU s:=by
 have:=A5.2 (lv s 46);rw[bF,Aa]
 cases h:bU s
 . simp
 . simp;omega
theorem Kc:CO mU vF:=bO (cfg:=fun y=>aQ oN (cF y)) bD (fun _=>rfl) (fun _=>uL) (n:=400) (by
 rw[J5];intro s hpre;have hpre:s.length<=100000:=hpre;refine⟨(s,[42,46]),rfl,rfl,⟨hpre,by simp⟩,af.2 ⟨fun h=>?_,fun h=>⟨(s,[33]),rfl,rfl,⟨hpre,by simp⟩,af.2 ⟨fun h2=>?_,fun h2=>?_⟩⟩⟩⟩
 . have h':s.take 2=[42,46]:=by simpa using h
   have hl:2<=s.length:=by have:=Az List.length h';simp at this;omega
   have hr:bG s=(s.drop 2,true,false):=by unfold bG;rw[Ai h']
   have hi:cX s=bU (s.drop 2):=by unfold cX;rw[hr];simp
   refine ag.2 ⟨by simp;omega,s.drop 2,rfl,by simp;omega,af.2 ⟨fun h3=>?_,fun h3=>?_⟩⟩
   all_goals (rw[qX]at h3;rw[hr,hi,h3];exact⟨rfl,rfl,rfl,rfl,trivial⟩)
 . have h0:¬s.take 2=[42,46]:=by simpa using h
   have h':s.take 1=[33]:=by simpa using h2
   have hl:1<=s.length:=by have:=Az List.length h';simp at this;omega
   have hr:bG s=(s.drop 1,false,true):=by unfold bG;rw[Ah h0,Ai h']
   have hi:cX s=(bU (s.drop 1)&&decide (1<(aB (s.drop 1) 46).length)):=by unfold cX;rw[hr];simp
   refine ag.2 ⟨by simp;omega,s.drop 1,rfl,by simp;omega,af.2 ⟨fun h3=>?_,fun h3=>?_⟩⟩
   . rw[qX]at h3;rw[hr,hi,h3,Ai rfl];refine⟨rfl,rfl,rfl,?_,trivial⟩;rw[bF,Aw];simp;omega
   . rw[qX]at h3;rw[hr,hi,h3];exact⟨rfl,rfl,rfl,rfl,trivial⟩
 . have h0:¬s.take 2=[42,46]:=by simpa using h
   have h1:¬s.take 1=[33]:=by simpa using h2
   have hr:bG s=(s,false,false):=by unfold bG;rw[Ah h0,Ah h1]
   have hi:cX s=bU s:=by unfold cX;rw[hr];simp
   refine⟨s,rfl,hpre,af.2 ⟨fun h3=>?_,fun h3=>?_⟩⟩
   all_goals (rw[qX]at h3;rw[hr,hi,h3];exact⟨rfl,rfl,rfl,rfl,trivial⟩))
theorem F1 (s:Bs):bA 0 (eG s 46)=decide (1<(aB s 46).length):=by
 rw[nH,dN];rcases pB s 46 with⟨i,h1,h2,h3⟩|⟨h1,h2⟩
 . rw[h1,h2];have:=A5.2 (lv (s.drop (i+1)) 46);rw[Aw];simp;omega
 . rw[h1,h2];rfl
theorem yy {b:UInt8} {s:Bs} (h:eT b=false) (h2:nB b≠46):bU (b::s)=false:=by
 have hs:aB (b::s) 46=(match aB s 46 with|h::t=>(b::h)::t|[]=>[[b]]):=by
  rw[aB];rw[Ah h2]
  try (cases aB s 46<;>rfl)
 have hl:∀h':Bs,di (b::h')=false:=fun h'=>tV (s:=b::h') (x:=0) (by simp) (by simpa using h)
 have:(aB (b::s) 46).all di=false:=by
  rw[hs]
  cases aB s 46 with
  |nil=>simp[hl]
  |cons h t=>simp[hl]
 unfold bU;rw[this];simp
theorem zy:bU []=false:=by rfl
theorem vv (s:Bs):cX s=(bU (cN s).2&&((cN s).1 !=33||decide (1<(aB (cN s).2 46).length))):=by
 unfold cN;by_cases h1:s.take 2=[42,46]
 . have hr:bG s=(s.drop 2,true,false):=by unfold bG;rw[Ai h1]
   have hi:cX s=bU (s.drop 2):=by unfold cX;rw[hr];simp
   by_cases h2:2<s.length
   . rw[Ai ⟨h2,h1⟩,hi];simp
   . have hs:s=[42,46]:=by
      rw[<-h1];exact(Ax (by omega)).symm
     subst hs;rw[hi];rw[Ah (fun e=>h2 e.1),Ah (by rintro⟨_,e⟩;simp at e)];simp only;rw[yy (by rfl) (by decide)];simp[zy]
 . rw [Ah (fun e=>h1 e.2)];by_cases h3:s.take 1=[33]
   . have hr:bG s=(s.drop 1,false,true):=by unfold bG;rw[Ah h1,Ai h3]
     have hi:cX s=(bU (s.drop 1)&&decide (1<(aB (s.drop 1) 46).length)):=by unfold cX;rw[hr];simp
     cases s with
     |nil=>simp at h3
     |cons b s=>
      have hb:b=33:=by simpa using h3
      subst hb;by_cases h4:1<(33::s).length
      . rw[Ai ⟨h4,rfl⟩,hi];simp
      . have:s=[]:=by simp at h4;exact h4
        subst this;rw[Ah (fun e=>h4 e.1),hi,yy (by rfl) (by decide)];simp[zy]
   . have hr:bG s=(s,false,false):=by unfold bG;rw[Ah h1,Ah h3]
     have hi:cX s=bU s:=by unfold cX;rw[hr];simp
     rw[Ah (by
      rintro⟨e1,e2⟩;apply h3
      cases s with
      |nil=>simp at e1
      |cons b s=>simp only[Dm,AW]at e2;subst e2;rfl),hi]
     simp
theorem Hq (s:Bs):(cN s).2.length<=s.length:=by
 unfold cN;split
 . simp
 . split<;>simp
theorem K6:CO nq (dY cX):=bO (cfg:=fun y=>aQ oN (cF y)) bD (fun _=>rfl) (fun _=>uL) (n:=400) (by
 rw[LP];intro s hpre;have hpre:s.length<=100000:=hpre;have hl:=Hq s;refine⟨s,rfl,hpre,(cN s).2,rfl,by omega,af.2 ⟨fun h=>af.2 ⟨fun h2=>⟨?_,trivial⟩,fun h2=>⟨((cN s).2,46),rfl,rfl,by simp only;omega,?_,trivial⟩⟩,fun h=>⟨?_,trivial⟩⟩⟩
 . rw[vv,h];have:((cN s).1 !=33)=true:=h2;rw[this];rfl
 . rw[vv,h];have:((cN s).1 !=33)=false:=h2;rw[this,F1];rfl
 . rw[vv,h];rfl)
theorem uM:∀g C,oO g=some C->CO g C:=bM Kc (bM K6 uL)
theorem JG:CO jo vb:=bO (cfg:=fun y=>aQ oO (cq jo 4 (rE y))) bD (fun _=>rfl) (fun _=>uM) (n:=400) (by
 rw[IK];rintro l ⟨hpre,hs⟩;refine af.2 ⟨fun h=>⟨?_,trivial⟩,fun h=>⟨⟨0,⟨by simp,fun j h hj=>by omega⟩,⟨rfl,rfl,rfl,trivial⟩,trivial,trivial⟩,?_⟩⟩
 . rw[bF,Ac,Aa]at h;unfold gR;rw[Ai (by omega)]
 have h256:¬256<l.length:=by rw[bF,Ae,Aa]at h;omega
 rintro x ⟨hx,hall⟩;refine af.2 ⟨fun hlt=>au.2 ⟨_,dH (cp hlt),_,rfl,hs _ (Av _),af.2 ⟨fun hh=>⟨?_,trivial⟩,fun hh=>ag.2 ⟨cB x (by omega),x+1,⟨cp hlt,lF hall (cp hlt) (by simpa using hh)⟩,?_,⟨rfl,rfl,by simp[aj],trivial⟩,trivial,trivial⟩⟩⟩,fun hge=>⟨?_,trivial⟩⟩
 . unfold gR;rw[Ah h256,mq (cp hlt) (by simpa using hh)];simp[aj]
 . have:=cp hlt;show l.length - (x+1)<l.length - x
   omega
 . unfold gR;rw[Ah h256,lE hall (ff hge)];simp[aj])
theorem Ke:CO jt vG:=bO (cfg:=fun y=>aQ oO (cq jt 2 (rT y))) bD (fun _=>rfl) (fun _=>uM) (n:=400) (by
 rw[J6];rintro l ⟨hpre,hs⟩;refine⟨⟨0,⟨by simp,fun j h hj=>by omega⟩,⟨rfl,rfl,trivial⟩,trivial,trivial⟩,?_⟩;rintro x ⟨hx,hall⟩;refine af.2 ⟨fun hlt=>au.2 ⟨_,dH (cp hlt),_,rfl,hs _ (Av _),af.2 ⟨fun hh=>⟨?_,trivial⟩,fun hh=>ag.2 ⟨cB x (by omega),x+1,⟨cp hlt,lF hall (cp hlt) (by simpa using hh)⟩,?_,⟨rfl,by simp[aj],trivial⟩,trivial,trivial⟩⟩⟩,fun hge=>⟨?_,trivial⟩⟩
 . rw[mq (cp hlt) (by simpa using hh)]
 . have:=cp hlt;show l.length - (x+1)<l.length - x
   omega
 . rw[lE hall (ff hge)])
theorem zd:∀g C,wk g=some C->CO g C:=bM JG (bM Ke uM)
end
end Go.Proofs
