/- Part 5: an evaluator, proved sound, and its use at this seat; no condition. -/
import Derived.KernelRfl
import Derived.Test.YtmfohfbdddlilaaGreatP2
set_option linter.unusedSimpArgs false
set_option linter.unusedVariables false
set_option linter.unusedSectionVars false
set_option linter.deprecated false
set_option maxRecDepth 100000
set_option maxHeartbeats 4000000
namespace Go.Proofs
open Go Go.Am Go.RowKit Go.Sy
section
variable [Inhabited aL]
theorem N1:(bV (fun(y:aM.Y sH)=>bM bZ (cr mT 3 (xR y))) 400 mT)=(∀(y:Bs×Int),
 y.1.length<=1000000->
 (∃(x:Nat),
 (x<=y.1.length/\ ∀(j:Nat) (h:j<y.1.length),j<x->ai (nB y.1[j]) y.2->False)/\
 (y.1=y.1/\
 ai y.2 y.2/\
 ai (-1) (-1)/\ai (Int.ofNat y.1.length) (Int.ofNat y.1.length)/\ai 0 ↑x/\True)/\
 True/\True)/\
 ∀(x:Nat),
 (x<=y.1.length/\ ∀(j:Nat) (h:j<y.1.length),j<x->ai (nB y.1[j]) y.2->False)->
 br (bw (↑x) (Int.ofNat y.1.length))
 (so y.1[Int.toNat ↑x]? fun(val:UInt8)=>
 br (Int.ofNat (UInt8.toNat val)==y.2) (ai (↑x) (gT y.1 y.2)/\True)
 (ck (bp .i64 (↑x+1))
 (∃(y_1:Nat),
 (y_1<=y.1.length/\ ∀(j:Nat) (h:j<y.1.length),j<y_1->ai (nB y.1[j]) y.2->False)/\
 aH.μ (xR y) y_1<aH.μ (xR y) x/\
 (y.1=y.1/\
 ai y.2 y.2/\
 ai (-1) (-1)/\ai (Int.ofNat y.1.length) (Int.ofNat y.1.length)/\ai (↑x+1) ↑y_1/\True)/\
 True/\True)))
 (ai (-1) (gT y.1 y.2)/\True)):=by kernel_rfl
theorem Ow:(bV (fun(y:aM.Y pM)=>bM yg (cS y)) 400 GL)=(∀(y:Bs×Int),
 y.1.length<=1000000->
 ∃(y_1:Bs×Int),
 y.1=y_1.1/\
 ai y.2 y_1.2/\
 y_1.1.length<=1000000/\
 br (bw (gT y_1.1 y_1.2) 0)
 (y.1=Prod.fst (dP y.1 y.2)/\
 Array.toList (ByteArray.data {data:=#[]})=Prod.fst (Prod.snd (dP y.1 y.2))/\
 false=Prod.snd (Prod.snd (dP y.1 y.2))/\True)
 (ck (nn (gT y_1.1 y_1.2))
 (ck (Nat.ble (Int.toNat (gT y_1.1 y_1.2)) y.1.length)
 (ck (bp .i64 (gT y_1.1 y_1.2+1))
 (ck (nn (gT y_1.1 y_1.2+1))
 (ck (Nat.ble (Int.toNat (gT y_1.1 y_1.2+1)) y.1.length)
 (List.take (Int.toNat (gT y_1.1 y_1.2)) y.1=Prod.fst (dP y.1 y.2)/\
 List.drop (Int.toNat (gT y_1.1 y_1.2+1)) y.1=Prod.fst (Prod.snd (dP y.1 y.2))/\
 true=Prod.snd (Prod.snd (dP y.1 y.2))/\True))))))):=by kernel_rfl
theorem XL:(bV (fun(y:aM.Y sA)=>bM yh (cr mP 2 (xD y))) 400 mP)=(∀(y:Bs×Int),
 y.1.length<=100000->
 (∃(x:Bs×List Bs),
 (aX y.1 y.2=x.2++aX x.1 y.2/\
 x.2.length+x.1.length<=y.1.length)/\
 (y.1=x.1/\ai y.2 y.2/\True/\True)/\
 ((x.2=[]/\ ∀(x:Bs),List.length (aS x)=1)/\True)/\True)/\
 ∀(x:Bs×List Bs),
 aX y.1 y.2=x.2++aX x.1 y.2/\
 x.2.length+x.1.length<=y.1.length->
 ∃(y_1:Bs×Int),
 x.1=y_1.1/\
 ai y.2 y_1.2/\
 y_1.1.length<=1000000/\
 ∃(x_1:Bs),
 [SV.str x_1]=[SV.str (Prod.fst (dP y_1.1 y_1.2))]/\
 ck (Nat.ble ((x.2.length+List.length [x_1])*16) 16777216&&Nat.ble (x.2.length+List.length [x_1]) 16777216)
 (br (!Prod.snd (Prod.snd (dP y_1.1 y_1.2)))
 (SV.aj Bs (x.2++[x_1]) aS=SV.aj Bs (aX y.1 y.2) aS/\
 True)
 (∃(y_2:Bs×List Bs),
 (aX y.1 y.2=y_2.2++aX y_2.1 y.2/\
 y_2.2.length+y_2.1.length<=y.1.length)/\
 aH.μ (xD y) y_2<aH.μ (xD y) x/\
 (Prod.fst (Prod.snd (dP y_1.1 y_1.2))=y_2.1/\ai y.2 y.2/\True/\True)/\
 (SV.aj Bs (x.2++[x_1]) aS=SV.aj Bs y_2.2 aS/\True)/\True))):=by kernel_rfl
theorem Ox:(bV (fun(y:aM.Y pN)=>bM bZ (cS y)) 400 qW)=(∀(y:UInt8),True->br (bU 48 (nB y)) (bU (nB y) 57=dA y/\True) (false=dA y/\True)):=by kernel_rfl
theorem N0:(bV (fun(y:aM.Y sG)=>bM yi (cr mH 2 (xW y))) 400 mH)=(∀(y:List UInt8),
 y.length<=1000000->
 (∃(x:Nat),x<=dq y/\(y=y/\ai 0 ↑x/\True)/\True/\True)/\
 ∀(x:Nat),
 x<=dq y->
 br (bw (↑x) (Int.ofNat y.length))
 (so y[Int.toNat ↑x]? fun(val:UInt8)=>
 ∃(y_1:UInt8),
 ai (Int.ofNat (UInt8.toNat val)) (nB y_1)/\
 True/\
 br (dA y_1)
 (ck (bp .i64 (↑x+1))
 (∃(y_2:Nat),
 y_2<=dq y/\
 aH.μ (xW y) y_2<aH.μ (xW y) x/\(y=y/\ai (↑x+1) ↑y_2/\True)/\True/\True))
 (ai ↑x ↑(dq y)/\True))
 (ai ↑x ↑(dq y)/\True)):=by kernel_rfl
theorem Oy:(bV (fun(y:aM.Y lp)=>bM sO (cr mI 8 (iU y))) 400 mI)=(∀(y:List UInt8),
 y.length<=1000000->
 br (!y==Array.toList (ByteArray.data {data:=#[]}))
 (so y[Int.toNat 0]? fun(val:UInt8)=>
 br (Int.ofNat (UInt8.toNat val)==45)
 (ck (Nat.ble (Int.toNat 1) y.length)
 (br (List.drop (Int.toNat 1) y==Array.toList (ByteArray.data {data:=#[]}))
 (ai 0 (Prod.fst (bB y))/\false=Prod.snd (bB y)/\True)
 (∃(y_1:List UInt8),
 List.drop (Int.toNat 1) y=y_1/\
 y_1.length<=1000000/\
 br (bw (↑(dq y_1)) (Int.ofNat (List.length (List.drop (Int.toNat 1) y))))
 (ai 0 (Prod.fst (bB y))/\false=Prod.snd (bB y)/\True)
 ((∃(x:Nat),
 (x<=List.length (ay y)/\ ∀(b:UInt8),b∈ay y->dA b=true)/\
 (List.drop (Int.toNat 1) y=ay y/\
 ai (-1) (if cO y=true then -1 else 1)/\
 ai 0 (List.foldl ct 0 (List.take x (ay y)))/\
 ai (Int.ofNat (List.length (List.drop (Int.toNat 1) y))) (Int.ofNat (List.length (ay y)))/\ai 0 ↑x/\True)/\
 True/\True)/\
 ∀(x:Nat),
 (x<=List.length (ay y)/\ ∀(b:UInt8),b∈ay y->dA b=true)->
 br (bw (↑x) (Int.ofNat (List.length (ay y))))
 (ck (bp .i64 (List.foldl ct 0 (List.take x (ay y))*10))
 (so (ay y)[Int.toNat ↑x]? fun(val:UInt8)=>
 ck
 (bp .i64
 (List.foldl ct 0 (List.take x (ay y))*10+
 Go.IntKind.wrap .i64 (Go.IntKind.wrap Go.IntKind.u8 (Int.ofNat (UInt8.toNat val) - 48))))
 (ck (bp .i64 (↑x+1))
 (∃(y_2:Nat),
 (y_2<=List.length (ay y)/\ ∀(b:UInt8),b∈ay y->dA b=true)/\
 aH.μ (iU y) y_2<aH.μ (iU y) x/\
 (ay y=ay y/\
 ai (if cO y=true then -1 else 1) (if cO y=true then -1 else 1)/\
 ai
 (if
 1099511627776<
 List.foldl ct 0 (List.take x (ay y))*10+
 Go.IntKind.wrap .i64 (Go.IntKind.wrap Go.IntKind.u8 (Int.ofNat (UInt8.toNat val) - 48))then
 1099511627776
 else
 List.foldl ct 0 (List.take x (ay y))*10+
 Go.IntKind.wrap .i64 (Go.IntKind.wrap Go.IntKind.u8 (Int.ofNat (UInt8.toNat val) - 48)))
 (List.foldl ct 0 (List.take y_2 (ay y)))/\
 ai (Int.ofNat (List.length (ay y))) (Int.ofNat (List.length (ay y)))/\
 ai (↑x+1) ↑y_2/\True)/\
 True/\True))))
 (ck
 (bp .i64 ((if cO y=true then -1 else 1)*List.foldl ct 0 (List.take x (ay y))))
 (ai ((if cO y=true then -1 else 1)*List.foldl ct 0 (List.take x (ay y)))
 (Prod.fst (bB y))/\
 true=Prod.snd (bB y)/\True))))))
 (br (y==Array.toList (ByteArray.data {data:=#[]})) (ai 0 (Prod.fst (bB y))/\false=Prod.snd (bB y)/\True)
 (∃(y_1:List UInt8),
 y=y_1/\
 y_1.length<=1000000/\
 br (bw (↑(dq y_1)) (Int.ofNat y.length))
 (ai 0 (Prod.fst (bB y))/\false=Prod.snd (bB y)/\True)
 ((∃(x:Nat),
 (x<=List.length (ay y)/\ ∀(b:UInt8),b∈ay y->dA b=true)/\
 (y=ay y/\
 ai 1 (if cO y=true then -1 else 1)/\
 ai 0 (List.foldl ct 0 (List.take x (ay y)))/\
 ai (Int.ofNat y.length) (Int.ofNat (List.length (ay y)))/\ai 0 ↑x/\True)/\
 True/\True)/\
 ∀(x:Nat),
 (x<=List.length (ay y)/\ ∀(b:UInt8),b∈ay y->dA b=true)->
 br (bw (↑x) (Int.ofNat (List.length (ay y))))
 (ck (bp .i64 (List.foldl ct 0 (List.take x (ay y))*10))
 (so (ay y)[Int.toNat ↑x]? fun(val:UInt8)=>
 ck
 (bp .i64
 (List.foldl ct 0 (List.take x (ay y))*10+
 Go.IntKind.wrap .i64 (Go.IntKind.wrap Go.IntKind.u8 (Int.ofNat (UInt8.toNat val) - 48))))
 (ck (bp .i64 (↑x+1))
 (∃(y_2:Nat),
 (y_2<=List.length (ay y)/\ ∀(b:UInt8),b∈ay y->dA b=true)/\
 aH.μ (iU y) y_2<aH.μ (iU y) x/\
 (ay y=ay y/\
 ai (if cO y=true then -1 else 1) (if cO y=true then -1 else 1)/\
 ai
 (if
 1099511627776<
 List.foldl ct 0 (List.take x (ay y))*10+
 Go.IntKind.wrap .i64 (Go.IntKind.wrap Go.IntKind.u8 (Int.ofNat (UInt8.toNat val) - 48))then
 1099511627776
 else
 List.foldl ct 0 (List.take x (ay y))*10+
 Go.IntKind.wrap .i64 (Go.IntKind.wrap Go.IntKind.u8 (Int.ofNat (UInt8.toNat val) - 48)))
 (List.foldl ct 0 (List.take y_2 (ay y)))/\
 ai (Int.ofNat (List.length (ay y))) (Int.ofNat (List.length (ay y)))/\
 ai (↑x+1) ↑y_2/\True)/\
 True/\True))))
 (ck (bp .i64 ((if cO y=true then -1 else 1)*List.foldl ct 0 (List.take x (ay y))))
 (ai ((if cO y=true then -1 else 1)*List.foldl ct 0 (List.take x (ay y)))
 (Prod.fst (bB y))/\
 true=Prod.snd (bB y)/\True))))))
 (br (y==Array.toList (ByteArray.data {data:=#[]})) (ai 0 (Prod.fst (bB y))/\false=Prod.snd (bB y)/\True)
 (∃(y_1:List UInt8),
 y=y_1/\
 y_1.length<=1000000/\
 br (bw (↑(dq y_1)) (Int.ofNat y.length))
 (ai 0 (Prod.fst (bB y))/\false=Prod.snd (bB y)/\True)
 ((∃(x:Nat),
 (x<=List.length (ay y)/\ ∀(b:UInt8),b∈ay y->dA b=true)/\
 (y=ay y/\
 ai 1 (if cO y=true then -1 else 1)/\
 ai 0 (List.foldl ct 0 (List.take x (ay y)))/\
 ai (Int.ofNat y.length) (Int.ofNat (List.length (ay y)))/\ai 0 ↑x/\True)/\
 True/\True)/\
 ∀(x:Nat),
 (x<=List.length (ay y)/\ ∀(b:UInt8),b∈ay y->dA b=true)->
 br (bw (↑x) (Int.ofNat (List.length (ay y))))
 (ck (bp .i64 (List.foldl ct 0 (List.take x (ay y))*10))
 (so (ay y)[Int.toNat ↑x]? fun(val:UInt8)=>
 ck
 (bp .i64
 (List.foldl ct 0 (List.take x (ay y))*10+
 Go.IntKind.wrap .i64 (Go.IntKind.wrap Go.IntKind.u8 (Int.ofNat (UInt8.toNat val) - 48))))
 (ck (bp .i64 (↑x+1))
 (∃(y_2:Nat),
 (y_2<=List.length (ay y)/\ ∀(b:UInt8),b∈ay y->dA b=true)/\
 aH.μ (iU y) y_2<aH.μ (iU y) x/\
 (ay y=ay y/\
 ai (if cO y=true then -1 else 1) (if cO y=true then -1 else 1)/\
 ai
 (if
 1099511627776<
 List.foldl ct 0 (List.take x (ay y))*10+
 Go.IntKind.wrap .i64 (Go.IntKind.wrap Go.IntKind.u8 (Int.ofNat (UInt8.toNat val) - 48))then
 1099511627776
 else
 List.foldl ct 0 (List.take x (ay y))*10+
 Go.IntKind.wrap .i64 (Go.IntKind.wrap Go.IntKind.u8 (Int.ofNat (UInt8.toNat val) - 48)))
 (List.foldl ct 0 (List.take y_2 (ay y)))/\
 ai (Int.ofNat (List.length (ay y))) (Int.ofNat (List.length (ay y)))/\
 ai (↑x+1) ↑y_2/\True)/\
 True/\True))))
 (ck (bp .i64 ((if cO y=true then -1 else 1)*List.foldl ct 0 (List.take x (ay y))))
 (ai ((if cO y=true then -1 else 1)*List.foldl ct 0 (List.take x (ay y)))
 (Prod.fst (bB y))/\
 true=Prod.snd (bB y)/\True)))))):=by kernel_rfl
theorem X7:(bV (fun(y:aM.Y sH)=>bM bZ (cr mW 2 (xx y))) 400 mW)=(∀(y:Bs×Int),
 y.1.length<=1000000->
 (∃(x:Nat),
 (x<=y.1.length/\ ∀(j:Nat) (h:j<y.1.length),j<x->ai (nB y.1[j]) y.2->False)/\
 (y.1=y.1/\ai y.2 y.2/\ai 0 ↑x/\True)/\True/\True)/\
 ∀(x:Nat),
 (x<=y.1.length/\ ∀(j:Nat) (h:j<y.1.length),j<x->ai (nB y.1[j]) y.2->False)->
 br (bw (↑x) (Int.ofNat y.1.length))
 (so y.1[Int.toNat ↑x]? fun(val:UInt8)=>
 br (Int.ofNat (UInt8.toNat val)==y.2) (ai (↑x) (gT y.1 y.2)/\True)
 (ck (bp .i64 (↑x+1))
 (∃(y_1:Nat),
 (y_1<=y.1.length/\ ∀(j:Nat) (h:j<y.1.length),j<y_1->ai (nB y.1[j]) y.2->False)/\
 aH.μ (xx y) y_1<aH.μ (xx y) x/\
 (y.1=y.1/\ai y.2 y.2/\ai (↑x+1) ↑y_1/\True)/\True/\True)))
 (ai (-1) (gT y.1 y.2)/\True)):=by kernel_rfl
theorem WQ:(bV (fun(y:aM.Y sA)=>bM bZ (cr mQ 4 (sd y))) 400 mQ)=(∀(y:Bs×Int),
 y.1.length<=100000->
 (∃(x:Nat×Nat×List Bs),
 (x.1<=x.2.1/\
 x.2.1<=y.1.length/\
 aX y.1 y.2=x.2.2++aX (List.drop x.1 y.1) y.2/\
 x.2.2.length<=x.1/\
 ∀(j:Nat) (h:j<y.1.length),x.1<=j->j<x.2.1->ai (nB y.1[j]) y.2->False)/\
 (y.1=y.1/\ai y.2 y.2/\True/\ai 0 ↑x.1/\ai 0 ↑x.2.1/\True)/\
 (SV.aj (View.X {X:=Bs,enc:=aS}) [] (View.enc {X:=Bs,enc:=aS})=
 SV.aj Bs x.2.2 aS/\
 True)/\
 True)/\
 ∀(x:Nat×Nat×List Bs),
 (x.1<=x.2.1/\
 x.2.1<=y.1.length/\
 aX y.1 y.2=x.2.2++aX (List.drop x.1 y.1) y.2/\
 x.2.2.length<=x.1/\
 ∀(j:Nat) (h:j<y.1.length),x.1<=j->j<x.2.1->ai (nB y.1[j]) y.2->False)->
 br (bw (↑x.2.1) (Int.ofNat y.1.length))
 (so y.1[Int.toNat ↑x.2.1]? fun(val:UInt8)=>
 br (Int.ofNat (UInt8.toNat val)==y.2)
 (ck (Nat.ble (Int.toNat ↑x.1) (Int.toNat ↑x.2.1)&&Nat.ble (Int.toNat ↑x.2.1) y.1.length)
 (∃(x_1:Bs),
 [SV.str x_1]=
 [SV.str (List.take (Int.toNat ↑x.2.1 - Int.toNat ↑x.1) (List.drop (Int.toNat ↑x.1) y.1))]/\
 ck
 (Nat.ble ((x.2.2.length+List.length [x_1])*16) 16777216&&
 Nat.ble (x.2.2.length+List.length [x_1]) 16777216)
 (ck (bp .i64 (↑x.2.1+1))
 (ck (bp .i64 (↑x.2.1+1))
 (∃(y_1:Nat×Nat×List Bs),
 (y_1.1<=y_1.2.1/\
 y_1.2.1<=y.1.length/\
 aX y.1 y.2=y_1.2.2++aX (List.drop y_1.1 y.1) y.2/\
 y_1.2.2.length<=y_1.1/\
 ∀(j:Nat) (h:j<y.1.length),
 y_1.1<=j->j<y_1.2.1->ai (nB y.1[j]) y.2->False)/\
 aH.μ (sd y) y_1<aH.μ (sd y) x/\
 (y.1=y.1/\
 ai y.2 y.2/\
 True/\
 ai (↑x.2.1+1) ↑y_1.1/\ai (↑x.2.1+1) ↑y_1.2.1/\True)/\
 (SV.aj Bs (x.2.2++[x_1]) aS=
 SV.aj Bs y_1.2.2 aS/\
 True)/\
 True)))))
 (ck (bp .i64 (↑x.2.1+1))
 (∃(y_1:Nat×Nat×List Bs),
 (y_1.1<=y_1.2.1/\
 y_1.2.1<=y.1.length/\
 aX y.1 y.2=y_1.2.2++aX (List.drop y_1.1 y.1) y.2/\
 y_1.2.2.length<=y_1.1/\
 ∀(j:Nat) (h:j<y.1.length),
 y_1.1<=j->j<y_1.2.1->ai (nB y.1[j]) y.2->False)/\
 aH.μ (sd y) y_1<aH.μ (sd y) x/\
 (y.1=y.1/\
 ai y.2 y.2/\
 True/\ai ↑x.1 ↑y_1.1/\ai (↑x.2.1+1) ↑y_1.2.1/\True)/\
 (SV.aj Bs x.2.2 aS=SV.aj Bs y_1.2.2 aS/\True)/\True)))
 (ck (Nat.ble (Int.toNat ↑x.1) y.1.length)
 (∃(x_1:Bs),
 [SV.str x_1]=[SV.str (List.drop (Int.toNat ↑x.1) y.1)]/\
 ck
 (Nat.ble ((x.2.2.length+List.length [x_1])*16) 16777216&&
 Nat.ble (x.2.2.length+List.length [x_1]) 16777216)
 (SV.aj Bs (x.2.2++[x_1]) aS=
 SV.aj Bs (aX y.1 y.2) aS/\
 True)))):=by kernel_rfl
theorem X5:(bV (fun(y:aM.Y sG)=>bM bZ (cr mL 3 (lR y))) 400 mL)=(∀(y:List UInt8),
 y.length<=1000000->
 (∃(x:Nat),x<=y.length/\(y=y/\ai 0 (Int.ofNat (Min.min x (dq y)))/\ai 0 ↑x/\True)/\True/\True)/\
 ∀(x:Nat),
 x<=y.length->
 br (bw (↑x) (Int.ofNat y.length))
 (br (Int.ofNat (Min.min x (dq y))==↑x)
 (so y[Int.toNat ↑x]? fun(val:UInt8)=>
 br (bU 48 (Int.ofNat (UInt8.toNat val)))
 (so y[Int.toNat ↑x]? fun(val:UInt8)=>
 br (bU (Int.ofNat (UInt8.toNat val)) 57)
 (ck (bp .i64 (Int.ofNat (Min.min x (dq y))+1))
 (ck (bp .i64 (↑x+1))
 (∃(y_1:Nat),
 y_1<=y.length/\
 aH.μ (lR y) y_1<aH.μ (lR y) x/\
 (y=y/\ai (Int.ofNat (Min.min x (dq y))+1) (Int.ofNat (Min.min y_1 (dq y)))/\ai (↑x+1) ↑y_1/\True)/\
 True/\True)))
 (ck (bp .i64 (↑x+1))
 (∃(y_1:Nat),
 y_1<=y.length/\
 aH.μ (lR y) y_1<aH.μ (lR y) x/\
 (y=y/\ai (Int.ofNat (Min.min x (dq y))) (Int.ofNat (Min.min y_1 (dq y)))/\ai (↑x+1) ↑y_1/\True)/\
 True/\True)))
 (ck (bp .i64 (↑x+1))
 (∃(y_1:Nat),
 y_1<=y.length/\
 aH.μ (lR y) y_1<aH.μ (lR y) x/\
 (y=y/\ai (Int.ofNat (Min.min x (dq y))) (Int.ofNat (Min.min y_1 (dq y)))/\ai (↑x+1) ↑y_1/\True)/\
 True/\True)))
 (ck (bp .i64 (↑x+1))
 (∃(y_1:Nat),
 y_1<=y.length/\
 aH.μ (lR y) y_1<aH.μ (lR y) x/\
 (y=y/\ai (Int.ofNat (Min.min x (dq y))) (Int.ofNat (Min.min y_1 (dq y)))/\ai (↑x+1) ↑y_1/\True)/\
 True/\True)))
 (ai (Int.ofNat (Min.min x (dq y))) ↑(dq y)/\True)):=by kernel_rfl
theorem N8:(bV (fun(y:aM.Y lp)=>bM sO (cr mM 8 (ji y))) 400 mM)=(∀(y:List UInt8),
 y.length<=1000000->
 br (bw 0 (Int.ofNat y.length))
 (so y[Int.toNat 0]? fun(val:UInt8)=>
 br (Int.ofNat (UInt8.toNat val)==45)
 (br (Int.ofNat y.length==1) (ai 0 (Prod.fst (bB y))/\false=Prod.snd (bB y)/\True)
 (ck (Nat.ble (Int.toNat 1) y.length)
 (∃(y_1:List UInt8),
 List.drop (Int.toNat 1) y=y_1/\
 y_1.length<=1000000/\
 ck (bp .i64 (Int.ofNat y.length - 1))
 (br (bw (↑(dq y_1)) (Int.ofNat y.length - 1))
 (ai 0 (Prod.fst (bB y))/\false=Prod.snd (bB y)/\True)
 ((∃(x:Nat),
 (cm y<=x/\x<=y.length/\ ∀(b:UInt8),b∈ay y->dA b=true)/\
 (y=y/\
 ai 1 (Int.ofNat (cm y))/\
 ai 0 (List.foldl ct 0 (List.take (x - cm y) (ay y)))/\ai 1 ↑x/\True)/\
 True/\True)/\
 ∀(x:Nat),
 (cm y<=x/\x<=y.length/\ ∀(b:UInt8),b∈ay y->dA b=true)->
 br (bw (↑x) (Int.ofNat y.length))
 (ck (bp .i64 (List.foldl ct 0 (List.take (x - cm y) (ay y))*10))
 (so y[Int.toNat ↑x]? fun(val:UInt8)=>
 ck
 (bp .i64
 (List.foldl ct 0 (List.take (x - cm y) (ay y))*10+
 Go.IntKind.wrap .i64 (Int.ofNat (UInt8.toNat val))))
 (ck
 (bp .i64
 (List.foldl ct 0 (List.take (x - cm y) (ay y))*10+
 Go.IntKind.wrap .i64 (Int.ofNat (UInt8.toNat val)) -
 48))
 (br
 (bw 1099511627776
 (List.foldl ct 0 (List.take (x - cm y) (ay y))*10+
 Go.IntKind.wrap .i64 (Int.ofNat (UInt8.toNat val)) -
 48))
 (ck (bp .i64 (↑x+1))
 (∃(y_2:Nat),
 (cm y<=y_2/\y_2<=y.length/\ ∀(b:UInt8),b∈ay y->dA b=true)/\
 aH.μ (ji y) y_2<aH.μ (ji y) x/\
 (y=y/\
 ai (Int.ofNat (cm y)) (Int.ofNat (cm y))/\
 ai 1099511627776 (List.foldl ct 0 (List.take (y_2 - cm y) (ay y)))/\
 ai (↑x+1) ↑y_2/\True)/\
 True/\True))
 (ck (bp .i64 (↑x+1))
 (∃(y_2:Nat),
 (cm y<=y_2/\y_2<=y.length/\ ∀(b:UInt8),b∈ay y->dA b=true)/\
 aH.μ (ji y) y_2<aH.μ (ji y) x/\
 (y=y/\
 ai (Int.ofNat (cm y)) (Int.ofNat (cm y))/\
 ai
 (List.foldl ct 0 (List.take (x - cm y) (ay y))*10+
 Go.IntKind.wrap .i64 (Int.ofNat (UInt8.toNat val)) -
 48)
 (List.foldl ct 0 (List.take (y_2 - cm y) (ay y)))/\
 ai (↑x+1) ↑y_2/\True)/\
 True/\True))))))
 (br (Int.ofNat (cm y)==1)
 (ck (bp .i64 (0 - List.foldl ct 0 (List.take (x - cm y) (ay y))))
 (ai (0 - List.foldl ct 0 (List.take (x - cm y) (ay y))) (Prod.fst (bB y))/\
 true=Prod.snd (bB y)/\True))
 (ai (List.foldl ct 0 (List.take (x - cm y) (ay y))) (Prod.fst (bB y))/\
 true=Prod.snd (bB y)/\True)))))))
 (br (Int.ofNat y.length==0) (ai 0 (Prod.fst (bB y))/\false=Prod.snd (bB y)/\True)
 (∃(y_1:List UInt8),
 List.drop (Int.toNat 0) y=y_1/\
 y_1.length<=1000000/\
 ck (bp .i64 (Int.ofNat y.length - 0))
 (br (bw (↑(dq y_1)) (Int.ofNat y.length - 0))
 (ai 0 (Prod.fst (bB y))/\false=Prod.snd (bB y)/\True)
 ((∃(x:Nat),
 (cm y<=x/\x<=y.length/\ ∀(b:UInt8),b∈ay y->dA b=true)/\
 (y=y/\
 ai 0 (Int.ofNat (cm y))/\
 ai 0 (List.foldl ct 0 (List.take (x - cm y) (ay y)))/\ai 0 ↑x/\True)/\
 True/\True)/\
 ∀(x:Nat),
 (cm y<=x/\x<=y.length/\ ∀(b:UInt8),b∈ay y->dA b=true)->
 br (bw (↑x) (Int.ofNat y.length))
 (ck (bp .i64 (List.foldl ct 0 (List.take (x - cm y) (ay y))*10))
 (so y[Int.toNat ↑x]? fun(val:UInt8)=>
 ck
 (bp .i64
 (List.foldl ct 0 (List.take (x - cm y) (ay y))*10+
 Go.IntKind.wrap .i64 (Int.ofNat (UInt8.toNat val))))
 (ck
 (bp .i64
 (List.foldl ct 0 (List.take (x - cm y) (ay y))*10+
 Go.IntKind.wrap .i64 (Int.ofNat (UInt8.toNat val)) -
 48))
 (br
 (bw 1099511627776
 (List.foldl ct 0 (List.take (x - cm y) (ay y))*10+
 Go.IntKind.wrap .i64 (Int.ofNat (UInt8.toNat val)) -
 48))
 (ck (bp .i64 (↑x+1))
 (∃(y_2:Nat),
 (cm y<=y_2/\y_2<=y.length/\ ∀(b:UInt8),b∈ay y->dA b=true)/\
 aH.μ (ji y) y_2<aH.μ (ji y) x/\
 (y=y/\
 ai (Int.ofNat (cm y)) (Int.ofNat (cm y))/\
 ai 1099511627776 (List.foldl ct 0 (List.take (y_2 - cm y) (ay y)))/\
 ai (↑x+1) ↑y_2/\True)/\
 True/\True))
 (ck (bp .i64 (↑x+1))
 (∃(y_2:Nat),
 (cm y<=y_2/\y_2<=y.length/\ ∀(b:UInt8),b∈ay y->dA b=true)/\
 aH.μ (ji y) y_2<aH.μ (ji y) x/\
 (y=y/\
 ai (Int.ofNat (cm y)) (Int.ofNat (cm y))/\
 ai
 (List.foldl ct 0 (List.take (x - cm y) (ay y))*10+
 Go.IntKind.wrap .i64 (Int.ofNat (UInt8.toNat val)) -
 48)
 (List.foldl ct 0 (List.take (y_2 - cm y) (ay y)))/\
 ai (↑x+1) ↑y_2/\True)/\
 True/\True))))))
 (br (Int.ofNat (cm y)==1)
 (ck (bp .i64 (0 - List.foldl ct 0 (List.take (x - cm y) (ay y))))
 (ai (0 - List.foldl ct 0 (List.take (x - cm y) (ay y))) (Prod.fst (bB y))/\
 true=Prod.snd (bB y)/\True))
 (ai (List.foldl ct 0 (List.take (x - cm y) (ay y))) (Prod.fst (bB y))/\
 true=Prod.snd (bB y)/\True)))))))
 (br (Int.ofNat y.length==0) (ai 0 (Prod.fst (bB y))/\false=Prod.snd (bB y)/\True)
 (∃(y_1:List UInt8),
 List.drop (Int.toNat 0) y=y_1/\
 y_1.length<=1000000/\
 ck (bp .i64 (Int.ofNat y.length - 0))
 (br (bw (↑(dq y_1)) (Int.ofNat y.length - 0))
 (ai 0 (Prod.fst (bB y))/\false=Prod.snd (bB y)/\True)
 ((∃(x:Nat),
 (cm y<=x/\x<=y.length/\ ∀(b:UInt8),b∈ay y->dA b=true)/\
 (y=y/\
 ai 0 (Int.ofNat (cm y))/\
 ai 0 (List.foldl ct 0 (List.take (x - cm y) (ay y)))/\ai 0 ↑x/\True)/\
 True/\True)/\
 ∀(x:Nat),
 (cm y<=x/\x<=y.length/\ ∀(b:UInt8),b∈ay y->dA b=true)->
 br (bw (↑x) (Int.ofNat y.length))
 (ck (bp .i64 (List.foldl ct 0 (List.take (x - cm y) (ay y))*10))
 (so y[Int.toNat ↑x]? fun(val:UInt8)=>
 ck
 (bp .i64
 (List.foldl ct 0 (List.take (x - cm y) (ay y))*10+
 Go.IntKind.wrap .i64 (Int.ofNat (UInt8.toNat val))))
 (ck
 (bp .i64
 (List.foldl ct 0 (List.take (x - cm y) (ay y))*10+
 Go.IntKind.wrap .i64 (Int.ofNat (UInt8.toNat val)) -
 48))
 (br
 (bw 1099511627776
 (List.foldl ct 0 (List.take (x - cm y) (ay y))*10+
 Go.IntKind.wrap .i64 (Int.ofNat (UInt8.toNat val)) -
 48))
 (ck (bp .i64 (↑x+1))
 (∃(y_2:Nat),
 (cm y<=y_2/\y_2<=y.length/\ ∀(b:UInt8),b∈ay y->dA b=true)/\
 aH.μ (ji y) y_2<aH.μ (ji y) x/\
 (y=y/\
 ai (Int.ofNat (cm y)) (Int.ofNat (cm y))/\
 ai 1099511627776 (List.foldl ct 0 (List.take (y_2 - cm y) (ay y)))/\
 ai (↑x+1) ↑y_2/\True)/\
 True/\True))
 (ck (bp .i64 (↑x+1))
 (∃(y_2:Nat),
 (cm y<=y_2/\y_2<=y.length/\ ∀(b:UInt8),b∈ay y->dA b=true)/\
 aH.μ (ji y) y_2<aH.μ (ji y) x/\
 (y=y/\
 ai (Int.ofNat (cm y)) (Int.ofNat (cm y))/\
 ai
 (List.foldl ct 0 (List.take (x - cm y) (ay y))*10+
 Go.IntKind.wrap .i64 (Int.ofNat (UInt8.toNat val)) -
 48)
 (List.foldl ct 0 (List.take (y_2 - cm y) (ay y)))/\
 ai (↑x+1) ↑y_2/\True)/\
 True/\True))))))
 (br (Int.ofNat (cm y)==1)
 (ck (bp .i64 (0 - List.foldl ct 0 (List.take (x - cm y) (ay y))))
 (ai (0 - List.foldl ct 0 (List.take (x - cm y) (ay y))) (Prod.fst (bB y))/\
 true=Prod.snd (bB y)/\True))
 (ai (List.foldl ct 0 (List.take (x - cm y) (ay y))) (Prod.fst (bB y))/\
 true=Prod.snd (bB y)/\True))))))):=by kernel_rfl
theorem Oc:(bV (fun(y:aM.Y FY)=>bM bZ (cr mX 6 (xT y))) 400 mX)=(∀(y:Nat),
 y<=1099511627776->
 (∃(x:Nat×Nat×Bs),
 (x.1<=30/\
 x.2.2.length<=30/\
 jB y=lD (10+x.1) x.2.1++x.2.2/\
 x.2.2.length+x.1<=30/\x.2.1<10 ^ (x.1+1)/\x.2.1<=y)/\
 (ai ↑y ↑x.2.1/\Array.toList (ByteArray.data {data:=#[]})=x.2.2/\True)/\True/\True)/\
 ∀(x:Nat×Nat×Bs),
 x.1<=30/\
 x.2.2.length<=30/\
 jB y=lD (10+x.1) x.2.1++x.2.2/\
 x.2.2.length+x.1<=30/\x.2.1<10 ^ (x.1+1)/\x.2.1<=y->
 br (bw 9 ↑x.2.1)
 (ck (bp .i64 (48+Int.tmod (↑x.2.1) 10))
 (∃(c:List UInt8),
 [SV.int Go.IntKind.u8 (Go.IntKind.wrap Go.IntKind.u8 (48+Int.tmod (↑x.2.1) 10))]=qu c/\
 ck (Nat.ble (c.length+x.2.2.length) 1048576)
 (ck (bp .i64 (Int.tdiv (↑x.2.1) 10))
 (∃(y_1:Nat×Nat×Bs),
 (y_1.1<=30/\
 y_1.2.2.length<=30/\
 jB y=lD (10+y_1.1) y_1.2.1++y_1.2.2/\
 y_1.2.2.length+y_1.1<=30/\y_1.2.1<10 ^ (y_1.1+1)/\y_1.2.1<=y)/\
 aH.μ (xT y) y_1<aH.μ (xT y) x/\
 (ai (Int.tdiv (↑x.2.1) 10) ↑y_1.2.1/\c++x.2.2=y_1.2.2/\True)/\
 True/\True))))
 (ck (bp .i64 (48+↑x.2.1))
 (∃(c:List UInt8),
 [SV.int Go.IntKind.u8 (Go.IntKind.wrap Go.IntKind.u8 (48+↑x.2.1))]=qu c/\
 ck (Nat.ble (c.length+x.2.2.length) 1048576) (c++x.2.2=jB y/\True)))):=by kernel_rfl
end
section
variable [Inhabited aL]
abbrev CO (f:FuncId) (C:aM):Prop:=Go.Sy.cJ  Tryz.prog Tryz.tab f C
theorem gO:∀g C,bZ g=some C->CO g C:=fun _ _ h=>by cases h
theorem ch (i:Nat) (h:i<1000000000):bp .i64 ((i:Int)+1)=true:=by rw[gU];omega
theorem MJ (b:UInt8):Int.ofNat b.toNat=nB b:=rfl
theorem Wh (b:UInt8):0<=nB b/\nB b<=255:=by
 have:=b.toNat_lt;unfold nB;constructor
 . exact Int.natCast_nonneg _
 . show((b.toNat:Nat):Int)<=255
   omega
theorem Li {s:Bs} {c:Int} {i:Nat} (h:i<s.length) (h1:nB s[i]=c) (h2:∀(j:Nat) (h:j<s.length),j<i->nB s[j]=c->False):gT s c=i:=by
 have:cQ s c=some i:=fg.2 ⟨h,h1,fun j hj=>h2 j (by omega) hj⟩;unfold gT;rw[this]
theorem Vh {s:Bs} {c:Int} (h2:∀(j:Nat) (h:j<s.length),nB s[j]=c->False):gT s c= -1:=by
 have:cQ s c=none:=ja.2 h2;unfold gT;rw[this]
theorem Je (s:Bs) (c:Int) (i:Nat) (hall:∀(j:Nat) (h:j<s.length),j<i->nB s[j]=c->False) (hi:i<=s.length) (h:¬(i:Int)<Int.ofNat s.length):gT s c= -1:=
 Vh fun j hj=>hall j hj (by simp only[Aa]at h;omega)
theorem Y8:CO mT sH:=bO (cfg:=fun y=>bM bZ (cr mT 3 (xR y))) bA (fun _=>rfl) (fun _=>gO) (n:=400) (by
 rw[N1];rintro⟨s,c⟩ hpre;simp only at hpre;refine⟨⟨0,⟨by simp,fun j h hj=>by omega⟩,⟨rfl,rfl,rfl,rfl,rfl,trivial⟩,trivial,trivial⟩,?_⟩;rintro i ⟨hi,hall⟩;simp only[ag,au,af,cj,Ab,Ah,DC]at hi hall⊢;refine⟨fun hlt=>?_,fun hge=>(Je s c i hall hi hge).symm⟩;have hlt':i<s.length:=by simp only[Aa]at hlt;omega
 refine⟨s[i],by simp[hlt'],fun h1=>(Li hlt' (by simpa [nB]using h1) hall).symm,fun h1=>⟨ch i (by omega),i+1,⟨by omega,fun j h hj he=>?_⟩,?_,by simp[ai]⟩⟩
 . by_cases hji:j=i
   . subst hji;exact absurd he (by simpa [nB]using h1)
   . exact hall j h (by omega) he
 . show s.length - (i+1)<s.length - i
   omega)
theorem Yf:CO mW sH:=bO (cfg:=fun y=>bM bZ (cr mW 2 (xx y))) bA (fun _=>rfl) (fun _=>gO) (n:=400) (by
 rw[X7];rintro⟨s,c⟩ hpre;simp only at hpre;refine⟨⟨0,⟨by simp,fun j h hj=>by omega⟩,⟨rfl,rfl,rfl,trivial⟩,trivial,trivial⟩,?_⟩;rintro i ⟨hi,hall⟩;simp only[ag,au,af,cj,Ab,Ah,DC]at hi hall⊢;refine⟨fun hlt=>?_,fun hge=>(Je s c i hall hi hge).symm⟩;have hlt':i<s.length:=by simp only[Aa]at hlt;omega
 refine⟨s[i],by simp[hlt'],fun h1=>(Li hlt' (by simpa [nB]using h1) hall).symm,fun h1=>⟨ch i (by omega),i+1,⟨by omega,fun j h hj he=>?_⟩,?_,by simp[ai]⟩⟩
 . by_cases hji:j=i
   . subst hji;exact absurd he (by simpa [nB]using h1)
   . exact hall j h (by omega) he
 . show s.length - (i+1)<s.length - i
   omega)
theorem Ky:∀g C,yg g=some C->CO g C:=bG Y8 rT
theorem wk (s:Bs) (c:Int):(∃i,cQ s c=some i/\gT s c=(i:Int)/\i<s.length)\/(cQ s c=none/\gT s c= -1):=by
 unfold gT
 cases h:cQ s c with
 |none=>exact .inr ⟨rfl,rfl⟩
 |some i=>
  obtain⟨h1,_⟩:=fg.1 h;exact .inl ⟨i,rfl,rfl,h1⟩
theorem Oq:CO GL pM:=bO (cfg:=fun y=>bM yg (cS y)) bA (fun _=>rfl) (fun _=>Ky) (n:=400) (by
 rw[Ow];rintro⟨s,c⟩ hpre;refine⟨(s,c),rfl,rfl,hpre,?_⟩;simp only at hpre⊢;rcases wk s c with⟨i,h1,h2,h3⟩|⟨h1,h2⟩
 . simp only[ag,af,h2,dP,h1,cj,lC,Ab,Ah];refine⟨fun h=>by omega,fun _=>⟨by omega,?_,?_,by omega,?_,?_⟩⟩
   . rw[AA];simp;omega
   . exact ch i (by omega)
   . rw[AA];omega
   . rw[show((i:Int)+1).toNat=i+1 by omega];simp
 . simp only[ag,af,h2,dP,h1,cj,lC,Ab,Ah];exact⟨fun _=>by simp,fun h=>absurd (by decide) h⟩)
theorem Kz:∀g C,yh g=some C->CO g C:=bG Oq Ky
theorem XO:CO mP sA:=bO (cfg:=fun y=>bM yh (cr mP 2 (xD y))) bA (fun _=>rfl) (fun _=>Kz) (n:=400) (by
 rw[XL];rintro⟨s,c⟩ hpre;simp only at hpre;refine⟨⟨(s,[]),⟨by simp,by simp⟩,⟨rfl,rfl,trivial,trivial⟩,⟨⟨rfl,fun _=>rfl⟩,trivial⟩,trivial⟩,?_⟩;rintro⟨t,l⟩ ⟨h1,h2⟩;simp only at h1 h2;refine⟨(t,c),rfl,rfl,by simp only;omega,(dP t c).1,rfl,?_⟩;simp only[ag,af];refine⟨by simp;omega,fun h=>⟨?_,trivial⟩,fun h=>⟨((dP t c).2.1,l++[(dP t c).1]),⟨?_,?_⟩,?_,by simp[ai]⟩⟩
 . have h3:=tI t c
   cases hp:cQ t c with
   |none=>rw[hp]at h3;simp only at h3;simp only[dP,hp];rw[h1,h3]
   |some i=>simp[dP,hp]at h
 . have h3:=tI t c
   cases hp:cQ t c with
   |none=>simp[dP,hp]at h
   |some i=>rw[hp]at h3;simp only at h3;simp only[dP,hp];rw[h1,h3];simp
 . cases hp:cQ t c with
   |none=>simp[dP,hp]at h
   |some i=>
    obtain⟨h4,_⟩:=fg.1 hp;simp[dP,hp];omega
 . show(dP t c).2.1.length<t.length
   cases hp:cQ t c with
   |none=>simp[dP,hp]at h
   |some i=>
    obtain⟨h4,_⟩:=fg.1 hp;simp[dP,hp];omega)
theorem Ot:CO qW pN:=bO (cfg:=fun y=>bM bZ (cS y)) bA (fun _=>rfl) (fun _=>gO) (n:=400) (by
 rw[Ox];intro y _;simp only[ag,fi,dA,DC];constructor<;>intro h<;>simp[h])
theorem KA:∀g C,yi g=some C->CO g C:=bG XO (bG Ot Kz)
theorem Y5:CO mH sG:=bO (cfg:=fun y=>bM yi (cr mH 2 (xW y))) bA (fun _=>rfl) (fun _=>KA) (n:=400) (by
 rw[N0];intro s hpre;refine⟨⟨0,by simp,⟨rfl,rfl,trivial⟩,trivial,trivial⟩,?_⟩;intro i hi;have hle:=wJ s;simp only[ag,au,af,cj,Ab,Ah,DC];refine⟨fun hlt=>?_,fun hge=>?_⟩
 . have hlt':i<s.length:=by simp only[Aa]at hlt;omega
   refine⟨s[i],by simp[hlt'],s[i],rfl,trivial,fun h=>⟨ch i (by omega),i+1,?_,?_,by simp[ai]⟩,fun h=>?_⟩
   . apply Bf;intro hn;have:dq s=i:=by omega
     have h2:=Co (s:=s) (by omega);simp only[this]at h2;rw[h]at h2
     cases h2
   . show s.length - (i+1)<s.length - i
     omega
   . apply Bf;intro hn;have hlt2:i<dq s:=by simp only[ai]at hn;omega
     obtain⟨_,h2⟩:=JH hlt2;rw[h2]at h
     cases h
 . simp only[Aa]at hge;simp only[ai];omega)
theorem JZ (n:Int) (h: -9223372036854775808<=n/\n<=9223372036854775807):Go.IntKind.wrap Go.IntKind.i64 n=n:=by rw[IntKind.wrap_i64];omega
theorem LI {b:UInt8} (h:dA b=true):Go.IntKind.wrap Go.IntKind.i64 (Go.IntKind.wrap Go.IntKind.u8 (Int.ofNat (UInt8.toNat b) - 48))=nB b - 48/\Go.IntKind.wrap Go.IntKind.i64 (Int.ofNat (UInt8.toNat b))=nB b/\0<=nB b - 48/\nB b - 48<=9:=by
 rw[oX]at h;rw[MJ];have h1:Go.IntKind.wrap Go.IntKind.u8 (nB b - 48)=nB b - 48:=by simp only[IntKind.wrap,IntKind.signed,IntKind.bits,Bg,Ao,AK];omega
 rw[h1,JZ _ (by omega),JZ _ (by omega)];exact⟨rfl,rfl,by omega,by omega⟩
theorem fold_succ (s:Bs) (x:Nat) (h:x<s.length):(s.take (x+1)).foldl ct 0=ct ((s.take x).foldl ct 0) s[x]:=by
 rw[Aw h,EJ];rfl
theorem Jr (s:Bs) (h:∀b∈s,dA b=true) (x:Nat):0<=(s.take x).foldl ct 0/\(s.take x).foldl ct 0<=1099511627776:=
 Iw _ (fun b hb=>h b (Ey hb)) 0 (by omega) (by omega)
theorem CS {y:Bs} (hne:ay y≠[]) (hd:∀b∈ay y,dA b=true):bB y=((if cO y then -1 else 1)*(ay y).foldl ct 0,true):=by
 have h1:¬dq (ay y)<(ay y).length:=by
  intro h;have h2:=Co h;rw[hd _ (AI h)]at h2
  cases h2
 unfold bB;rw[Aj (by rintro(h|h);exact hne h;exact h1 h)]
theorem sB {y:Bs} (h:ay y=[]\/dq (ay y)<(ay y).length):bB y=(0,false):=by
 unfold bB;rw[An h]
theorem Ly (y t:Bs) (K:Int) (ht:t=ay y) (hK:K=if cO y=true then -1 else 1) (hne:ay y≠[]) (hd:∀b∈ay y,dA b=true) (hl:(ay y).length<=1000000):((∃(x:Nat),
      (x<=List.length (ay y)/\ ∀(b:UInt8),b∈ay y->dA b=Bool.true)/\
      (t=ay y/\
      ai K (if cO y=Bool.true then -1 else 1)/\
      ai 0 (List.foldl ct 0 (List.take x (ay y)))/\
      ai (Int.ofNat (List.length t)) (Int.ofNat (List.length (ay y)))/\ai 0 ↑x/\True)/\
      True/\True)/\
      ∀(x:Nat),
      (x<=List.length (ay y)/\ ∀(b:UInt8),b∈ay y->dA b=Bool.true)->
      br (bw (↑x) (Int.ofNat (List.length (ay y))))
      (ck (bp Go.IntKind.i64 (List.foldl ct 0 (List.take x (ay y))*10))
      (so (ay y)[Int.toNat ↑x]? fun(val:UInt8)=>
      ck
      (bp Go.IntKind.i64
      (List.foldl ct 0 (List.take x (ay y))*10+
      Go.IntKind.wrap Go.IntKind.i64 (Go.IntKind.wrap Go.IntKind.u8 (Int.ofNat (UInt8.toNat val) - 48))))
      (ck (bp Go.IntKind.i64 (↑x+1))
      (∃(y_2:Nat),
      (y_2<=List.length (ay y)/\ ∀(b:UInt8),b∈ay y->dA b=Bool.true)/\
      aH.μ (iU y) y_2<aH.μ (iU y) x/\
      (ay y=ay y/\
      ai (if cO y=Bool.true then -1 else 1) (if cO y=Bool.true then -1 else 1)/\
      ai
      (if
      1099511627776<
      List.foldl ct 0 (List.take x (ay y))*10+
      Go.IntKind.wrap Go.IntKind.i64 (Go.IntKind.wrap Go.IntKind.u8 (Int.ofNat (UInt8.toNat val) - 48))then
      1099511627776
      else
      List.foldl ct 0 (List.take x (ay y))*10+
      Go.IntKind.wrap Go.IntKind.i64 (Go.IntKind.wrap Go.IntKind.u8 (Int.ofNat (UInt8.toNat val) - 48)))
      (List.foldl ct 0 (List.take y_2 (ay y)))/\
      ai (Int.ofNat (List.length (ay y))) (Int.ofNat (List.length (ay y)))/\
      ai (↑x+1) ↑y_2/\True)/\
      True/\True))))
      (ck
      (bp Go.IntKind.i64 ((if cO y=Bool.true then -1 else 1)*List.foldl ct 0 (List.take x (ay y))))
      (ai ((if cO y=Bool.true then -1 else 1)*List.foldl ct 0 (List.take x (ay y)))
      (Prod.fst (bB y))/\
      Bool.true=Prod.snd (bB y)/\True))):=by
 refine⟨⟨0,⟨by simp,hd⟩,⟨ht,hK,by simp[ai],by rw[ht],by simp[ai],trivial⟩,trivial,trivial⟩,?_⟩;rintro x ⟨hx,_⟩;obtain⟨r1,r2⟩:=Jr _ hd x;simp only[ag,au,af,cj,Ab,Ah,DC];refine⟨fun hlt=>?_,fun hge=>?_⟩
 . have hlt':x<(ay y).length:=by simp only[Aa]at hlt;omega
   obtain⟨d1,_,d3,d4⟩:=LI (hd _ (AI hlt'));refine⟨by rw[gU];omega,(ay y)[x],by simp[hlt'],?_,ch x (by omega),x+1,⟨by omega,hd⟩,?_,?_⟩
   . rw[d1,gU];omega
   . show(ay y).length - (x+1)<(ay y).length - x
     omega
   . refine⟨trivial,trivial,?_,trivial,by simp[ai]⟩;rw[fold_succ _ _ hlt',d1];simp only[ct,ai];omega
 . have he:x=(ay y).length:=by simp only[Aa]at hge;omega
   subst he;rw[Bu,CS hne hd]at*;refine⟨?_,by simp[ai]⟩;rw[gU];split<;>omega
theorem Kb (y:Bs) (K:Int) (hK:K=Int.ofNat (cm y)) (hne:ay y≠[]) (hd:∀b∈ay y,dA b=true) (hl:y.length<=1000000):((∃(x:Nat),
        (cm y<=x/\x<=List.length y/\ ∀(b:UInt8),b∈ay y->dA b=Bool.true)/\
        (y=y/\
        ai K (Int.ofNat (cm y))/\
        ai 0 (List.foldl ct 0 (List.take (x - cm y) (ay y)))/\ai K ↑x/\True)/\
        True/\True)/\
        ∀(x:Nat),
        (cm y<=x/\x<=List.length y/\ ∀(b:UInt8),b∈ay y->dA b=Bool.true)->
        br (bw (↑x) (Int.ofNat (List.length y)))
        (ck (bp Go.IntKind.i64 (List.foldl ct 0 (List.take (x - cm y) (ay y))*10))
        (so y[Int.toNat ↑x]? fun(val:UInt8)=>
        ck
        (bp Go.IntKind.i64
        (List.foldl ct 0 (List.take (x - cm y) (ay y))*10+
        Go.IntKind.wrap Go.IntKind.i64 (Int.ofNat (UInt8.toNat val))))
        (ck
        (bp Go.IntKind.i64
        (List.foldl ct 0 (List.take (x - cm y) (ay y))*10+
        Go.IntKind.wrap Go.IntKind.i64 (Int.ofNat (UInt8.toNat val)) -
        48))
        (br
        (bw 1099511627776
        (List.foldl ct 0 (List.take (x - cm y) (ay y))*10+
        Go.IntKind.wrap Go.IntKind.i64 (Int.ofNat (UInt8.toNat val)) -
        48))
        (ck (bp Go.IntKind.i64 (↑x+1))
        (∃(y_2:Nat),
        (cm y<=y_2/\y_2<=List.length y/\ ∀(b:UInt8),b∈ay y->dA b=Bool.true)/\
        aH.μ (ji y) y_2<aH.μ (ji y) x/\
        (y=y/\
        ai (Int.ofNat (cm y)) (Int.ofNat (cm y))/\
        ai 1099511627776 (List.foldl ct 0 (List.take (y_2 - cm y) (ay y)))/\
        ai (↑x+1) ↑y_2/\True)/\
        True/\True))
        (ck (bp Go.IntKind.i64 (↑x+1))
        (∃(y_2:Nat),
        (cm y<=y_2/\y_2<=List.length y/\ ∀(b:UInt8),b∈ay y->dA b=Bool.true)/\
        aH.μ (ji y) y_2<aH.μ (ji y) x/\
        (y=y/\
        ai (Int.ofNat (cm y)) (Int.ofNat (cm y))/\
        ai
        (List.foldl ct 0 (List.take (x - cm y) (ay y))*10+
        Go.IntKind.wrap Go.IntKind.i64 (Int.ofNat (UInt8.toNat val)) -
        48)
        (List.foldl ct 0 (List.take (y_2 - cm y) (ay y)))/\
        ai (↑x+1) ↑y_2/\True)/\
        True/\True))))))
        (br (Int.ofNat (cm y)==1)
        (ck (bp Go.IntKind.i64 (0 - List.foldl ct 0 (List.take (x - cm y) (ay y))))
        (ai (0 - List.foldl ct 0 (List.take (x - cm y) (ay y))) (Prod.fst (bB y))/\
        Bool.true=Prod.snd (bB y)/\True))
        (ai (List.foldl ct 0 (List.take (x - cm y) (ay y))) (Prod.fst (bB y))/\
        Bool.true=Prod.snd (bB y)/\True))):=by
 have hlen:(ay y).length=y.length - cm y:=by unfold ay cm;split<;>simp
 have hpos:0<(ay y).length:=AY.2 hne;have hget:∀x (h:x<y.length),cm y<=x->y[x]=(ay y)[x - cm y]'(by omega):=by
   intro x h h2;have e:(ay y)[x - cm y]? =y[x]? :=by
     unfold ay cm;unfold cm at h2;split
     . rename_i hn;rw[An hn]at h2;rw[Dm];congr 1
       omega
     . simp
   rw[Af h,Af (by omega)]at e;exact(DE e).symm
 refine⟨⟨cm y,⟨Ai _,by omega,hd⟩,⟨rfl,hK,by simp[ai],by simp[ai,hK],trivial⟩,trivial,trivial⟩,?_⟩;rintro x ⟨hx0,hx,_⟩;obtain⟨r1,r2⟩:=Jr _ hd (x - cm y);simp only[ag,au,af,cj,Ab,Ah,DC];refine⟨fun hlt=>?_,fun hge=>?_⟩
 . have hlt':x<y.length:=by simp only[Aa]at hlt;omega
   have hg:=hget x hlt' hx0;have hdx:dA y[x]=true:=by rw[hg];exact hd _ (AI _)
   obtain⟨_,d1,d3,d4⟩:=LI hdx;have hs:List.foldl ct 0 (List.take (x+1 - cm y) (ay y))=ct (List.foldl ct 0 (List.take (x - cm y) (ay y))) y[x]:=by
     rw[show x+1 - cm y=(x - cm y)+1 by omega,fold_succ _ _ (by omega),hg]
   have hm:aH.μ (ji y) (x+1)<aH.μ (ji y) x:=by
     show y.length - (x+1)<y.length - x
     omega
   refine⟨by rw[gU];omega,y[x],by simp[hlt'],?_,?_,fun h1=>⟨ch x (by omega),x+1,⟨by omega,by omega,hd⟩,hm,?_⟩,fun h1=>⟨ch x (by omega),x+1,⟨by omega,by omega,hd⟩,hm,?_⟩⟩
   . rw[d1,gU];omega
   . rw[d1,gU];omega
   . refine⟨trivial,trivial,?_,by simp[ai]⟩;rw[d1]at h1;rw[hs];simp only[ct,ai];omega
   . refine⟨trivial,trivial,?_,by simp[ai]⟩;rw[d1]at h1;rw[hs,d1];simp only[ct,ai];omega
 . have he:x=y.length:=by simp only[Aa]at hge;omega
   subst he;rw[show y.length - cm y=(ay y).length by omega,Bu]at*;rw[CS hne hd];unfold cm
   cases hn:cO y
   . simp[ai]
   . simp only[Bb];refine⟨fun _=>⟨by rw[gU];omega,by simp[ai]⟩,fun h=>by simp at h⟩
theorem Ya:CO mL sG:=bO (cfg:=fun y=>bM bZ (cr mL 3 (lR y))) bA (fun _=>rfl) (fun _=>gO) (n:=400) (by
 rw[X5];intro s hpre;refine⟨⟨0,by simp,⟨rfl,by simp[ai],rfl,trivial⟩,trivial,trivial⟩,?_⟩;intro i hi;have hle:=wJ s;simp only[ag,au,af,cj,fi,Ab,Ah,DC];refine⟨fun hlt=>?_,fun hge=>?_⟩
 . have hlt':i<s.length:=by simp only[Aa]at hlt;omega
   have hm:aH.μ (lR s) (i+1)<aH.μ (lR s) i:=by
     show s.length - (i+1)<s.length - i
     omega
   have no:dA s[i]=false->dq s<=i:=by
     intro h;apply Bf;intro hn;obtain⟨_,h2⟩:=JH (show i<dq s by omega);rw[h2]at h
     cases h
   have step:∀(n:Int),n=Int.ofNat (min (i+1) (dq s))->n=Int.ofNat (min (i+1) (dq s)):=fun _ h=>h
   refine⟨fun hq=>⟨s[i],by simp[hlt'],fun h1=>⟨s[i],by simp[hlt'],fun h2=>⟨by rw[gU];simp only[Aa];omega,ch i (by omega),i+1,by omega,hm,trivial,?_,by simp[ai]⟩,fun h2=>⟨ch i (by omega),i+1,by omega,hm,trivial,?_,by simp[ai]⟩⟩,fun h1=>⟨ch i (by omega),i+1,by omega,hm,trivial,?_,by simp[ai]⟩⟩,fun hq=>⟨ch i (by omega),i+1,by omega,hm,trivial,?_,by simp[ai]⟩⟩
   . have hd:dA s[i]=true:=by rw[oX];exact⟨h1,h2⟩
     have:¬dq s<=i:=by
      intro hn;simp only[Aa,BM]at hq;have he:dq s=i:=by omega
      have h3:=Co (s:=s) (by omega);simp only[he]at h3;rw[hd]at h3
      cases h3
     simp only[ai,Aa];omega
   . have hd:dA s[i]=false:=by rw[Ax];intro h;rw[oX]at h;exact h2 h.2
     have:=no hd;simp only[ai,Aa];omega
   . have hd:dA s[i]=false:=by rw[Ax];intro h;rw[oX]at h;exact h1 h.1
     have:=no hd;simp only[ai,Aa];omega
   . simp only[Aa,Da]at hq;simp only[ai,Aa];omega
 . simp only[Aa]at hge;simp only[ai,Aa];omega)
theorem RX {s:Bs} {c:Int} {a i:Nat} (hai:a<=i) (h:i<s.length) (h1:nB s[i]=c) (h2:∀(j:Nat) (h:j<s.length),a<=j->j<i->nB s[j]=c->False):aX (s.drop a) c=(s.drop a).take (i - a)::aX (s.drop (i+1)) c:=by
 have hp:cQ (s.drop a) c=some (i - a):=fg.2 ⟨by simp;omega,by rw[BX];simp only[show a+(i - a)=i by omega];exact h1,fun j hj=>by
  rw[BX];exact fun e=>h2 (a+j) (by omega) (by omega) (by omega) e⟩
 rw[tI,hp];simp only[DU];rw[show a+(i - a+1)=i+1 by omega]
theorem RY {s:Bs} {c:Int} {a:Nat} (h2:∀(j:Nat) (h:j<s.length),a<=j->nB s[j]=c->False):aX (s.drop a) c=[s.drop a]:=by
 have hp:cQ (s.drop a) c=none:=ja.2 (fun j hj=>by
  rw[BX];exact fun e=>h2 (a+j) (by simp at hj;omega) (by omega) e)
 rw[tI,hp]
theorem VV:CO mQ sA:=bO (cfg:=fun y=>bM bZ (cr mQ 4 (sd y))) bA (fun _=>rfl) (fun _=>gO) (n:=400) (by
 rw[WQ];rintro⟨s,c⟩ hpre;simp only at hpre;refine⟨⟨(0,0,[]),⟨by simp,by simp,by simp,by simp,fun j h _ hj=>by simp at hj⟩,⟨rfl,rfl,trivial,rfl,rfl,trivial⟩,⟨rfl,trivial⟩,trivial⟩,?_⟩;rintro⟨a,i,l⟩ ⟨h1,h2,h3,h4,h5⟩;simp only at h1 h2 h3 h4 h5;simp only[ag,au,af,cj,Ab,Ah,DC,Dq];refine⟨fun hlt=>?_,fun hge=>?_⟩
 . have hlt':i<s.length:=by simp only[Aa]at hlt;omega
   refine⟨s[i],by simp[hlt'],fun hc=>?_,fun hc=>⟨ch i (by omega),(a,i+1,l),⟨by simp only;omega,by simp only;omega,h3,h4,fun j hj ha hji he=>?_⟩,?_,by simp[ai]⟩⟩
   . have hc':nB s[i]=c:=by simpa [nB]using hc
     have hs:=RX h1 hlt' hc' h5;refine⟨by simp;omega,_,rfl,by simp;omega,ch i (by omega),ch i (by omega),(i+1,i+1,l++[(s.drop a).take (i - a)]),⟨by simp,by simp only;omega,?_,by simp;omega,fun j hj ha hji=>by simp only at ha hji;omega⟩,?_,by simp[ai]⟩
     . rw[h3,hs];simp
     . show s.length - (i+1)<s.length - i
       omega
   . by_cases hji2:j=i
     . subst hji2;exact absurd he (by simpa [nB]using hc)
     . exact h5 j hj ha (by simp only at hji;omega) he
   . show s.length - (i+1)<s.length - i
     omega
 . have he:i=s.length:=by simp only[Aa]at hge;omega
   subst he;refine⟨by simpa using h1,_,rfl,by simp;omega,?_⟩;rw[h3,RY (fun j hj ha=>h5 j hj ha hj)])
theorem rO {y:Bs} (h:cO y=true):ay y=y.drop 1:=by unfold ay;rw[An h]
theorem uf {y:Bs} (h:cO y=false):ay y=y:=by unfold ay;rw[Aj (by simp[h])]
theorem nD {b:UInt8} {y:Bs}:cO (b::y)=(Int.ofNat b.toNat==45):=rfl
theorem vS {y:Bs} (h:¬(↑(dq y):Int)<Int.ofNat y.length):∀b∈y,dA b=true:=wi (by simp only[Aa]at h;omega)
theorem Cb:∀g C,sO g=some C->CO g C:=bG Y5 (bG Ya KA)
theorem Ou:CO mI lp:=bO (cfg:=fun y=>bM sO (cr mI 8 (iU y))) bA (fun _=>rfl) (fun _=>Cb) (n:=400) (by
 rw[Oy];intro y hpre
 cases y with
 |nil=>
  have hn:bB []=(0,false):=rfl;refine ag.2 ⟨fun h=>by simp at h,fun _=>ag.2 ⟨fun _=>by rw[hn];exact⟨rfl,rfl,trivial⟩,fun h=>by simp at h⟩⟩
 |cons b s=>
  refine ag.2 ⟨fun _=>au.2 ⟨b,rfl,ag.2 ⟨fun hb=>af.2 ⟨by simp,ag.2 ⟨fun h=>?_,fun h=>⟨s,rfl,by simp at hpre;omega,ag.2 ⟨fun hd=>?_,fun hd=>?_⟩⟩⟩⟩,fun hb=>ag.2 ⟨fun h=>by simp at h,fun _=>⟨b::s,rfl,hpre,ag.2 ⟨fun hd=>?_,fun hd=>?_⟩⟩⟩⟩⟩,fun h=>by simp at h⟩
  . have hg:cO (b::s)=true:=by rw[nD];exact hb
    have he:ay (b::s)=[]:=by rw[rO hg];simpa using h
    rw[sB (.inl he)];exact⟨rfl,rfl,trivial⟩
  . have hg:cO (b::s)=true:=by rw[nD];exact hb
    rw[cj,Ab]at hd;rw[sB (.inr (by rw[rO hg];simp only[Aa]at hd;simp at hd⊢;omega))];exact⟨rfl,rfl,trivial⟩
  . have hg:cO (b::s)=true:=by rw[nD];exact hb
    rw[cj,Ah]at hd;have ha:=rO hg;exact Ly _ _ _ ha.symm (by rw[An hg]) (by rw[ha];simpa using h) (by rw[ha];exact vS hd) (by rw[ha];simp at hpre⊢;omega)
  . have hg:cO (b::s)=false:=by rw[nD];exact hb
    rw[cj,Ab]at hd;rw[sB (.inr (by rw[uf hg];simp only[Aa]at hd;omega))];exact⟨rfl,rfl,trivial⟩
  . have hg:cO (b::s)=false:=by rw[nD];exact hb
    rw[cj,Ah]at hd;have ha:=uf hg;exact Ly _ _ _ ha.symm (by rw[Aj (by simp[hg])]) (by rw[ha];simp) (by rw[ha];exact vS hd) (by rw[ha];exact hpre))
theorem Zl:CO mM lp:=bO (cfg:=fun y=>bM sO (cr mM 8 (ji y))) bA (fun _=>rfl) (fun _=>Cb) (n:=400) (by
 rw[N8];intro y hpre
 cases y with
 |nil=>
  have hn:bB []=(0,false):=rfl;refine ag.2 ⟨fun h=>by simp[cj]at h,fun _=>ag.2 ⟨fun _=>by rw[hn];exact⟨rfl,rfl,trivial⟩,fun h=>by simp at h⟩⟩
 |cons b s=>
  have hbig:s.length+1<=1000000:=by simpa using hpre
  have hln:Int.ofNat (b::s).length=(s.length:Int)+1:=by simp
  rw[hln];refine ag.2 ⟨fun _=>au.2 ⟨b,rfl,ag.2 ⟨fun hb=>ag.2 ⟨fun h=>?_,fun h=>af.2 ⟨by simp,s,rfl,by omega,af.2 ⟨by rw[gU];omega,ag.2 ⟨fun hd=>?_,fun hd=>?_⟩⟩⟩⟩,fun hb=>ag.2 ⟨fun h=>by simp at h;omega,fun _=>⟨b::s,rfl,hpre,af.2 ⟨by rw[gU];omega,ag.2 ⟨fun hd=>?_,fun hd=>?_⟩⟩⟩⟩⟩⟩,fun h=>by rw[cj]at h;simp at h<;>omega⟩
  . have hg:cO (b::s)=true:=by rw[nD];exact hb
    have hs:s=[]:=by simp at h;exact AZ (by omega)
    rw[sB (.inl (by rw[rO hg];simpa using hs))];exact⟨rfl,rfl,trivial⟩
  . have hg:cO (b::s)=true:=by rw[nD];exact hb
    rw[cj,Ab]at hd;rw[sB (.inr (by rw[rO hg];simp at hd⊢;omega))];exact⟨rfl,rfl,trivial⟩
  . have hg:cO (b::s)=true:=by rw[nD];exact hb
    rw[cj,Ah]at hd;have ha:=rO hg;have:=Kb (b::s) 1 (by unfold cm;rw[An hg];rfl) (by rw[ha];intro e;simp at e;subst e;simp at h) (by rw[ha];exact vS (by simp at hd⊢;omega)) hpre;rw[hln]at this;exact this
  . have hg:cO (b::s)=false:=by rw[nD];exact hb
    rw[cj,Ab]at hd;rw[sB (.inr (by rw[uf hg];simp at hd⊢;omega))];exact⟨rfl,rfl,trivial⟩
  . have hg:cO (b::s)=false:=by rw[nD];exact hb
    rw[cj,Ah]at hd;have ha:=uf hg;have:=Kb (b::s) 0 (by unfold cm;rw[Aj (by simp[hg])];rfl) (by rw[ha];simp) (by rw[ha];exact vS (by simp at hd⊢;omega)) hpre;rw[hln]at this;exact this)
theorem Lc (k n:Nat) (h:n<=9):lD (k+1) n=[UInt8.ofNat (48+n)]:=by simp[lD,h]
theorem YS:CO mX FY:=bO (cfg:=fun y=>bM bZ (cr mX 6 (xT y))) bA (fun _=>rfl) (fun _=>gO) (n:=400) (by
 rw[Oc];intro n hpre;have hpre:n<=1099511627776:=hpre;refine⟨⟨(30,n,[]),⟨by simp,by simp,by simp[jB],by simp,?_,Ai _⟩,⟨rfl,rfl,trivial⟩,trivial,trivial⟩,?_⟩
 . exact Nat.lt_of_le_of_lt hpre (by show 1099511627776<10 ^ 31;decide)
 rintro⟨k,m,s⟩ ⟨h1,h2,h3,h4,h5,h6⟩;simp only at h1 h2 h3 h4 h5 h6;have wr:∀d:Nat,d<=9->[SV.int Go.IntKind.u8 (Go.IntKind.wrap Go.IntKind.u8 (48+(d:Int)))]=qu [UInt8.ofNat (48+d)]:=by
   intro d hd;have:Go.IntKind.wrap Go.IntKind.u8 (48+(d:Int))=Int.ofNat (UInt8.ofNat (48+d)).toNat:=by
    simp only[IntKind.wrap,IntKind.signed,IntKind.bits,Bg,Ao,AK,UInt8.toNat_ofNat',Aa];omega
   rw[this];rfl
 have hk:9<m->1<=k:=by
   intro hm;apply Bf;intro hn;have:k=0:=by omega
   subst this;simp at h5;omega
 have tm:Int.tmod (m:Int) 10=((m % 10:Nat):Int):=rfl;have td:Int.tdiv (m:Int) 10=((m / 10:Nat):Int):=rfl;simp only[tm,td];refine ag.2 ⟨fun h=>af.2 ⟨?_,[UInt8.ofNat (48+m % 10)],wr _ (by omega),af.2 ⟨by simp;omega,af.2 ⟨?_,(k - 1,m / 10,UInt8.ofNat (48+m % 10)::s),⟨by simp only;omega,?_,?_,?_,?_,?_⟩,?_,⟨rfl,rfl,trivial⟩,trivial,trivial⟩⟩⟩,fun h=>af.2 ⟨?_,[UInt8.ofNat (48+m)],wr _ ?_,af.2 ⟨by simp;omega,?_,trivial⟩⟩⟩
 . rw[gU];omega
 . rw[gU];omega
 all_goals (simp only[cj,Ab,Ah]at h)
 . have:=hk (by omega);simp;omega
 . have:=hk (by omega);rw[h3,show 10+k=(10+(k - 1))+1 by omega];have hm:¬m<=9:=by omega
   simp only[lD,Aj hm];simp
 . have:=hk (by omega);simp;omega
 . have:=hk (by omega);simp only;rw[show k - 1+1=k by omega];rw[Nat.pow_succ]at h5;omega
 . simp only;omega
 . show m / 10<m
   omega
 . rw[gU];omega
 . omega
 . rw[h3,show 10+k=(9+k)+1 by omega,Lc _ _ (by omega)])
theorem Vs:∀g C,Nd g=some C->CO g C:=bG Ou (bG Zl (bG Yf (bG VV (bG YS Cb))))
end
section
variable [Inhabited aL]
def Fx:aM:={Y:=UInt8×Bool,pre:=fun _=>True,args:=fun y=>[.int .u8 (nB y.1), .bool y.2],res:=fun y=> .bool (gE (nB y.1) y.2)}
def FX:aM:={Y:=UInt8,pre:=fun _=>True,args:=fun y=>[.int .u8 (nB y)],res:=fun y=> .bool (gV y)}
def fR (p:Bs->Bool):aM:={Y:=Bs,pre:=fun y=>y.length<=100000,args:=fun y=>[.str y],res:=fun y=> .bool (p y)}
def pj (y:Bs):aH:={α:=Nat,ok:=fun i=>i<=y.length/\ ∀j (h:j<y.length),j<i->gE (nB y[j]) (j==0||j==y.length - 1)=true,μ:=fun i=>y.length - i,aW:=[],aN:=fun i=>[(0, .str y),(12,i64 (Int.ofNat y.length)),(13,i64 i)],bn:=fun _=>[]}
def py (y:Bs):aH:={α:=Nat,ok:=fun i=>i<=(aX y 46).length/\ ∀j (h:j<(aX y 46).length),j<i->gP (aX y 46)[j]=true,μ:=fun i=>(aX y 46).length - i,aW:=[],aN:=fun i=>[(13,strs (aX y 46)),(14,i64 (Int.ofNat (aX y 46).length)),(15,i64 i)],bn:=fun _=>[]}
def gZ (y:Bs):aH:=let l:=(y.drop 1).take (y.length - 2);{α:=Nat,ok:=fun i=>i<=l.length/\ ∀j (h:j<l.length),j<i->di l[j]=true,μ:=fun i=>l.length - i,aW:=[],aN:=fun i=>[(31, .aj UInt8 l dh),(32,i64 (Int.ofNat l.length)),(33,i64 i)],bn:=fun _=>[]}
def ia (y:Bs):aH:={α:=Nat,ok:=fun i=>1<=i/\i+1<=y.length/\ ∀j (h:j<y.length),1<=j->j<i->di y[j]=true,μ:=fun i=>y.length - i,aW:=[],aN:=fun i=>[(0, .str y),(3,i64 i)],bn:=fun _=>[]}
def xS (y:Bs):aH:={α:=Nat,ok:=fun i=>i<=(aX y 46).length/\ ∀j (h:j<(aX y 46).length),j<i->eO (aX y 46)[j]=true,μ:=fun i=>(aX y 46).length - i,aW:=[],aN:=fun i=>[(13,strs (aX y 46)),(14,i64 (Int.ofNat (aX y 46).length)),(15,i64 i)],bn:=fun _=>[]}
def CZ:aM:={Y:=Bs,pre:=fun y=>y.length<=100000,args:=fun y=>[.str y],res:=fun y=>strs (if dQ y then aX y 46 else[])}
def sg:aM:={Y:=Bs×Bs,pre:=fun y=>y.1.length<=100000/\y.2.length<=100000,args:=fun y=>[.str y.1, .str y.2],res:=fun y=> .bool (decide (y.1.take y.2.length=y.2))}
def Fu:aM:={Y:=Bs,pre:=fun y=>y.length<=100000,args:=fun y=>[.str y],res:=fun y=> .bJ [.agg [.str (fD y).1, .bool (fD y).2.1, .bool (fD y).2.2], .bool (fh y)]}
def nI (l:List Bs):Int:=if 256<l.length then 3 else if l.all fh then 0 else 1
def CY:aM:={Y:=List Bs,pre:=fun y=>y.length<=100000/\ ∀s∈y,s.length<=100000,args:=fun y=>[strs y],res:=fun y=>i64 (nI y)}
def xg (y:List Bs):aH:={α:=Nat,ok:=fun i=>i<=y.length/\ ∀j (h:j<y.length),j<i->fh y[j]=true,μ:=fun i=>y.length - i,aW:=[],aN:=fun i=>[(10,strs y),(11,i64 (Int.ofNat y.length)),(12,i64 i)],bn:=fun _=>[]}
def xh (y:Bs):aH:={α:=Nat,ok:=fun i=>i<=y.length/\ ∀j (h:j<y.length),j<i->gV y[j]=true,μ:=fun i=>y.length - i,aW:=[],aN:=fun i=>[(0, .str y),(3,i64 i)],bn:=fun _=>[]}
def xy (y:Bs):aH:={α:=Nat,ok:=fun i=>i<=4/\ ∀j (h:j<(aX y 46).length),j<i->gP (aX y 46)[j]=true,μ:=fun i=>4 - i,aW:=[],aN:=fun i=>[(3,strs (aX y 46)),(4,i64 i)],bn:=fun _=>[]}
def xA (y:Bs):aH:={α:=Nat,ok:=fun i=>i<=(aX y 46).length/\ ∀j (h:j<(aX y 46).length),j<i->eO (aX y 46)[j]=true,μ:=fun i=>(aX y 46).length - i,aW:=[],aN:=fun i=>[(3,strs (aX y 46)),(4,i64 i)],bn:=fun _=>[]}
def ft (y:Bs):Int×Bs:=if 2<y.length/\y.take 2=[42,46]then(42,y.drop 2)else if 1<y.length/\y.head? =some 33 then(33,y.drop 1)else(0,y)
def C4:aM:={Y:=Bs,pre:=fun y=>y.length<=100000,args:=fun y=>[.str y],res:=fun y=> .bJ [.int .u8 (ft y).1, .str (ft y).2]}
def Fv:aM:={Y:=List Bs,pre:=fun y=>y.length<=100000/\ ∀s∈y,s.length<=100000,args:=fun y=>[strs y],res:=fun y=> .bool (y.all fh)}
def xB (y:List Bs):aH:={α:=Nat,ok:=fun i=>i<=y.length/\ ∀j (h:j<y.length),j<i->fh y[j]=true,μ:=fun i=>y.length - i,aW:=[],aN:=fun i=>[(0,strs y),(3,i64 i)],bn:=fun _=>[]}
noncomputable def lV (f:FuncId):Option aM:=bif Nat.beq f GM then some Fx else bif Nat.beq f Gz then some FX else Nd f
noncomputable def pw (f:FuncId):Option aM:=bif Nat.beq f mV then some (fR eO)else bif Nat.beq f mR then some (fR eO)else bif Nat.beq f ni then some (fR fC)else bif Nat.beq f mZ then some (fR fC)else bif Nat.beq f mK then some (fR fj)else bif Nat.beq f mD then some (fR fj)else lV f
noncomputable def yo (f:FuncId):Option aM:=bif Nat.beq f qR then some (fR ib)else bif Nat.beq f qO then some (fR ib)else bif Nat.beq f mY then some (fR dQ)else pw f
noncomputable def sQ (f:FuncId):Option aM:=bif Nat.beq f nj then some (fR dQ)else bif Nat.beq f GR then some sg else yo f
noncomputable def sR (f:FuncId):Option aM:=bif Nat.beq f re then some CZ else bif Nat.beq f qD then some sg else bif Nat.beq f rh then some C4 else sQ f
noncomputable def sS (f:FuncId):Option aM:=bif Nat.beq f qV then some Fu else bif Nat.beq f GA then some (fR fh)else sR f
noncomputable def Ng (f:FuncId):Option aM:=bif Nat.beq f mN then some CY else bif Nat.beq f mS then some Fv else sS f
end
section
variable [Inhabited aL]
theorem XK:(bV (fun(y:aM.Y Fx)=>bM bZ (cS y)) 400 GM)=(∀(y:UInt8×Bool),
 True->
 br (nB y.1==45)
 (br y.2 (false=gE (nB y.1) y.2/\True)
 (true=gE (nB y.1) y.2/\True))
 (br (bU 97 (nB y.1))
 (br (bU (nB y.1) 122) (true=gE (nB y.1) y.2/\True)
 (br (bU 48 (nB y.1))
 (br (bU (nB y.1) 57) (true=gE (nB y.1) y.2/\True)
 (br (nB y.1==95) (true=gE (nB y.1) y.2/\True)
 (false=gE (nB y.1) y.2/\True)))
 (br (nB y.1==95) (true=gE (nB y.1) y.2/\True)
 (false=gE (nB y.1) y.2/\True))))
 (br (bU 48 (nB y.1))
 (br (bU (nB y.1) 57) (true=gE (nB y.1) y.2/\True)
 (br (nB y.1==95) (true=gE (nB y.1) y.2/\True)
 (false=gE (nB y.1) y.2/\True)))
 (br (nB y.1==95) (true=gE (nB y.1) y.2/\True)
 (false=gE (nB y.1) y.2/\True))))):=by kernel_rfl
theorem Ob:(bV (fun(y:aM.Y FX)=>bM bZ (cS y)) 400 Gz)=(∀(y:UInt8),
 True->
 br (bU 97 (nB y))
 (br (bU (nB y) 122) (true=gV y/\True)
 (br (bU 48 (nB y))
 (br (bU (nB y) 57) (true=gV y/\True)
 (br (nB y==45) (true=gV y/\True) ((nB y==95)=gV y/\True)))
 (br (nB y==45) (true=gV y/\True) ((nB y==95)=gV y/\True))))
 (br (bU 48 (nB y))
 (br (bU (nB y) 57) (true=gV y/\True)
 (br (nB y==45) (true=gV y/\True) ((nB y==95)=gV y/\True)))
 (br (nB y==45) (true=gV y/\True) ((nB y==95)=gV y/\True)))):=by kernel_rfl
theorem XC:(bV (fun(y:aM.Y (fR eO))=>bM lV (cr mV 4 (pj y))) 400 mV)=(∀(y:List UInt8),
 y.length<=100000->
 br (y==Array.toList (ByteArray.data {data:=#[]})) (false=eO y/\True)
 (br (bw 63 (Int.ofNat y.length)) (false=eO y/\True)
 ((∃(x:Nat),
 (x<=y.length/\ ∀(j:Nat) (h:j<y.length),j<x->gE (nB y[j]) (j==0||j==y.length - 1)=true)/\
 (y=y/\ai (Int.ofNat y.length) (Int.ofNat y.length)/\ai 0 ↑x/\True)/\True/\True)/\
 ∀(x:Nat),
 (x<=y.length/\ ∀(j:Nat) (h:j<y.length),j<x->gE (nB y[j]) (j==0||j==y.length - 1)=true)->
 br (bw (↑x) (Int.ofNat y.length))
 (so y[Int.toNat ↑x]? fun(val:UInt8)=>
 br ((↑x:Int)==0)
 (∃(y_1:UInt8×Bool),
 ai (Int.ofNat (UInt8.toNat val)) (nB y_1.1)/\
 true=y_1.2/\
 True/\
 br (!gE (nB y_1.1) y_1.2) (false=eO y/\True)
 (ck (bp .i64 (↑x+1))
 (∃(y_2:Nat),
 (y_2<=y.length/\
 ∀(j:Nat) (h:j<y.length),j<y_2->gE (nB y[j]) (j==0||j==y.length - 1)=true)/\
 aH.μ (pj y) y_2<aH.μ (pj y) x/\
 (y=y/\ai (Int.ofNat y.length) (Int.ofNat y.length)/\ai (↑x+1) ↑y_2/\True)/\True/\True)))
 (ck (bp .i64 (Int.ofNat y.length - 1))
 (∃(y_1:UInt8×Bool),
 ai (Int.ofNat (UInt8.toNat val)) (nB y_1.1)/\
 ((↑x:Int)==Int.ofNat y.length - 1)=y_1.2/\
 True/\
 br (!gE (nB y_1.1) y_1.2) (false=eO y/\True)
 (ck (bp .i64 (↑x+1))
 (∃(y_2:Nat),
 (y_2<=y.length/\
 ∀(j:Nat) (h:j<y.length),j<y_2->gE (nB y[j]) (j==0||j==y.length - 1)=true)/\
 aH.μ (pj y) y_2<aH.μ (pj y) x/\
 (y=y/\ai (Int.ofNat y.length) (Int.ofNat y.length)/\ai (↑x+1) ↑y_2/\True)/\True/\True)))))
 (true=eO y/\True)))):=by kernel_rfl
theorem WK:(bV (fun(y:aM.Y (fR eO))=>bM lV (cr mR 4 (xh y))) 400 mR)=(∀(y:List UInt8),
 y.length<=100000->
 br (bw (Int.ofNat y.length) 1) (false=eO y/\True)
 (br (bw 63 (Int.ofNat y.length)) (false=eO y/\True)
 (so y[Int.toNat 0]? fun(val:UInt8)=>
 br (Int.ofNat (UInt8.toNat val)==45) (false=eO y/\True)
 (ck (bp .i64 (Int.ofNat y.length - 1))
 (ck (nn (Int.ofNat y.length - 1))
 (so y[Int.toNat (Int.ofNat y.length - 1)]? fun(val:UInt8)=>
 br (Int.ofNat (UInt8.toNat val)==45) (false=eO y/\True)
 ((∃(x:Nat),
 (x<=y.length/\ ∀(j:Nat) (h:j<y.length),j<x->gV y[j]=true)/\(y=y/\ai 0 ↑x/\True)/\True/\True)/\
 ∀(x:Nat),
 (x<=y.length/\ ∀(j:Nat) (h:j<y.length),j<x->gV y[j]=true)->
 br (bw (↑x) (Int.ofNat y.length))
 (so y[Int.toNat ↑x]? fun(val:UInt8)=>
 ∃(y_1:UInt8),
 ai (Int.ofNat (UInt8.toNat val)) (nB y_1)/\
 True/\
 br (!gV y_1) (false=eO y/\True)
 (ck (bp .i64 (↑x+1))
 (∃(y_2:Nat),
 (y_2<=y.length/\ ∀(j:Nat) (h:j<y.length),j<y_2->gV y[j]=true)/\
 aH.μ (xh y) y_2<aH.μ (xh y) x/\(y=y/\ai (↑x+1) ↑y_2/\True)/\True/\True)))
 (true=eO y/\True)))))))):=by kernel_rfl
theorem N2:(bV (fun(y:aM.Y (fR fC))=>bM lV (cr ni 5 (py y))) 400 ni)=(∀(y:List UInt8),
 y.length<=100000->
 ∃(y_1:Bs×Int),
 y=y_1.1/\
 ai 46 y_1.2/\
 y_1.1.length<=100000/\
 br (!Int.ofNat (List.length (aX y_1.1 y_1.2))==4) (false=fC y/\True)
 ((∃(x:Nat),
 (x<=List.length (aX y 46)/\
 ∀(j:Nat) (h:j<List.length (aX y 46)),j<x->gP (aX y 46)[j]=true)/\
 (SV.aj Bs (aX y_1.1 y_1.2) aS=SV.aj Bs (aX y 46) aS/\
 ai (Int.ofNat (List.length (aX y_1.1 y_1.2))) (Int.ofNat (List.length (aX y 46)))/\
 ai 0 ↑x/\True)/\
 True/\True)/\
 ∀(x:Nat),
 (x<=List.length (aX y 46)/\
 ∀(j:Nat) (h:j<List.length (aX y 46)),j<x->gP (aX y 46)[j]=true)->
 br (bw (↑x) (Int.ofNat (List.length (aX y 46))))
 (so (aX y 46)[Int.toNat ↑x]? fun(val:Bs)=>
 ∃(y_2:List UInt8),
 val=y_2/\
 y_2.length<=1000000/\
 br (val==Array.toList (ByteArray.data {data:=#[]})) (false=fC y/\True)
 (∃(y_3:List UInt8),
 val=y_3/\
 y_3.length<=1000000/\
 br (bw (↑(dq y_3)) (Int.ofNat val.length)) (false=fC y/\True)
 (br (bw 255 (Prod.fst (bB y_2))) (false=fC y/\True)
 (br (bw 1 (Int.ofNat val.length))
 (so val[Int.toNat 0]? fun(val:UInt8)=>
 br (Int.ofNat (UInt8.toNat val)==48) (false=fC y/\True)
 (ck (bp .i64 (↑x+1))
 (∃(y_4:Nat),
 (y_4<=List.length (aX y 46)/\
 ∀(j:Nat) (h:j<List.length (aX y 46)),
 j<y_4->gP (aX y 46)[j]=true)/\
 aH.μ (py y) y_4<aH.μ (py y) x/\
 (SV.aj Bs (aX y 46) aS=
 SV.aj Bs (aX y 46) aS/\
 ai (Int.ofNat (List.length (aX y 46))) (Int.ofNat (List.length (aX y 46)))/\
 ai (↑x+1) ↑y_4/\True)/\
 True/\True)))
 (ck (bp .i64 (↑x+1))
 (∃(y_4:Nat),
 (y_4<=List.length (aX y 46)/\
 ∀(j:Nat) (h:j<List.length (aX y 46)),j<y_4->gP (aX y 46)[j]=true)/\
 aH.μ (py y) y_4<aH.μ (py y) x/\
 (SV.aj Bs (aX y 46) aS=
 SV.aj Bs (aX y 46) aS/\
 ai (Int.ofNat (List.length (aX y 46))) (Int.ofNat (List.length (aX y 46)))/\
 ai (↑x+1) ↑y_4/\True)/\
 True/\True))))))
 (true=fC y/\True))):=by kernel_rfl
theorem X8:(bV (fun(y:aM.Y (fR fC))=>bM lV (cr mZ 5 (xy y))) 400 mZ)=(∀(y:List UInt8),
 y.length<=100000->
 ∃(y_1:Bs×Int),
 y=y_1.1/\
 ai 46 y_1.2/\
 y_1.1.length<=100000/\
 br (!Int.ofNat (List.length (aX y_1.1 y_1.2))==4) (false=fC y/\True)
 ((∃(x:Nat),
 (x<=4/\ ∀(j:Nat) (h:j<List.length (aX y 46)),j<x->gP (aX y 46)[j]=true)/\
 (SV.aj Bs (aX y_1.1 y_1.2) aS=SV.aj Bs (aX y 46) aS/\
 ai 0 ↑x/\True)/\
 True/\True)/\
 ∀(x:Nat),
 (x<=4/\ ∀(j:Nat) (h:j<List.length (aX y 46)),j<x->gP (aX y 46)[j]=true)->
 br (bw (↑x) 4)
 (so (aX y 46)[Int.toNat ↑x]? fun(val:Bs)=>
 br (bw (Int.ofNat val.length) 1) (false=fC y/\True)
 (so (aX y 46)[Int.toNat ↑x]? fun(val:Bs)=>
 br (bw 3 (Int.ofNat val.length)) (false=fC y/\True)
 (so (aX y 46)[Int.toNat ↑x]? fun(val:Bs)=>
 so (aX y 46)[Int.toNat ↑x]? fun(val_1:Bs)=>
 ∃(y_2:List UInt8),
 val=y_2/\
 y_2.length<=1000000/\
 br (!↑(dq y_2)==Int.ofNat val_1.length) (false=fC y/\True)
 (so (aX y 46)[Int.toNat ↑x]? fun(val:Bs)=>
 ∃(y_3:List UInt8),
 val=y_3/\
 y_3.length<=1000000/\
 br (bw 255 (Prod.fst (bB y_3))) (false=fC y/\True)
 (so (aX y 46)[Int.toNat ↑x]? fun(val:Bs)=>
 ∃(y_4:Nat),
 ai (Prod.fst (bB y_3)) ↑y_4/\
 y_4<=1099511627776/\
 br (!jB y_4==val) (false=fC y/\True)
 (ck (bp .i64 (↑x+1))
 (∃(y_5:Nat),
 (y_5<=4/\
 ∀(j:Nat) (h:j<List.length (aX y 46)),
 j<y_5->gP (aX y 46)[j]=true)/\
 aH.μ (xy y) y_5<aH.μ (xy y) x/\
 (SV.aj Bs (aX y 46) aS=
 SV.aj Bs (aX y 46) aS/\
 ai (↑x+1) ↑y_5/\True)/\
 True/\True)))))))
 (true=fC y/\True))):=by kernel_rfl
theorem X4:(bV (fun(y:aM.Y (fR fj))=>bM lV (cr mK 4 (gZ y))) 400 mK)=(∀(y:List UInt8),
 y.length<=100000->
 br (bw (Int.ofNat y.length) 4) (false=fj y/\True)
 (br (bw 47 (Int.ofNat y.length)) (false=fj y/\True)
 (so y[Int.toNat 0]? fun(val:UInt8)=>
 br (!Int.ofNat (UInt8.toNat val)==91) (false=fj y/\True)
 (ck (bp .i64 (Int.ofNat y.length - 1))
 (ck (nn (Int.ofNat y.length - 1))
 (so y[Int.toNat (Int.ofNat y.length - 1)]? fun(val:UInt8)=>
 br (!Int.ofNat (UInt8.toNat val)==93) (false=fj y/\True)
 (ck (bp .i64 (Int.ofNat y.length - 1))
 (ck (nn (Int.ofNat y.length - 1))
 (ck (Nat.ble (Int.toNat 1) (Int.toNat (Int.ofNat y.length - 1))&&Nat.ble (Int.toNat (Int.ofNat y.length - 1)) y.length)
 ((∃(x:Nat),
 (x<=List.length (List.take (y.length - 2) (List.drop 1 y))/\
 ∀(j:Nat) (h:j<List.length (List.take (y.length - 2) (List.drop 1 y))),
 j<x->di (List.take (y.length - 2) (List.drop 1 y))[j]=true)/\
 (SV.aj UInt8 (List.take (Int.toNat (Int.ofNat y.length - 1) - Int.toNat 1) (List.drop (Int.toNat 1) y)) dh=
 SV.aj UInt8 (List.take (y.length - 2) (List.drop 1 y)) dh/\
 ai (Int.ofNat (List.length (List.take (Int.toNat (Int.ofNat y.length - 1) - Int.toNat 1) (List.drop (Int.toNat 1) y))))
 (Int.ofNat (List.length (List.take (y.length - 2) (List.drop 1 y))))/\
 ai 0 ↑x/\True)/\
 True/\True)/\
 ∀(x:Nat),
 (x<=List.length (List.take (y.length - 2) (List.drop 1 y))/\
 ∀(j:Nat) (h:j<List.length (List.take (y.length - 2) (List.drop 1 y))),
 j<x->di (List.take (y.length - 2) (List.drop 1 y))[j]=true)->
 br (bw (↑x) (Int.ofNat (List.length (List.take (y.length - 2) (List.drop 1 y)))))
 (so (List.take (y.length - 2) (List.drop 1 y))[Int.toNat ↑x]? fun(val:UInt8)=>
 br (bU 48 (Int.ofNat (UInt8.toNat val)))
 (br (bU (Int.ofNat (UInt8.toNat val)) 57)
 (ck (bp .i64 (↑x+1))
 (∃(y_1:Nat),
 (y_1<=List.length (List.take (y.length - 2) (List.drop 1 y))/\
 ∀(j:Nat) (h:j<List.length (List.take (y.length - 2) (List.drop 1 y))),
 j<y_1->di (List.take (y.length - 2) (List.drop 1 y))[j]=true)/\
 aH.μ (gZ y) y_1<aH.μ (gZ y) x/\
 (SV.aj UInt8 (List.take (y.length - 2) (List.drop 1 y)) dh=
 SV.aj UInt8 (List.take (y.length - 2) (List.drop 1 y)) dh/\
 ai (Int.ofNat (List.length (List.take (y.length - 2) (List.drop 1 y))))
 (Int.ofNat (List.length (List.take (y.length - 2) (List.drop 1 y))))/\
 ai (↑x+1) ↑y_1/\True)/\
 True/\True))
 (br (bU 97 (Int.ofNat (UInt8.toNat val)))
 (br (bU (Int.ofNat (UInt8.toNat val)) 102)
 (ck (bp .i64 (↑x+1))
 (∃(y_1:Nat),
 (y_1<=List.length (List.take (y.length - 2) (List.drop 1 y))/\
 ∀(j:Nat) (h:j<List.length (List.take (y.length - 2) (List.drop 1 y))),
 j<y_1->di (List.take (y.length - 2) (List.drop 1 y))[j]=true)/\
 aH.μ (gZ y) y_1<aH.μ (gZ y) x/\
 (SV.aj UInt8 (List.take (y.length - 2) (List.drop 1 y)) dh=
 SV.aj UInt8 (List.take (y.length - 2) (List.drop 1 y)) dh/\
 ai (Int.ofNat (List.length (List.take (y.length - 2) (List.drop 1 y))))
 (Int.ofNat (List.length (List.take (y.length - 2) (List.drop 1 y))))/\
 ai (↑x+1) ↑y_1/\True)/\
 True/\True))
 (br (Int.ofNat (UInt8.toNat val)==58)
 (ck (bp .i64 (↑x+1))
 (∃(y_1:Nat),
 (y_1<=List.length (List.take (y.length - 2) (List.drop 1 y))/\
 ∀(j:Nat) (h:j<List.length (List.take (y.length - 2) (List.drop 1 y))),
 j<y_1->di (List.take (y.length - 2) (List.drop 1 y))[j]=true)/\
 aH.μ (gZ y) y_1<aH.μ (gZ y) x/\
 (SV.aj UInt8 (List.take (y.length - 2) (List.drop 1 y)) dh=
 SV.aj UInt8 (List.take (y.length - 2) (List.drop 1 y)) dh/\
 ai (Int.ofNat (List.length (List.take (y.length - 2) (List.drop 1 y))))
 (Int.ofNat (List.length (List.take (y.length - 2) (List.drop 1 y))))/\
 ai (↑x+1) ↑y_1/\True)/\
 True/\True))
 (br (!Int.ofNat (UInt8.toNat val)==46) (false=fj y/\True)
 (ck (bp .i64 (↑x+1))
 (∃(y_1:Nat),
 (y_1<=List.length (List.take (y.length - 2) (List.drop 1 y))/\
 ∀(j:Nat) (h:j<List.length (List.take (y.length - 2) (List.drop 1 y))),
 j<y_1->di (List.take (y.length - 2) (List.drop 1 y))[j]=true)/\
 aH.μ (gZ y) y_1<aH.μ (gZ y) x/\
 (SV.aj UInt8 (List.take (y.length - 2) (List.drop 1 y)) dh=
 SV.aj UInt8 (List.take (y.length - 2) (List.drop 1 y)) dh/\
 ai (Int.ofNat (List.length (List.take (y.length - 2) (List.drop 1 y))))
 (Int.ofNat (List.length (List.take (y.length - 2) (List.drop 1 y))))/\
 ai (↑x+1) ↑y_1/\True)/\
 True/\True)))))
 (br (Int.ofNat (UInt8.toNat val)==58)
 (ck (bp .i64 (↑x+1))
 (∃(y_1:Nat),
 (y_1<=List.length (List.take (y.length - 2) (List.drop 1 y))/\
 ∀(j:Nat) (h:j<List.length (List.take (y.length - 2) (List.drop 1 y))),
 j<y_1->di (List.take (y.length - 2) (List.drop 1 y))[j]=true)/\
 aH.μ (gZ y) y_1<aH.μ (gZ y) x/\
 (SV.aj UInt8 (List.take (y.length - 2) (List.drop 1 y)) dh=
 SV.aj UInt8 (List.take (y.length - 2) (List.drop 1 y)) dh/\
 ai (Int.ofNat (List.length (List.take (y.length - 2) (List.drop 1 y))))
 (Int.ofNat (List.length (List.take (y.length - 2) (List.drop 1 y))))/\
 ai (↑x+1) ↑y_1/\True)/\
 True/\True))
 (br (!Int.ofNat (UInt8.toNat val)==46) (false=fj y/\True)
 (ck (bp .i64 (↑x+1))
 (∃(y_1:Nat),
 (y_1<=List.length (List.take (y.length - 2) (List.drop 1 y))/\
 ∀(j:Nat) (h:j<List.length (List.take (y.length - 2) (List.drop 1 y))),
 j<y_1->di (List.take (y.length - 2) (List.drop 1 y))[j]=true)/\
 aH.μ (gZ y) y_1<aH.μ (gZ y) x/\
 (SV.aj UInt8 (List.take (y.length - 2) (List.drop 1 y)) dh=
 SV.aj UInt8 (List.take (y.length - 2) (List.drop 1 y)) dh/\
 ai (Int.ofNat (List.length (List.take (y.length - 2) (List.drop 1 y))))
 (Int.ofNat (List.length (List.take (y.length - 2) (List.drop 1 y))))/\
 ai (↑x+1) ↑y_1/\True)/\
 True/\True))))))
 (br (bU 97 (Int.ofNat (UInt8.toNat val)))
 (br (bU (Int.ofNat (UInt8.toNat val)) 102)
 (ck (bp .i64 (↑x+1))
 (∃(y_1:Nat),
 (y_1<=List.length (List.take (y.length - 2) (List.drop 1 y))/\
 ∀(j:Nat) (h:j<List.length (List.take (y.length - 2) (List.drop 1 y))),
 j<y_1->di (List.take (y.length - 2) (List.drop 1 y))[j]=true)/\
 aH.μ (gZ y) y_1<aH.μ (gZ y) x/\
 (SV.aj UInt8 (List.take (y.length - 2) (List.drop 1 y)) dh=
 SV.aj UInt8 (List.take (y.length - 2) (List.drop 1 y)) dh/\
 ai (Int.ofNat (List.length (List.take (y.length - 2) (List.drop 1 y))))
 (Int.ofNat (List.length (List.take (y.length - 2) (List.drop 1 y))))/\
 ai (↑x+1) ↑y_1/\True)/\
 True/\True))
 (br (Int.ofNat (UInt8.toNat val)==58)
 (ck (bp .i64 (↑x+1))
 (∃(y_1:Nat),
 (y_1<=List.length (List.take (y.length - 2) (List.drop 1 y))/\
 ∀(j:Nat) (h:j<List.length (List.take (y.length - 2) (List.drop 1 y))),
 j<y_1->di (List.take (y.length - 2) (List.drop 1 y))[j]=true)/\
 aH.μ (gZ y) y_1<aH.μ (gZ y) x/\
 (SV.aj UInt8 (List.take (y.length - 2) (List.drop 1 y)) dh=
 SV.aj UInt8 (List.take (y.length - 2) (List.drop 1 y)) dh/\
 ai (Int.ofNat (List.length (List.take (y.length - 2) (List.drop 1 y))))
 (Int.ofNat (List.length (List.take (y.length - 2) (List.drop 1 y))))/\
 ai (↑x+1) ↑y_1/\True)/\
 True/\True))
 (br (!Int.ofNat (UInt8.toNat val)==46) (false=fj y/\True)
 (ck (bp .i64 (↑x+1))
 (∃(y_1:Nat),
 (y_1<=List.length (List.take (y.length - 2) (List.drop 1 y))/\
 ∀(j:Nat) (h:j<List.length (List.take (y.length - 2) (List.drop 1 y))),
 j<y_1->di (List.take (y.length - 2) (List.drop 1 y))[j]=true)/\
 aH.μ (gZ y) y_1<aH.μ (gZ y) x/\
 (SV.aj UInt8 (List.take (y.length - 2) (List.drop 1 y)) dh=
 SV.aj UInt8 (List.take (y.length - 2) (List.drop 1 y)) dh/\
 ai (Int.ofNat (List.length (List.take (y.length - 2) (List.drop 1 y))))
 (Int.ofNat (List.length (List.take (y.length - 2) (List.drop 1 y))))/\
 ai (↑x+1) ↑y_1/\True)/\
 True/\True)))))
 (br (Int.ofNat (UInt8.toNat val)==58)
 (ck (bp .i64 (↑x+1))
 (∃(y_1:Nat),
 (y_1<=List.length (List.take (y.length - 2) (List.drop 1 y))/\
 ∀(j:Nat) (h:j<List.length (List.take (y.length - 2) (List.drop 1 y))),
 j<y_1->di (List.take (y.length - 2) (List.drop 1 y))[j]=true)/\
 aH.μ (gZ y) y_1<aH.μ (gZ y) x/\
 (SV.aj UInt8 (List.take (y.length - 2) (List.drop 1 y)) dh=
 SV.aj UInt8 (List.take (y.length - 2) (List.drop 1 y)) dh/\
 ai (Int.ofNat (List.length (List.take (y.length - 2) (List.drop 1 y))))
 (Int.ofNat (List.length (List.take (y.length - 2) (List.drop 1 y))))/\
 ai (↑x+1) ↑y_1/\True)/\
 True/\True))
 (br (!Int.ofNat (UInt8.toNat val)==46) (false=fj y/\True)
 (ck (bp .i64 (↑x+1))
 (∃(y_1:Nat),
 (y_1<=List.length (List.take (y.length - 2) (List.drop 1 y))/\
 ∀(j:Nat) (h:j<List.length (List.take (y.length - 2) (List.drop 1 y))),
 j<y_1->di (List.take (y.length - 2) (List.drop 1 y))[j]=true)/\
 aH.μ (gZ y) y_1<aH.μ (gZ y) x/\
 (SV.aj UInt8 (List.take (y.length - 2) (List.drop 1 y)) dh=
 SV.aj UInt8 (List.take (y.length - 2) (List.drop 1 y)) dh/\
 ai (Int.ofNat (List.length (List.take (y.length - 2) (List.drop 1 y))))
 (Int.ofNat (List.length (List.take (y.length - 2) (List.drop 1 y))))/\
 ai (↑x+1) ↑y_1/\True)/\
 True/\True))))))
 (true=fj y/\True))))))))))):=by kernel_rfl
theorem WG:(bV (fun(y:aM.Y (fR fj))=>bM bZ (cr mD 4 (ia y))) 400 mD)=(∀(y:List UInt8),
 y.length<=100000->
 br (bw (Int.ofNat y.length) 4) (false=fj y/\True)
 (br (bw 47 (Int.ofNat y.length)) (false=fj y/\True)
 (so y[Int.toNat 0]? fun(val:UInt8)=>
 br (!Int.ofNat (UInt8.toNat val)==91) (false=fj y/\True)
 (ck (bp .i64 (Int.ofNat y.length - 1))
 (ck (nn (Int.ofNat y.length - 1))
 (so y[Int.toNat (Int.ofNat y.length - 1)]? fun(val:UInt8)=>
 br (!Int.ofNat (UInt8.toNat val)==93) (false=fj y/\True)
 ((∃(x:Nat),
 (1<=x/\x+1<=y.length/\ ∀(j:Nat) (h:j<y.length),1<=j->j<x->di y[j]=true)/\
 (y=y/\ai 1 ↑x/\True)/\True/\True)/\
 ∀(x:Nat),
 (1<=x/\x+1<=y.length/\ ∀(j:Nat) (h:j<y.length),1<=j->j<x->di y[j]=true)->
 ck (bp .i64 (Int.ofNat y.length - 1))
 (br (bw (↑x) (Int.ofNat y.length - 1))
 (so y[Int.toNat ↑x]? fun(val:UInt8)=>
 br (bU 48 (Int.ofNat (UInt8.toNat val)))
 (br (bU (Int.ofNat (UInt8.toNat val)) 57)
 (ck (bp .i64 (↑x+1))
 (∃(y_1:Nat),
 (1<=y_1/\y_1+1<=y.length/\ ∀(j:Nat) (h:j<y.length),1<=j->j<y_1->di y[j]=true)/\
 aH.μ (ia y) y_1<aH.μ (ia y) x/\(y=y/\ai (↑x+1) ↑y_1/\True)/\True/\True))
 (br (bU 97 (Int.ofNat (UInt8.toNat val)))
 (br (bU (Int.ofNat (UInt8.toNat val)) 102)
 (ck (bp .i64 (↑x+1))
 (∃(y_1:Nat),
 (1<=y_1/\y_1+1<=y.length/\ ∀(j:Nat) (h:j<y.length),1<=j->j<y_1->di y[j]=true)/\
 aH.μ (ia y) y_1<aH.μ (ia y) x/\(y=y/\ai (↑x+1) ↑y_1/\True)/\True/\True))
 (br (Int.ofNat (UInt8.toNat val)==58)
 (ck (bp .i64 (↑x+1))
 (∃(y_1:Nat),
 (1<=y_1/\y_1+1<=y.length/\ ∀(j:Nat) (h:j<y.length),1<=j->j<y_1->di y[j]=true)/\
 aH.μ (ia y) y_1<aH.μ (ia y) x/\
 (y=y/\ai (↑x+1) ↑y_1/\True)/\True/\True))
 (br (!Int.ofNat (UInt8.toNat val)==46) (false=fj y/\True)
 (ck (bp .i64 (↑x+1))
 (∃(y_1:Nat),
 (1<=y_1/\y_1+1<=y.length/\ ∀(j:Nat) (h:j<y.length),1<=j->j<y_1->di y[j]=true)/\
 aH.μ (ia y) y_1<aH.μ (ia y) x/\
 (y=y/\ai (↑x+1) ↑y_1/\True)/\True/\True)))))
 (br (Int.ofNat (UInt8.toNat val)==58)
 (ck (bp .i64 (↑x+1))
 (∃(y_1:Nat),
 (1<=y_1/\y_1+1<=y.length/\ ∀(j:Nat) (h:j<y.length),1<=j->j<y_1->di y[j]=true)/\
 aH.μ (ia y) y_1<aH.μ (ia y) x/\(y=y/\ai (↑x+1) ↑y_1/\True)/\True/\True))
 (br (!Int.ofNat (UInt8.toNat val)==46) (false=fj y/\True)
 (ck (bp .i64 (↑x+1))
 (∃(y_1:Nat),
 (1<=y_1/\y_1+1<=y.length/\ ∀(j:Nat) (h:j<y.length),1<=j->j<y_1->di y[j]=true)/\
 aH.μ (ia y) y_1<aH.μ (ia y) x/\
 (y=y/\ai (↑x+1) ↑y_1/\True)/\True/\True))))))
 (br (bU 97 (Int.ofNat (UInt8.toNat val)))
 (br (bU (Int.ofNat (UInt8.toNat val)) 102)
 (ck (bp .i64 (↑x+1))
 (∃(y_1:Nat),
 (1<=y_1/\y_1+1<=y.length/\ ∀(j:Nat) (h:j<y.length),1<=j->j<y_1->di y[j]=true)/\
 aH.μ (ia y) y_1<aH.μ (ia y) x/\(y=y/\ai (↑x+1) ↑y_1/\True)/\True/\True))
 (br (Int.ofNat (UInt8.toNat val)==58)
 (ck (bp .i64 (↑x+1))
 (∃(y_1:Nat),
 (1<=y_1/\y_1+1<=y.length/\ ∀(j:Nat) (h:j<y.length),1<=j->j<y_1->di y[j]=true)/\
 aH.μ (ia y) y_1<aH.μ (ia y) x/\(y=y/\ai (↑x+1) ↑y_1/\True)/\True/\True))
 (br (!Int.ofNat (UInt8.toNat val)==46) (false=fj y/\True)
 (ck (bp .i64 (↑x+1))
 (∃(y_1:Nat),
 (1<=y_1/\y_1+1<=y.length/\ ∀(j:Nat) (h:j<y.length),1<=j->j<y_1->di y[j]=true)/\
 aH.μ (ia y) y_1<aH.μ (ia y) x/\
 (y=y/\ai (↑x+1) ↑y_1/\True)/\True/\True)))))
 (br (Int.ofNat (UInt8.toNat val)==58)
 (ck (bp .i64 (↑x+1))
 (∃(y_1:Nat),
 (1<=y_1/\y_1+1<=y.length/\ ∀(j:Nat) (h:j<y.length),1<=j->j<y_1->di y[j]=true)/\
 aH.μ (ia y) y_1<aH.μ (ia y) x/\(y=y/\ai (↑x+1) ↑y_1/\True)/\True/\True))
 (br (!Int.ofNat (UInt8.toNat val)==46) (false=fj y/\True)
 (ck (bp .i64 (↑x+1))
 (∃(y_1:Nat),
 (1<=y_1/\y_1+1<=y.length/\ ∀(j:Nat) (h:j<y.length),1<=j->j<y_1->di y[j]=true)/\
 aH.μ (ia y) y_1<aH.μ (ia y) x/\
 (y=y/\ai (↑x+1) ↑y_1/\True)/\True/\True))))))
 (true=fj y/\True))))))))):=by kernel_rfl
theorem X3:(bV (fun(y:aM.Y (fR ib))=>bM pw (cS y)) 400 qO)=(∀(y:List UInt8),
 y.length<=100000->
 ∃(y_1:List UInt8),
 y=y_1/\
 y_1.length<=100000/\
 br (fC y_1) (true=ib y/\True)
 (∃(y_2:List UInt8),y=y_2/\y_2.length<=100000/\fj y_2=ib y/\True)):=by kernel_rfl
theorem NW:(bV (fun(y:aM.Y (fR ib))=>bM pw (cS y)) 400 qR)=(∀(y:List UInt8),
 y.length<=100000->
 ∃(y_1:List UInt8),
 y=y_1/\
 y_1.length<=100000/\
 br (fC y_1) (true=ib y/\True)
 (∃(y_2:List UInt8),y=y_2/\y_2.length<=100000/\fj y_2=ib y/\True)):=by kernel_rfl
theorem N7:(bV (fun(y:aM.Y (fR dQ))=>bM yo (cr nj 4 (xS y))) 400 nj)=(∀(y:List UInt8),
 y.length<=100000->
 br (bw 256 (Int.ofNat y.length)) (false=dQ y/\True)
 (∃(y_1:List UInt8),
 y=y_1/\
 y_1.length<=100000/\
 br (ib y_1) (false=dQ y/\True)
 (∃(y_2:Bs×Int),
 y=y_2.1/\
 ai 46 y_2.2/\
 y_2.1.length<=100000/\
 (∃(x:Nat),
 (x<=List.length (aX y 46)/\
 ∀(j:Nat) (h:j<List.length (aX y 46)),j<x->eO (aX y 46)[j]=true)/\
 (SV.aj Bs (aX y_2.1 y_2.2) aS=
 SV.aj Bs (aX y 46) aS/\
 ai (Int.ofNat (List.length (aX y_2.1 y_2.2))) (Int.ofNat (List.length (aX y 46)))/\
 ai 0 ↑x/\True)/\
 True/\True)/\
 ∀(x:Nat),
 (x<=List.length (aX y 46)/\
 ∀(j:Nat) (h:j<List.length (aX y 46)),j<x->eO (aX y 46)[j]=true)->
 br (bw (↑x) (Int.ofNat (List.length (aX y 46))))
 (so (aX y 46)[Int.toNat ↑x]? fun(val:Bs)=>
 ∃(y_3:List UInt8),
 val=y_3/\
 y_3.length<=100000/\
 br (!eO y_3) (false=dQ y/\True)
 (ck (bp .i64 (↑x+1))
 (∃(y_4:Nat),
 (y_4<=List.length (aX y 46)/\
 ∀(j:Nat) (h:j<List.length (aX y 46)),j<y_4->eO (aX y 46)[j]=true)/\
 aH.μ (xS y) y_4<aH.μ (xS y) x/\
 (SV.aj Bs (aX y 46) aS=
 SV.aj Bs (aX y 46) aS/\
 ai (Int.ofNat (List.length (aX y 46))) (Int.ofNat (List.length (aX y 46)))/\
 ai (↑x+1) ↑y_4/\True)/\
 True/\True)))
 (true=dQ y/\True)))):=by kernel_rfl
theorem XF:(bV (fun(y:aM.Y (fR dQ))=>bM pw (cr mY 5 (xA y))) 400 mY)=(∀(y:List UInt8),
 y.length<=100000->
 br (bw 256 (Int.ofNat y.length)) (false=dQ y/\True)
 (∃(y_1:List UInt8),
 y=y_1/\
 y_1.length<=100000/\
 br (fC y_1) (false=dQ y/\True)
 (∃(y_2:Bs×Int),
 y=y_2.1/\
 ai 46 y_2.2/\
 y_2.1.length<=100000/\
 (∃(x:Nat),
 (x<=List.length (aX y 46)/\
 ∀(j:Nat) (h:j<List.length (aX y 46)),j<x->eO (aX y 46)[j]=true)/\
 (SV.aj Bs (aX y_2.1 y_2.2) aS=
 SV.aj Bs (aX y 46) aS/\
 ai 0 ↑x/\True)/\
 True/\True)/\
 ∀(x:Nat),
 (x<=List.length (aX y 46)/\
 ∀(j:Nat) (h:j<List.length (aX y 46)),j<x->eO (aX y 46)[j]=true)->
 br (bw (↑x) (Int.ofNat (List.length (aX y 46))))
 (so (aX y 46)[Int.toNat ↑x]? fun(val:Bs)=>
 ∃(y_3:List UInt8),
 val=y_3/\
 y_3.length<=100000/\
 br (!eO y_3) (false=dQ y/\True)
 (ck (bp .i64 (↑x+1))
 (∃(y_4:Nat),
 (y_4<=List.length (aX y 46)/\
 ∀(j:Nat) (h:j<List.length (aX y 46)),j<y_4->eO (aX y 46)[j]=true)/\
 aH.μ (xA y) y_4<aH.μ (xA y) x/\
 (SV.aj Bs (aX y 46) aS=
 SV.aj Bs (aX y 46) aS/\
 ai (↑x+1) ↑y_4/\True)/\
 True/\True)))
 (true=dQ y/\True)))):=by kernel_rfl
theorem WM:(bV (fun(y:aM.Y sg)=>bM bZ (cS y)) 400 GR)=(∀(y:Bs×Bs),
 y.1.length<=100000/\y.2.length<=100000->
 br (bU (Int.ofNat y.2.length) (Int.ofNat y.1.length))
 (ck (Nat.ble (Int.toNat (Int.ofNat y.2.length)) y.1.length)
 ((List.take (Int.toNat (Int.ofNat y.2.length)) y.1==y.2)=
 Decidable.decide (List.take y.2.length y.1=y.2)/\
 True))
 (false=Decidable.decide (List.take y.2.length y.1=y.2)/\True)):=by kernel_rfl
theorem UB:(bV (fun(y:aM.Y sg)=>bM sQ (cS y)) 400 qD)=(∀(y:Bs×Bs),
 y.1.length<=100000/\y.2.length<=100000->
 ∃(y_1:Bs×Bs),
 y.1=y_1.1/\
 y.2=y_1.2/\
 (y_1.1.length<=100000/\y_1.2.length<=100000)/\
 Decidable.decide (List.take y_1.2.length y_1.1=y_1.2)=
 Decidable.decide (List.take y.2.length y.1=y.2)/\
 True):=by kernel_rfl
theorem WL:(bV (fun(y:aM.Y CZ)=>bM sQ (cS y)) 400 re)=(∀(y:List UInt8),
 y.length<=100000->
 ∃(y_1:List UInt8),
 y=y_1/\
 y_1.length<=100000/\
 br (!dQ y_1) ((if dQ y=true then aX y 46 else[])=[]/\True)
 (∃(y_2:Bs×Int),
 y=y_2.1/\
 ai 46 y_2.2/\
 y_2.1.length<=100000/\
 SV.aj Bs (aX y_2.1 y_2.2) aS=
 SV.aj Bs (if dQ y=true then aX y 46 else[]) aS/\
 True)):=by kernel_rfl
theorem WO:(bV (fun(y:aM.Y C4)=>bM bZ (cS y)) 400 rh)=(∀(y:List UInt8),
 y.length<=100000->
 br (bw 2 (Int.ofNat y.length))
 (ck (Nat.ble (Int.toNat 2) y.length)
 (br (List.take (Int.toNat 2) y==Array.toList (ByteArray.data {data:=#[42,46]}))
 (ck (Nat.ble (Int.toNat 2) y.length) (ai 42 (Prod.fst (ft y))/\List.drop (Int.toNat 2) y=Prod.snd (ft y)/\True))
 (br (bw 1 (Int.ofNat y.length))
 (so y[Int.toNat 0]? fun(val:UInt8)=>
 br (Int.ofNat (UInt8.toNat val)==33)
 (ck (Nat.ble (Int.toNat 1) y.length) (ai 33 (Prod.fst (ft y))/\List.drop (Int.toNat 1) y=Prod.snd (ft y)/\True))
 (ai 0 (Prod.fst (ft y))/\y=Prod.snd (ft y)/\True))
 (ai 0 (Prod.fst (ft y))/\y=Prod.snd (ft y)/\True))))
 (br (bw 1 (Int.ofNat y.length))
 (so y[Int.toNat 0]? fun(val:UInt8)=>
 br (Int.ofNat (UInt8.toNat val)==33)
 (ck (Nat.ble (Int.toNat 1) y.length) (ai 33 (Prod.fst (ft y))/\List.drop (Int.toNat 1) y=Prod.snd (ft y)/\True))
 (ai 0 (Prod.fst (ft y))/\y=Prod.snd (ft y)/\True))
 (ai 0 (Prod.fst (ft y))/\y=Prod.snd (ft y)/\True))):=by kernel_rfl
theorem XH:(bV (fun(y:aM.Y Fu)=>bM sR (cS y)) 400 qV)=(∀(y:List UInt8),
 y.length<=100000->
 ∃(y_1:Bs×Bs),
 y=y_1.1/\
 Array.toList (ByteArray.data {data:=#[42,46]})=y_1.2/\
 (y_1.1.length<=100000/\y_1.2.length<=100000)/\
 br (Decidable.decide (List.take y_1.2.length y_1.1=y_1.2))
 (ck (Nat.ble (Int.toNat 2) y.length)
 (∃(y_2:List UInt8),
 List.drop (Int.toNat 2) y=y_2/\
 y_2.length<=100000/\
 br (bw 0 (Int.ofNat (List.length (if dQ y_2=true then aX y_2 46 else[]))))
 (List.drop (Int.toNat 2) y=Prod.fst (fD y)/\
 true=Prod.fst (Prod.snd (fD y))/\false=Prod.snd (Prod.snd (fD y))/\true=fh y/\True)
 (List.drop (Int.toNat 2) y=Prod.fst (fD y)/\
 true=Prod.fst (Prod.snd (fD y))/\false=Prod.snd (Prod.snd (fD y))/\false=fh y/\True)))
 (∃(y_2:Bs×Bs),
 y=y_2.1/\
 Array.toList (ByteArray.data {data:=#[33]})=y_2.2/\
 (y_2.1.length<=100000/\y_2.2.length<=100000)/\
 br (Decidable.decide (List.take y_2.2.length y_2.1=y_2.2))
 (ck (Nat.ble (Int.toNat 1) y.length)
 (∃(y_3:List UInt8),
 List.drop (Int.toNat 1) y=y_3/\
 y_3.length<=100000/\
 br (bw 0 (Int.ofNat (List.length (if dQ y_3=true then aX y_3 46 else[]))))
 (List.drop (Int.toNat 1) y=Prod.fst (fD y)/\
 false=Prod.fst (Prod.snd (fD y))/\
 true=Prod.snd (Prod.snd (fD y))/\
 bw 1 (Int.ofNat (List.length (if dQ y_3=true then aX y_3 46 else[])))=fh y/\True)
 (List.drop (Int.toNat 1) y=Prod.fst (fD y)/\
 false=Prod.fst (Prod.snd (fD y))/\
 true=Prod.snd (Prod.snd (fD y))/\false=fh y/\True)))
 (∃(y_3:List UInt8),
 y=y_3/\
 y_3.length<=100000/\
 br (bw 0 (Int.ofNat (List.length (if dQ y_3=true then aX y_3 46 else[]))))
 (y=Prod.fst (fD y)/\
 false=Prod.fst (Prod.snd (fD y))/\
 false=Prod.snd (Prod.snd (fD y))/\true=fh y/\True)
 (y=Prod.fst (fD y)/\
 false=Prod.fst (Prod.snd (fD y))/\
 false=Prod.snd (Prod.snd (fD y))/\false=fh y/\True)))):=by kernel_rfl
theorem Oa:(bV (fun(y:aM.Y (fR fh))=>bM sR (cS y)) 400 GA)=(∀(y:List UInt8),
 y.length<=100000->
 ∃(y_1:List UInt8),
 y=y_1/\
 y_1.length<=100000/\
 ∃(y_2:List UInt8),
 Prod.snd (ft y_1)=y_2/\
 y_2.length<=100000/\
 br (dQ y_2)
 (br (!Prod.fst (ft y_1)==33) (true=fh y/\True)
 (∃(y_3:Bs×Int),
 Prod.snd (ft y_1)=y_3.1/\
 ai 46 y_3.2/\
 y_3.1.length<=1000000/\bU 0 (gT y_3.1 y_3.2)=fh y/\True))
 (false=fh y/\True)):=by kernel_rfl
theorem WI:(bV (fun(y:aM.Y CY)=>bM sS (cr mN 4 (xg y))) 400 mN)=(∀(y:List Bs),
 (y.length<=100000/\ ∀(s:Bs),s∈y->s.length<=100000)->
 br (bw 256 (Int.ofNat y.length)) (ai 3 (nI y)/\True)
 ((∃(x:Nat),
 (x<=y.length/\ ∀(j:Nat) (h:j<y.length),j<x->fh y[j]=true)/\
 (SV.aj Bs y aS=SV.aj Bs y aS/\
 ai (Int.ofNat y.length) (Int.ofNat y.length)/\ai 0 ↑x/\True)/\
 True/\True)/\
 ∀(x:Nat),
 (x<=y.length/\ ∀(j:Nat) (h:j<y.length),j<x->fh y[j]=true)->
 br (bw (↑x) (Int.ofNat y.length))
 (so y[Int.toNat ↑x]? fun(val:Bs)=>
 ∃(y_1:List UInt8),
 val=y_1/\
 y_1.length<=100000/\
 br (!fh y_1) (ai 1 (nI y)/\True)
 (ck (bp .i64 (↑x+1))
 (∃(y_2:Nat),
 (y_2<=y.length/\ ∀(j:Nat) (h:j<y.length),j<y_2->fh y[j]=true)/\
 aH.μ (xg y) y_2<aH.μ (xg y) x/\
 (SV.aj Bs y aS=SV.aj Bs y aS/\
 ai (Int.ofNat y.length) (Int.ofNat y.length)/\ai (↑x+1) ↑y_2/\True)/\
 True/\True)))
 (ai 0 (nI y)/\True))):=by kernel_rfl
theorem XI:(bV (fun(y:aM.Y Fv)=>bM sS (cr mS 2 (xB y))) 400 mS)=(∀(y:List Bs),
 (y.length<=100000/\ ∀(s:Bs),s∈y->s.length<=100000)->
 (∃(x:Nat),
 (x<=y.length/\ ∀(j:Nat) (h:j<y.length),j<x->fh y[j]=true)/\
 (SV.aj Bs y aS=SV.aj Bs y aS/\ai 0 ↑x/\True)/\True/\True)/\
 ∀(x:Nat),
 (x<=y.length/\ ∀(j:Nat) (h:j<y.length),j<x->fh y[j]=true)->
 br (bw (↑x) (Int.ofNat y.length))
 (so y[Int.toNat ↑x]? fun(val:Bs)=>
 ∃(y_1:List UInt8),
 val=y_1/\
 y_1.length<=100000/\
 br (!fh y_1) (false=List.all y fh/\True)
 (ck (bp .i64 (↑x+1))
 (∃(y_2:Nat),
 (y_2<=y.length/\ ∀(j:Nat) (h:j<y.length),j<y_2->fh y[j]=true)/\
 aH.μ (xB y) y_2<aH.μ (xB y) x/\
 (SV.aj Bs y aS=SV.aj Bs y aS/\ai (↑x+1) ↑y_2/\True)/\True/\True)))
 (true=List.all y fh/\True)):=by kernel_rfl
end
section
variable [Inhabited aL]
section
variable {α:Type} {l:List α} {p:α->Bool} {x:Nat}
theorem o6 (h:∀(j:Nat) (h:j<l.length),j<x->p l[j]=true) (hx:¬(x:Int)<Int.ofNat l.length):l.all p=true:=by
 rw[AJ];intro a ha;obtain⟨j,hj,rfl⟩:=Bd ha;exact h j hj (by simp only[Aa]at hx;omega)
theorem qc (h:x<l.length) (hp:p l[x]=false):l.all p=false:=by
 rw[Ax];intro ha;rw[AJ]at ha;rw[ha _ (AI h)]at hp
 cases hp
theorem o7 (h:∀(j:Nat) (h:j<l.length),j<x->p l[j]=true) (hx:x<l.length) (hp:p l[x]=true):∀(j:Nat) (h:j<l.length),j<x+1->p l[j]=true:=by
 intro j hj hjx;by_cases e:j=x
 . subst e;exact hp
 . exact h j hj (by omega)
end
theorem cq {x n:Nat} (h:bw (x:Int) (Int.ofNat n)=true):x<n:=by
 rw[cj,Ab,Aa]at h;omega
theorem gz {x n:Nat} (h:bw (x:Int) (Int.ofNat n)=false):¬(x:Int)<Int.ofNat n:=by
 rw[cj,Ah]at h;exact h
theorem cE {α:Type} {l:List α} {x:Nat} (h:x<l.length):l[Int.toNat (x:Int)]? =some l[x]:=by simp[h]
theorem Yy:CO GM Fx:=bO (cfg:=fun y=>bM bZ (cS y)) bA (fun _=>rfl) (fun _=>gO) (n:=400) (by
 rw[XK];rintro⟨b,e⟩ -;simp only[ag,fi,gE,DC,Ab,Ah,BM,Da];refine⟨fun h=>⟨fun h2=>by simp[h,h2],fun h2=>by simp[h,h2]⟩,fun h=>⟨fun h1=>⟨fun h2=>?_,fun h2=>⟨fun h3=>⟨fun h4=>?_,fun h4=>⟨fun h5=>?_,fun h5=>?_⟩⟩,fun h3=>⟨fun h5=>?_,fun h5=>?_⟩⟩⟩,fun h1=>⟨fun h3=>⟨fun h4=>?_,fun h4=>⟨fun h5=>?_,fun h5=>?_⟩⟩,fun h3=>⟨fun h5=>?_,fun h5=>?_⟩⟩⟩⟩
 all_goals (simp_all<;>omega))
theorem Zq:CO Gz FX:=bO (cfg:=fun y=>bM bZ (cS y)) bA (fun _=>rfl) (fun _=>gO) (n:=400) (by
 rw[Ob];intro b _;simp only[ag,fi,gV,DC,Ab,Ah,BM,Da];refine⟨fun h1=>⟨fun h2=>?_,fun h2=>⟨fun h3=>⟨fun h4=>?_,fun h4=>⟨fun h5=>?_,fun h5=>?_⟩⟩,fun h3=>⟨fun h5=>?_,fun h5=>?_⟩⟩⟩,fun h1=>⟨fun h3=>⟨fun h4=>?_,fun h4=>⟨fun h5=>?_,fun h5=>?_⟩⟩,fun h3=>⟨fun h5=>?_,fun h5=>?_⟩⟩⟩
 all_goals (simp_all<;>omega))
theorem rS:∀g C,lV g=some C->CO g C:=bG Yy (bG Zq Vs)
theorem wY (b:UInt8) (e:Bool):gE (nB b) e=(gV b&& !(nB b==45&&e)):=by
 unfold gE gV;by_cases h:nB b=45
 . simp[h]
 . have:(nB b==45)=false:=by simpa using h
   simp[h,this]
theorem jX (b:UInt8):b=45↔nB b=45:=⟨fun h=>by rw[h];rfl,fun h=>uS (h.trans rfl)⟩
theorem J2 (s:Bs) (h0:s≠[]) (h63:s.length<=63):eO s=true↔∀(j:Nat) (h:j<s.length),gE (nB s[j]) (j==0||j==s.length - 1)=true:=by
 have hp:0<s.length:=AY.2 h0;have hhd:s.head? =some s[0]:=by rw[Dc];simp[hp]
 have htl:s.getLast? =some (s[s.length - 1]'(by omega)):=by rw[Ei];simp[hp]
 unfold eO;rw[hhd,htl];simp only[Ac,bne_iff_ne,Ds,h0,Bl,Ab,h63,true_and,AJ,A3];constructor
 . rintro⟨⟨h1,h2⟩,h3⟩ j hj;rw[wY,h1 _ (AI hj)];by_cases e0:j=0
   . subst e0;rw[jX]at h2;simp[h2]
   . by_cases e1:j=s.length - 1
     . subst e1;rw[jX]at h3;simp[h3]
     . simp[e0,e1]
 . intro h;refine⟨⟨fun b hb=>?_,?_⟩,?_⟩
   . obtain⟨j,hj,rfl⟩:=Bd hb;have:=h j hj;rw[wY,Ac]at this;exact this.1
   . have:=h 0 hp;rw[wY,Ac]at this;rw[jX];have h2:=this.2;simpa using h2
   . have:=h (s.length - 1) (by omega);rw[wY,Ac]at this;rw[jX];have h2:=this.2;simpa using h2
theorem IP {s:Bs} (h0:s≠[]) (h63:s.length<=63) {x:Nat} (h:x<s.length) (hx:gE (nB s[x]) (x==0||x==s.length - 1)=false):eO s=false:=by
 rw[Ax];intro hl;rw[(J2 s h0 h63).1 hl x h]at hx
 cases hx
theorem J1 {s:Bs} (h:63<s.length):eO s=false:=by
 unfold eO;have:decide (s.length<=63)=false:=by simp;omega
 simp[this]
theorem Yi:CO mV (fR eO):=bO (cfg:=fun y=>bM lV (cr mV 4 (pj y))) bA (fun _=>rfl) (fun _=>rS) (n:=400) (by
 rw[XC];intro s hpre;have hpre:s.length<=100000:=hpre;refine ag.2 ⟨fun h=>?_,fun h=>ag.2 ⟨fun h2=>?_,fun h2=>⟨⟨0,⟨by simp,fun j h hj=>by omega⟩,⟨rfl,rfl,rfl,trivial⟩,trivial,trivial⟩,?_⟩⟩⟩
 . have:s=[]:=by simpa using h
   subst this;exact⟨rfl,trivial⟩
 . rw[cj,Ab,Aa]at h2;exact⟨(J1 (by omega)).symm,trivial⟩
 have h0:s≠[]:=by simpa using h
 have h63:s.length<=63:=by
   rw[cj,Ah,Aa]at h2;omega
 rintro x ⟨hx,hall⟩;refine ag.2 ⟨fun hlt=>au.2 ⟨_,cE (cq hlt),?_⟩,fun hge=>⟨((J2 s h0 h63).2 fun j hj=>hall j hj (by have:=gz hge;simp only[Aa]at this;omega)).symm,trivial⟩⟩;have hlt':=cq hlt;have next:gE (nB s[x]) (x==0||x==s.length - 1)=true->∃(y_2:Nat),(y_2<=s.length/\ ∀(j:Nat) (h:j<s.length),j<y_2->gE (nB s[j]) (j==0||j==s.length - 1)=true)/\(pj s).μ y_2<(pj s).μ x/\(s=s/\ai (Int.ofNat s.length) (Int.ofNat s.length)/\ai (↑x+1) ↑y_2/\True)/\True/\True:=by
   intro he;refine⟨x+1,⟨by omega,fun j hj hjx=>?_⟩,?_,⟨rfl,rfl,by simp[ai],trivial⟩,trivial,trivial⟩
   . by_cases e:j=x
     . subst e;exact he
     . exact hall j hj (by omega)
   . show s.length - (x+1)<s.length - x
     omega
 refine ag.2 ⟨fun hx0=>⟨(s[x],true),rfl,rfl,trivial,ag.2 ⟨fun hs=>?_,fun hs=>af.2 ⟨ch x (by omega),next ?_⟩⟩⟩,fun hx0=>af.2 ⟨by rw[gU,Aa];omega,(s[x],(x:Int)==Int.ofNat s.length - 1),rfl,rfl,trivial,ag.2 ⟨fun hs=>?_,fun hs=>af.2 ⟨ch x (by omega),next ?_⟩⟩⟩⟩
 . have:x=0:=by simpa using hx0
   subst this;exact⟨(IP h0 h63 hlt' (by simpa using hs)).symm,trivial⟩
 . have:x=0:=by simpa using hx0
   subst this;simpa using hs
 . have hx1:¬x=0:=by simpa using hx0
   have e:((x:Int)==Int.ofNat s.length - 1)=(x==0||x==s.length - 1):=by
     rw[AN];simp[hx1];omega
   rw[e]at hs;exact⟨(IP h0 h63 hlt' (by simpa using hs)).symm,trivial⟩
 . have hx1:¬x=0:=by simpa using hx0
   have e:((x:Int)==Int.ofNat s.length - 1)=(x==0||x==s.length - 1):=by
     rw[AN];simp[hx1];omega
   rw[e]at hs;simpa using hs)
theorem ze {s:Bs} {x:Nat} (h:x<s.length) (hx:gV s[x]=false):eO s=false:=by
 unfold eO;rw[qc h hx];simp
theorem VJ:CO mR (fR eO):=bO (cfg:=fun y=>bM lV (cr mR 4 (xh y))) bA (fun _=>rfl) (fun _=>rS) (n:=400) (by
 rw[WK];intro s hpre;have hpre:s.length<=100000:=hpre;refine ag.2 ⟨fun h=>?_,fun h=>ag.2 ⟨fun h2=>?_,fun h2=>?_⟩⟩
 . rw[cj,Ab,Aa]at h;have:s=[]:=AZ (by omega);subst this;exact⟨rfl,trivial⟩
 . rw[cj,Ab,Aa]at h2;exact⟨(J1 (by omega)).symm,trivial⟩
 rw[cj,Ah,Aa]at h h2;have hp:0<s.length:=by omega
 have h0:s≠[]:=AY.1 hp;have hhd:s.head? =some s[0]:=by rw[Dc];simp[hp]
 have htl:s.getLast? =some (s[s.length - 1]'(by omega)):=by rw[Ei];simp[hp]
 have hlast:s[Int.toNat (Int.ofNat s.length - 1)]? =some (s[s.length - 1]'(by omega)):=by
   rw[show Int.toNat (Int.ofNat s.length - 1)=s.length - 1 by rw[Aa];omega];simp[hp]
 refine au.2 ⟨s[0],by simp[hp],ag.2 ⟨fun h3=>?_,fun h3=>af.2 ⟨by rw[gU,Aa];omega,af.2 ⟨by rw[lC,Ab,Aa];omega,au.2 ⟨_,hlast,ag.2 ⟨fun h4=>?_,fun h4=>⟨⟨0,⟨by simp,fun j h hj=>by omega⟩,⟨rfl,rfl,trivial⟩,trivial,trivial⟩,?_⟩⟩⟩⟩⟩⟩⟩
 . have:s[0]=45:=by rw[jX];simpa [nB]using h3
   refine⟨?_,trivial⟩;unfold eO;rw[hhd,this];simp
 . have:s[s.length - 1]'(by omega)=45:=by rw[jX];simpa [nB]using h4
   refine⟨?_,trivial⟩;unfold eO;rw[htl,this];simp
 rintro x ⟨hx,hall⟩;refine ag.2 ⟨fun hlt=>au.2 ⟨_,cE (cq hlt),s[x]'(cq hlt),rfl,trivial,ag.2 ⟨fun hs=>⟨(ze (cq hlt) (by simpa using hs)).symm,trivial⟩,fun hs=>af.2 ⟨ch x (by have:=cq hlt;omega),x+1,⟨cq hlt,o7 hall (cq hlt) (by simpa using hs)⟩,?_,⟨rfl,by simp[ai],trivial⟩,trivial,trivial⟩⟩⟩,fun hge=>⟨?_,trivial⟩⟩
 . have:=cq hlt;show s.length - (x+1)<s.length - x
   omega
 . have ha:=o6 hall (gz hge);have n1:s[0]≠45:=by intro e;rw[jX]at e;simp[nB]at e h3;exact h3 e
   have n2:(s[s.length - 1]'(by omega))≠45:=by intro e;rw[jX]at e;simp[nB]at e h4;exact h4 e
   unfold eO;rw[ha,hhd,htl];simp[h0,n1,n2];omega)
theorem L5 {p:Bs} (h0:p≠[]) (hd:∀b∈p,dA b=true):bB p=(p.foldl ct 0,true):=by
 cases p with
 |nil=>exact absurd rfl h0
 | cons b s=>
  have hb:=(oX b).1 (hd b Ar);have hn:cO (b::s)=false:=by
   show(nB b==45)=false
   rw[Da];omega
  have ha:=uf hn;rw[CS (by rw[ha];simp) (by rw[ha];exact hd),ha,hn];simp
theorem se {b:UInt8} {n:Nat} (h:nB b=48+(n:Int)):UInt8.ofNat (48+n)=b:=by
 apply uS;have:=Wh b;rw[h];unfold nB;rw[UInt8.toNat_ofNat'];rw[Nat.mod_eq_of_lt (by omega)];simp
theorem nA {b:UInt8} (h:dA b=true):∃d:Nat,d<=9/\nB b=48+(d:Int):=by
 rw[oX]at h;exact⟨(nB b - 48).toNat,by omega,by omega⟩
theorem nu {n:Int} {b:UInt8} {d:Nat} (hb:nB b=48+(d:Int)) (hd:d<=9) (h0:0<=n) (hn:n<=100000):ct n b=n*10+d:=by
 unfold ct;rw[hb];omega
theorem Xp (s:Bs) (hd:∀b∈s,dA b=true):∀n:Int,1000<=n->n<=1099511627776->1000<=s.foldl ct n:=by
 induction s with
 |nil=>intro n h _;exact h
 |cons b s ih=>
  intro n h1 h2;have hb:=(oX b).1 (hd b Ar);refine ih (fun c hc=>hd c (AB _ hc)) _ ?_ ?_<;>unfold ct<;>omega
theorem Gf (d:Nat) (h:d<=9):jB d=[UInt8.ofNat (48+d)]:=by unfold jB;exact Lc 39 d h
theorem HB (n:Nat) (h:9<n) (h2:n<=99):jB n=[UInt8.ofNat (48+n / 10),UInt8.ofNat (48+n % 10)]:=by
 unfold jB;show lD (39+1) n=_
 have:¬n<=9:=by omega
 simp only[lD,Aj this];rw[An (by omega)];rfl
theorem Ov (n:Nat) (h:99<n) (h2:n<=999):jB n=[UInt8.ofNat (48+n / 100),UInt8.ofNat (48+n / 10 % 10),UInt8.ofNat (48+n % 10)]:=by
 unfold jB;show lD (39+1) n=_
 have h3:¬n<=9:=by omega
 have h4:¬n / 10<=9:=by omega
 simp only[lD,Aj h3,Aj h4];rw[An (by omega)];rw[show n / 10 / 10=n / 100 by omega];rfl
theorem V0 {p:Bs} (h1:1<=p.length) (hd:dq p=p.length):0<=(bB p).1/\(bB p).1<=1099511627776:=by
 have hdd:∀b∈p,dA b=true:=wi (by omega);rw[L5 (AY.1 h1) hdd];exact Iw p hdd 0 (by omega) (by omega)
theorem zR {p:Bs} (h1:1<=p.length) (hd:dq p=p.length) (h2:(bB p).1<=255):(decide (1<p.length)&&p.head? ==some 48)=false↔(p.length<=3/\jB (bB p).1.toNat=p):=by
 have hdd:∀b∈p,dA b=true:=wi (by omega);rw[L5 (AY.1 h1) hdd]at h2⊢;simp only at h2⊢;have e48:∀b:UInt8,b=48↔nB b=48:=fun b=>⟨fun h=>by rw[h];rfl,fun h=>uS (h.trans rfl)⟩
 match p,h1 with
 |[a],_=>
  obtain⟨d,d9,hb⟩:=nA (hdd a (by simp));simp only[Br,Eb,nu hb d9 (ER 0) (by omega)];rw[show((0:Int)*10+(d:Int)).toNat=d by omega,Gf d d9,se hb];simp
 |[a,b],_=>
  obtain⟨d,d9,hb⟩:=nA (hdd a (by simp));obtain⟨d2,d29,hb2⟩:=nA (hdd b (by simp));simp only[Br,Eb,nu hb d9 (ER 0) (by omega)];rw[nu hb2 d29 (by omega) (by omega),show(((0:Int)*10+(d:Int))*10+(d2:Int)).toNat=d*10+d2 by omega];by_cases hz:d=0
  . subst hz;have:a=48:=by rw[e48];simpa using hb
    rw[show 0*10+d2=d2 by omega,Gf d2 d29];simp[this]
  . have:a≠48:=by intro e;rw[e48]at e;omega
    rw[HB _ (by omega) (by omega),show(d*10+d2) / 10=d by omega,show(d*10+d2) % 10=d2 by omega,se hb,se hb2];simp[this]
 |[a,b,c],_=>
  obtain⟨d,d9,hb⟩:=nA (hdd a (by simp));obtain⟨d2,d29,hb2⟩:=nA (hdd b (by simp));obtain⟨d3,d39,hb3⟩:=nA (hdd c (by simp));simp only[Br,Eb,nu hb d9 (ER 0) (by omega)];rw[nu hb2 d29 (by omega) (by omega),nu hb3 d39 (by omega) (by omega),show((((0:Int)*10+(d:Int))*10+(d2:Int))*10+(d3:Int)).toNat=d*100+d2*10+d3 by omega];by_cases hz:d=0
  . subst hz;have:a=48:=by rw[e48];simpa using hb
    have hlt:(jB (0*100+d2*10+d3)).length<3:=by
     by_cases h:d2=0
     . subst h;rw[show 0*100+0*10+d3=d3 by omega,Gf d3 d39];simp
     . rw[HB _ (by omega) (by omega)];simp
    have hne:jB (0*100+d2*10+d3)≠[a,b,c]:=by
     intro e;rw[e]at hlt;simp at hlt
    simp only[this,Az,AG,Es];rw[this]at hne;have hne2:jB (d2*10+d3)≠[48,b,c]:=by simpa using hne
    simp[hne2]
  . have:a≠48:=by intro e;rw[e48]at e;omega
    rw[Ov _ (by omega) (by omega),show(d*100+d2*10+d3) / 100=d by omega,show(d*100+d2*10+d3) / 10 % 10=d2 by omega,show(d*100+d2*10+d3) % 10=d3 by omega,se hb,se hb2,se hb3];simp[this]
 |a::b::c::e::s,_=>
  obtain⟨d,d9,hb⟩:=nA (hdd a (by simp));obtain⟨d2,d29,hb2⟩:=nA (hdd b (by simp));obtain⟨d3,d39,hb3⟩:=nA (hdd c (by simp));obtain⟨d4,d49,hb4⟩:=nA (hdd e (by simp));have hz:d=0:=by
    apply Bf;intro hz;simp only[Br,nu hb d9 (ER 0) (by omega)]at h2;rw[nu hb2 d29 (by omega) (by omega),nu hb3 d39 (by omega) (by omega),nu hb4 d49 (by omega) (by omega)]at h2;have:=Xp s (fun x hx=>hdd x (by simp[hx])) (((((0:Int)*10+(d:Int))*10+(d2:Int))*10+(d3:Int))*10+(d4:Int)) (by omega) (by omega);omega
  subst hz;have:a=48:=by rw[e48];simpa using hb
  constructor
  . intro h;simp[this]at h
  . rintro⟨h,_⟩;simp at h
theorem Jt {s:Bs} {x:Nat} (h:x<(aX s 46).length) (hp:gP (aX s 46)[x]=false):fC s=false:=by
 unfold fC;rw[qc h hp];simp
theorem wT {s:Bs} {x:Nat} (h:x<(aX s 46).length):((aX s 46)[x]).length<=s.length:=RZ s 46 _ (AI h)
theorem Za:CO ni (fR fC):=bO (cfg:=fun y=>bM lV (cr ni 5 (py y))) bA (fun _=>rfl) (fun _=>rS) (n:=400) (by
 rw[N2];intro s hpre;have hpre:s.length<=100000:=hpre;have hsl:=zw s 46;refine⟨(s,46),rfl,rfl,hpre,ag.2 ⟨fun h=>?_,fun h=>⟨⟨0,⟨by simp,fun j h hj=>by omega⟩,⟨rfl,rfl,rfl,trivial⟩,trivial,trivial⟩,?_⟩⟩⟩
 . refine⟨?_,trivial⟩;unfold fC;have:¬(aX s 46).length=4:=by
     simp only[AS,Da,Ds,Aa]at h;omega
   simp[this]
 have h4:(aX s 46).length=4:=by
   simp only[Ee,BM,Aa]at h;omega
 rintro x ⟨hx,hall⟩;refine ag.2 ⟨fun hlt=>au.2 ⟨_,cE (cq hlt),?_⟩,fun hge=>⟨?_,trivial⟩⟩
 . have hx':=cq hlt;have hpl:=wT hx';have next:gP (aX s 46)[x]=true->ck (bp Go.IntKind.i64 (↑x+1)) (∃(y_4:Nat),(y_4<=(aX s 46).length/\ ∀(j:Nat) (h:j<(aX s 46).length),j<y_4->gP (aX s 46)[j]=true)/\(py s).μ y_4<(py s).μ x/\(SV.aj Bs (aX s 46) aS=SV.aj Bs (aX s 46) aS/\ai (Int.ofNat (aX s 46).length) (Int.ofNat (aX s 46).length)/\ai (↑x+1) ↑y_4/\True)/\True/\True):=by
     intro hp;refine af.2 ⟨ch x (by omega),x+1,⟨hx',o7 hall hx' hp⟩,?_,⟨rfl,rfl,by simp[ai],trivial⟩,trivial,trivial⟩;show(aX s 46).length - (x+1)<(aX s 46).length - x
     omega
   generalize hpe:(aX s 46)[x]=p at*
   have fail:gP p=false->false=fC s:=fun h=>(Jt hx' (by rw[hpe];exact h)).symm
   refine⟨p,rfl,by omega,ag.2 ⟨fun h1=>⟨fail ?_,trivial⟩,fun h1=>⟨p,rfl,by omega,ag.2 ⟨fun h2=>⟨fail ?_,trivial⟩,fun h2=>ag.2 ⟨fun h3=>⟨fail ?_,trivial⟩,fun h3=>ag.2 ⟨fun h5=>?_,fun h5=>next ?_⟩⟩⟩⟩⟩⟩
   . have:p=[]:=by simpa using h1
     subst this;rfl
   . have:=cq h2;unfold gP;have h2':¬dq p=p.length:=by omega
     simp[h2']
   . rw[cj,Ab]at h3;unfold gP;have:¬(bB p).1<=255:=by omega
     simp[this]
   all_goals (have hp0:p≠[]:=by simpa using h1)
   all_goals (have hd:dq p=p.length:=by have:=gz h2;have:=wJ p;simp only[Aa]at*;omega)
   all_goals (have h255:(bB p).1<=255:=by rw[cj,Ah]at h3;omega)
   . rw [cj,Ab,Aa]at h5;have hpl1:1<p.length:=by omega
     refine au.2 ⟨p[0],by simp[show 0<p.length by omega],ag.2 ⟨fun h6=>⟨fail ?_,trivial⟩,fun h6=>next ?_⟩⟩
     . have:p.head? =some 48:=by
        rw[Dc,Af (by omega)];congr 1
        exact uS (by simpa [nB]using h6)
       unfold gP;simp[this,hpl1]
     . have:¬p.head? =some 48:=by
        rw[Dc,Af (by omega)];intro e;simp only[A3]at e;rw[e]at h6;simp at h6
       unfold gP;simp[this,hp0,hd,h255]
   . rw[cj,Ah,Aa]at h5;have hpl1:¬1<p.length:=by omega
     unfold gP;simp[hpl1,hp0,hd,h255]
 . unfold fC;rw[o6 hall (gz hge)];simp[h4])
theorem Yh:CO mZ (fR fC):=bO (cfg:=fun y=>bM lV (cr mZ 5 (xy y))) bA (fun _=>rfl) (fun _=>rS) (n:=400) (by
 rw[X8];intro s hpre;have hpre:s.length<=100000:=hpre;refine⟨(s,46),rfl,rfl,hpre,ag.2 ⟨fun h=>?_,fun h=>⟨⟨0,⟨by simp,fun j h hj=>by omega⟩,⟨rfl,rfl,trivial⟩,trivial,trivial⟩,?_⟩⟩⟩
 . refine⟨?_,trivial⟩;unfold fC;have:¬(aX s 46).length=4:=by
     simp only[AS,Da,Ds,Aa]at h;omega
   simp[this]
 have h4:(aX s 46).length=4:=by
   simp only[Ee,BM,Aa]at h;omega
 rintro x ⟨hx,hall⟩;refine ag.2 ⟨fun hlt=>?_,fun hge=>⟨?_,trivial⟩⟩
 . have hx':x<(aX s 46).length:=by rw[cj,Ab]at hlt;omega
   have hpl:=wT hx';have hget:(aX s 46)[Int.toNat (x:Int)]? =some (aX s 46)[x]:=cE hx';have next:=o7 hall hx';generalize hpe:(aX s 46)[x]=p at*
   have fail:gP p=false->false=fC s:=fun h=>(Jt hx' (by rw[hpe];exact h)).symm
   refine au.2 ⟨p,hget,ag.2 ⟨fun h1=>⟨fail ?_,trivial⟩,fun h1=>au.2 ⟨p,hget,ag.2 ⟨fun h2=>⟨fail ?_,trivial⟩,fun h2=>au.2 ⟨p,hget,au.2 ⟨p,hget,p,rfl,by omega,ag.2 ⟨fun h3=>⟨fail ?_,trivial⟩,fun h3=>au.2 ⟨p,hget,p,rfl,by omega,ag.2 ⟨fun h5=>⟨fail ?_,trivial⟩,fun h5=>au.2 ⟨p,hget,(bB p).1.toNat,?_,?_,ag.2 ⟨fun h6=>⟨fail ?_,trivial⟩,fun h6=>af.2 ⟨ch x (by omega),x+1,⟨by omega,next ?_⟩,?_,⟨rfl,by simp[ai],trivial⟩,trivial,trivial⟩⟩⟩⟩⟩⟩⟩⟩⟩⟩⟩⟩
   . rw[cj,Ab,Aa]at h1;have:p=[]:=AZ (by omega);subst this;rfl
   all_goals (have hp1:1<=p.length:=by rw[cj,Ah,Aa]at h1;omega)
   . rw[cj,Ab,Aa]at h2;rw[Ax];intro hp;unfold gP at hp;simp only[Ac,Ab,AS]at hp;have:=(zR hp1 hp.1.1.2 hp.1.2).1 hp.2;omega
   . have h3':¬dq p=p.length:=by
      simp only[AS,Da,Ds,Aa]at h3;omega
     unfold gP;simp[h3']
   all_goals (have hd:dq p=p.length:=by simp only[Ee,BM,Aa]at h3;omega)
   all_goals (have hnn:=V0 hp1 hd)
   . rw[cj,Ab]at h5;unfold gP;have:¬(bB p).1<=255:=by omega
     simp[this]
   . simp only[ai];omega
   . omega
   all_goals (have h255:(bB p).1<=255:=by rw[cj,Ah]at h5;omega)
   . rw[Ax];intro hp;unfold gP at hp;simp only[Ac,Ab,AS]at hp;have:=((zR hp1 hd h255).1 hp.2).2;rw[this]at h6;simp at h6
   . have hl3:p.length<=3:=by rw[cj,Ah,Aa]at h2;omega
     have ht:jB (bB p).1.toNat=p:=by simpa using h6
     have:=(zR hp1 hd h255).2 ⟨hl3,ht⟩;unfold gP;rw[this];have hp0:p≠[]:=AY.1 hp1;simp[hp0,hd,h255]
   . show 4 - (x+1)<4 - x
     omega
 . unfold fC;rw[cj,Ah]at hge;rw[o6 hall (by rw[h4,Aa];omega)];simp[h4])
theorem MF {b:UInt8} {P Q:Prop} (hp:di b=true->P) (hq:di b=false->Q):
  br (bU 48 (Int.ofNat (UInt8.toNat b))) (br (bU (Int.ofNat (UInt8.toNat b)) 57) P (br (bU 97 (Int.ofNat (UInt8.toNat b))) (br (bU (Int.ofNat (UInt8.toNat b)) 102) P (br (Int.ofNat (UInt8.toNat b)==58) P (br (!Int.ofNat (UInt8.toNat b)==46) Q P))) (br (Int.ofNat (UInt8.toNat b)==58) P (br (!Int.ofNat (UInt8.toNat b)==46) Q P))))
   (br (bU 97 (Int.ofNat (UInt8.toNat b))) (br (bU (Int.ofNat (UInt8.toNat b)) 102) P (br (Int.ofNat (UInt8.toNat b)==58) P (br (!Int.ofNat (UInt8.toNat b)==46) Q P))) (br (Int.ofNat (UInt8.toNat b)==58) P (br (!Int.ofNat (UInt8.toNat b)==46) Q P))):=by
 rw[MJ];have e:di b=((bU 48 (nB b)&&bU (nB b) 57)||(bU 97 (nB b)&&bU (nB b) 102)||(nB b==58)||(nB b==46)):=by
  simp only[fi];rfl
 rw[e]at hp hq;generalize bU 48 (nB b)=a1 at*
 generalize bU (nB b) 57=a2 at*
 generalize bU 97 (nB b)=a3 at*
 generalize bU (nB b) 102=a4 at*
 generalize (nB b==58)=a5 at*
 generalize (nB b==46)=a6 at*
 cases a1<;>cases a2<;>cases a3<;>cases a4<;>cases a5<;>cases a6<;>simp_all[br]
theorem wC {s:Bs} (h4:4<=s.length):s.head? =some (s[0]'(by omega))/\s.getLast? =some (s[s.length - 1]'(by omega)):=by
 rw[Dc,Ei];exact⟨by simp[show 0<s.length by omega],by simp[show 0<s.length by omega]⟩
theorem L1 {s:Bs} {j:Nat} (h:j<((s.drop 1).take (s.length - 2)).length):((s.drop 1).take (s.length - 2))[j]=s[j+1]'(by simp at h;omega):=by
 rw[Ek,BX];congr 1
 omega
theorem ID {s:Bs} (h:s.length<4):fj s=false:=by
 unfold fj;have:decide (4<=s.length)=false:=by simp;omega
 simp[this]
theorem JO {s:Bs} (h:47<s.length):fj s=false:=by
 unfold fj;have:decide (s.length<=47)=false:=by simp;omega
 simp[this]
theorem fK {b:UInt8} {n:UInt8}:(Int.ofNat b.toNat==nB n)=true↔b=n:=by
 constructor
 . intro h;exact uS (by simpa [nB]using h)
 . intro h;subst h;simp[nB]
theorem IC {s:Bs} (h4:4<=s.length) (h:(!Int.ofNat (UInt8.toNat (s[0]'(by omega)))==91)=true):fj s=false:=by
 have:s[0]'(by omega)≠91:=by
  intro e;rw[AS]at h;rw[show(91:Int)=nB 91 from rfl,fK.2 e]at h
  cases h
 unfold fj;rw[(wC h4).1];simp[this]
theorem IY {s:Bs} (h4:4<=s.length) (h:(!Int.ofNat (UInt8.toNat (s[s.length - 1]'(by omega)))==93)=true):fj s=false:=by
 have:s[s.length - 1]'(by omega)≠93:=by
  intro e;rw[AS]at h;rw[show(93:Int)=nB 93 from rfl,fK.2 e]at h
  cases h
 unfold fj;rw[(wC h4).2];simp[this]
theorem Jw {s:Bs} (h4:4<=s.length) (h47:s.length<=47) (h1:(!Int.ofNat (UInt8.toNat (s[0]'(by omega)))==91)=false) (h2:(!Int.ofNat (UInt8.toNat (s[s.length - 1]'(by omega)))==93)=false):fj s=((s.drop 1).take (s.length - 2)).all di:=by
 have e1:s[0]'(by omega)=91:=fK.1 (by simpa [nB]using h1);have e2:s[s.length - 1]'(by omega)=93:=fK.1 (by simpa [nB]using h2);unfold fj;rw[(wC h4).1,(wC h4).2,e1,e2];simp[h4,h47]
theorem WZ:CO mK (fR fj):=bO (cfg:=fun y=>bM lV (cr mK 4 (gZ y))) bA (fun _=>rfl) (fun _=>rS) (n:=400) (by
 rw[X4];intro s hpre;have hpre:s.length<=100000:=hpre;refine ag.2 ⟨fun h=>⟨(ID (by rw[cj,Ab,Aa]at h;omega)).symm,trivial⟩,fun h=>ag.2 ⟨fun h2=>⟨(JO (by rw[cj,Ab,Aa]at h2;omega)).symm,trivial⟩,fun h2=>?_⟩⟩;have h4:4<=s.length:=by rw[cj,Ah,Aa]at h;omega
 have h47:s.length<=47:=by rw[cj,Ah,Aa]at h2;omega
 have hi:Int.toNat (Int.ofNat s.length - 1)=s.length - 1:=by rw[Aa];omega
 have hr:bp Go.IntKind.i64 (Int.ofNat s.length - 1)=true:=by rw[gU,Aa];omega
 have hn:nn (Int.ofNat s.length - 1)=true:=by rw[lC,Ab,Aa];omega
 rw[hi];refine au.2 ⟨s[0]'(by omega),by simp[show 0<s.length by omega],ag.2 ⟨fun h5=>⟨(IC h4 h5).symm,trivial⟩,fun h5=>af.2 ⟨hr,af.2 ⟨hn,au.2 ⟨s[s.length - 1]'(by omega),by simp[show 0<s.length by omega],ag.2 ⟨fun h6=>⟨(IY h4 h6).symm,trivial⟩,fun h6=>af.2 ⟨hr,af.2 ⟨hn,af.2 ⟨by simp;omega,⟨0,⟨by simp,fun j h hj=>by omega⟩,⟨?_,?_,rfl,trivial⟩,trivial,trivial⟩,?_⟩⟩⟩⟩⟩⟩⟩⟩⟩
 . rw[show s.length - 1 - Int.toNat 1=s.length - 2 by simp;omega];rfl
 . rw[show s.length - 1 - Int.toNat 1=s.length - 2 by simp;omega];rfl
 have hb:=Jw h4 h47 h5 h6;rintro x ⟨hx,hall⟩;refine ag.2 ⟨fun hlt=>au.2 ⟨_,cE (cq hlt),MF (fun hh=>af.2 ⟨ch x (by have:=cq hlt;simp at this;omega),x+1,⟨cq hlt,o7 hall (cq hlt) hh⟩,?_,⟨rfl,rfl,by simp[ai],trivial⟩,trivial,trivial⟩) (fun hh=>⟨?_,trivial⟩)⟩,fun hge=>⟨?_,trivial⟩⟩
 . have:=cq hlt;show((s.drop 1).take (s.length - 2)).length - (x+1)<((s.drop 1).take (s.length - 2)).length - x
   omega
 . rw[hb,qc (cq hlt) hh]
 . rw[hb,o6 hall (gz hge)])
theorem Wo:CO mD (fR fj):=bO (cfg:=fun y=>bM bZ (cr mD 4 (ia y))) bA (fun _=>rfl) (fun _=>gO) (n:=400) (by
 rw[WG];intro s hpre;have hpre:s.length<=100000:=hpre;refine ag.2 ⟨fun h=>⟨(ID (by rw[cj,Ab,Aa]at h;omega)).symm,trivial⟩,fun h=>ag.2 ⟨fun h2=>⟨(JO (by rw[cj,Ab,Aa]at h2;omega)).symm,trivial⟩,fun h2=>?_⟩⟩;have h4:4<=s.length:=by rw[cj,Ah,Aa]at h;omega
 have h47:s.length<=47:=by rw[cj,Ah,Aa]at h2;omega
 have hi:Int.toNat (Int.ofNat s.length - 1)=s.length - 1:=by rw[Aa];omega
 have hr:bp Go.IntKind.i64 (Int.ofNat s.length - 1)=true:=by rw[gU,Aa];omega
 have hn:nn (Int.ofNat s.length - 1)=true:=by rw[lC,Ab,Aa];omega
 rw[hi];refine au.2 ⟨s[0]'(by omega),by simp[show 0<s.length by omega],ag.2 ⟨fun h5=>⟨(IC h4 h5).symm,trivial⟩,fun h5=>af.2 ⟨hr,af.2 ⟨hn,au.2 ⟨s[s.length - 1]'(by omega),by simp[show 0<s.length by omega],ag.2 ⟨fun h6=>⟨(IY h4 h6).symm,trivial⟩,fun h6=>⟨⟨1,⟨by omega,by omega,fun j h h1 hj=>by omega⟩,⟨rfl,rfl,trivial⟩,trivial,trivial⟩,?_⟩⟩⟩⟩⟩⟩⟩;have hb:=Jw h4 h47 h5 h6;rintro x ⟨hx1,hx,hall⟩;refine af.2 ⟨hr,ag.2 ⟨fun hlt=>?_,fun hge=>⟨?_,trivial⟩⟩⟩
 . have hlt':x+1<s.length:=by rw[cj,Ab,Aa]at hlt;omega
   refine au.2 ⟨s[x],cE (by omega),MF (fun hh=>af.2 ⟨ch x (by omega),x+1,⟨by omega,by omega,fun j hj h1 hjx=>?_⟩,?_,⟨rfl,by simp[ai],trivial⟩,trivial,trivial⟩) (fun hh=>⟨?_,trivial⟩)⟩
   . by_cases e:j=x
     . subst e;exact hh
     . exact hall j hj h1 (by omega)
   . show s.length - (x+1)<s.length - x
     omega
   . have hl:x - 1<((s.drop 1).take (s.length - 2)).length:=by simp;omega
     rw[hb,qc hl (by rw[L1 hl];simp only[show x - 1+1=x by omega];exact hh)]
 . rw[cj,Ah,Aa]at hge;rw[hb];symm;rw[AJ];intro b hbm;obtain⟨j,hj,rfl⟩:=Bd hbm;rw[L1 hj];simp at hj;exact hall (j+1) (by omega) (by omega) (by omega))
theorem wG:∀g C,pw g=some C->CO g C:=bG Yi (bG VJ (bG Za (bG Yh (bG WZ (bG Wo rS)))))
theorem ZF:CO qR (fR ib):=bO (cfg:=fun y=>bM pw (cS y)) bA (fun _=>rfl) (fun _=>wG) (n:=400) (by
 rw[NW];intro s hpre;refine⟨s,rfl,hpre,ag.2 ⟨fun h=>⟨by unfold ib;rw[h];rfl,trivial⟩,fun h=>⟨s,rfl,hpre,by unfold ib;rw[h];rfl,trivial⟩⟩⟩)
theorem WX:CO qO (fR ib):=bO (cfg:=fun y=>bM pw (cS y)) bA (fun _=>rfl) (fun _=>wG) (n:=400) (by
 rw[X3];intro s hpre;refine⟨s,rfl,hpre,ag.2 ⟨fun h=>⟨by unfold ib;rw[h];rfl,trivial⟩,fun h=>⟨s,rfl,hpre,by unfold ib;rw[h];rfl,trivial⟩⟩⟩)
theorem Lv {s:Bs} (h:256<s.length):dQ s=false:=by
 unfold dQ;have:decide (s.length<=256)=false:=by simp;omega
 simp[this]
theorem J9 {s:Bs} (h:fC s=true):dQ s=false:=by
 unfold dQ;simp[h]
theorem SA {s:Bs} (h:fj s=true):dQ s=false:=by
 unfold fj at h;simp only[Ac,BM]at h;have h1:=h.1.1.2
 cases s with
 |nil=>simp at h1
 | cons b s=>
  simp only[Es,A3]at h1;subst h1;have:(aX (91::s) 46).all eO=false:=by
   have hs:aX (91::s) 46=(match aX s 46 with|h::t=>(91::h)::t|[]=>[[91]]):=by
    rw[aX];rw[Aj (by decide)]
    try (cases aX s 46<;>rfl)
   rw[hs];have hl:∀h:Bs,eO (91::h)=false:=fun h=>ze (s:=91::h) (x:=0) (by simp) (by simp[gV,nB])
   cases aX s 46 with
   |nil=>simp[hl]
   |cons h t=>simp[hl]
  unfold dQ;rw[this];simp
theorem J8 {s:Bs} {x:Nat} (h:x<(aX s 46).length) (hp:eO (aX s 46)[x]=false):dQ s=false:=by
 unfold dQ;rw[qc h hp];simp
theorem J7 {s:Bs} (h1:s.length<=256) (h2:fC s=false):dQ s=(aX s 46).all eO:=by
 unfold dQ;simp[h1,h2]
theorem Yn:CO mY (fR dQ):=bO (cfg:=fun y=>bM pw (cr mY 5 (xA y))) bA (fun _=>rfl) (fun _=>wG) (n:=400) (by
 rw[XF];intro s hpre;have hpre:s.length<=100000:=hpre;have hsl:=zw s 46;refine ag.2 ⟨fun h=>⟨(Lv (by rw[cj,Ab,Aa]at h;omega)).symm,trivial⟩,fun h=>⟨s,rfl,hpre,ag.2 ⟨fun h2=>⟨(J9 h2).symm,trivial⟩,fun h2=>⟨(s,46),rfl,rfl,hpre,⟨0,⟨by simp,fun j h hj=>by omega⟩,⟨rfl,rfl,trivial⟩,trivial,trivial⟩,?_⟩⟩⟩⟩;have h256:s.length<=256:=by rw[cj,Ah,Aa]at h;omega
 rintro x ⟨hx,hall⟩;refine ag.2 ⟨fun hlt=>au.2 ⟨_,cE (cq hlt),_,rfl,?_,ag.2 ⟨fun hh=>⟨(J8 (cq hlt) (by simpa using hh)).symm,trivial⟩,fun hh=>af.2 ⟨ch x (by have:=cq hlt;omega),x+1,⟨cq hlt,o7 hall (cq hlt) (by simpa using hh)⟩,?_,⟨rfl,by simp[ai],trivial⟩,trivial,trivial⟩⟩⟩,fun hge=>⟨?_,trivial⟩⟩
 . have:=wT (cq hlt);omega
 . have:=cq hlt;show(aX s 46).length - (x+1)<(aX s 46).length - x
   omega
 . rw[J7 h256 h2,o6 hall (gz hge)])
theorem KE:∀g C,yo g=some C->CO g C:=bG ZF (bG WX (bG Yn wG))
theorem Zk:CO nj (fR dQ):=bO (cfg:=fun y=>bM yo (cr nj 4 (xS y))) bA (fun _=>rfl) (fun _=>KE) (n:=400) (by
 rw[N7];intro s hpre;have hpre:s.length<=100000:=hpre;have hsl:=zw s 46;refine ag.2 ⟨fun h=>⟨(Lv (by rw[cj,Ab,Aa]at h;omega)).symm,trivial⟩,fun h=>⟨s,rfl,hpre,ag.2 ⟨fun h2=>⟨?_,trivial⟩,fun h2=>⟨(s,46),rfl,rfl,hpre,⟨0,⟨by simp,fun j h hj=>by omega⟩,⟨rfl,rfl,rfl,trivial⟩,trivial,trivial⟩,?_⟩⟩⟩⟩
 . unfold ib at h2;rw[BF]at h2;rcases h2 with h2|h2
   . exact(J9 h2).symm
   . exact(SA h2).symm
 have h256:s.length<=256:=by rw[cj,Ah,Aa]at h;omega
 have h3:fC s=false:=by unfold ib at h2;rw[Bool.or_eq_false_iff]at h2;exact h2.1
 rintro x ⟨hx,hall⟩;refine ag.2 ⟨fun hlt=>au.2 ⟨_,cE (cq hlt),_,rfl,?_,ag.2 ⟨fun hh=>⟨(J8 (cq hlt) (by simpa using hh)).symm,trivial⟩,fun hh=>af.2 ⟨ch x (by have:=cq hlt;omega),x+1,⟨cq hlt,o7 hall (cq hlt) (by simpa using hh)⟩,?_,⟨rfl,rfl,by simp[ai],trivial⟩,trivial,trivial⟩⟩⟩,fun hge=>⟨?_,trivial⟩⟩
 . have:=wT (cq hlt);omega
 . have:=cq hlt;show(aX s 46).length - (x+1)<(aX s 46).length - x
   omega
 . rw[J7 h256 h3,o6 hall (gz hge)])
theorem VN:CO GR sg:=bO (cfg:=fun y=>bM bZ (cS y)) bA (fun _=>rfl) (fun _=>gO) (n:=400) (by
 rw[WM];rintro⟨s,t⟩ _;refine ag.2 ⟨fun h=>af.2 ⟨?_,?_,trivial⟩,fun h=>⟨?_,trivial⟩⟩
 . rw[fi,Ab]at h;simp at h⊢;exact h
 . rw[AN];simp
 . rw[fi,Ah]at h;symm;rw[Ah];intro e;have:=Ap List.length e;simp at this h;omega)
theorem Cf:∀g C,sQ g=some C->CO g C:=bG Zk (bG VN KE)
theorem TU:CO qD sg:=bO (cfg:=fun y=>bM sQ (cS y)) bA (fun _=>rfl) (fun _=>Cf) (n:=400) (by
 rw[UB];rintro⟨s,t⟩ h;exact⟨(s,t),rfl,rfl,h,rfl,trivial⟩)
theorem VK:CO re CZ:=bO (cfg:=fun y=>bM sQ (cS y)) bA (fun _=>rfl) (fun _=>Cf) (n:=400) (by
 rw[WL];intro s hpre;refine⟨s,rfl,hpre,ag.2 ⟨fun h=>⟨?_,trivial⟩,fun h=>⟨(s,46),rfl,rfl,hpre,?_,trivial⟩⟩⟩
 . rw[Aj (by simpa using h)]
 . rw[An (by simpa using h)])
theorem VU:CO rh C4:=bO (cfg:=fun y=>bM bZ (cS y)) bA (fun _=>rfl) (fun _=>gO) (n:=400) (by
 rw[WO];intro s hpre;have bang:∀(_:1<s.length) (_:¬(2<s.length/\s.take 2=[42,46])),so s[Int.toNat 0]? fun(val:UInt8)=>br (Int.ofNat (UInt8.toNat val)==33) (ck (Nat.ble (Int.toNat 1) s.length) (ai 33 (ft s).1/\List.drop (Int.toNat 1) s=(ft s).2/\True)) (ai 0 (ft s).1/\s=(ft s).2/\True):=by
   intro h hn;have hhd:s.head? =some s[0]:=by rw[Dc];simp[show 0<s.length by omega]
   refine au.2 ⟨s[0],by simp[show 0<s.length by omega],ag.2 ⟨fun hb=>af.2 ⟨by simp;omega,?_⟩,fun hb=>?_⟩⟩
   . have:s[0]=33:=fK.1 hb;unfold ft;rw[Aj hn,An ⟨h,by rw[hhd,this]⟩];exact⟨rfl,rfl,trivial⟩
   . have:s[0]≠33:=fun e=>by rw[show(33:Int)=nB 33 from rfl,fK.2 e]at hb;cases hb
     unfold ft;rw[Aj hn,Aj (by rintro⟨_,e⟩;rw[hhd]at e;simp only[A3]at e;exact this e)];exact⟨rfl,rfl,trivial⟩
 have none1:¬(1<s.length)->¬(2<s.length/\s.take 2=[42,46])->ai 0 (ft s).1/\s=(ft s).2/\True:=by
   intro h hn;unfold ft;rw[Aj hn,Aj (fun e=>h e.1)];exact⟨rfl,rfl,trivial⟩
 have c2:bw 2 (Int.ofNat s.length)=true↔2<s.length:=by rw[cj,Ab,Aa];omega
 have c1:bw 1 (Int.ofNat s.length)=true↔1<s.length:=by rw[cj,Ab,Aa];omega
 have n1:bw 1 (Int.ofNat s.length)=false->¬1<s.length:=fun h h2=>by rw[c1.2 h2]at h;cases h
 refine ag.2 ⟨fun h=>af.2 ⟨by have:=c2.1 h;simp;omega,ag.2 ⟨fun h2=>af.2 ⟨by have:=c2.1 h;simp;omega,?_⟩,fun h2=>?_⟩⟩,fun h=>?_⟩
 . have:s.take 2=[42,46]:=by simpa using h2
   unfold ft;rw[An ⟨c2.1 h,this⟩];exact⟨rfl,rfl,trivial⟩
 . have hn:¬(2<s.length/\s.take 2=[42,46]):=by rintro⟨_,e⟩;simp[e]at h2
   exact ag.2 ⟨fun h3=>bang (c1.1 h3) hn,fun h3=>none1 (n1 h3) hn⟩
 . have hn:¬(2<s.length/\s.take 2=[42,46]):=by rintro⟨e,_⟩;rw[c2.2 e]at h;cases h
   exact ag.2 ⟨fun h3=>bang (c1.1 h3) hn,fun h3=>none1 (n1 h3) hn⟩)
theorem Cg:∀g C,sR g=some C->CO g C:=bG VK (bG TU (bG VU Cf))
theorem vQ (s:Bs):bw 0 (Int.ofNat (if dQ s=true then aX s 46 else[]).length)=dQ s:=by
 have:=AY.2 (zV s 46);rw[cj,Aa]
 cases h:dQ s
 . simp
 . simp;omega
theorem Yr:CO qV Fu:=bO (cfg:=fun y=>bM sR (cS y)) bA (fun _=>rfl) (fun _=>Cg) (n:=400) (by
 rw[XH];intro s hpre;have hpre:s.length<=100000:=hpre;refine⟨(s,[42,46]),rfl,rfl,⟨hpre,by simp⟩,ag.2 ⟨fun h=>?_,fun h=>⟨(s,[33]),rfl,rfl,⟨hpre,by simp⟩,ag.2 ⟨fun h2=>?_,fun h2=>?_⟩⟩⟩⟩
 . have h':s.take 2=[42,46]:=by simpa using h
   have hl:2<=s.length:=by have:=Ap List.length h';simp at this;omega
   have hr:fD s=(s.drop 2,true,false):=by unfold fD;rw[An h']
   have hi:fh s=dQ (s.drop 2):=by unfold fh;rw[hr];simp
   refine af.2 ⟨by simp;omega,s.drop 2,rfl,by simp;omega,ag.2 ⟨fun h3=>?_,fun h3=>?_⟩⟩
   all_goals (rw[vQ]at h3;rw[hr,hi,h3];exact⟨rfl,rfl,rfl,rfl,trivial⟩)
 . have h0:¬s.take 2=[42,46]:=by simpa using h
   have h':s.take 1=[33]:=by simpa using h2
   have hl:1<=s.length:=by have:=Ap List.length h';simp at this;omega
   have hr:fD s=(s.drop 1,false,true):=by unfold fD;rw[Aj h0,An h']
   have hi:fh s=(dQ (s.drop 1)&&decide (1<(aX (s.drop 1) 46).length)):=by unfold fh;rw[hr];simp
   refine af.2 ⟨by simp;omega,s.drop 1,rfl,by simp;omega,ag.2 ⟨fun h3=>?_,fun h3=>?_⟩⟩
   . rw[vQ]at h3;rw[hr,hi,h3,An rfl];refine⟨rfl,rfl,rfl,?_,trivial⟩;rw[cj,AN];simp;omega
   . rw[vQ]at h3;rw[hr,hi,h3];exact⟨rfl,rfl,rfl,rfl,trivial⟩
 . have h0:¬s.take 2=[42,46]:=by simpa using h
   have h1:¬s.take 1=[33]:=by simpa using h2
   have hr:fD s=(s,false,false):=by unfold fD;rw[Aj h0,Aj h1]
   have hi:fh s=dQ s:=by unfold fh;rw[hr];simp
   refine⟨s,rfl,hpre,ag.2 ⟨fun h3=>?_,fun h3=>?_⟩⟩
   all_goals (rw[vQ]at h3;rw[hr,hi,h3];exact⟨rfl,rfl,rfl,rfl,trivial⟩))
theorem Rw (s:Bs):bU 0 (gT s 46)=decide (1<(aX s 46).length):=by
 rw[tI,fi];rcases wk s 46 with⟨i,h1,h2,h3⟩|⟨h1,h2⟩
 . rw[h1,h2];have:=AY.2 (zV (s.drop (i+1)) 46);rw[AN];simp;omega
 . rw[h1,h2];rfl
theorem Ka {b:UInt8} {s:Bs} (h:gV b=false) (h2:nB b≠46):dQ (b::s)=false:=by
 have hs:aX (b::s) 46=(match aX s 46 with|h::t=>(b::h)::t|[]=>[[b]]):=by
  rw[aX];rw[Aj h2]
  try (cases aX s 46<;>rfl)
 have hl:∀h':Bs,eO (b::h')=false:=fun h'=>ze (s:=b::h') (x:=0) (by simp) (by simpa using h)
 have:(aX (b::s) 46).all eO=false:=by
  rw[hs]
  cases aX s 46 with
  |nil=>simp[hl]
  |cons h t=>simp[hl]
 unfold dQ;rw[this];simp
theorem Lw:dQ []=false:=by rfl
theorem CK (s:Bs):fh s=(dQ (ft s).2&&((ft s).1 !=33||decide (1<(aX (ft s).2 46).length))):=by
 unfold ft;by_cases h1:s.take 2=[42,46]
 . have hr:fD s=(s.drop 2,true,false):=by unfold fD;rw[An h1]
   have hi:fh s=dQ (s.drop 2):=by unfold fh;rw[hr];simp
   by_cases h2:2<s.length
   . rw[An ⟨h2,h1⟩,hi];simp
   . have hs:s=[42,46]:=by
      rw[<-h1];exact(As (by omega)).symm
     subst hs;rw[hi];rw[Aj (fun e=>h2 e.1),Aj (by rintro⟨_,e⟩;simp at e)];simp only;rw[Ka (by rfl) (by decide)];simp[Lw]
 . rw [Aj (fun e=>h1 e.2)];by_cases h3:s.take 1=[33]
   . have hr:fD s=(s.drop 1,false,true):=by unfold fD;rw[Aj h1,An h3]
     have hi:fh s=(dQ (s.drop 1)&&decide (1<(aX (s.drop 1) 46).length)):=by unfold fh;rw[hr];simp
     cases s with
     |nil=>simp at h3
     |cons b s=>
      have hb:b=33:=by simpa using h3
      subst hb;by_cases h4:1<(33::s).length
      . rw[An ⟨h4,rfl⟩,hi];simp
      . have:s=[]:=by simp at h4;exact h4
        subst this;rw[Aj (fun e=>h4 e.1),hi,Ka (by rfl) (by decide)];simp[Lw]
   . have hr:fD s=(s,false,false):=by unfold fD;rw[Aj h1,Aj h3]
     have hi:fh s=dQ s:=by unfold fh;rw[hr];simp
     rw[Aj (by
      rintro⟨e1,e2⟩;apply h3
      cases s with
      |nil=>simp at e1
      |cons b s=>simp only[Es,A3]at e2;subst e2;rfl),hi]
     simp
theorem Si (s:Bs):(ft s).2.length<=s.length:=by
 unfold ft;split
 . simp
 . split<;>simp
theorem Zo:CO GA (fR fh):=bO (cfg:=fun y=>bM sR (cS y)) bA (fun _=>rfl) (fun _=>Cg) (n:=400) (by
 rw[Oa];intro s hpre;have hpre:s.length<=100000:=hpre;have hl:=Si s;refine⟨s,rfl,hpre,(ft s).2,rfl,by omega,ag.2 ⟨fun h=>ag.2 ⟨fun h2=>⟨?_,trivial⟩,fun h2=>⟨((ft s).2,46),rfl,rfl,by simp only;omega,?_,trivial⟩⟩,fun h=>⟨?_,trivial⟩⟩⟩
 . rw[CK,h];have:((ft s).1 !=33)=true:=h2;rw[this];rfl
 . rw[CK,h];have:((ft s).1 !=33)=false:=h2;rw[this,Rw];rfl
 . rw[CK,h];rfl)
theorem Ch:∀g C,sS g=some C->CO g C:=bG Yr (bG Zo Cg)
theorem Wr:CO mN CY:=bO (cfg:=fun y=>bM sS (cr mN 4 (xg y))) bA (fun _=>rfl) (fun _=>Ch) (n:=400) (by
 rw[WI];rintro l ⟨hpre,hs⟩;refine ag.2 ⟨fun h=>⟨?_,trivial⟩,fun h=>⟨⟨0,⟨by simp,fun j h hj=>by omega⟩,⟨rfl,rfl,rfl,trivial⟩,trivial,trivial⟩,?_⟩⟩
 . rw[cj,Ab,Aa]at h;unfold nI;rw[An (by omega)]
 have h256:¬256<l.length:=by rw[cj,Ah,Aa]at h;omega
 rintro x ⟨hx,hall⟩;refine ag.2 ⟨fun hlt=>au.2 ⟨_,cE (cq hlt),_,rfl,hs _ (AI _),ag.2 ⟨fun hh=>⟨?_,trivial⟩,fun hh=>af.2 ⟨ch x (by omega),x+1,⟨cq hlt,o7 hall (cq hlt) (by simpa using hh)⟩,?_,⟨rfl,rfl,by simp[ai],trivial⟩,trivial,trivial⟩⟩⟩,fun hge=>⟨?_,trivial⟩⟩
 . unfold nI;rw[Aj h256,qc (cq hlt) (by simpa using hh)];simp[ai]
 . have:=cq hlt;show l.length - (x+1)<l.length - x
   omega
 . unfold nI;rw[Aj h256,o6 hall (gz hge)];simp[ai])
theorem Yt:CO mS Fv:=bO (cfg:=fun y=>bM sS (cr mS 2 (xB y))) bA (fun _=>rfl) (fun _=>Ch) (n:=400) (by
 rw[XI];rintro l ⟨hpre,hs⟩;refine⟨⟨0,⟨by simp,fun j h hj=>by omega⟩,⟨rfl,rfl,trivial⟩,trivial,trivial⟩,?_⟩;rintro x ⟨hx,hall⟩;refine ag.2 ⟨fun hlt=>au.2 ⟨_,cE (cq hlt),_,rfl,hs _ (AI _),ag.2 ⟨fun hh=>⟨?_,trivial⟩,fun hh=>af.2 ⟨ch x (by omega),x+1,⟨cq hlt,o7 hall (cq hlt) (by simpa using hh)⟩,?_,⟨rfl,by simp[ai],trivial⟩,trivial,trivial⟩⟩⟩,fun hge=>⟨?_,trivial⟩⟩
 . rw[qc (cq hlt) (by simpa using hh)]
 . have:=cq hlt;show l.length - (x+1)<l.length - x
   omega
 . rw[o6 hall (gz hge)])
theorem Vv:∀g C,Ng g=some C->CO g C:=bG Wr (bG Yt Ch)
end
end Go.Proofs
