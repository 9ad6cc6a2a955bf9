/- Part 6: an evaluator, proved sound, and its use at this seat; no condition. -/
import Derived.KernelRfl
import Derived.WalkKit
import Derived.Laws.IdiomStrings
import Derived.Test.YtggljmdeadplkaaGreatP1
import Derived.Test.YtggljmdeadplkaaGreatP2
import Derived.Test.YtggljmdeadplkaaGreatP3
import Derived.Test.YtggljmdeadplkaaGreatP4
import Derived.Test.YtggljmdeadplkaaGreatP5
set_option linter.unusedSimpArgs false
set_option linter.unusedVariables false
set_option linter.unusedSectionVars false
set_option linter.deprecated false
set_option maxRecDepth 100000
set_option maxHeartbeats 4000000
namespace Go.Proofs
open Go Go.Am Go.RowKit Go.Sy
section
variable [Inhabited aI]
theorem Tryz.qN:Tryz.tab.fns.get vq=some Tryz.f128:=by kernel_rfl
theorem Pt (a b:List UInt8):run Tryz.tab 200 {fr:=af.enter Tryz.f128 vq (Tryz.f128.body.getD .skip) [.str a, .str b] .normal,cs:=[],h:=eF}= .ok [(.int .i64 (Extern.BytealgCompare.cmp ⟨a.toArray⟩ ⟨b.toArray⟩),eF)]:=by kernel_rfl
def uk:aQ:={Y:=Unit,pre:=fun _=>True,args:=fun _=>[],res:=fun _=> .bool true}
theorem LX {f:FuncId} {fn0:Func} (hfn0:Tryz.tab.fns.get f=some fn0) (hrun:xm (run Tryz.tab 200000 {fr:=af.enter fn0 f (fn0.body.getD .skip) [] .normal,cs:=[],h:=eF})=true):CO f uk:=by
 refine ch.shut bJ fun fn body hfn hb y _ avs Fz hav=>?_
 rw[hfn0]at hfn
 cases hfn;have hl:avs=[]:=by
   have:=hav.1
   cases avs with
   |nil=>rfl
   |cons=>simp[uk]at this
 subst hl;refine⟨fun _ _=>rfl,fun v _=>v= .bool true,?_,?_⟩
 . obtain⟨outs,ho,ht⟩:=JK hrun;rw[hb]at ho;exact(dU.run bJ ho).mono fun v h' hm=>ht v h' hm
 . rintro v h' rfl;exact⟨fun _ _=>rfl, .bool true⟩
noncomputable def nD:aQ:={Y:=Bs×Bs,pre:=fun _=>True,args:=fun y=>[.str y.1, .str y.2],res:=fun y=> .int .i64 (eg y.1 y.2)}
theorem OL:CO vq nD:=by
 refine ch.shut bJ fun fn body hfn hb y _ avs Fz hav=>?_
 rw[Tryz.qN]at hfn
 cases hfn;obtain⟨a,b⟩:=y;have hl:avs=[.str a, .str b]:=by
   obtain⟨h1,h2⟩:=hav
   cases avs with
   |nil=>simp[nD]at h1
   | cons u avs=>cases avs with
    |nil=>simp[nD]at h1
    | cons w avs=>cases avs with
     |cons=>simp[nD]at h1
     |nil=>
      have e1:=h2 0 _ u rfl rfl;have e2:=h2 1 _ w rfl rfl;simp only at e1 e2
      cases e1
      cases e2;rfl
 subst hl;refine⟨fun _ _=>rfl,fun v _=>v= .int .i64 (eg a b),?_,?_⟩
 . have ho:=Pt a b;rw[hb]at ho;refine(dU.run bJ ho).mono fun v h' hm=>?_
   simp only[Al,BZ,DP,By]at hm;rw[hm.1,KY]
 . rintro v h' rfl;exact⟨fun _ _=>rfl, .int _ _⟩
end
section
variable [Inhabited aI]
def se (x:db) (now:Int):Bool:=x.persistent&&decide (x.bp<=now)
def jQ (a b:ag):Int:=
 let n:=if cR a.aa.access b.aa.access≠0 then cR a.aa.access b.aa.access else cR a.aa.aG b.aa.aG
 if n≠0\/a.key=b.key then n else if jt a.key b.key then -1 else 1
def nr:List ag->Bool
 |x::y::l=>jt x.key y.key&&nr (y::l)
 |_=>true
def CW (l:List ag) (k:bg):List ag:=l.filter fun x=>decide (x.key≠k)
def FE (l:List ag) (d:Bs):List ag:=l.filter fun x=>decide (x.key.domain=d)
def uh:bg:=⟨[],[],[]⟩
def xe:ag:=⟨uh,⟨[],false,false,false,false,0,0,0⟩⟩
def kM (c:eU):Int:=if c.eE<1\/c.eE>64\/c.domain<1\/c.domain>2048\/c.total<1\/c.total>2048 then 4 else mG c.rules
noncomputable def Rg:TypeId->Option View:=fun t=>bif Nat.beq t Ty.string then some ⟨Bs,dG⟩else bif Nat.beq t yp then some ⟨ag,ag.enc⟩else none
noncomputable def cD (fX:FuncId->Option aQ) (lH:FuncId->Nat->Option aK):gR:={tab:=oG,view:=Rg,fX,lH}
def items (l:List ag):SV:= .aH ag l ag.enc
def OF (l:List ag):SO:= .arr ag l ag.enc yp
def pV (f r:Nat) (A:aK) (a:FuncId->Nat->Option aK):FuncId->Nat->Option aK:=fun g s=>bif Nat.beq g f&&Nat.beq s r then some A else a g s
def x9:aQ:={Y:=db×Int,pre:=fun _=>True,args:=fun y=>[.agg y.1.enc,i64 y.2],res:=fun y=> .bool (se y.1 y.2)}
def x6:aQ:={Y:=Int×Int,pre:=fun _=>True,args:=fun y=>[i64 y.1,i64 y.2],res:=fun y=>i64 (cR y.1 y.2)}
def x7:aQ:={Y:=bg×bg,pre:=fun _=>True,args:=fun y=>[.agg y.1.enc, .agg y.2.enc],res:=fun y=>i64 (nz y.1 y.2)}
def x8:aQ:={Y:=bg×bg,pre:=fun _=>True,args:=fun y=>[.agg y.1.enc, .agg y.2.enc],res:=fun y=> .bool (jt y.1 y.2)}
def xP:aQ:={Y:=ag×ag,pre:=fun _=>True,args:=fun y=>[.agg y.1.enc, .agg y.2.enc],res:=fun y=>i64 (jQ y.1 y.2)}
def sH (l:List ag):Prop:=l.length<=10000
def xi:aQ:={Y:=List ag,pre:=sH,args:=fun y=>[items y],res:=fun y=> .bool (nr y)}
def tV (y:List ag):aK:={α:=Nat,ok:=fun i=>1<=i/\i<=y.length+1/\ ∀j (h:j+1<y.length),j+1<i->jt (y[j]'(by omega)).key y[j+1].key=true,μ:=fun i=>y.length+1 - i,bn:=[],aU:=fun i=>[(0,items y),(3,i64 i)],bP:=fun _=>[]}
def mz:aQ:={Y:=List ag×bg,pre:=fun y=>sH y.1,args:=fun y=>[items y.1, .agg y.2.enc],res:=fun y=>items (CW y.1 y.2)}
def mq:aQ:={Y:=List ag×Bs,pre:=fun y=>sH y.1,args:=fun y=>[items y.1, .str y.2],res:=fun y=>items (FE y.1 y.2)}
def kk (l:List ag) (p:ag->Bool):aK:={α:=Nat,ok:=fun i=>i<=l.length,μ:=fun i=>l.length - i,bn:=[1],aU:=fun i=>[(8,items l),(9,i64 (Int.ofNat l.length)),(10,i64 i),(5, .own 1)],bP:=fun i=>[(1,OF ((l.take i).filter p))]}
def vZ:aQ:={Y:=List ag×ag,pre:=fun y=>sH y.1,args:=fun y=>[items y.1, .agg y.2.enc],res:=fun y=> .bool (decide (y.2∈y.1))}
def uq (y:List ag×ag):aK:={α:=Nat,ok:=fun i=>i<=y.1.length/\ ∀j (h:j<y.1.length),j<i->y.1[j]≠y.2,μ:=fun i=>y.1.length - i,bn:=[3],aU:=fun i=>[(0,items y.1),(7,i64 (Int.ofNat y.1.length)),(8,i64 i)],bP:=fun _=>[]}
def NC (c:eU):Prop:=c.rules.length<=100000/\ ∀s∈c.rules,s.length<=100000
def xf:aQ:={Y:=eU,pre:=NC,args:=fun y=>[.agg y.enc],res:=fun y=>i64 (kM y)}
noncomputable def uL (f:FuncId):Option aQ:=bif Nat.beq f vq then some nD else GW f
noncomputable def uM (f:FuncId):Option aQ:=bif Nat.beq f oY then some x9 else bif Nat.beq f oM then some x6 else bif Nat.beq f oN then some nD else uL f
noncomputable def uN (f:FuncId):Option aQ:=bif Nat.beq f pg then some x7 else uM f
noncomputable def qx (f:FuncId):Option aQ:=bif Nat.beq f pf then some x8 else uN f
noncomputable def uO (f:FuncId):Option aQ:=bif Nat.beq f o5 then some xP else qx f
noncomputable def GF (f:FuncId):Option aQ:=bif Nat.beq f kX then some xi else bif Nat.beq f oW then some mz else bif Nat.beq f o9 then some mq else bif Nat.beq f oJ then some vZ else bif Nat.beq f oZ then some xf else uO f
noncomputable def GG (f:FuncId):Option aQ:=GF f
end
section
variable [Inhabited aI]
theorem Pq:(cr (fun(y:aQ.Y x9)=>cD bS (cM y)) 400 oY)=(∀(y:db×Int),
 True->
 br y.1.persistent (bA y.1.bp y.2=se y.1 y.2/\True)
 (false=se y.1 y.2/\True)):=by kernel_rfl
theorem Pg:(cr (fun(y:aQ.Y x6)=>cD bS (cM y)) 400 oM)=(∀(y:Int×Int),
 True->
 br (!y.1==y.1)
 (br (!y.2==y.2) (ax 0 (cR y.1 y.2)/\True) (ax (-1) (cR y.1 y.2)/\True))
 (br (!y.2==y.2) (ax 1 (cR y.1 y.2)/\True)
 (br (bO y.1 y.2) (ax (-1) (cR y.1 y.2)/\True)
 (br (bO y.2 y.1) (ax 1 (cR y.1 y.2)/\True)
 (ax 0 (cR y.1 y.2)/\True))))):=by kernel_rfl
theorem Ph:(cr (fun(y:aQ.Y nD)=>cD uL (cM y)) 400 oN)=(∀(y:Bs×Bs),
 True->
 ∃(y_1:Bs×Bs),
 y.1=y_1.1/\y.2=y_1.2/\True/\ax (eg y_1.1 y_1.2) (eg y.1 y.2)/\True):=by kernel_rfl
theorem Pm:(cr (fun(y:aQ.Y x7)=>cD uM (cM y)) 600 pg)=(∀(y:bg×bg),
 True->
 ∃(y_1:Bs×Bs),
 y.1.name=y_1.1/\
 y.2.name=y_1.2/\
 True/\
 ∃(y_2:Bs×Bs),
 y.1.domain=y_2.1/\
 y.2.domain=y_2.2/\
 True/\
 ∃(y_3:Bs×Bs),
 y.1.path=y_3.1/\
 y.2.path=y_3.2/\
 True/\
 br (!eg y_1.1 y_1.2==0)
 (ax (eg y_1.1 y_1.2) (nz y.1 y.2)/\True)
 (br (!eg y_2.1 y_2.2==0)
 (ax (eg y_2.1 y_2.2) (nz y.1 y.2)/\True)
 (br (!eg y_3.1 y_3.2==0)
 (ax (eg y_3.1 y_3.2) (nz y.1 y.2)/\True)
 (ax 0 (nz y.1 y.2)/\True)))):=by kernel_rfl
theorem Pn:(cr (fun(y:aQ.Y x8)=>cD uN (cM y)) 400 pf)=(∀(y:bg×bg),
 True->
 ∃(y_1:bg×bg),
 y.1.name=y_1.1.name/\
 y.1.domain=y_1.1.domain/\
 y.1.path=y_1.1.path/\
 y.2.name=y_1.2.name/\
 y.2.domain=y_1.2.domain/\
 y.2.path=y_1.2.path/\
 True/\bO (nz y_1.1 y_1.2) 0=jt y.1 y.2/\True):=by kernel_rfl
theorem OQ:(cr (fun(y:aQ.Y xP)=>cD qx (cM y)) 600 o5)=(∀(y:ag×ag),
 True->
 ∃(y_1:Int×Int),
 ax y.1.aa.access y_1.1/\
 ax y.2.aa.access y_1.2/\
 True/\
 ∃(y_2:Int×Int),
 ax y.1.aa.aG y_2.1/\
 ax y.2.aa.aG y_2.2/\
 True/\
 br (!cR y_1.1 y_1.2==0)
 (br (!cR y_1.1 y_1.2==0)
 (ax (cR y_1.1 y_1.2) (jQ y.1 y.2)/\True)
 (br
 (y.1.key.name==y.2.key.name&&
 (y.1.key.domain==y.2.key.domain&&
 (y.1.key.path==y.2.key.path&&true)))
 (ax (cR y_1.1 y_1.2) (jQ y.1 y.2)/\True)
 (∃(y_3:bg×bg),
 y.1.key.name=y_3.1.name/\
 y.1.key.domain=y_3.1.domain/\
 y.1.key.path=y_3.1.path/\
 y.2.key.name=y_3.2.name/\
 y.2.key.domain=y_3.2.domain/\
 y.2.key.path=y_3.2.path/\
 True/\
 br (jt y_3.1 y_3.2) (ax (-1) (jQ y.1 y.2)/\True)
 (ax 1 (jQ y.1 y.2)/\True))))
 (br (!cR y_2.1 y_2.2==0)
 (br (!cR y_2.1 y_2.2==0)
 (ax (cR y_2.1 y_2.2) (jQ y.1 y.2)/\True)
 (br
 (y.1.key.name==y.2.key.name&&
 (y.1.key.domain==y.2.key.domain&&
 (y.1.key.path==y.2.key.path&&true)))
 (ax (cR y_2.1 y_2.2) (jQ y.1 y.2)/\True)
 (∃(y_3:bg×bg),
 y.1.key.name=y_3.1.name/\
 y.1.key.domain=y_3.1.domain/\
 y.1.key.path=y_3.1.path/\
 y.2.key.name=y_3.2.name/\
 y.2.key.domain=y_3.2.domain/\
 y.2.key.path=y_3.2.path/\
 True/\
 br (jt y_3.1 y_3.2) (ax (-1) (jQ y.1 y.2)/\True)
 (ax 1 (jQ y.1 y.2)/\True))))
 (br
 (y.1.key.name==y.2.key.name&&
 (y.1.key.domain==y.2.key.domain&&
 (y.1.key.path==y.2.key.path&&true)))
 (ax 0 (jQ y.1 y.2)/\True)
 (∃(y_3:bg×bg),
 y.1.key.name=y_3.1.name/\
 y.1.key.domain=y_3.1.domain/\
 y.1.key.path=y_3.1.path/\
 y.2.key.name=y_3.2.name/\
 y.2.key.domain=y_3.2.domain/\
 y.2.key.path=y_3.2.path/\
 True/\
 br (jt y_3.1 y_3.2) (ax (-1) (jQ y.1 y.2)/\True)
 (ax 1 (jQ y.1 y.2)/\True))))):=by kernel_rfl
theorem Mc:(cr (fun(y:aQ.Y xi)=>cD qx (cX kX 2 (tV y))) 400 kX)=(∀(y:List ag),
 y.length<=10000->
 (∃(x:Nat),
 (1<=x/\
 x<=y.length+1/\ ∀(j:Nat) (h:j+1<y.length),j+1<x->jt (ag.key y[j]) (ag.key y[j+1])=true)/\
 (SV.aH ag y ag.enc=SV.aH ag y ag.enc/\ax 1 ↑x/\True)/\True/\True)/\
 ∀(x:Nat),
 (1<=x/\
 x<=y.length+1/\ ∀(j:Nat) (h:j+1<y.length),j+1<x->jt (ag.key y[j]) (ag.key y[j+1])=true)->
 br (bO (↑x) (Int.ofNat y.length))
 (ck (bw .i64 (↑x - 1))
 (ck (nn (↑x - 1))
 (so y[Int.toNat (↑x - 1)]? fun(val:ag)=>
 so y[Int.toNat ↑x]? fun(val_1:ag)=>
 ∃(y_1:bg×bg),
 val.key.name=y_1.1.name/\
 val.key.domain=y_1.1.domain/\
 val.key.path=y_1.1.path/\
 val_1.key.name=y_1.2.name/\
 val_1.key.domain=y_1.2.domain/\
 val_1.key.path=y_1.2.path/\
 True/\
 br (!jt y_1.1 y_1.2) (false=nr y/\True)
 (ck (bw .i64 (↑x+1))
 (∃(y_2:Nat),
 (1<=y_2/\
 y_2<=y.length+1/\
 ∀(j:Nat) (h:j+1<y.length),
 j+1<y_2->jt (ag.key y[j]) (ag.key y[j+1])=true)/\
 aK.μ (tV y) y_2<aK.μ (tV y) x/\
 (SV.aH ag y ag.enc=SV.aH ag y ag.enc/\
 ax (↑x+1) ↑y_2/\True)/\
 True/\True)))))
 (true=nr y/\True)):=by kernel_rfl
theorem K4:(cr (fun(y:aQ.Y mz)=>cD bS (cX mQ 3 (kk y.1 fun(x:ag)=>Decidable.decide (x.key≠y.2)))) 600 oW)=(∀(y:List ag×bg),
 y.1.length<=10000->
 (∃(x:Nat),
 x<=y.1.length/\
 (SV.fn 272 [] [SV.ptr (SH.next (St.h {ts:=Fr.of (aQ.args mz y) 0,h:={next:=0,os:=[]},log:=[]})) 0]=
 SV.fn 272 []
 [SV.ptr (SH.next (St.h {ts:=Fr.of (aQ.args mz y) 0,h:={next:=0,os:=[]},log:=[]})) 0]/\
 SV.aH ag y.1 ag.enc=SV.aH ag y.1 ag.enc/\
 ax (Int.ofNat y.1.length) (Int.ofNat y.1.length)/\ax 0 ↑x/\True/\True)/\
 ((List.filter (fun(x:ag)=>Decidable.decide (x.key≠y.2)) (List.take x y.1)=[]/\
 ∀(x:ag),List.length (ag.enc x)=11)/\
 (y.2.name=y.2.name/\
 y.2.domain=y.2.domain/\y.2.path=y.2.path/\True)/\
 True)/\
 True)/\
 ∀(x:Nat),
 x<=y.1.length->
 br (bO (↑x) (Int.ofNat y.1.length))
 (so y.1[Int.toNat ↑x]? fun(val:ag)=>
 br
 (!(val.key.name==y.2.name&&
 (val.key.domain==y.2.domain&&
 (val.key.path==y.2.path&&true))))
 (∃(x_1:ag),
 (ag.enc x_1)=
 (ag.enc val)/\
 ck
 (Nat.ble
 ((List.length (List.filter (fun(x:ag)=>Decidable.decide (x.key≠y.2)) (List.take x y.1))+
 List.length [x_1])*
 96)
 16777216&&
 Nat.ble
 (List.length (List.filter (fun(x:ag)=>Decidable.decide (x.key≠y.2)) (List.take x y.1))+
 List.length [x_1])
 16777216)
 (ck (bw .i64 (↑x+1))
 (∃(y_1:Nat),
 y_1<=y.1.length/\
 aK.μ (kk y.1 fun(x:ag)=>Decidable.decide (x.key≠y.2)) y_1<
 aK.μ (kk y.1 fun(x:ag)=>Decidable.decide (x.key≠y.2)) x/\
 (SV.fn 272 []
 [SV.ptr
 (SH.next (St.h {ts:=Fr.of (aQ.args mz y) 0,h:={next:=0,os:=[]},log:=[]})) 0]=
 SV.fn 272 []
 [SV.ptr
 (SH.next (St.h {ts:=Fr.of (aQ.args mz y) 0,h:={next:=0,os:=[]},log:=[]})) 0]/\
 SV.aH ag y.1 ag.enc=SV.aH ag y.1 ag.enc/\
 ax (Int.ofNat y.1.length) (Int.ofNat y.1.length)/\ax (↑x+1) ↑y_1/\True/\True)/\
 (SV.aH ag
 (List.filter (fun(x:ag)=>Decidable.decide (x.key≠y.2)) (List.take x y.1)++[x_1])
 ag.enc=
 SV.aH ag
 (List.filter (fun(x:ag)=>Decidable.decide (x.key≠y.2)) (List.take y_1 y.1))
 ag.enc/\
 (y.2.name=y.2.name/\
 y.2.domain=y.2.domain/\
 y.2.path=y.2.path/\True)/\
 True)/\
 True)))
 (ck (bw .i64 (↑x+1))
 (∃(y_1:Nat),
 y_1<=y.1.length/\
 aK.μ (kk y.1 fun(x:ag)=>Decidable.decide (x.key≠y.2)) y_1<
 aK.μ (kk y.1 fun(x:ag)=>Decidable.decide (x.key≠y.2)) x/\
 (SV.fn 272 []
 [SV.ptr (SH.next (St.h {ts:=Fr.of (aQ.args mz y) 0,h:={next:=0,os:=[]},log:=[]}))
 0]=
 SV.fn 272 []
 [SV.ptr (SH.next (St.h {ts:=Fr.of (aQ.args mz y) 0,h:={next:=0,os:=[]},log:=[]}))
 0]/\
 SV.aH ag y.1 ag.enc=SV.aH ag y.1 ag.enc/\
 ax (Int.ofNat y.1.length) (Int.ofNat y.1.length)/\ax (↑x+1) ↑y_1/\True/\True)/\
 (SV.aH ag
 (List.filter (fun(x:ag)=>Decidable.decide (x.key≠y.2)) (List.take x y.1))
 ag.enc=
 SV.aH ag
 (List.filter (fun(x:ag)=>Decidable.decide (x.key≠y.2)) (List.take y_1 y.1))
 ag.enc/\
 (y.2.name=y.2.name/\
 y.2.domain=y.2.domain/\
 y.2.path=y.2.path/\True)/\
 True)/\
 True)))
 (SV.aH ag (List.filter (fun(x:ag)=>Decidable.decide (x.key≠y.2)) (List.take x y.1))
 ag.enc=
 SV.aH ag (CW y.1 y.2) ag.enc/\
 True)):=by kernel_rfl
theorem L8:(cr (fun(y:aQ.Y mq)=>cD bS (cX mQ 3 (kk y.1 fun(x:ag)=>Decidable.decide (x.key.domain=y.2)))) 600 o9)=(∀(y:List ag×Bs),
 y.1.length<=10000->
 (∃(x:Nat),
 x<=y.1.length/\
 (SV.fn 266 [] [SV.ptr (SH.next (St.h {ts:=Fr.of (aQ.args mq y) 0,h:={next:=0,os:=[]},log:=[]})) 0]=
 SV.fn 266 []
 [SV.ptr (SH.next (St.h {ts:=Fr.of (aQ.args mq y) 0,h:={next:=0,os:=[]},log:=[]})) 0]/\
 SV.aH ag y.1 ag.enc=SV.aH ag y.1 ag.enc/\
 ax (Int.ofNat y.1.length) (Int.ofNat y.1.length)/\ax 0 ↑x/\True/\True)/\
 ((List.filter (fun(x:ag)=>Decidable.decide (x.key.domain=y.2)) (List.take x y.1)=[]/\
 ∀(x:ag),List.length (ag.enc x)=11)/\
 (y.2=y.2/\True)/\True)/\
 True)/\
 ∀(x:Nat),
 x<=y.1.length->
 br (bO (↑x) (Int.ofNat y.1.length))
 (so y.1[Int.toNat ↑x]? fun(val:ag)=>
 br (val.key.domain==y.2)
 (∃(x_1:ag),
 (ag.enc x_1)=
 (ag.enc val)/\
 ck
 (Nat.ble
 ((List.length
 (List.filter (fun(x:ag)=>Decidable.decide (x.key.domain=y.2))
 (List.take x y.1))+
 List.length [x_1])*
 96)
 16777216&&
 Nat.ble
 (List.length
 (List.filter (fun(x:ag)=>Decidable.decide (x.key.domain=y.2))
 (List.take x y.1))+
 List.length [x_1])
 16777216)
 (ck (bw .i64 (↑x+1))
 (∃(y_1:Nat),
 y_1<=y.1.length/\
 aK.μ (kk y.1 fun(x:ag)=>Decidable.decide (x.key.domain=y.2))
 y_1<
 aK.μ
 (kk y.1 fun(x:ag)=>Decidable.decide (x.key.domain=y.2)) x/\
 (SV.fn 266 []
 [SV.ptr
 (SH.next (St.h {ts:=Fr.of (aQ.args mq y) 0,h:={next:=0,os:=[]},log:=[]})) 0]=
 SV.fn 266 []
 [SV.ptr
 (SH.next (St.h {ts:=Fr.of (aQ.args mq y) 0,h:={next:=0,os:=[]},log:=[]})) 0]/\
 SV.aH ag y.1 ag.enc=SV.aH ag y.1 ag.enc/\
 ax (Int.ofNat y.1.length) (Int.ofNat y.1.length)/\ax (↑x+1) ↑y_1/\True/\True)/\
 (SV.aH ag
 (List.filter (fun(x:ag)=>Decidable.decide (x.key.domain=y.2))
 (List.take x y.1)++
 [x_1])
 ag.enc=
 SV.aH ag
 (List.filter (fun(x:ag)=>Decidable.decide (x.key.domain=y.2))
 (List.take y_1 y.1))
 ag.enc/\
 (y.2=y.2/\True)/\True)/\
 True)))
 (ck (bw .i64 (↑x+1))
 (∃(y_1:Nat),
 y_1<=y.1.length/\
 aK.μ (kk y.1 fun(x:ag)=>Decidable.decide (x.key.domain=y.2)) y_1<
 aK.μ (kk y.1 fun(x:ag)=>Decidable.decide (x.key.domain=y.2)) x/\
 (SV.fn 266 []
 [SV.ptr (SH.next (St.h {ts:=Fr.of (aQ.args mq y) 0,h:={next:=0,os:=[]},log:=[]}))
 0]=
 SV.fn 266 []
 [SV.ptr (SH.next (St.h {ts:=Fr.of (aQ.args mq y) 0,h:={next:=0,os:=[]},log:=[]}))
 0]/\
 SV.aH ag y.1 ag.enc=SV.aH ag y.1 ag.enc/\
 ax (Int.ofNat y.1.length) (Int.ofNat y.1.length)/\ax (↑x+1) ↑y_1/\True/\True)/\
 (SV.aH ag
 (List.filter (fun(x:ag)=>Decidable.decide (x.key.domain=y.2))
 (List.take x y.1))
 ag.enc=
 SV.aH ag
 (List.filter (fun(x:ag)=>Decidable.decide (x.key.domain=y.2))
 (List.take y_1 y.1))
 ag.enc/\
 (y.2=y.2/\True)/\True)/\
 True)))
 (SV.aH ag
 (List.filter (fun(x:ag)=>Decidable.decide (x.key.domain=y.2)) (List.take x y.1))
 ag.enc=
 SV.aH ag (FE y.1 y.2) ag.enc/\
 True)):=by kernel_rfl
theorem Ke:(cr (fun(y:aQ.Y vZ)=>cD bS (cX sm 2 (uq y))) 400 oJ)=(∀(y:List ag×ag),
 y.1.length<=10000->
 (∃(x:Nat),
 (x<=y.1.length/\ ∀(j:Nat) (h:j<y.1.length),j<x->y.1[j]=y.2->False)/\
 (True/\
 SV.aH ag y.1 ag.enc=SV.aH ag y.1 ag.enc/\
 ax (Int.ofNat y.1.length) (Int.ofNat y.1.length)/\ax 0 ↑x/\True)/\
 ((y.2.key.name=y.2.key.name/\
 y.2.key.domain=y.2.key.domain/\
 y.2.key.path=y.2.key.path/\
 y.2.aa.value=y.2.aa.value/\
 y.2.aa.aR=y.2.aa.aR/\
 y.2.aa.bG=y.2.aa.bG/\
 y.2.aa.aS=y.2.aa.aS/\
 y.2.aa.persistent=y.2.aa.persistent/\
 ax y.2.aa.bp y.2.aa.bp/\
 ax y.2.aa.aG y.2.aa.aG/\
 ax y.2.aa.access y.2.aa.access/\
 True)/\
 (y.2.key.name=y.2.key.name/\
 y.2.key.domain=y.2.key.domain/\
 y.2.key.path=y.2.key.path/\
 y.2.aa.value=y.2.aa.value/\
 y.2.aa.aR=y.2.aa.aR/\
 y.2.aa.bG=y.2.aa.bG/\
 y.2.aa.aS=y.2.aa.aS/\
 y.2.aa.persistent=y.2.aa.persistent/\
 ax y.2.aa.bp y.2.aa.bp/\
 ax y.2.aa.aG
 y.2.aa.aG/\
 ax y.2.aa.access y.2.aa.access/\
 True)/\
 True)/\
 True)/\
 ∀(x:Nat),
 (x<=y.1.length/\ ∀(j:Nat) (h:j<y.1.length),j<x->y.1[j]=y.2->False)->
 br (bO (↑x) (Int.ofNat y.1.length))
 (so y.1[Int.toNat ↑x]? fun(val:ag)=>
 br
 (y.2.key.name==val.key.name&&
 (y.2.key.domain==val.key.domain&&
 (y.2.key.path==val.key.path&&true))&&
 (y.2.aa.value==val.aa.value&&
 (y.2.aa.aR==val.aa.aR&&
 (y.2.aa.bG==val.aa.bG&&
 (y.2.aa.aS==val.aa.aS&&
 (y.2.aa.persistent==val.aa.persistent&&
 (y.2.aa.bp==val.aa.bp&&
 (y.2.aa.aG==val.aa.aG&&
 (y.2.aa.access==val.aa.access&&true)))))))&&
 true))
 (bA 0 ↑x=Decidable.decide (y.2∈y.1)/\True)
 (ck (bw .i64 (↑x+1))
 (∃(y_1:Nat),
 (y_1<=y.1.length/\ ∀(j:Nat) (h:j<y.1.length),j<y_1->y.1[j]=y.2->False)/\
 aK.μ (uq y) y_1<aK.μ (uq y) x/\
 (True/\
 SV.aH ag y.1 ag.enc=SV.aH ag y.1 ag.enc/\
 ax (Int.ofNat y.1.length) (Int.ofNat y.1.length)/\ax (↑x+1) ↑y_1/\True)/\
 ((y.2.key.name=y.2.key.name/\
 y.2.key.domain=y.2.key.domain/\
 y.2.key.path=y.2.key.path/\
 y.2.aa.value=y.2.aa.value/\
 y.2.aa.aR=y.2.aa.aR/\
 y.2.aa.bG=y.2.aa.bG/\
 y.2.aa.aS=y.2.aa.aS/\
 y.2.aa.persistent=
 y.2.aa.persistent/\
 ax y.2.aa.bp
 y.2.aa.bp/\
 ax y.2.aa.aG
 y.2.aa.aG/\
 ax y.2.aa.access
 y.2.aa.access/\
 True)/\
 (y.2.key.name=y.2.key.name/\
 y.2.key.domain=y.2.key.domain/\
 y.2.key.path=y.2.key.path/\
 y.2.aa.value=y.2.aa.value/\
 y.2.aa.aR=y.2.aa.aR/\
 y.2.aa.bG=y.2.aa.bG/\
 y.2.aa.aS=y.2.aa.aS/\
 y.2.aa.persistent=
 y.2.aa.persistent/\
 ax y.2.aa.bp
 y.2.aa.bp/\
 ax y.2.aa.aG
 y.2.aa.aG/\
 ax y.2.aa.access
 y.2.aa.access/\
 True)/\
 True)/\
 True)))
 (bA 0 (-1)=Decidable.decide (y.2∈y.1)/\True)):=by kernel_rfl
theorem L6:(cr (fun(y:aQ.Y xf)=>cD uO (cM y)) 600 oZ)=(∀(y:eU),
 (y.rules.length<=100000/\ ∀(s:Bs),s∈y.rules->s.length<=100000)->
 br (bA 1 y.eE)
 (br (!bA y.eE 64) (ax 4 (kM y)/\True)
 (br (bA 1 y.domain)
 (br (!bA y.domain 2048) (ax 4 (kM y)/\True)
 (br (bA 1 y.total)
 (br (!bA y.total 2048) (ax 4 (kM y)/\True)
 (∃(y_1:List Bs),
 SV.aH Bs y.rules dG=SV.aH Bs y_1 dG/\
 (y_1.length<=100000/\ ∀(s:Bs),s∈y_1->s.length<=100000)/\ax (mG y_1) (kM y)/\True))
 (ax 4 (kM y)/\True)))
 (ax 4 (kM y)/\True)))
 (ax 4 (kM y)/\True)):=by kernel_rfl
end
section
variable [Inhabited aI]
theorem Ff:∀g C,uL g=some C->CO g C:=bU OL LH
theorem xA (a b:bg):(a.name==b.name&&(a.domain==b.domain&&(a.path==b.path&&true)))=decide (a=b):=by
 rw[AE]
 cases a;cases b;simp
section
variable {l:List ag} {p:ag->Bool} {x:Nat}
theorem sZ (h:x<l.length):(l.take (x+1)).filter p=(l.take x).filter p++if p l[x]then[l[x]]else[]:=by
 rw[As h,DH];by_cases hp:p l[x]=true<;>simp[hp]
theorem zK:((l.take x).filter p).length<=x:=AW (List.length_filter_le _ _) (by simp;omega)
theorem filter_all (h:¬(x:Int)<Int.ofNat l.length):(l.take x).filter p=l.filter p:=by
 rw[Av (by simp only[Aa]at h;omega)]
end
theorem Ow:CO oY x9:=bZ (cfg:=fun y=>cD bS (cM y)) bJ (fun _=>rfl) (fun _=>fZ) (n:=400) (by
 rw[Pq];rintro⟨c,now⟩ _;refine ah.2 ⟨fun h=>⟨?_,trivial⟩,fun h=>⟨?_,trivial⟩⟩
 . have h:c.persistent=true:=h;unfold se;rw[h,eI,A9]
 . have h:c.persistent=false:=h;unfold se;rw[h,A4])
theorem OK:CO oM x6:=bZ (cfg:=fun y=>cD bS (cM y)) bJ (fun _=>rfl) (fun _=>fZ) (n:=400) (by
 rw[Pg];rintro⟨a,b⟩ -;simp[ah,cp,cR];refine⟨fun h1 h2=>by omega,fun h1=>⟨fun h2=>?_,fun h2=>?_⟩⟩
 . rw[Ai (by omega),An h2]
 . rw[Ai (by omega),Ai (by omega)])
theorem Ob:CO oN nD:=bZ (cfg:=fun y=>cD uL (cM y)) bJ (fun _=>rfl) (fun _=>Ff) (n:=400) (by
 rw[Ph];rintro⟨a,b⟩ -;exact⟨(a,b),rfl,rfl,trivial,rfl,trivial⟩)
theorem Fg:∀g C,uM g=some C->CO g C:=bU Ow (bU OK (bU Ob Ff))
theorem Oq:CO pg x7:=bZ (cfg:=fun y=>cD uM (cM y)) bJ (fun _=>rfl) (fun _=>Fg) (n:=600) (by
 rw[Pm];rintro⟨a,b⟩ -;refine⟨(_,_),rfl,rfl,trivial,⟨(_,_),rfl,rfl,trivial,⟨(_,_),rfl,rfl,trivial,?_⟩⟩⟩;simp only[ah,nz,Dg];generalize eg a.name b.name=n
 generalize eg a.domain b.domain=d
 generalize eg a.path b.path=p
 refine⟨fun h=>?_,fun h=>⟨fun h2=>?_,fun h2=>⟨fun h3=>?_,fun h3=>?_⟩⟩⟩<;>simp_all)
theorem Fh:∀g C,uN g=some C->CO g C:=bU Oq Fg
theorem Ot:CO pf x8:=bZ (cfg:=fun y=>cD uN (cM y)) bJ (fun _=>rfl) (fun _=>Fh) (n:=400) (by
 rw[Pn];rintro⟨a,b⟩ -;refine⟨(a,b),rfl,rfl,rfl,rfl,rfl,rfl,trivial,?_,trivial⟩;simp only[cp,jt])
theorem wW:∀g C,qx g=some C->CO g C:=bU Ot Fh
theorem NK:CO o5 xP:=bZ (cfg:=fun y=>cD qx (cM y)) bJ (fun _=>rfl) (fun _=>wW) (n:=600) (by
 rw[OQ];rintro⟨a,b⟩ -;refine⟨(_,_),rfl,rfl,trivial,⟨(_,_),rfl,rfl,trivial,?_⟩⟩;simp only[xA,ah,jQ];generalize cR a.aa.access b.aa.access=n
 generalize cR a.aa.aG b.aa.aG=m
 refine⟨fun hn=>⟨fun _=>?_,fun hn2=>?_⟩,fun hn=>⟨fun hm=>⟨fun _=>?_,fun hm2=>?_⟩,fun hm=>⟨fun hkk=>?_,fun hkk=>⟨(a.key,b.key),rfl,rfl,rfl,rfl,rfl,rfl,trivial,fun hl=>?_,fun hl=>?_⟩⟩⟩⟩
 all_goals simp_all)
theorem Fi:∀g C,uO g=some C->CO g C:=bU NK wW
theorem vV:∀l:List ag,nr l=true↔∀(j:Nat) (h:j+1<l.length),jt (l[j]'(by omega)).key l[j+1].key=true
 |[]=>by simp[nr]
 |[x]=>by simp[nr]
 |x::y::l=>by
  rw[nr,Ad,vV (y::l)];constructor
  . rintro⟨h1,h2⟩ j hj
    cases j with
    |zero=>exact h1
    |succ j=>exact h2 j (by simpa using hj)
  . intro h;exact⟨h 0 (by simp),fun j hj=>h (j+1) (by simpa using hj)⟩
theorem Mm:CO kX xi:=bZ (cfg:=fun y=>cD qx (cX kX 2 (tV y))) bJ (fun _=>rfl) (fun _=>wW) (n:=400) (by
 rw[Mc];intro l hpre;have hpre:l.length<=10000:=hpre;refine⟨⟨1,⟨by omega,by omega,fun j h hj=>by omega⟩,⟨rfl,rfl,trivial⟩,trivial,trivial⟩,?_⟩;rintro x ⟨h1,hx,hall⟩;refine ah.2 ⟨fun hlt=>?_,fun hge=>⟨?_,trivial⟩⟩
 . have hlt':=cN hlt;have e:Int.toNat ((x:Int) - 1)=x - 1:=by omega
   refine aq.2 ⟨by rw[gj];omega,aq.2 ⟨by rw[kO,Ae];omega,aA.2 ⟨l[x - 1],by rw[e];exact Af (by omega),aA.2 ⟨l[x],ee hlt',((l[x - 1]).key,(l[x]).key),rfl,rfl,rfl,rfl,rfl,rfl,trivial,ah.2 ⟨fun h=>⟨?_,trivial⟩,fun h=>aq.2 ⟨dg x (by omega),x+1,⟨by omega,by omega,fun j hj hjx=>?_⟩,?_,⟨rfl,rfl,trivial⟩,trivial,trivial⟩⟩⟩⟩⟩⟩
   . symm;rw[AB];intro hr;have:=(vV l).1 hr (x - 1) (by omega);simp only[show x - 1+1=x by omega]at this;simp[this]at h
   . by_cases e2:j+1=x
     . subst e2;simpa using h
     . exact hall j hj (by omega)
   . show l.length+1 - (x+1)<l.length+1 - x
     omega
 . symm;rw[vV];intro j hj;have:=jI hge;simp only[Aa]at this;exact hall j hj (by omega))
theorem Lt:CO oW mz:=bZ (cfg:=fun y=>cD bS (cX mQ 3 (kk (y:List ag×bg).1 fun x=>decide (x.key≠(y:List ag×bg).2)))) bJ (fun _=>rfl) (fun _=>fZ) (n:=600) (by
 rw[K4];rintro⟨l,k⟩ hpre;have hpre:l.length<=10000:=hpre;refine⟨⟨0,by simp,?_⟩,?_⟩
 . (repeat' (first|exact trivial|exact rfl|exact(fun _=>rfl)|apply And.intro))
 intro x hx;refine ah.2 ⟨fun hlt=>aA.2 ⟨_,ee (cN hlt),?_⟩,fun hge=>⟨by rw[filter_all (jI hge)];rfl,trivial⟩⟩;have hlt':x<l.length:=cN hlt;have hlen:=zK (l:=l) (x:=x) (p:=fun z:ag=>decide (z.key≠k));refine ah.2 ⟨fun h=>⟨l[x],rfl,aq.2 ⟨by simp only[Ad,AY,AX,Bc];omega,aq.2 ⟨dg x (by omega),x+1,hlt',?_,?_⟩⟩⟩,fun h=>aq.2 ⟨dg x (by omega),x+1,hlt',?_,?_⟩⟩
 . show l.length - (x+1)<l.length - x
   omega
 . have hp:(fun z:ag=>decide (z.key≠k)) l[x]=true:=by rw[xA]at h;simpa using h
   have hf:=sZ (p:=fun z:ag=>decide (z.key≠k)) hlt';rw[An hp]at hf
   (repeat' (first|exact trivial|exact rfl|exact(fun _=>rfl)|apply And.intro))
   all_goals (first|(rw[hf])|(simp[ax]))
 . show l.length - (x+1)<l.length - x
   omega
 . have hp:(fun z:ag=>decide (z.key≠k)) l[x]=false:=by rw[xA]at h;simpa using h
   have hf:=sZ (p:=fun z:ag=>decide (z.key≠k)) hlt';rw[Ai (by simp only[hp];simp),B9]at hf
   (repeat' (first|exact trivial|exact rfl|exact(fun _=>rfl)|apply And.intro))
   all_goals (first|(rw[hf])|(simp[ax])))
theorem Mf:CO o9 mq:=bZ (cfg:=fun y=>cD bS (cX mQ 3 (kk (y:List ag×Bs).1 fun x=>decide (x.key.domain=(y:List ag×Bs).2)))) bJ (fun _=>rfl) (fun _=>fZ) (n:=600) (by
 rw[L8];rintro⟨l,k⟩ hpre;have hpre:l.length<=10000:=hpre;refine⟨⟨0,by simp,?_⟩,?_⟩
 . (repeat' (first|exact trivial|exact rfl|exact(fun _=>rfl)|apply And.intro))
 intro x hx;refine ah.2 ⟨fun hlt=>aA.2 ⟨_,ee (cN hlt),?_⟩,fun hge=>⟨by rw[filter_all (jI hge)];rfl,trivial⟩⟩;have hlt':x<l.length:=cN hlt;have hlen:=zK (l:=l) (x:=x) (p:=fun z:ag=>decide (z.key.domain=k));refine ah.2 ⟨fun h=>⟨l[x],rfl,aq.2 ⟨by simp only[Ad,AY,AX,Bc];omega,aq.2 ⟨dg x (by omega),x+1,hlt',?_,?_⟩⟩⟩,fun h=>aq.2 ⟨dg x (by omega),x+1,hlt',?_,?_⟩⟩
 . show l.length - (x+1)<l.length - x
   omega
 . have hp:(fun z:ag=>decide (z.key.domain=k)) l[x]=true:=by simpa using h
   have hf:=sZ (p:=fun z:ag=>decide (z.key.domain=k)) hlt';rw[An hp]at hf
   (repeat' (first|exact trivial|exact rfl|exact(fun _=>rfl)|apply And.intro))
   all_goals (first|(rw[hf])|(simp[ax]))
 . show l.length - (x+1)<l.length - x
   omega
 . have hp:(fun z:ag=>decide (z.key.domain=k)) l[x]=false:=by simpa using h
   have hf:=sZ (p:=fun z:ag=>decide (z.key.domain=k)) hlt';rw[Ai (by simp only[hp];simp),B9]at hf
   (repeat' (first|exact trivial|exact rfl|exact(fun _=>rfl)|apply And.intro))
   all_goals (first|(rw[hf])|(simp[ax])))
theorem gN {x n:Nat} (h:bO (x:Int) (Int.ofNat n)=false):n<=x:=by
 have:=jI h;simp only[Aa]at this;omega
theorem CZ (a b:ag):(a.key.name==b.key.name&&(a.key.domain==b.key.domain&&(a.key.path==b.key.path&&true))&&(a.aa.value==b.aa.value&&(a.aa.aR==b.aa.aR&&(a.aa.bG==b.aa.bG&&(a.aa.aS==b.aa.aS&&(a.aa.persistent==b.aa.persistent&&(a.aa.bp==b.aa.bp&&(a.aa.aG==b.aa.aG&&(a.aa.access==b.aa.access&&true)))))))&&true))=decide (a=b):=by
 rw[AE];obtain⟨⟨a1,a2,a3⟩,⟨a4,a5,a6,a7,a8,a9,a10,a11⟩⟩:=a;obtain⟨⟨b1,b2,b3⟩,⟨b4,b5,b6,b7,b8,b9,b10,b11⟩⟩:=b;simp only[Ad,BX,Ae,ag.mk.injEq,bg.mk.injEq,db.mk.injEq,Dg]
theorem J5:CO oJ vZ:=bZ (cfg:=fun y=>cD bS (cX sm 2 (uq y))) bJ (fun _=>rfl) (fun _=>fZ) (n:=400) (by
 rw[Ke];rintro⟨l,k⟩ hpre;have hpre:l.length<=10000:=hpre;refine⟨⟨0,⟨by simp,fun j h hj=>by omega⟩,?_⟩,?_⟩
 . (repeat' (first|exact trivial|exact rfl|exact(fun _=>rfl)|apply And.intro))
 rintro x ⟨hx,hall⟩;refine ah.2 ⟨fun hlt=>aA.2 ⟨_,ee (cN hlt),?_⟩,fun hge=>⟨?_,trivial⟩⟩
 . have hlt':x<l.length:=cN hlt;refine ah.2 ⟨fun h=>⟨?_,trivial⟩,fun h=>aq.2 ⟨dg x (by omega),x+1,⟨hlt',fun j hj hjx he=>?_⟩,?_,?_⟩⟩
   . rw[CZ]at h;have h:k=l[x]:=by simpa using h
     rw[eI,AE];have hm:k∈l:=by rw[h];exact Au hlt'
     simp[hm]
   . rw[CZ]at h;have h:¬k=l[x]:=by simpa using h
     by_cases hji:j=x
     . subst hji;exact h he.symm
     . exact hall j hj (by omega) he
   . show l.length - (x+1)<l.length - x
     omega
   . (repeat' (first|exact trivial|exact rfl|exact(fun _=>rfl)|apply And.intro))
 . rw[eI];symm;have hm:¬k∈l:=by
     intro hm;obtain⟨j,hj,he⟩:=AS hm;exact hall j hj (by have:l.length<=x:=gN hge;omega) he
   simp[hm])
theorem M5:CO oZ xf:=bZ (cfg:=fun y=>cD uO (cM y)) bJ (fun _=>rfl) (fun _=>Fi) (n:=600) (by
 rw[L6];intro c hpre;have four:(c.eE<1\/c.eE>64\/c.domain<1\/c.domain>2048\/c.total<1\/c.total>2048)->ax 4 (kM c)/\True:=by
   intro h;unfold kM;rw[An h];exact⟨rfl,trivial⟩
 simp only[eI];refine ah.2 ⟨fun h1=>ah.2 ⟨fun h2=>four ?_,fun h2=>ah.2 ⟨fun h3=>ah.2 ⟨fun h4=>four ?_,fun h4=>ah.2 ⟨fun h5=>ah.2 ⟨fun h6=>four ?_,fun h6=>⟨c.rules,rfl,hpre,?_,trivial⟩⟩,fun h5=>four ?_⟩⟩,fun h3=>four ?_⟩⟩,fun h1=>four ?_⟩
 all_goals (simp at*)
 . omega
 . omega
 . omega
 . unfold kM;rw[Ai (by omega)]
 . omega
 . omega
 . omega)
theorem pG {α β:Type} (f:β->α->β) (b:β) {l:List α} {x:Nat} (h:x<l.length):(l.take (x+1)).foldl f b=f ((l.take x).foldl f b) l[x]:=by
 rw[As h,Ed];rfl
theorem Li {α:Type} {l:List α} {x:Nat} (h:¬(x:Int)<Int.ofNat l.length):l.take x=l:=Av (by simp only[Aa]at h;omega)
theorem LI:∀g C,GF g=some C->CO g C:=bU Mm (bU Lt (bU Mf (bU J5 (bU M5 Fi))))
theorem Gf {α:Type} {p:α->Bool}:∀{l:List α} {j:Nat} (_:j<(l.takeWhile p).length),∃h:j<l.length,p l[j]=true
 |[],j,hj=>by simp at hj
 | a ::l,j,hj=>by
  by_cases hb:p a=true
  . rw[Bi,An hb]at hj
    cases j with
    |zero=>exact⟨by simp,by simpa using hb⟩
    |succ j=>
     obtain⟨h1,h2⟩:=Gf (l:=l) (j:=j) (by simpa using hj);exact⟨by simpa using h1,by simpa using h2⟩
  . rw[Bi,Ai hb]at hj;simp at hj
theorem HA {α:Type} {p:α->Bool}:∀{l:List α} (h:(l.takeWhile p).length<l.length),p (l[(l.takeWhile p).length])=false
 |[],h=>by simp at h
 |a::l,h=>by
  by_cases hb:p a=true
  . have e:((a::l).takeWhile p).length=(l.takeWhile p).length+1:=by rw[Bi,An hb];rfl
    simp only[e,EE];exact HA (by rw[e]at h;simpa using h)
  . have e:((a::l).takeWhile p).length=0:=by rw[Bi,Ai hb];rfl
    simp only[e,ED];exact AB.2 hb
theorem LJ:∀g C,GG g=some C->CO g C:=LI
end
section
variable [Inhabited aI]
structure ak where
 dev:Int
 inc:Int
 seq:Int
deriving DecidableEq,Inhabited
structure dm where
 wall:Int
 count:Int
 dev:Int
deriving DecidableEq,Inhabited
def ak.enc (x:ak):List SV:=[.int .i64 x.dev, .int .i64 x.inc, .int .i64 x.seq]
def dm.enc (x:dm):List SV:=[.int .i64 x.wall, .int .i64 x.count, .int .i64 x.dev]
def uY (d i:Int):Bool:=bA 0 d&&bA d 63&&bA 1 i&&bA i 1048576
def eB (x:ak):Bool:=uY x.dev x.inc&&bA 1 x.seq&&bA x.seq 4294967296
def within (a b c:Int):Bool:=bA b a&&bA a c
def mD (x:dm):Bool:=within x.wall 0 4398046511104&&within x.count 0 65535&&within x.dev 0 63
def jZ (a b:Int):Int:=if a=0 then b else a
def ui (x y:ak):Int:=jZ (cR x.dev y.dev) (cR x.inc y.inc)
def lT (x y:ak):Int:=jZ (ui x y) (cR x.seq y.seq)
def bR (x y:ak):Bool:=decide (lT x y<0)
def xI (x y:dm):Int:=jZ (cR x.wall y.wall) (cR x.count y.count)
def Cq (x y:dm):Bool:=decide (jZ (xI x y) (cR x.dev y.dev)<0)
def l7:aQ:={Y:=Int×Int,pre:=fun _=>True,args:=fun y=>[.agg [i64 y.1,i64 y.2]],res:=fun y=> .bool (uY y.1 y.2)}
def rW (p:ak->Bool):aQ:={Y:=ak,pre:=fun _=>True,args:=fun y=>[.agg y.enc],res:=fun y=> .bool (p y)}
def tX (p:dm->Bool):aQ:={Y:=dm,pre:=fun _=>True,args:=fun y=>[.agg y.enc],res:=fun y=> .bool (p y)}
def tY:aQ:={Y:=Int×Int×Int,pre:=fun _=>True,args:=fun y=>[i64 y.1,i64 y.2.1,i64 y.2.2],res:=fun y=> .bool (within y.1 y.2.1 y.2.2)}
def GP:aQ:={Y:=ak×ak,pre:=fun _=>True,args:=fun y=>[.agg [i64 y.1.dev,i64 y.1.inc], .agg [i64 y.2.dev,i64 y.2.inc]],res:=fun y=>i64 (ui y.1 y.2)}
def u4:aQ:={Y:=ak×ak,pre:=fun _=>True,args:=fun y=>[.agg y.1.enc, .agg y.2.enc],res:=fun y=>i64 (lT y.1 y.2)}
def u6:aQ:={Y:=ak×ak,pre:=fun _=>True,args:=fun y=>[.agg y.1.enc, .agg y.2.enc],res:=fun y=> .bool (bR y.1 y.2)}
def Gl:aQ:={Y:=dm×dm,pre:=fun _=>True,args:=fun y=>[.agg y.1.enc, .agg y.2.enc],res:=fun y=>i64 (xI y.1 y.2)}
def FO:aQ:={Y:=dm×dm,pre:=fun _=>True,args:=fun y=>[.agg y.1.enc, .agg y.2.enc],res:=fun y=> .bool (Cq y.1 y.2)}
noncomputable def nE (f:FuncId):Option aQ:=bif Nat.beq f Hv then some l7 else bif Nat.beq f Hi then some l7 else bif Nat.beq f sx then some tY else bif Nat.beq f sC then some tY else GG f
noncomputable def uG (f:FuncId):Option aQ:=bif Nat.beq f Hw then some (rW eB)else bif Nat.beq f Hk then some (rW eB)else bif Nat.beq f Hb then some (tX mD)else bif Nat.beq f Hl then some (tX mD)else bif Nat.beq f Hd then some GP else bif Nat.beq f Hc then some Gl else nE f
noncomputable def uH (f:FuncId):Option aQ:=bif Nat.beq f Hx then some u4 else bif Nat.beq f Hn then some FO else uG f
noncomputable def qt (f:FuncId):Option aQ:=bif Nat.beq f G1 then some u6 else bif Nat.beq f Hp then some u6 else uH f
theorem vE (a:Int):bO a 64=bA a 63:=by
 rw[cp,eI,AE,Ae,Ae];omega
theorem NM {a b:Int}:jZ a b<0↔a<0\/(a=0/\b<0):=by
 unfold jZ;by_cases h:a=0
 . simp[h]
 . simp[h]
theorem Mu {a b:Int}:jZ a b=0↔a=0/\b=0:=by
 unfold jZ;by_cases h:a=0<;>simp[h]
theorem qZ (x y:ak):bR x y=true↔x.dev<y.dev\/(x.dev=y.dev/\(x.inc<y.inc\/(x.inc=y.inc/\x.seq<y.seq))):=by
 unfold bR lT ui;simp only[Ae,NM,Mu,L1,KX];constructor
 . rintro((h|⟨h1,h2⟩)|⟨⟨h1,h2⟩,h3⟩)
   . exact .inl h
   . exact .inr ⟨h1, .inl h2⟩
   . exact .inr ⟨h1, .inr ⟨h2,h3⟩⟩
 . rintro(h|⟨h1,h2|⟨h2,h3⟩⟩)
   . exact .inl (.inl h)
   . exact .inl (.inr ⟨h1,h2⟩)
   . exact .inr ⟨⟨h1,h2⟩,h3⟩
theorem ak.ext' {x y:ak} (h1:x.dev=y.dev) (h2:x.inc=y.inc) (h3:x.seq=y.seq):x=y:=by cases x;cases y;simp_all
theorem pE (x:ak):bR x x=false:=by
 rw[AB,EL,qZ];omega
theorem sQ {x y z:ak} (h1:bR x y=true) (h2:bR y z=true):bR x z=true:=by
 rw[qZ]at*;omega
theorem vQ (x y:ak):bR x y=true\/x=y\/bR y x=true:=by
 simp only[qZ];by_cases h:x.dev=y.dev/\x.inc=y.inc/\x.seq=y.seq
 . exact .inr (.inl (ak.ext' h.1 h.2.1 h.2.2))
 . have:x.dev<y.dev\/y.dev<x.dev\/(x.dev=y.dev/\(x.inc<y.inc\/y.inc<x.inc\/(x.inc=y.inc/\(x.seq<y.seq\/y.seq<x.seq)))):=by omega
   omega
theorem N5:CO Hv l7:=bZ (cfg:=fun y=>cD bS (cM y)) bJ (fun _=>rfl) (fun _=>pP) (n:=400) (by
 rintro⟨a,b⟩ -
 repeat' (first|exact trivial|exact rfl|((conv=>whnf);first|(apply aE<;>intro)|apply And.intro))
 all_goals (simp_all[uY,vE]))
theorem MV:CO Hi l7:=bZ (cfg:=fun y=>cD bS (cM y)) bJ (fun _=>rfl) (fun _=>pP) (n:=400) (by
 rintro⟨a,b⟩ -
 repeat' (first|exact trivial|exact rfl|((conv=>whnf);first|(apply aE<;>intro)|apply And.intro))
 all_goals (simp_all[uY]))
theorem Mt:CO sx tY:=bZ (cfg:=fun y=>cD bS (cM y)) bJ (fun _=>rfl) (fun _=>pP) (n:=400) (by
 rintro⟨a,b⟩ -
 repeat' (first|exact trivial|exact rfl|((conv=>whnf);first|(apply aE<;>intro)|apply And.intro))
 all_goals (simp_all[within]))
theorem Ls:CO sC tY:=bZ (cfg:=fun y=>cD bS (cM y)) bJ (fun _=>rfl) (fun _=>pP) (n:=400) (by
 rintro⟨a,b⟩ -
 repeat' (first|exact trivial|exact rfl|((conv=>whnf);first|(apply aE<;>intro)|apply And.intro))
 all_goals (simp_all[within]))
theorem om:∀g C,nE g=some C->CO g C:=bU N5 (bU MV (bU Mt (bU Ls LJ)))
theorem GM:CO Hw (rW eB):=bZ (cfg:=fun y=>cD nE (cM y)) bJ (fun _=>rfl) (fun _=>om) (n:=400) (by
 rintro⟨a,b,c⟩ -
 (conv=>whnf)
 refine⟨(a,b),?_⟩
 repeat' (first|exact trivial|exact rfl|((conv=>whnf);first|(apply aE<;>intro)|apply And.intro))
 all_goals (simp_all[eB]))
theorem OP:CO Hk (rW eB):=bZ (cfg:=fun y=>cD nE (cM y)) bJ (fun _=>rfl) (fun _=>om) (n:=400) (by
 rintro⟨a,b,c⟩ -
 (conv=>whnf)
 refine⟨(a,b),?_⟩
 repeat' (first|exact trivial|exact rfl|((conv=>whnf);first|(apply aE<;>intro)|apply And.intro))
 all_goals (simp_all[eB]))
theorem Oa:CO Hb (tX mD):=bZ (cfg:=fun y=>cD nE (cM y)) bJ (fun _=>rfl) (fun _=>om) (n:=400) (by
 rintro⟨a,b,c⟩ -
 repeat' (first|exact trivial|exact rfl|((conv=>whnf);first|(apply aE<;>intro)|apply And.intro))
 all_goals (simp_all[mD,within]))
theorem Me:CO Hl (tX mD):=bZ (cfg:=fun y=>cD nE (cM y)) bJ (fun _=>rfl) (fun _=>om) (n:=400) (by
 rintro⟨a,b,c⟩ -
 repeat' (first|exact trivial|exact rfl|((conv=>whnf);first|(apply aE<;>intro)|apply And.intro))
 all_goals (simp_all[mD,within]))
theorem OH:CO Hd GP:=bZ (cfg:=fun y=>cD nE (cM y)) bJ (fun _=>rfl) (fun _=>om) (n:=400) (by
 rintro⟨⟨a,b,c⟩,d,e,f⟩ -
 (conv=>whnf)
 refine⟨(a,d),?_⟩
 repeat ((conv=>whnf);first|refine⟨rfl,?_⟩|refine⟨trivial,?_⟩)
 (conv=>whnf)
 refine⟨(b,e),?_⟩
 repeat' (first|exact trivial|exact rfl|((conv=>whnf);first|(apply aE<;>intro)|apply And.intro))
 all_goals (simp_all[ui,jZ]))
theorem Oi:CO Hc Gl:=bZ (cfg:=fun y=>cD nE (cM y)) bJ (fun _=>rfl) (fun _=>om) (n:=400) (by
 rintro⟨⟨a,b,c⟩,d,e,f⟩ -
 (conv=>whnf)
 refine⟨(a,d),?_⟩
 repeat ((conv=>whnf);first|refine⟨rfl,?_⟩|refine⟨trivial,?_⟩)
 (conv=>whnf)
 refine⟨(b,e),?_⟩
 repeat' (first|exact trivial|exact rfl|((conv=>whnf);first|(apply aE<;>intro)|apply And.intro))
 all_goals (simp_all[xI,jZ]))
theorem wT:∀g C,uG g=some C->CO g C:=bU GM (bU OP (bU Oa (bU Me (bU OH (bU Oi om)))))
theorem Ny:CO Hx u4:=bZ (cfg:=fun y=>cD uG (cM y)) bJ (fun _=>rfl) (fun _=>wT) (n:=400) (by
 rintro⟨x,y⟩ -
 (conv=>whnf)
 refine⟨(x,y),?_⟩
 repeat ((conv=>whnf);first|refine⟨rfl,?_⟩|refine⟨trivial,?_⟩)
 (conv=>whnf)
 refine⟨(x.seq,y.seq),?_⟩
 repeat' (first|exact trivial|exact rfl|((conv=>whnf);first|(apply aE<;>intro)|apply And.intro))
 all_goals (simp_all[lT,jZ]))
theorem Mr:CO Hn FO:=bZ (cfg:=fun y=>cD uG (cM y)) bJ (fun _=>rfl) (fun _=>wT) (n:=400) (by
 rintro⟨x,y⟩ -
 (conv=>whnf)
 refine⟨(x,y),?_⟩
 repeat ((conv=>whnf);first|refine⟨rfl,?_⟩|refine⟨trivial,?_⟩)
 (conv=>whnf)
 refine⟨(x.dev,y.dev),?_⟩
 repeat' (first|exact trivial|exact rfl|((conv=>whnf);first|(apply aE<;>intro)|apply And.intro))
 all_goals (simp_all[Cq,jZ,cp]))
theorem wU:∀g C,uH g=some C->CO g C:=bU Ny (bU Mr wT)
theorem OO:CO G1 u6:=bZ (cfg:=fun y=>cD uH (cM y)) bJ (fun _=>rfl) (fun _=>wU) (n:=400) (by
 rintro⟨x,y⟩ -
 (conv=>whnf)
 refine⟨(x,y),?_⟩
 repeat' (first|exact trivial|exact rfl|((conv=>whnf);first|(apply aE<;>intro)|apply And.intro))
 all_goals (simp_all[bR,cp]))
theorem Od:CO Hp u6:=bZ (cfg:=fun y=>cD uH (cM y)) bJ (fun _=>rfl) (fun _=>wU) (n:=400) (by
 rintro⟨⟨a,b,c⟩,d,e,f⟩ -
 repeat' (first|exact trivial|exact rfl|((conv=>whnf);first|(apply aE<;>intro)|apply And.intro))
 all_goals (rw[AE,qZ,cp,Ae];simp_all<;>omega))
theorem rD:∀g C,qt g=some C->CO g C:=bU OO (bU Od wU)
end
section
variable [Inhabited aI]
end
section
variable [Inhabited aI]
end
section
variable [Inhabited aI]
theorem _root_.Go.Proofs.ak.ext_iff {x y:ak}:x=y↔x.dev=y.dev/\x.inc=y.inc/\x.seq=y.seq:=⟨fun h=>by subst h;exact⟨rfl,rfl,rfl⟩,fun h=>ak.ext' h.1 h.2.1 h.2.2⟩
theorem nv (a b:ak):(a.dev==b.dev&&(a.inc==b.inc&&true)&&(a.seq==b.seq&&true))=decide (a=b):=by
 rw[AE];simp[ak.ext_iff,and_assoc]
structure ae where
 dot:ak
 bY:dm
 kind:Int
 key:bg
 aa:db
 over:List ak
deriving DecidableEq,Inhabited
def cf (l:List ak):SV:= .aH ak l ak.enc
def ae.enc (x:ae):List SV:=[.int .i64 x.dot.dev, .int .i64 x.dot.inc, .int .i64 x.dot.seq, .int .i64 x.bY.wall, .int .i64 x.bY.count, .int .i64 x.bY.dev, .int .i64 x.kind, .str x.key.name, .str x.key.domain, .str x.key.path,
 .str x.aa.value, .bool x.aa.aR, .bool x.aa.bG, .bool x.aa.aS, .bool x.aa.persistent, .int .i64 x.aa.bp, .int .i64 x.aa.aG, .int .i64 x.aa.access,cf x.over]
def ae.item (x:ae):ag:=⟨x.key,x.aa⟩
structure bB where
 ctx:List ak
 kept:List ae
 dead:List ak
def eM (l:List ae):SV:= .aH ae l ae.enc
def bB.enc (x:bB):List SV:=[cf x.ctx,eM x.kept,cf x.dead]
noncomputable def Rf:TypeId->Option View:=fun t=>bif Nat.beq t Ty.string then some ⟨Bs,dG⟩else bif Nat.beq t yp then some ⟨ag,ag.enc⟩else bif Nat.beq t Ty.nN then some ⟨ak,ak.enc⟩else bif Nat.beq t HB then some ⟨ak,ak.enc⟩else bif Nat.beq t QI then some ⟨ae,ae.enc⟩else none
noncomputable def cC (fX:FuncId->Option aQ) (lH:FuncId->Nat->Option aK):gR:={tab:=oG,view:=Rf,fX,lH}
section
variable {α:Type} [DecidableEq α] (less:α->α->Bool)
def c8 (l:List α) (d:α):Nat:=(l.takeWhile fun x=>less x d).length
def eZ (l:List α) (d:α):List α:=if l[c8 less l d]? =some d then l else l.take (c8 less l d)++d::l.drop (c8 less l d)
def de (l:List α):List α:=l.foldl (eZ less) []
variable {less}
omit [DecidableEq α] in
theorem ud (L:List α) (d:α):c8 less L d<=L.length:=(DX _).length_le
omit [DecidableEq α] in
theorem CF {L:List α} {d:α} {k:Nat} (hk:k<=c8 less L d) (h:k<L.length) (hl:less L[k] d=true):k+1<=c8 less L d:=by
 apply Bg;intro hn;have e:c8 less L d=k:=by omega
 unfold c8 at e;have:=HA (p:=fun x=>less x d) (l:=L) (by omega);simp only[e]at this;rw[hl]at this
 cases this
omit [DecidableEq α] in
theorem CG {L:List α} {d:α} {k:Nat} (hk:k<=c8 less L d) (h:k<L.length) (hl:less L[k] d=false):k=c8 less L d:=by
 apply Bg;intro hn;obtain⟨h1,h2⟩:=Gf (p:=fun x=>less x d) (l:=L) (j:=k) (by show k<c8 less L d;omega);rw[hl]at h2
 cases h2
theorem MI (L:List α) (d:α):(eZ less L d).length<=L.length+1:=by
 unfold eZ;have:=ud (less:=less) L d;split
 . omega
 . simp;omega
theorem tn:∀(l a:List α),(l.foldl (eZ less) a).length<=a.length+l.length
 |[],a=>by simp
 |x::l,a=>by
  have h1:=tn l (eZ less a x);have h2:=MI (less:=less) a x;simp only[Bw,AX];omega
end
def iJ (l:List ak):Prop:=l.length<=1000000
def xN:aQ:={Y:=List ak×List ak,pre:=fun y=>iJ y.1/\iJ y.2,args:=fun y=>[cf y.1,cf y.2],res:=fun y=> .bool (decide (y.1=y.2))}
def OU (y:List ak×List ak):aK:={α:=Nat,ok:=fun i=>i<=y.1.length/\y.1.length=y.2.length/\y.1.take i=y.2.take i,μ:=fun i=>y.1.length - i,bn:=[],aU:=fun i=>[(0,cf y.1),(1,cf y.2),(5,i64 i)],bP:=fun _=>[]}
def Gq:aQ:={Y:=List ak,pre:=fun y=>y.length<=300000,args:=fun y=>[cf y],res:=fun y=>cf (de bR y)}
def OV (y:List ak):aK:={α:=Nat,ok:=fun i=>i<=y.length,μ:=fun i=>y.length - i,bn:=[],aU:=fun i=>[(0,cf y),(3,cf (de bR (y.take i))),(4,i64 i)],bP:=fun _=>[],eN:=[3]}
def Nd (y:List ak):aK:={α:=Nat×Nat,ok:=fun x=>∃h:x.1<y.length,x.2<=c8 bR (de bR (y.take x.1)) y[x.1],μ:=fun x=>(de bR (y.take x.1)).length - x.2,bn:=[],aU:=fun x=>[(0,cf y),(3,cf (de bR (y.take x.1))),(4,i64 x.1),(5,i64 x.2)],bP:=fun _=>[],link:=some fun a b=>b.1=a.1}
theorem NI:CO mX Gq:=bZ (cfg:=fun y=>cC qt (pV mX 6 (Nd y) (cX mX 3 (OV y)))) bJ (fun _=>rfl) (fun _=>rD) (n:=600) (by
 intro (l:List ak) hpre;have hpre:l.length<=300000:=hpre
 (conv=>whnf)
 refine⟨⟨(0:Nat),Ax _,?_⟩,?_⟩
 . repeat' (first|exact trivial|exact rfl|((conv=>whnf);first|(apply aE<;>intro)|apply And.intro))
 intro (x:Nat) hx
 (conv=>whnf)
 refine aE (fun hlt=>?_) fun hge=>?_
 . have hlt':x<l.length:=cN hlt
   (conv=>whnf)
   refine⟨((x,0):Nat×Nat),⟨((x,0):Nat×Nat),⟨⟨hlt',Ax _⟩,rfl⟩,?_⟩,?_⟩
   . repeat' (first|exact trivial|exact rfl|((conv=>whnf);first|(apply aE<;>intro)|apply And.intro))
   rintro⟨x1,k⟩ ⟨⟨h1,h2⟩,hx1⟩;have hx1:x1=x:=hx1;subst hx1;have hn:de bR (l.take (x1+1))=eZ bR (de bR (l.take x1)) l[x1]:=pG (eZ bR) ([]:List ak) hlt';have hlen:(de bR (l.take x1)).length<=x1:=by have:=tn (less:=bR) (l.take x1) [];unfold de;simp at this⊢;omega
   have hk:k<=c8 bR (de bR (l.take x1)) l[x1]:=h2;have hkp:=ud (less:=bR) (de bR (l.take x1)) l[x1];have hkl:k<=(de bR (l.take x1)).length:=by omega
   have hmu:l.length - (x1+1)<l.length - x1:=by omega
   (conv=>whnf)
   refine aE (fun hlt2=>?_) fun hge2=>?_
   . have hlt2':k<(de bR (l.take x1)).length:=cN hlt2
     (conv=>whnf)
     refine aA.2 ⟨_,ee hlt2',?_⟩
     (conv=>whnf)
     refine aA.2 ⟨_,ee hlt',?_⟩
     (conv=>whnf)
     refine⟨((de bR (l.take x1))[k],l[x1]),?_⟩
     repeat ((conv=>whnf);first|refine⟨rfl,?_⟩|refine⟨trivial,?_⟩)
     (conv=>whnf)
     refine aE (fun hl=>?_) fun hl=>?_
     . have hl:bR (de bR (l.take x1))[k] l[x1]=true:=hl
       (conv=>whnf)
       refine aq.2 ⟨dg k (by omega),?_⟩
       (conv=>whnf)
       refine⟨((x1,k+1):Nat×Nat),⟨⟨hlt',CF hk hlt2' hl⟩,rfl⟩,by show(de bR (l.take x1)).length - (k+1)<(de bR (l.take x1)).length - k;omega,?_⟩
       repeat' (first|exact trivial|exact rfl|((conv=>whnf);first|(apply aE<;>intro)|apply And.intro))
     . have hl:bR (de bR (l.take x1))[k] l[x1]=false:=hl;have hkk:k=c8 bR (de bR (l.take x1)) l[x1]:=CG hk hlt2' hl
       (conv=>whnf)
       refine ah.2 ⟨fun he=>absurd he (by simp;omega),fun he=>?_⟩
       (conv=>whnf)
       refine aA.2 ⟨_,ee hlt2',?_⟩
       (conv=>whnf)
       refine aA.2 ⟨_,ee hlt',?_⟩
       (conv=>whnf)
       refine aE (fun hne=>?_) fun hne=>?_
       . repeat (first|((conv=>whnf);refine⟨fun _=>rfl,?_⟩)|((conv=>whnf);refine⟨fun _=>⟨rfl,rfl⟩,?_⟩)|((conv=>whnf);refine aq.2 ⟨by(simp only[Ad,AY,Bu,AX,Bc,Dx,Ef];omega),?_⟩)|((conv=>whnf);refine aq.2 ⟨dg _ (by omega),?_⟩)|((conv=>whnf);refine aA.2 ⟨_,ee (by assumption),?_⟩)|((conv=>whnf);refine⟨_,rfl,?_⟩))
         refine⟨(x1+1:Nat),hlt',hmu,?_⟩
         repeat' (first|exact trivial|exact rfl|((conv=>whnf);first|(apply aE<;>intro)|apply And.intro))
         all_goals ((conv=>whnf);rw[hn];unfold eZ;rw[<-hkk,Ai (by rw[Af hlt2'];simp only[AQ,nv]at hne;simpa using hne)];first|(simp;done)|(simp[cf];done)|(simp;rfl))
       . (conv=>whnf)
         refine aq.2 ⟨dg x1 (by omega),?_⟩
         (conv=>whnf)
         refine⟨(x1+1:Nat),hlt',hmu,?_⟩
         repeat' (first|exact trivial|exact rfl|((conv=>whnf);first|(apply aE<;>intro)|apply And.intro))
         all_goals ((conv=>whnf);rw[hn];unfold eZ;rw[<-hkk,An (by rw[Af hlt2'];simp only[AQ,nv]at hne;simpa using hne)];try rfl)
   . have hge2':(de bR (l.take x1)).length<=k:=gN hge2;have hkk:k=c8 bR (de bR (l.take x1)) l[x1]:=by omega
     (conv=>whnf)
     refine ah.2 ⟨fun he=>?_,fun he=>absurd he (by simp;omega)⟩
     repeat (first|((conv=>whnf);refine⟨fun _=>rfl,?_⟩)|((conv=>whnf);refine⟨fun _=>⟨rfl,rfl⟩,?_⟩)|((conv=>whnf);refine aq.2 ⟨by(simp only[Ad,AY,Bu,AX,Bc,Dx,Ef];omega),?_⟩)|((conv=>whnf);refine aq.2 ⟨dg _ (by omega),?_⟩)|((conv=>whnf);refine aA.2 ⟨_,ee (by assumption),?_⟩)|((conv=>whnf);refine⟨_,rfl,?_⟩))
     refine⟨(x1+1:Nat),hlt',hmu,?_⟩
     repeat' (first|exact trivial|exact rfl|((conv=>whnf);first|(apply aE<;>intro)|apply And.intro))
     all_goals ((conv=>whnf);rw[hn];unfold eZ;rw[<-hkk,Ai (by rw[Bx hge2'];simp)];first|(simp;done)|(simp[cf];done)|(simp;rfl))
 . (conv=>whnf)
   refine⟨by rw[Li (jI hge)],?_⟩
   (conv=>whnf)
   trivial)
theorem F8:CO mW xN:=bZ (cfg:=fun y=>cC qt (cX mW 4 (OU y))) bJ (fun _=>rfl) (fun _=>rD) (n:=600) (by
 rintro⟨l,m⟩ ⟨(hl:l.length<=1000000),(hm:m.length<=1000000)⟩
 (conv=>whnf)
 refine aE (fun h=>?_) fun h=>?_
 . (conv=>whnf)
   refine⟨(AU fun e=>?_).symm,?_⟩
   . have e:l=m:=e;subst e;simp at h
   . repeat' (first|exact trivial|exact rfl|((conv=>whnf);first|(apply aE<;>intro)|apply And.intro))
 have hlm:l.length=m.length:=by
   have h:(!((Int.ofNat l.length)==(Int.ofNat m.length)))=false:=h;simp at h;omega
 (conv=>whnf)
 refine⟨⟨(0:Nat),⟨Ax _,hlm,rfl⟩,?_⟩,?_⟩
 . repeat' (first|exact trivial|exact rfl|((conv=>whnf);first|(apply aE<;>intro)|apply And.intro))
 intro (x:Nat) hx;obtain⟨hx, -,ht⟩:=hx;have ht:l.take x=m.take x:=ht
 (conv=>whnf)
 refine aE (fun hlt=>?_) fun hge=>?_
 . have hlt':x<l.length:=cN hlt;have hlt2:x<m.length:=by omega
   (conv=>whnf)
   refine aA.2 ⟨_,ee hlt',?_⟩
   (conv=>whnf)
   refine aA.2 ⟨_,ee hlt2,?_⟩
   (conv=>whnf)
   refine aE (fun h=>?_) fun h=>?_
   . have h:(!decide (l[x]=m[x]))=true:=by rw[<-nv];exact h
     (conv=>whnf)
     refine⟨(AU fun e=>?_).symm,?_⟩
     . have e:l=m:=e;subst e;simp at h
     . repeat' (first|exact trivial|exact rfl|((conv=>whnf);first|(apply aE<;>intro)|apply And.intro))
   . have h:(!decide (l[x]=m[x]))=false:=by rw[<-nv];exact h
     (conv=>whnf)
     refine aq.2 ⟨dg x (by omega),?_⟩
     (conv=>whnf)
     refine⟨(x+1:Nat),⟨hlt',hlm,?_⟩,by show l.length - (x+1)<l.length - x;omega,?_⟩
     . show l.take (x+1)=m.take (x+1)
       have h:l[x]=m[x]:=by simpa using h
       rw[As hlt',As hlt2,ht,h]
     . repeat' (first|exact trivial|exact rfl|((conv=>whnf);first|(apply aE<;>intro)|apply And.intro))
 . have hge':l.length<=x:=gN hge
   (conv=>whnf)
   refine⟨(A7 ?_).symm,?_⟩
   . rw[Av hge',Av (by omega)]at ht;exact ht
   . repeat' (first|exact trivial|exact rfl|((conv=>whnf);first|(apply aE<;>intro)|apply And.intro)))
noncomputable def qu (f:FuncId):Option aQ:=bif Nat.beq f mX then some Gq else bif Nat.beq f mW then some xN else qt f
theorem rE:∀g C,qu g=some C->CO g C:=bU NI (bU F8 rD)
end
section
variable [Inhabited aI]
def il (d:ak) (l:List ak) (i:Nat) (h:i<l.length):Bool:=eB l[i]&&(decide (i=0)||bR (l[i - 1]'(by omega)) l[i])&& !(l[i].dev==d.dev&&l[i].inc==d.inc&&bA d.seq l[i].seq)
def gP (d:ak) (l:List ak):Bool:=decide (l.length<=64)&&decide (∀i (h:i<l.length),il d l i h=true)
def gO (e:ae):Bool:=bA (Int.ofNat e.over.length) 100&&bA (Int.ofNat e.key.name.length) 2000&&bA (Int.ofNat e.key.domain.length) 2000&&bA (Int.ofNat e.key.path.length) 2000&&bA (Int.ofNat e.aa.value.length) 2000
def eK (pre:ae->Prop) (p:ae->Bool):aQ:={Y:=ae,pre:=pre,args:=fun y=>[.agg y.enc],res:=fun y=> .bool (p y)}
def v7:aQ:={Y:=List ae×Int,pre:=fun y=>y.2<=1000000,args:=fun y=>[eM y.1,i64 y.2],res:=fun y=> .bool (bA (Int.ofNat y.1.length) y.2&&y.1.all gO)}
def JR (y:List ae×Int):aK:={α:=Nat,ok:=fun i=>i<=y.1.length/\(y.1.take i).all gO=true,μ:=fun i=>y.1.length - i,bn:=[],aU:=fun i=>[(0,eM y.1),(5,i64 i)],bP:=fun _=>[]}
theorem EU:CO o7 (eK (fun _=>True) gO):=bZ (cfg:=fun y=>cC bS (cM y)) bJ (fun _=>rfl) (fun _=>pP) (n:=400) (by
 intro (e:ae) _
 repeat' (first|exact trivial|exact rfl|((conv=>whnf);first|(apply aE<;>intro)|apply And.intro))
 all_goals (simp_all[gO]))
noncomputable def yf (f:FuncId):Option aQ:=bif Nat.beq f o7 then some (eK (fun _=>True) gO)else qu f
theorem Fa:∀g C,yf g=some C->CO g C:=bU EU rE
theorem zU:CO oO v7:=bZ (cfg:=fun y=>cC yf (cX oO 4 (JR y))) bJ (fun _=>rfl) (fun _=>Fa) (n:=400) (by
 rintro⟨l,m⟩ (hm:m<=1000000)
 (conv=>whnf)
 refine aE (fun h=>?_) fun h=>?_
 . have h:bA (Int.ofNat l.length) m=false:=by
     have h:bO m (Int.ofNat l.length)=true:=h;rw[cp,Ae]at h;rw[eI,Ag];omega
   (conv=>whnf)
   refine⟨by show false=_;rw[h];rfl,?_⟩
   repeat' (first|exact trivial|exact rfl|((conv=>whnf);first|(apply aE<;>intro)|apply And.intro))
 have h:bA (Int.ofNat l.length) m=true:=by
   have h:bO m (Int.ofNat l.length)=false:=h;rw[cp,Ag]at h;rw[eI,Ae];omega
 have hlen:l.length<=1000000:=by rw[eI,Ae,Aa]at h;omega
 (conv=>whnf)
 refine⟨⟨(0:Nat),⟨Ax _,by simp⟩,?_⟩,?_⟩
 . repeat' (first|exact trivial|exact rfl|((conv=>whnf);first|(apply aE<;>intro)|apply And.intro))
 intro (x:Nat) hx;obtain⟨hx,hn⟩:=hx;have hx:x<=l.length:=hx;have hn:(l.take x).all gO=true:=hn
 (conv=>whnf)
 refine aE (fun hlt=>?_) fun hge=>?_
 . have hlt':x<l.length:=cN hlt
   (conv=>whnf)
   refine aA.2 ⟨_,ee hlt',?_⟩
   (conv=>whnf)
   refine⟨l[x],?_⟩
   repeat ((conv=>whnf);first|refine⟨rfl,?_⟩|refine⟨trivial,?_⟩)
   (conv=>whnf)
   refine aE (fun h1=>?_) fun h1=>?_
   . have h1:(!gO l[x])=true:=h1
     (conv=>whnf)
     refine⟨?_,?_⟩
     . show false=(bA (Int.ofNat l.length) m&&l.all gO)
       rw[h,A9,eq_comm,List.all_eq_false];exact⟨l[x],Au hlt',by simpa using h1⟩
     . repeat' (first|exact trivial|exact rfl|((conv=>whnf);first|(apply aE<;>intro)|apply And.intro))
   . have h1:(!gO l[x])=false:=h1
     (conv=>whnf)
     refine aq.2 ⟨dg x (by omega),?_⟩
     (conv=>whnf)
     refine⟨(x+1:Nat),⟨hlt',?_⟩,by show l.length - (x+1)<l.length - x;omega,?_⟩
     . show(l.take (x+1)).all gO=true
       rw[As hlt',DV,hn];simpa using h1
     . repeat' (first|exact trivial|exact rfl|((conv=>whnf);first|(apply aE<;>intro)|apply And.intro))
 . have hge':l.length<=x:=gN hge;rw[Av hge']at hn
   (conv=>whnf)
   refine⟨by show true=(bA (Int.ofNat l.length) m&&l.all gO);rw[h,hn];rfl,?_⟩
   repeat' (first|exact trivial|exact rfl|((conv=>whnf);first|(apply aE<;>intro)|apply And.intro)))
theorem CE {d:ak} {l:List ak} {x:Nat} (hx:x<l.length) (h:il d l x hx=false):gP d l=false:=by
 unfold gP;rw[Bool.and_eq_false_iff];right;refine AU fun hall=>?_
 rw[hall x hx]at h;cases h
def GO (d:ak) (l:List ak) (ks:List Nat) (s1 s2 s3:Nat):aK:={α:=Nat,ok:=fun i=>i<=l.length/\ ∀j (h:j<l.length),j<i->il d l j h=true,μ:=fun i=>l.length - i,bn:=ks,aU:=fun i=>[(s1,cf l),(s2,i64 (Int.ofNat l.length)),(s3,i64 i)],bP:=fun _=>[]}
theorem Nz:CO pe (eK (fun _=>True) fun e=>gP e.dot e.over):=bZ (C:=eK (fun _=>True) fun e=>gP e.dot e.over) (cfg:=fun(y:ae)=>cC yf (cX pe 4 (GO y.dot y.over [1] 10 11 12))) bJ (fun _=>rfl) (fun _=>Fa) (n:=600) (by
 rintro⟨d,st,kd,ky,ck,l⟩ -
 (conv=>whnf)
 refine aE (fun h=>?_) fun h=>?_
 . have h:64<l.length:=by
     have h:bO 64 (Int.ofNat l.length)=true:=h;rw[cp,Ae,Aa]at h;omega
   (conv=>whnf)
   refine⟨by show false=gP d l;unfold gP;rw[AU (by omega)];rfl,?_⟩
   repeat' (first|exact trivial|exact rfl|((conv=>whnf);first|(apply aE<;>intro)|apply And.intro))
 have h:l.length<=64:=by
   have h:bO 64 (Int.ofNat l.length)=false:=h;rw[cp,Ag,Aa]at h;omega
 (conv=>whnf)
 refine⟨⟨(0:Nat),⟨Ax _,fun _ _ h=>absurd h (Br _)⟩,?_⟩,?_⟩
 . repeat' (first|exact trivial|exact rfl|((conv=>whnf);first|(apply aE<;>intro)|apply And.intro))
 intro (x:Nat) hx;obtain⟨hx,hn⟩:=hx;have hx:x<=l.length:=hx
 (conv=>whnf)
 refine aE (fun hlt=>?_) fun hge=>?_
 . have hlt':x<l.length:=cN hlt;have no:=CE (d:=d) hlt';have yes:il d l x hlt'=true->(GO d l [1] 10 11 12).ok (x+1:Nat):=fun hy=>⟨hlt',fun j hj hjx=>by
     rcases DT j x with h1|h1
     . exact hn j hj h1
     . have e:j=x:=by omega
       subst e;exact hy⟩
   have mu:l.length - (x+1)<l.length - x:=by omega
   (conv=>whnf)
   refine aA.2 ⟨_,ee hlt',?_⟩
   (conv=>whnf)
   refine⟨l[x],?_⟩
   repeat ((conv=>whnf);first|refine⟨rfl,?_⟩|refine⟨trivial,?_⟩)
   (conv=>whnf)
   refine aE (fun h1=>?_) fun h1=>?_
   . have h1:eB l[x]=false:=by
       have h1:(!eB l[x])=true:=h1;simpa using h1
     (conv=>whnf)
     refine⟨by show false=gP d l;rw[no (by simp only[il,h1,A4])],?_⟩
     repeat' (first|exact trivial|exact rfl|((conv=>whnf);first|(apply aE<;>intro)|apply And.intro))
   have h1:eB l[x]=true:=by
     have h1:(!eB l[x])=false:=h1;simpa using h1
   (conv=>whnf)
   refine ah.2 ⟨fun h2=> ?ga,fun h2=> ?gb⟩
   case' ga=>
     have hx0:0<x:=by
       have h2:bO 0 (x:Int)=true:=h2;rw[cp,Ae]at h2;omega
     have hx1:x - 1<l.length:=by omega
     have hget:l[((x:Int) - 1).toNat]? =some l[x - 1]:=by
       rw[show((x:Int) - 1).toNat=x - 1 by omega,Af hx1]
     (conv=>whnf)
     refine aq.2 ⟨by rw[gj];omega,?_⟩
     (conv=>whnf)
     refine aq.2 ⟨by rw[kO,Ae];omega,?_⟩
     (conv=>whnf)
     refine aA.2 ⟨_,hget,?_⟩
     (conv=>whnf)
     refine⟨(l[x - 1],l[x]),?_⟩
     repeat ((conv=>whnf);first|refine⟨rfl,?_⟩|refine⟨trivial,?_⟩)
     (conv=>whnf)
     refine ah.2 ⟨fun h3=> ?gc,fun h3=> ?gd⟩
     case gc=>
       have h3:bR l[x - 1] l[x]=false:=by
         have h3:(!bR l[x - 1] l[x])=true:=h3;simpa using h3
       (conv=>whnf)
       refine⟨by show false=gP d l;rw[no (by simp only[il,h1,h3,AU (show ¬x=0 by omega),D4,BA,A4])],?_⟩
       repeat' (first|exact trivial|exact rfl|((conv=>whnf);first|(apply aE<;>intro)|apply And.intro))
     case' gd=>
       have h3:bR l[x - 1] l[x]=true:=by
         have h3:(!bR l[x - 1] l[x])=false:=h3;simpa using h3
       have hA:il d l x hlt'= !(l[x].dev==d.dev&&l[x].inc==d.inc&&bA d.seq l[x].seq):=by simp only[il,h1,h3,Dp,Dh,A9]
   case' gb=>
     have hx0:x=0:=by
       have h2:bO 0 (x:Int)=false:=h2;rw[cp,Ag]at h2;omega
     have hA:il d l x hlt'= !(l[x].dev==d.dev&&l[x].inc==d.inc&&bA d.seq l[x].seq):=by simp only[il,h1,A7 hx0,DG,Dh,A9]
   all_goals
     (conv=>whnf)
     refine aE (fun h4=>?_) fun h4=>?_
     . have h4:(l[x].dev==d.dev&&l[x].inc==d.inc)=true:=by simpa using h4
       (conv=>whnf)
       refine aE (fun h5=>?_) fun h5=>?_
       . have h5:bA d.seq l[x].seq=true:=h5;rw[h4,h5]at hA
         (conv=>whnf)
         refine⟨by show false=gP d l;rw[no hA],?_⟩
         repeat' (first|exact trivial|exact rfl|((conv=>whnf);first|(apply aE<;>intro)|apply And.intro))
       . have h5:bA d.seq l[x].seq=false:=h5;rw[h4,h5]at hA
         (conv=>whnf)
         refine aq.2 ⟨dg x (by omega),?_⟩
         (conv=>whnf)
         refine⟨(x+1:Nat),yes hA,mu,?_⟩
         repeat' (first|exact trivial|exact rfl|((conv=>whnf);first|(apply aE<;>intro)|apply And.intro))
     . have h4:(l[x].dev==d.dev&&l[x].inc==d.inc)=false:=by
         cases e:(l[x].dev==d.dev&&l[x].inc==d.inc)with
         |false=>rfl
         |true=>
          have e':(l[x].dev==d.dev&&(l[x].inc==d.inc&&true))=false:=h4;rw[Dh,e]at e';cases e'
       rw[h4]at hA
       (conv=>whnf)
       refine aq.2 ⟨dg x (by omega),?_⟩
       (conv=>whnf)
       refine⟨(x+1:Nat),yes hA,mu,?_⟩
       repeat' (first|exact trivial|exact rfl|((conv=>whnf);first|(apply aE<;>intro)|apply And.intro))
 . have hge':l.length<=x:=gN hge
   (conv=>whnf)
   refine⟨?_,?_⟩
   . show true=gP d l
     unfold gP;rw[A7 h,A7 fun i hi=>hn i hi (AK hi hge')];rfl
   . repeat' (first|exact trivial|exact rfl|((conv=>whnf);first|(apply aE<;>intro)|apply And.intro)))
end
section
variable [Inhabited aI]
def dA (b:UInt8):Bool:=(bO (nB b) 32&& !(nB b==9))||nB b==127
def gV (b:UInt8):Bool:=nB b==32||nB b==9
def gW (s:Bs):Bs:=s.dropWhile gV
def iw (s:Bs):Bs:=(s.reverse.dropWhile gV).reverse
def iV (s:Bs):Bs:=iw (gW s)
def l8:aQ:={Y:=Bs,pre:=fun y=>y.length<=1000000,args:=fun y=>[.str y],res:=fun y=> .bool (y.any dA)}
def vt (y:Bs):aK:={α:=Nat,ok:=fun i=>i<=y.length/\(y.take i).any dA=false,μ:=fun i=>y.length - i,bn:=[],aU:=fun i=>[(0, .str y),(5,i64 (Int.ofNat y.length)),(6,i64 i)],bP:=fun _=>[]}
def P4 (y:Bs):aK:={α:=Nat,ok:=fun i=>i<=y.length,μ:=fun i=>y.length - i,bn:=[],aU:=fun i=>[(0, .str y),(3, .bool ((y.take i).any dA)),(4,i64 i)],bP:=fun _=>[]}
def Gj:aQ:={Y:=UInt8,pre:=fun _=>True,args:=fun y=>[.int .u8 (nB y)],res:=fun y=> .bool (gV y)}
def u9:aQ:={Y:=Bs,pre:=fun y=>y.length<=1000000,args:=fun y=>[.str y],res:=fun y=> .str (iV y)}
def OW (y:Bs):aK:={α:=Bs,ok:=fun x=>gW x=gW y/\x.length<=y.length,μ:=fun x=>x.length,bn:=[],aU:=fun x=>[(0, .str x)],bP:=fun _=>[]}
def OX (y:Bs):aK:={α:=Bs,ok:=fun x=>iw x=iV y/\x.length<=y.length,μ:=fun x=>x.length,bn:=[],aU:=fun x=>[(0, .str x)],bP:=fun _=>[]}
def Fw (y:Bs):aK:={α:=Nat,ok:=fun i=>i<=y.length/\gW (y.drop i)=gW y,μ:=fun i=>y.length - i,bn:=[],aU:=fun i=>[(0, .str y),(3,i64 i),(4,i64 (Int.ofNat y.length))],bP:=fun _=>[]}
def Fx (y:Bs):aK:={α:=Nat×Nat,ok:=fun x=>x.1<=x.2/\x.2<=y.length/\iw ((y.drop x.1).take (x.2 - x.1))=iV y,μ:=fun x=>x.2,bn:=[],aU:=fun x=>[(0, .str y),(3,i64 x.1),(4,i64 x.2)],bP:=fun _=>[]}
noncomputable def uF (f:FuncId):Option aQ:=bif Nat.beq f G9 then some Gj else bif Nat.beq f oQ then some l8 else bif Nat.beq f oR then some l8 else qu f
noncomputable def ye (f:FuncId):Option aQ:=bif Nat.beq f mU then some u9 else bif Nat.beq f mV then some u9 else uF f
theorem CN {α:Type} {p:α->Bool} {l:List α} {x:Nat} (h:x<l.length):(l.take (x+1)).any p=((l.take x).any p||p l[x]):=by
 rw[As h,List.any_append];simp
theorem CM {α:Type} {p:α->Bool} {l:List α} {x:Nat} (h:l.length<=x):(l.take x).any p=l.any p:=by rw[Av h]
theorem OZ {α:Type} {p:α->Bool} {l:List α} {x:Nat} (h:x<l.length) (hp:p l[x]=true):l.any p=true:=List.any_eq_true.2 ⟨_,Au h,hp⟩
theorem Qd:CO oQ l8:=bZ (cfg:=fun y=>cC qu (cX oQ 2 (vt y))) bJ (fun _=>rfl) (fun _=>rE) (n:=600) (by
 intro (s:Bs) (hpre:s.length<=1000000)
 (conv=>whnf)
 refine⟨⟨(0:Nat),⟨Ax _,by simp⟩,?_⟩,?_⟩
 . repeat' (first|exact trivial|exact rfl|((conv=>whnf);first|(apply aE<;>intro)|apply And.intro))
 intro (x:Nat) hx;obtain⟨hx,hn⟩:=hx
 (conv=>whnf)
 refine aE (fun hlt=>?_) fun hge=>?_
 . have hlt':x<s.length:=cN hlt;have e:dA s[x]=((bO (nB s[x]) 32&& !(nB s[x]==9))||nB s[x]==127):=rfl;have yes:dA s[x]=true->s.any dA=true:=OZ hlt';have no:dA s[x]=false->(s.take (x+1)).any dA=false:=fun h=>by rw[CN hlt',hn,h];rfl
   repeat' (first|exact trivial|exact rfl|((conv=>whnf);refine aA.2 ⟨_,ee (by assumption),?_⟩)|((conv=>whnf);refine aq.2 ⟨dg _ (by omega),?_⟩)|((conv=>whnf);refine aq.2 ⟨?_,?_⟩)|((conv=>whnf);first|(apply aE<;>intro)|apply And.intro))
   all_goals first
    |(refine(yes ?_).symm;clear yes no e hn;simp_all[dA,nB])
    |((conv=>whnf);refine⟨(x+1:Nat),⟨hlt',no (by clear yes no e hn;simp_all[dA,nB])⟩,by show s.length - (x+1)<s.length - x;omega,?_⟩;repeat' (first|exact trivial|exact rfl|((conv=>whnf);first|(apply aE<;>intro)|apply And.intro)))
 . have hge':s.length<=x:=gN hge;rw[CM hge']at hn
   (conv=>whnf)
   refine⟨hn.symm,?_⟩
   repeat' (first|exact trivial|exact rfl|((conv=>whnf);first|(apply aE<;>intro)|apply And.intro)))
theorem OM:CO oR l8:=bZ (cfg:=fun y=>cC qu (cX oR 3 (P4 y))) bJ (fun _=>rfl) (fun _=>rE) (n:=600) (by
 intro (s:Bs) (hpre:s.length<=1000000)
 (conv=>whnf)
 refine⟨⟨(0:Nat),Ax _,?_⟩,?_⟩
 . repeat' (first|exact trivial|exact rfl|((conv=>whnf);first|(apply aE<;>intro)|apply And.intro))
 intro (x:Nat) hx;have hx:x<=s.length:=hx
 (conv=>whnf)
 refine aE (fun hlt=>?_) fun hge=>?_
 . have hlt':x<s.length:=cN hlt;have fin:∀b:Bool,b=((s.take x).any dA||dA s[x])->b=(s.take (x+1)).any dA:=fun b h=>by rw[CN hlt',h]
   repeat' (first|exact trivial|exact rfl|((conv=>whnf);refine aA.2 ⟨_,ee (by assumption),?_⟩)|((conv=>whnf);refine aq.2 ⟨dg _ (by omega),?_⟩)|((conv=>whnf);refine aq.2 ⟨?_,?_⟩)|((conv=>whnf);first|(apply aE<;>intro)|apply And.intro))
   all_goals ((conv=>whnf);refine⟨(x+1:Nat),hlt',by show s.length - (x+1)<s.length - x;omega,?_⟩;repeat' (first|exact trivial|exact rfl|((conv=>whnf);first|(apply aE<;>intro)|apply And.intro)))
   all_goals (refine fin _ ?_;clear fin;generalize (s.take x).any dA=P at*;simp_all[dA,nB])
 . have hge':s.length<=x:=gN hge
   (conv=>whnf)
   refine⟨CM hge',?_⟩
   repeat' (first|exact trivial|exact rfl|((conv=>whnf);first|(apply aE<;>intro)|apply And.intro)))
theorem N7:CO G9 Gj:=bZ (cfg:=fun y=>cC qu (cM y)) bJ (fun _=>rfl) (fun _=>rE) (n:=400) (by
 intro (b:UInt8) _
 repeat' (first|exact trivial|exact rfl|((conv=>whnf);first|(apply aE<;>intro)|apply And.intro))
 all_goals (simp_all[gV]))
theorem wS:∀g C,uF g=some C->CO g C:=bU N7 (bU Qd (bU OM rE))
theorem zQ {b:UInt8} {s:Bs} (h:gV b=true):gW (b::s)=gW s:=by unfold gW;rw[Dd,An h]
theorem zR {b:UInt8} {s:Bs} (h:gV b=false):gW (b::s)=b::s:=by unfold gW;rw[Dd,Ai (by simp[h])]
theorem zx {b:UInt8} {s:Bs} (h:gV b=true):iw (s++[b])=iw s:=by unfold iw;rw[ET,Dm,Db,Dd,An h]
theorem zy {b:UInt8} {s:Bs} (h:gV b=false):iw (s++[b])=s++[b]:=by unfold iw;rw[ET,Dm,Db,Dd,Ai (by simp[h])];simp
theorem zw {s:Bs} (h:s≠[]):(gV (s.getLast h)=true->iw s.dropLast=iw s)/\(gV (s.getLast h)=false->iw s=s):=by
 have e:=List.dropLast_concat_getLast h;constructor
 . intro hb;rw[<-e,zx hb];simp
 . intro hb;rw[<-e,zy hb]
theorem O7:CO mU u9:=bZ (cfg:=fun y=>cC uF (pV mU 1 (OW y) (cX mU 3 (OX y)))) bJ (fun _=>rfl) (fun _=>wS) (n:=600) (by
 intro (y:Bs) (hpre:y.length<=1000000)
 (conv=>whnf)
 refine⟨⟨y,⟨rfl,Aj _⟩,?_⟩,?_⟩
 . repeat' (first|exact trivial|exact rfl|((conv=>whnf);first|(apply aE<;>intro)|apply And.intro))
 intro (x:Bs) hx;obtain⟨h1,h2⟩:=hx;have h2:x.length<=y.length:=h2
 (conv=>whnf)
 refine ah.2 ⟨fun hne=> ?ne,fun he=> ?eq⟩
 case' eq=>
   have hL:gW x=x:=by
     have he:(!(x==[]))=false:=he;simp at he;subst he;rfl
 case' ne=>
   obtain⟨b,x',rfl⟩:∃b x',x=b::x':=by
     cases x with
     |nil=>cases hne
     |cons b x=>exact⟨b,x,rfl⟩
   (conv=>whnf)
   refine⟨b,?_⟩
   repeat ((conv=>whnf);first|refine⟨rfl,?_⟩|refine⟨trivial,?_⟩)
   (conv=>whnf)
   refine ah.2 ⟨fun hb=> ?bt,fun hb=> ?bf⟩
   case' bf=>have hL:=zR (s:=x') hb
   case bt=>
     (conv=>whnf)
     refine aq.2 ⟨rfl,?_⟩
     (conv=>whnf)
     refine⟨x',⟨by show gW x'=gW y;rw[<-h1,zQ hb],by show x'.length<=y.length;simp at h2;omega⟩,by show x'.length<(b::x').length;simp,?_⟩
     repeat' (first|exact trivial|exact rfl|((conv=>whnf);first|(apply aE<;>intro)|apply And.intro))
 all_goals
   rw[hL]at h1
   (conv=>whnf)
   refine⟨⟨_,⟨by show _=iw (gW y);rw[<-h1],h2⟩,?_⟩,?_⟩
   . repeat' (first|exact trivial|exact rfl|((conv=>whnf);first|(apply aE<;>intro)|apply And.intro))
   clear h2;intro (z:Bs) hz;obtain⟨z1,z2⟩:=hz;have z2:z.length<=y.length:=z2;have z1:iw z=iV y:=z1
   (conv=>whnf)
   refine aE (fun hz0=>?_) fun hz0=>?_
   . have hz0:z≠[]:=by
       have hz0:(!(z==[]))=true:=hz0;simpa using hz0
     have hpos:=Bb.2 hz0;have hlast:z[(Int.ofNat z.length - 1).toNat]? =some (z.getLast hz0):=by
       rw[List.getLast_eq_getElem,show(Int.ofNat z.length - 1).toNat=z.length - 1 by simp only[Aa];omega,Af (by omega)]
     have hdrop:z.take (Int.ofNat z.length - 1).toNat=z.dropLast:=by
       rw[show(Int.ofNat z.length - 1).toNat=z.length - 1 by simp only[Aa];omega,List.dropLast_eq_take]
     have hir:bw .i64 (Int.ofNat z.length - 1)=true:=by rw[gj];simp only[Aa];omega
     (conv=>whnf)
     refine aq.2 ⟨hir,?_⟩
     (conv=>whnf)
     refine aq.2 ⟨by rw[kO,Ae];simp only[Aa];omega,?_⟩
     (conv=>whnf)
     refine aA.2 ⟨_,hlast,?_⟩
     (conv=>whnf)
     refine⟨z.getLast hz0,?_⟩
     repeat ((conv=>whnf);first|refine⟨rfl,?_⟩|refine⟨trivial,?_⟩)
     (conv=>whnf)
     refine aE (fun hb=>?_) fun hb=>?_
     . (conv=>whnf)
       refine aq.2 ⟨hir,?_⟩
       (conv=>whnf)
       refine aq.2 ⟨by rw[kO,Ae];simp only[Aa];omega,?_⟩
       (conv=>whnf)
       refine aq.2 ⟨by rw[AY];simp only[Aa];omega,?_⟩
       (conv=>whnf)
       refine⟨z.take (Int.ofNat z.length - 1).toNat,⟨?_,?_⟩,?_,?_⟩
       . show iw (z.take (Int.ofNat z.length - 1).toNat)=iV y
         rw[hdrop,(zw hz0).1 hb];exact z1
       . show(z.take (Int.ofNat z.length - 1).toNat).length<=y.length
         rw[hdrop,ER];omega
       . show(z.take (Int.ofNat z.length - 1).toNat).length<z.length
         rw[hdrop,ER];omega
       . repeat' (first|exact trivial|exact rfl|((conv=>whnf);first|(apply aE<;>intro)|apply And.intro))
     . have:=(zw hz0).2 hb
       (conv=>whnf)
       refine⟨by rw[<-this];exact z1,?_⟩
       repeat' (first|exact trivial|exact rfl|((conv=>whnf);first|(apply aE<;>intro)|apply And.intro))
   . have hz0:z=[]:=by
       have hz0:(!(z==[]))=false:=hz0;simpa using hz0
     subst hz0
     (conv=>whnf)
     refine⟨z1,?_⟩
     repeat' (first|exact trivial|exact rfl|((conv=>whnf);first|(apply aE<;>intro)|apply And.intro)))
theorem yP {s:Bs} {x:Nat} (h:x<s.length):s.drop x=s[x]::s.drop (x+1):=DM h
theorem ME {s:Bs} {a b:Nat} (h1:a<b) (h2:b<=s.length):(s.drop a).take (b - a)=(s.drop a).take (b - 1 - a)++[s[b - 1]'(by omega)]:=by
 have:b - a=b - 1 - a+1:=by omega
 rw[this,As (by simp;omega)];congr 2
 simp only[Dc];congr 1
 omega
theorem NL:CO mV u9:=bZ (cfg:=fun y=>cC uF (pV mV 3 (Fw y) (cX mV 5 (Fx y)))) bJ (fun _=>rfl) (fun _=>wS) (n:=600) (by
 intro (y:Bs) (hpre:y.length<=1000000)
 (conv=>whnf)
 refine⟨⟨(0:Nat),⟨Ax _,rfl⟩,?_⟩,?_⟩
 . repeat' (first|exact trivial|exact rfl|((conv=>whnf);first|(apply aE<;>intro)|apply And.intro))
 intro (x:Nat) hx;obtain⟨h1,h2⟩:=hx;have h1:x<=y.length:=h1;have h2:gW (y.drop x)=gW y:=h2;have step:∀hx:x<y.length,gV y[x]=true->(Fw y).ok (x+1:Nat):=fun hx hb=>⟨hx,by rw[<-h2,yP hx,zQ hb]⟩
 have mu:∀hx:x<y.length,y.length - (x+1)<y.length - x:=fun hx=>by omega
 have stop:∀hx:x<y.length,gV y[x]=false->y.drop x=gW y:=fun hx hb=>by
   rw[<-h2,yP hx,zR hb]
 (conv=>whnf)
 refine ah.2 ⟨fun hlt=> ?wa,fun hge=> ?we⟩
 case' we=>
   have hL:y.drop x=gW y:=by
     have hge:y.length<=x:=gN hge;rw[<-h2,List.drop_eq_nil_of_le hge];rfl
 case' wa=>
   have hlt':x<y.length:=cN hlt
   (conv=>whnf)
   refine aA.2 ⟨_,ee hlt',?_⟩
   (conv=>whnf)
   refine ah.2 ⟨fun hb=> ?wb,fun hb=> ?wc⟩
   case wb=>
     have hb:nB y[x]=32:=by
       have hb:(nB y[x]==32)=true:=hb;simpa using hb
     (conv=>whnf)
     refine aq.2 ⟨dg x (by omega),?_⟩
     (conv=>whnf)
     refine⟨(x+1:Nat),step hlt' (by simp[gV,hb]),mu hlt',?_⟩
     repeat' (first|exact trivial|exact rfl|((conv=>whnf);first|(apply aE<;>intro)|apply And.intro))
   case' wc=>
     have hb:(nB y[x]==32)=false:=hb
     (conv=>whnf)
     refine aA.2 ⟨_,ee hlt',?_⟩
     (conv=>whnf)
     refine ah.2 ⟨fun hc=> ?wd,fun hc=> ?wf⟩
     case wd=>
       have hc:(nB y[x]==9)=true:=hc
       (conv=>whnf)
       refine aq.2 ⟨dg x (by omega),?_⟩
       (conv=>whnf)
       refine⟨(x+1:Nat),step hlt' (by simp only[gV,hb,hc,Dp]),mu hlt',?_⟩
       repeat' (first|exact trivial|exact rfl|((conv=>whnf);first|(apply aE<;>intro)|apply And.intro))
     case' wf=>
       have hc:(nB y[x]==9)=false:=hc;have hL:y.drop x=gW y:=stop hlt' (by simp only[gV,hb,hc,D4])
 all_goals
   clear step mu stop
   (conv=>whnf)
   refine⟨⟨((x,y.length):Nat×Nat),⟨h1,Aj _,by show iw ((y.drop x).take (y.length - x))=iw (gW y);rw[<-hL,Av (by simp)]⟩,?_⟩,?_⟩
   . repeat' (first|exact trivial|exact rfl|((conv=>whnf);first|(apply aE<;>intro)|apply And.intro))
   rintro⟨a,b⟩ ⟨k1,k2,k3⟩;have k1:a<=b:=k1;have k2:b<=y.length:=k2;have k3:iw ((y.drop a).take (b - a))=iV y:=k3
   (conv=>whnf)
   refine aE (fun hlt=>?_) fun hge=>?_
   . have hab:a<b:=by
       have hlt:bO (a:Int) (b:Int)=true:=hlt;rw[cp,Ae]at hlt;omega
     have hl:=ME hab k2;have hbl:b - 1<y.length:=by omega
     have hget:y[((b:Int) - 1).toNat]? =some y[b - 1]:=by
       rw[show((b:Int) - 1).toNat=b - 1 by omega,Af hbl]
     have hir:bw .i64 ((b:Int) - 1)=true:=by rw[gj];omega
     have hnn:nn ((b:Int) - 1)=true:=by rw[kO,Ae];omega
     have hb1:((b:Int) - 1)=((b - 1:Nat):Int):=by omega
     have step:gV y[b - 1]=true->(Fx y).ok ((a,b - 1):Nat×Nat):=fun hb=>⟨by show a<=b - 1;omega,by show b - 1<=y.length;omega,by show iw ((y.drop a).take (b - 1 - a))=iV y;rw[<-k3,hl,zx hb]⟩
     have stop:gV y[b - 1]=false->(y.drop a).take (b - a)=iV y:=fun hb=>by rw[<-k3,hl,zy hb]
     have mu:b - 1<b:=by omega
     repeat (first|((conv=>whnf);refine aq.2 ⟨hir,?_⟩)|((conv=>whnf);refine aq.2 ⟨hnn,?_⟩)|((conv=>whnf);refine aA.2 ⟨_,hget,?_⟩))
     (conv=>whnf)
     refine aE (fun hb=>?_) fun hb=>?_
     . have hb:(nB y[b - 1]==32)=true:=hb
       repeat (first|((conv=>whnf);refine aq.2 ⟨hir,?_⟩))
       (conv=>whnf)
       refine⟨((a,b - 1):Nat×Nat),step (by simp only[gV,hb,DG]),mu,?_⟩
       repeat' (first|exact trivial|exact rfl|((conv=>whnf);first|(apply aE<;>intro)|apply And.intro))
       all_goals ((conv=>whnf);exact hb1)
     . have hb:(nB y[b - 1]==32)=false:=hb
       repeat (first|((conv=>whnf);refine aq.2 ⟨hir,?_⟩)|((conv=>whnf);refine aq.2 ⟨hnn,?_⟩)|((conv=>whnf);refine aA.2 ⟨_,hget,?_⟩))
       (conv=>whnf)
       refine aE (fun hc=>?_) fun hc=>?_
       . have hc:(nB y[b - 1]==9)=true:=hc
         repeat (first|((conv=>whnf);refine aq.2 ⟨hir,?_⟩))
         (conv=>whnf)
         refine⟨((a,b - 1):Nat×Nat),step (by simp only[gV,hb,hc,Dp]),mu,?_⟩
         repeat' (first|exact trivial|exact rfl|((conv=>whnf);first|(apply aE<;>intro)|apply And.intro))
         all_goals ((conv=>whnf);exact hb1)
       . have hc:(nB y[b - 1]==9)=false:=hc;have:=stop (by simp only[gV,hb,hc,D4])
         (conv=>whnf)
         refine aq.2 ⟨by show(Nat.ble a b&&Nat.ble b y.length)=true;rw[Ad,AY,AY];omega,?_⟩
         (conv=>whnf)
         refine⟨this,?_⟩
         repeat' (first|exact trivial|exact rfl|((conv=>whnf);first|(apply aE<;>intro)|apply And.intro))
   . have hab:a=b:=by
       have hge:bO (a:Int) (b:Int)=false:=hge;rw[cp,Ag]at hge;omega
     subst hab
     (conv=>whnf)
     refine aq.2 ⟨by show(Nat.ble a a&&Nat.ble a y.length)=true;rw[Ad,AY,AY];omega,?_⟩
     (conv=>whnf)
     refine⟨?_,?_⟩
     . show(y.drop a).take (a - a)=iV y
       rw[<-k3,Nat.sub_self,DZ];rfl
     repeat' (first|exact trivial|exact rfl|((conv=>whnf);first|(apply aE<;>intro)|apply And.intro)))
theorem E9:∀g C,ye g=some C->CO g C:=bU O7 (bU NL wS)
end
section
variable [Inhabited aI]
def iq (s:Bs) (most:Int) (signs:Bs):Bool:=bA (Int.ofNat s.length) most&& !s.any dA&&decide (iV s=s)&&signs.all fun c=>(cu s (nB c)).isNone
def Gn:aQ:={Y:=Bs×Int×Bs,pre:=fun y=>y.1.length<=1000000/\y.2.2.length<=100,args:=fun y=>[.str y.1,i64 y.2.1, .aH UInt8 y.2.2 cH],res:=fun y=> .bool (iq y.1 y.2.1 y.2.2)}
def OT (y:Bs×Int×Bs):aK:={α:=Nat,ok:=fun i=>i<=y.2.2.length/\(y.2.2.take i).all (fun c=>(cu y.1 (nB c)).isNone)=true,μ:=fun i=>y.2.2.length - i,bn:=[],aU:=fun i=>[(0, .str y.1),(26, .aH UInt8 y.2.2 cH),(27,i64 (Int.ofNat y.2.2.length)),(28,i64 i)],bP:=fun _=>[]}
theorem N0 {a b:Int} (h:bO a b=true):bA b a=false:=by
 rw[cp,Ae]at h;rw[eI,Ag];omega
theorem N1 {a b:Int} (h:bO a b=false):bA b a=true:=by
 rw[cp,Ag]at h;rw[eI,Ae];omega
theorem Ch (s:Bs) (c:Int):(dh s c).2.2=(cu s c).isSome:=by
 unfold dh
 cases cu s c<;>rfl
theorem NB:CO oT Gn:=bZ (cfg:=fun y=>cC ye (cX oT 4 (OT y))) bJ (fun _=>rfl) (fun _=>E9) (n:=600) (by
 rintro⟨s,m,g⟩ ⟨(hs:s.length<=1000000),(hg:g.length<=100)⟩;have yes:(iq s m g=false)-> .bool false=SV.bool (iq s m g):=fun h=>by rw[h]
 (conv=>whnf)
 refine aE (fun h=>?_) fun h=>?_
 . have h:bA (Int.ofNat s.length) m=false:=N0 h;have:iq s m g=false:=by simp only[iq,h,A4]
   (conv=>whnf)
   refine⟨this.symm,?_⟩
   repeat' (first|exact trivial|exact rfl|((conv=>whnf);first|(apply aE<;>intro)|apply And.intro))
 have h1:bA (Int.ofNat s.length) m=true:=N1 h
 (conv=>whnf)
 refine⟨s,?_⟩
 repeat ((conv=>whnf);first|refine⟨rfl,?_⟩|refine⟨hs,?_⟩)
 (conv=>whnf)
 refine aE (fun h=>?_) fun h=>?_
 . have h:s.any dA=true:=h;have:iq s m g=false:=by simp only[iq,h,BN,BA,A4]
   (conv=>whnf)
   refine⟨this.symm,?_⟩
   repeat' (first|exact trivial|exact rfl|((conv=>whnf);first|(apply aE<;>intro)|apply And.intro))
 have h2:s.any dA=false:=h
 (conv=>whnf)
 refine⟨s,?_⟩
 repeat ((conv=>whnf);first|refine⟨rfl,?_⟩|refine⟨hs,?_⟩)
 (conv=>whnf)
 refine aE (fun h=>?_) fun h=>?_
 . have h:decide (iV s=s)=false:=by
     have h:(!(iV s==s))=true:=h;simpa using h
   have:iq s m g=false:=by simp only[iq,h,BA,A4]
   (conv=>whnf)
   refine⟨this.symm,?_⟩
   repeat' (first|exact trivial|exact rfl|((conv=>whnf);first|(apply aE<;>intro)|apply And.intro))
 have h3:decide (iV s=s)=true:=by
   have h:(!(iV s==s))=false:=h;simpa using h
 have hp:iq s m g=g.all fun c=>(cu s (nB c)).isNone:=by simp only[iq,h1,h2,h3,Dq,A9]
 (conv=>whnf)
 refine⟨⟨(0:Nat),⟨Ax _,by simp⟩,?_⟩,?_⟩
 . repeat' (first|exact trivial|exact rfl|((conv=>whnf);first|(apply aE<;>intro)|apply And.intro))
 intro (x:Nat) hx;obtain⟨hx,hn⟩:=hx;have hx:x<=g.length:=hx;have hn:(g.take x).all (fun c=>(cu s (nB c)).isNone)=true:=hn
 (conv=>whnf)
 refine aE (fun hlt=>?_) fun hge=>?_
 . have hlt':x<g.length:=cN hlt
   (conv=>whnf)
   refine aA.2 ⟨_,ee hlt',?_⟩
   (conv=>whnf)
   refine⟨(s,nB g[x]),?_⟩
   repeat ((conv=>whnf);first|refine⟨rfl,?_⟩|refine⟨hs,?_⟩)
   (conv=>whnf)
   refine aE (fun h=>?_) fun h=>?_
   . have h:(cu s (nB g[x])).isSome=true:=by rw[<-Ch];exact h
     have:iq s m g=false:=by
       rw[hp,List.all_eq_false];exact⟨g[x],Au hlt',by simp[Option.isNone_iff_eq_none,DI.1 h]⟩
     (conv=>whnf)
     refine⟨this.symm,?_⟩
     repeat' (first|exact trivial|exact rfl|((conv=>whnf);first|(apply aE<;>intro)|apply And.intro))
   . have h:(cu s (nB g[x])).isSome=false:=by rw[<-Ch];exact h
     (conv=>whnf)
     refine aq.2 ⟨dg x (by omega),?_⟩
     (conv=>whnf)
     refine⟨(x+1:Nat),⟨hlt',?_⟩,by show g.length - (x+1)<g.length - x;omega,?_⟩
     . show(g.take (x+1)).all (fun c=>(cu s (nB c)).isNone)=true
       rw[As hlt',DV,hn];simpa using h
     . repeat' (first|exact trivial|exact rfl|((conv=>whnf);first|(apply aE<;>intro)|apply And.intro))
 . have hge':g.length<=x:=gN hge;rw[Av hge']at hn
   (conv=>whnf)
   refine⟨by show true=iq s m g;rw[hp,hn],?_⟩
   repeat' (first|exact trivial|exact rfl|((conv=>whnf);first|(apply aE<;>intro)|apply And.intro)))
end
section
variable [Inhabited aI]
def hU (b:UInt8):UInt8:=if 65<=b.toNat/\b.toNat<=90 then b+32 else b
def ep (s:Bs):Bs:=s.map hU
def gK (w:World) (b:Nat) (l:Bs):Prop:=∃arr,w.heap[b]? =some (.cells arr 5 (arr.size,arr.size+1))/\l.length<=arr.size/\ ∀j (h:j<l.length),arr[j]? =some (.int .u8 l[j].toNat)
theorem gK.cell {w:World} {b:Nat} {l:Bs} (h:gK w b l) {j:Nat} (hj:j<l.length):w.cell? ⟨b,j,none⟩=some (.int .u8 l[j].toNat):=by
 obtain⟨arr,h1,_,h3⟩:=h;simp[World.cell?,h1,h3 j hj]
theorem gK.free {w:World} {b:Nat} {l:Bs} (h:gK w b l) {j:Nat} (hj:j<l.length):w.frozen? ⟨b,j,none⟩=false:=by
 obtain⟨arr,h1,h2,_⟩:=h;simp[World.frozen?,h1];omega
theorem gK.set {w:World} {b:Nat} {l:Bs} (h:gK w b l) (k:Nat) (c:UInt8):gK (w.setCell ⟨b,k,none⟩ (.int .u8 c.toNat)) b (l.set k c):=by
 obtain⟨arr,h1,h2,h3⟩:=h;have hlt:=(Ac.1 h1).1;refine⟨arr.setIfInBounds k (.int .u8 c.toNat),?_,by simpa using h2,fun j hj=>?_⟩
 . have h4:=(Ac.1 h1).2;simp only[World.setCell,Dt,h1];simp
 . have hj':j<l.length:=by simpa using hj
   rw[Bt,List.getElem_set];by_cases e:k=j
   . subst e;simp;omega
   . simp only[e,AP];exact h3 j hj'
theorem Qw (b:UInt8) (w:World):Calls Tryz.prog 170 #[.int .u8 b.toNat] w fun e w'=>e= .returned (.int .u8 (hU b).toNat)/\w'=w:=by
 have hb:=b.toNat_lt;by_cases h1:65<=b.toNat
 . by_cases h2:b.toNat<=90
   . go_enter Tryz.func170,Tryz.ntmps170
     go_wp2;go_ret;refine⟨?_,rfl⟩;unfold hU;rw[An ⟨h1,h2⟩];have e:(b+32).toNat=b.toNat+32:=by
      rw[UInt8.toNat_add,show(32:UInt8).toNat=32 from rfl];omega
     rw[e];simp;omega
   . go_enter Tryz.func170,Tryz.ntmps170
     go_wp2;go_ret;refine⟨?_,rfl⟩;unfold hU;rw[Ai (fun h=>h2 h.2)];rfl
 . go_enter Tryz.func170,Tryz.ntmps170
   go_wp2;go_ret;refine⟨?_,rfl⟩;unfold hU;rw[Ai (fun h=>h1 h.1)];rfl
theorem Py (s:Bs) (w:World) (hl:s.length<=1000000):Calls Tryz.prog 129 #[.string ⟨s.toArray⟩] w fun e w'=>e= .returned (.string ⟨(ep s).toArray⟩)/\Below w.heap.size w w'/\w.drawn<=w'.drawn:=by
 have hcv:= @run_bytes_of_string Tryz.prog;have hcb:= @run_convert_bytes_back Tryz.prog;go_enter Tryz.func129,Tryz.ntmps129
 go_wp2;have hrow0:∀c,gK (w.drew.alloc (.cells (bytesRow ⟨s.toArray⟩ c) 5 ((bytesRow ⟨s.toArray⟩ c).size,(bytesRow ⟨s.toArray⟩ c).size+1))) w.heap.size s:=fun c=>by
  refine⟨bytesRow ⟨s.toArray⟩ c,?_,?_,fun j hj=>?_⟩
  . show(w.heap.push _)[w.heap.size]? =_
    simp
  . simp[bytesRow]
  . rw[bytesRow_at _ _ _ (by simpa using hj)];simp
 go_loopw [9] (fun i wr=>∃k:Nat,k<=s.length/\i= .int .i64 k/\gK wr w.heap.size ((ep s).take k++s.drop k)/\Below w.heap.size w wr/\w.drawn<=wr.drawn) (fun i _=>s.length - (intOf i).toNat)
 case atStart=>exact⟨0,Ax _,rfl,hrow0 _,((Below.refl _ _).drew).alloc (Aj _) _,EM _⟩
 case round=>
  obtain⟨k,hk,rfl,hrow,hbel,hdr⟩:=hrel;by_cases hlt:k<s.length
  . have hlen:((ep s).take k++s.drop k).length=s.length:=by simp[ep];omega
    have hk2:k<((ep s).take k++s.drop k).length:=by omega
    have hc:=hrow.cell hk2;have hf:=hrow.free hk2;have hel:((ep s).take k++s.drop k)[k]=s[k]:=by
     rw[List.getElem_append_right (by simp[ep];omega)];simp[ep,Nat.min_eq_left (Nat.le_of_lt hlt)]
    rw[hel]at hc;have hcall:=Qw s[k] wr;go_wp2_with (go_at_call 170;refine hcall.mono ?_;rintro e w1 ⟨rfl,rfl⟩)
    have hset:((ep s).take k++s.drop k).set k (hU s[k])=(ep s).take (k+1)++s.drop (k+1):=by
     have hz:k - ((ep s).take k).length=0:=by simp[ep];omega
     rw[List.set_append_right _ _ (by simp[ep];omega),hz,DM hlt,As (by simpa [ep]using hlt),List.set_cons_zero];simp[ep]
    refine⟨⟨k+1,hlt,by go_num,?_,hbel.setCell (Aj _) _,hdr⟩,by simp[intOf];omega⟩;rw[<-hset];exact hrow.set k _
  . have hkl:k=s.length:=by omega
    subst hkl;have hrow':gK wr w.heap.size (ep s):=by
     rw[List.drop_length,B9,Av (by simp[ep])]at hrow;exact hrow
    have hback:∀c,(convert 188 9 (.slice (some ⟨w.heap.size,0,none⟩) s.length c)).run Tryz.prog wr= .ok (.string ⟨(ep s).toArray⟩) wr:=fun c=>by
     have:=hcb wr 188 9 5 ⟨w.heap.size,0,none⟩ c (ep s) Tryz.underlying188 Tryz.underlying5 Tryz.underlying9 (fun j hj=>by
      have:=hrow'.cell hj;unfold Addr.add;split
      . rename_i h0;subst h0;exact this
      . simpa using this)
     simpa [ep]using this
    clear hcb hcv hrow0;go_wp2;go_ret;exact⟨rfl,hbel,hdr⟩
theorem Oj:CO G8 {Y:=Bs,pre:=fun y=>y.length<=1000000,args:=fun y=>[.str y],res:=fun y=> .str (ep y)}:=lC bJ.ok (by
 rintro s hs w args - ⟨h1,h2⟩;match args,h1 with
 |[v],_=>
 have hv:v= .string ⟨s.toArray⟩:=by
  have:=h2 0 _ _ rfl rfl
  cases this;rfl
 subst hv;refine(Py s w hs).mono ?_;rintro e w' ⟨rfl,hb,hd⟩;exact⟨_,rfl, .inr (.str _),hb,fun _=>hd⟩)
end
end Go.Proofs
namespace Go.Proofs
open Go Go.Am Go.RowKit Go.Sy Go.Gm
def dN (a:Int×Int):Value:= .agg #[.int .i64 a.1, .int .i64 a.2]
def aX (d:ak):Value:= .agg #[.int .i64 d.dev, .int .i64 d.inc, .int .i64 d.seq]
def eL (k:bg):Value:= .agg #[.string ⟨k.name.toArray⟩, .string ⟨k.domain.toArray⟩, .string ⟨k.path.toArray⟩]
def cz (n:Int):Value:= .int .i64 n
theorem QE (x y:Int×Int) (w:World):(Op.equal sb (dN x) (dN y)).run Tryz.prog w= .ok (decide (x=y)) w:=by
 letI:Inhabited aI:=⟨⟨True,#[]⟩⟩
 have h0:eqT Tryz.tab 8 sb (.agg [.int .i64 x.1, .int .i64 x.2]) (.agg [.int .i64 y.1, .int .i64 y.2])=(if(x.1==y.1)=true then(if(x.2==y.2)=true then .ok true else .ok false)else .ok false:R Bool):=by kernel_rfl
 have h:eqT Tryz.tab 8 sb (.agg [.int .i64 x.1, .int .i64 x.2]) (.agg [.int .i64 y.1, .int .i64 y.2])= .ok (decide (x=y)):=by
  rw[h0];by_cases e1:x.1=y.1<;>by_cases e2:x.2=y.2<;>simp[e1,e2,Prod.ext_iff]
 exact ou Tryz.iP (E:=⟨fun i=>i,fun _=>0⟩) 8 sb _ _ _ h 9992 w
theorem QF (x y:ak) (w:World):(Op.equal Ty.nN (aX x) (aX y)).run Tryz.prog w= .ok (decide (x=y)) w:=by
 letI:Inhabited aI:=⟨⟨True,#[]⟩⟩
 have h0:eqT Tryz.tab 8 Ty.nN (.agg [.int .i64 x.dev, .int .i64 x.inc, .int .i64 x.seq]) (.agg [.int .i64 y.dev, .int .i64 y.inc, .int .i64 y.seq])=(do if(<-(if(x.dev==y.dev)=true then(if(x.inc==y.inc)=true then .ok true else .ok false)else .ok false:R Bool))=true then(if(x.seq==y.seq)=true then .ok true else .ok false)else .ok false:R Bool):=by kernel_rfl
 have h:eqT Tryz.tab 8 Ty.nN (.agg [.int .i64 x.dev, .int .i64 x.inc, .int .i64 x.seq]) (.agg [.int .i64 y.dev, .int .i64 y.inc, .int .i64 y.seq])= .ok (decide (x=y)):=by
  rw[h0];by_cases e1:x.dev=y.dev<;>by_cases e2:x.inc=y.inc<;>by_cases e3:x.seq=y.seq
  all_goals first|(rw[A7 (ak.ext_iff.2 ⟨e1,e2,e3⟩)];simp only[e1,e2,e3,Du,Bq];rfl)|(rw[AU (fun h=>by rw[ak.ext_iff]at h;simp_all)];simp[e1,e2,e3];try rfl)
 exact ou Tryz.iP (E:=⟨fun i=>i,fun _=>0⟩) 8 Ty.nN _ _ _ h 9992 w
theorem NZ (x y:bg):x=y↔x.name=y.name/\x.domain=y.domain/\x.path=y.path:=by
 cases x;cases y;simp
theorem QG (x y:bg) (w:World):(Op.equal si (eL x) (eL y)).run Tryz.prog w= .ok (decide (x=y)) w:=by
 letI:Inhabited aI:=⟨⟨True,#[]⟩⟩
 have h0:eqT Tryz.tab 8 si (.agg [.str x.name, .str x.domain, .str x.path]) (.agg [.str y.name, .str y.domain, .str y.path])=(if(x.name==y.name)=true then(if(x.domain==y.domain)=true then(if(x.path==y.path)=true then .ok true else .ok false)else .ok false)else .ok false:R Bool):=by kernel_rfl
 have h:eqT Tryz.tab 8 si (.agg [.str x.name, .str x.domain, .str x.path]) (.agg [.str y.name, .str y.domain, .str y.path])= .ok (decide (x=y)):=by
  rw[h0];by_cases e1:x.name=y.name<;>by_cases e2:x.domain=y.domain<;>by_cases e3:x.path=y.path<;>simp[e1,e2,e3,NZ]
 exact ou Tryz.iP (E:=⟨fun i=>i,fun _=>0⟩) 8 si _ _ _ h 9992 w
theorem yo:KeyLaw Tryz.prog sb dN:=⟨fun b k w=>by kernel_rfl,QE,fun k=>by simp[Instr.sameBits,dN],⟨_,Tryz.underlying69⟩⟩
theorem fJ:KeyLaw Tryz.prog Ty.nN aX:=⟨fun b k w=>by kernel_rfl,QF,fun k=>by simp[Instr.sameBits,aX],⟨_,Tryz.underlying71⟩⟩
theorem xq (a:ByteArray):(a==a)=true:=by
 rw[beq_toListBytes];simp
theorem vo:KeyLaw Tryz.prog si eL:=⟨fun b k w=>by kernel_rfl,QG,fun k=>by(simp[Instr.sameBits,eL];exact⟨xq _,xq _,xq _⟩),⟨_,Tryz.underlying47⟩⟩
theorem rY (w:World):(zeroValue 3).run Tryz.prog w= .ok (cz 0) w:=by kernel_rfl
theorem jX {w:World} {bs bv:Nat} {L:List ((Int×Int)×Int)} (hs:w.cell? ⟨bs,0,none⟩=some (.map (some bv))) (hm:aw w bv dN cz L) (a i:Int):
  Calls Tryz.prog 62 #[.pointer (some ⟨bs,0,none⟩), .agg #[.int .i64 a, .int .i64 i]] w fun e w'=>e= .returned (.int .i64 ((az L (a,i)).getD 0))/\Below w.heap.size w w':=by
 have hlk:∀w':World,w'.heap[bv]? =w.heap[bv]? ->(Instr.lookup 154 (.map (some bv)) (.agg #[.int .i64 a, .int .i64 i]) false).run Tryz.prog w'= .ok (.int .i64 ((az L (a,i)).getD 0)) w':=fun w' h=>by
  have:=(hm.same h).lookup yo Tryz.underlying154 (rY w') (a,i) false;simp only[Ao,AP]at this;rw[show dN (a,i)= .agg #[.int .i64 a, .int .i64 i]from rfl]at this;rw[this]
  cases az L (a,i)<;>rfl
 have hbv:bv<w.heap.size:=by
  obtain⟨es,clk,h,_⟩:=hm.at_;exact(Ac.1 h).1
 have hbs:bs<w.heap.size:=by
  unfold World.cell? at hs
  cases h:w.heap[bs]? with
  |none=>simp[h]at hs
  |some o=>exact(Ac.1 h).1
 go_enter Tryz.func62,Tryz.ntmps62
 go_wp2;have hl2:=hlk (w.alloc (.cells #[.int .i64 a, .int .i64 i] 69)).drew (Below.heap_alloc w _ bv hbv);have hs2:(w.alloc (.cells #[.int .i64 a, .int .i64 i] 69)).cell? ⟨bs,0,none⟩=some (.map (some bv)):=by
  rw[<-hs];exact((Below.refl w.heap.size w).alloc (Aj _) _).cell hbs
 clear hlk;go_region
 go_wp2;go_ret;exact⟨rfl,((Below.refl w.heap.size w).alloc (Aj _) _).drew⟩
end Go.Proofs
namespace Go.Proofs
open Go Go.Am Go.RowKit Go.Sy
section
variable [Inhabited aI]
theorem Tryz.qM:Tryz.tab.fns.get lk=some Tryz.f6:=by kernel_rfl
theorem Qr:xm (run Tryz.tab 200000 {fr:=af.enter Tryz.f6 lk (Tryz.f6.body.getD .skip) [] .normal,cs:=[],h:=eF})=true:=by kernel_rfl
theorem Lm:CO lk uk:=LX Tryz.qM Qr
end
end Go.Proofs
