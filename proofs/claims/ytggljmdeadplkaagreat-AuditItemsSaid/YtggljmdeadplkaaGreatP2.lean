/- Part 2: an evaluator, proved sound, and its use at this seat; no condition. -/
import Derived.KernelRfl
import Derived.Test.YtggljmdeadplkaaGreatRows
import Derived.WalkKit
import Derived.ProofKit
import Derived.OpenShut
import Derived.Test.YtggljmdeadplkaaGreatP0
import Derived.Test.YtggljmdeadplkaaGreatP1
set_option linter.unusedSimpArgs false
set_option linter.unusedVariables false
set_option linter.unusedSectionVars false
set_option linter.deprecated false
set_option maxRecDepth 100000
namespace Go.Sy
open Go.Am
section
universe u v
inductive SV:Type 1 where
 |bool (b:Bool)
 |int (k:IntKind) (n:Int)
 |str (s:List UInt8)
 |aF
 |wp (a:Addr)
 |ptr (b off:Nat)
 |bN (b i off:Nat)
 |ch (cs:List SV) (off:Nat)
 |nils
 |sl (b off len cap:Nat)
 |own (b:Nat)
 |ax (X:Type) (L:List X) (enc:X->List SV)
 |aW
 |map (b:Nat)
 |aZ
 |fn (f:FuncId) (first captured:List SV)
 |agg (cs:List SV)
 |bg (vs:List SV)
 |any
inductive SO:Type 1 where
 |cells (cs:List SV) (elem:TypeId)
 |arr (X:Type) (L:List X) (enc:X->List SV) (elem:TypeId)
def so {α:Type u} (x:Option α) (k:α->Prop):Prop:=match x with|some a=>k a|none=>False
def br (b:Bool) (p q:Prop):Prop:=match b with|true=>p|false=>q
def ck (b:Bool) (p:Prop):Prop:=match b with|true=>p|false=>False
def look {α:Type u}:List (Nat×α)->Nat->Option α
 |[],_=>none
 |(k,v)::l,n=>bif Nat.beq k n then some v else look l n
abbrev Fr:=List (Nat×SV)
structure SH:Type 1 where
 next:Nat
 os:List (Nat×Option SO)
def SH.get (h:SH) (b:Nat):Option SO:=match look h.os b with|some (some o)=>some o|_=>none
def SH.set:SH->Nat->Option SO->SH
 |⟨n,os⟩,b,o=>⟨n,(b,o)::os⟩
def SH.new:SH->SO->SH
 |⟨n,os⟩,o=>⟨n+1,(n,some o)::os⟩
def Fr.of:List SV->Nat->Fr
 |[],_=>[]
 |v::l,n=>(n,v)::Fr.of l (n+1)
def pS:Value->Option SV
 | .bool b=>some (.bool b)
 | .int k n=>some (.int k n)
 | .string s=>some (.str s.data.toList)
 | .pointer none=>some .aF
 | .slice none 0 0=>some .nils
 | .map none=>some .aW
 | .nilFunc=>some .aZ
 |_=>none
def fw {α:Type u} {β:Type v} (f:α->Option β):List α->Option (List β)
 |[]=>some []
 |x::l=>match f x,fw f l with|some y,some m=>some (y::m)|_,_=>none
def uT:Value->Option SV
 | .agg cs=>(fw pS cs.toList).map .agg
 | .tuple vs=>(fw pS vs.toList).map .bg
 |v=>pS v
def gC:AV->Option SV
 | .bool b=>some (.bool b)
 | .int k n=>some (.int k n)
 | .str s=>some (.str s)
 | .aF=>some .aF
 | .nils=>some .nils
 | .aW=>some .aW
 | .aZ=>some .aZ
 |_=>none
def wA:AV->Option (List SV)
 | .agg cs=>fw gC cs
 |v=>(gC v).map fun x=>[x]
def dP (ts:Fr):Operand->Option SV
 | .tmp t=>look ts t
 | .const v=>uT v
 | .func f=>some (.fn f [] [])
 | .global _=>none
def gK (ts:Fr) (l:List Operand):Option (List SV):=fw (dP ts) l
def SV.cells:SV->List SV
 | .agg cs=>cs
 |v=>[v]
def iW:SV->Bool
 | .bool _| .int _ _| .str _| .aF| .wp _| .nils| .aW| .aZ| .ax _ _ _=>true
 |_=>false
def SV.known:SV->Bool
 | .any=>false
 |_=>true
def isScalar:SV->Bool
 | .agg _| .bg _| .any=>false
 |_=>true
section
variable (tab:bc)
def iY (t:TypeId) (cs:List SV) (off:Nat):Option SV:=
 match tab.agg.get t with
 |some true=>match tab.siz.get t with
  |some n=>bif Nat.ble (off+n) cs.length then some (.agg ((cs.drop off).take n))else none
  |none=>none
 |some false=>cs[off]?
 |none=>none
def pH (cs:List SV) (off:Nat) (vs:List SV):List SV:=cs.take off++(vs++cs.drop (off+vs.length))
def sQ (h:SH) (t:TypeId) (p:SV) (k:SV->Prop):Prop:=
 match p with
 | .ptr b off=>match h.get b with
  |some (.cells cs _)=>so (iY tab t cs off) k
  |_=>False
 | .bN b i off=>match h.get b with
  |some (.arr _ L enc _)=>so (L[i]?) fun x=>so (iY tab t (enc x) off) k
  |_=>False
 | .ch cs off=>so (iY tab t cs off) k
 |_=>False
def vT (h:SH) (t:TypeId) (p v:SV) (k:SH->Prop):Prop:=
 match tab.siz.get t with
 | some n=>ck (!(Nat.beq n 0)&&v.known&&Nat.beq v.cells.length n&&v.cells.all isScalar) (match p with
  | .ptr b off=>match h.get b with
   |some (.cells cs e)=>ck (Nat.ble (off+n) cs.length) (k (h.set b (some (.cells (pH cs off v.cells) e))))
   |_=>False
  |_=>False)
 |none=>False
end
end
section
universe u v
inductive Ev:Type 1 where
 |kill (b:Nat)
 |mod (b:Nat)
 |dM (b:Nat) (X:Type) (L:List X) (enc:X->List SV)
def gF:List Ev->List Nat
 |[]=>[]
 | .mod b::l=>b::gF l
 | .kill b::l=>b::gF l
 |_::l=>gF l
mutual
def SV.on (e:Ev):SV->SV
 | .bN b i off=>match e with
  | .kill c=>bif Nat.beq b c then .any else .bN b i off
  | .dM c _ L enc=>bif Nat.beq b c then(match L[i]? with|some x=> .ch (enc x) off|none=> .any)else .bN b i off
  | .mod _=> .bN b i off
 | .own b=>match e with
  | .kill c=>bif Nat.beq b c then .any else .own b
  | .dM c X L enc=>bif Nat.beq b c then .ax X L enc else .own b
  | .mod _=> .own b
 | .sl b off len cap=>match e with
  | .kill c=>bif Nat.beq b c then .any else .sl b off len cap
  | .dM c _ _ _=>bif Nat.beq b c then .any else .sl b off len cap
  | .mod _=> .sl b off len cap
 | .ptr b off=>match e with
  | .kill c=>bif Nat.beq b c then .any else .ptr b off
  | .dM c _ _ _=>bif Nat.beq b c then .any else .ptr b off
  | .mod _=> .ptr b off
 | .fn f xs ys=> .fn f (dS e xs) (dS e ys)
 | .agg cs=> .agg (dS e cs)
 | .bg cs=> .bg (dS e cs)
 |v=>v
def dS (e:Ev):List SV->List SV
 |[]=>[]
 |v::l=>SV.on e v::dS e l
end
def SO.on (e:Ev):SO->SO
 | .cells cs t=> .cells (dS e cs) t
 |o=>o
def fA (e:Ev):List (Nat×Option SO)->List (Nat×Option SO)
 |[]=>[]
 |(b,none)::l=>(b,none)::fA e l
 |(b,some o)::l=>(b,some (o.on e))::fA e l
def me (e:Ev):Fr->Fr
 |[]=>[]
 |(t,v)::l=>(t,v.on e)::me e l
structure St:Type 1 where
 ts:Fr
 h:SH
 log:List Ev
def St.note:St->Ev->St
 |⟨ts,h,log⟩,e=>⟨ts,h,log++[e]⟩
def St.ev:St->Ev->St
 |⟨ts,⟨n,os⟩,log⟩,e=>⟨me e ts,⟨n,fA e os⟩,log++[e]⟩
def St.new:St->SO->St
 |⟨ts,h,log⟩,o=>⟨ts,h.new o,log⟩
def St.gp:St->Nat->SO->St
 |⟨ts,h,log⟩,b,o=>⟨ts,h.set b (some o),log⟩
def St.del:St->Nat->St
 |⟨ts,h,log⟩,b=>⟨ts,h.set b none,log⟩
def St.Fj:St->SH->List Ev->St
 |⟨ts,_,log⟩,h,l=>⟨ts,h,log++l⟩
def gl {α:Type u}:List α->(List α->Prop)->Prop
 |[],K=>K []
 |x::l,K=>gl l fun l'=>K (x::l')
def vO (v:SV) (K:SV->Prop):Prop:=
 match v with
 | .bool b=>K (.bool b)
 | .int k n=>K (.int k n)
 | .str s=>K (.str s)
 | .aF=>K .aF
 | .wp a=>K (.wp a)
 | .ptr b off=>K (.ptr b off)
 | .bN b i off=>K (.bN b i off)
 | .ch cs off=>gl cs fun cs=>K (.ch cs off)
 | .nils=>K .nils
 | .sl b off n c=>K (.sl b off n c)
 | .own b=>K (.own b)
 | .ax X L enc=>K (.ax X L enc)
 | .aW=>K .aW
 | .map b=>K (.map b)
 | .aZ=>K .aZ
 | .fn f xs ys=>gl xs fun xs=>gl ys fun ys=>K (.fn f xs ys)
 | .agg cs=>gl cs fun cs=>K (.agg cs)
 | .bg cs=>gl cs fun cs=>K (.bg cs)
 | .any=>K .any
def CN (o:SO) (K:SO->Prop):Prop:=
 match o with
 | .cells cs t=>gl cs fun cs=>K (.cells cs t)
 | .arr X L enc t=>K (.arr X L enc t)
def pW (h:SH) (K:SH->Prop):Prop:=
 match h with
 |⟨n,os⟩=>match os with
  |(b,some o)::l=>CN o fun o=>K ⟨n,(b,some o)::l⟩
  |l=>K ⟨n,l⟩
def kL {α:Type}:T α->(T α->Prop)->Prop
 | .e,K=>K .e
 | .n v l r,K=>kL l fun l=>kL r fun r=>match v with
  |some a=>K (.n (some a) l r)
  |none=>K (.n none l r)
structure View:Type 1 where
 X:Type
 enc:X->List SV
def qf (tab:bc) (t:TypeId):Option (List SV):=(tab.gV.get t).bind wA
def qh:R AV->Option SV
 | .ok v=>gC v
 | .no _=>none
def bj (x y:Int):Bool:=
 match x with
 | .ofNat a=>match y with
  | .ofNat b=>Nat.blt a b
  | .negSucc _=>false
 | .negSucc a=>match y with
  | .ofNat _=>true
  | .negSucc b=>Nat.blt b a
def bA (x y:Int):Bool:=
 match x with
 | .ofNat a=>match y with
  | .ofNat b=>Nat.ble a b
  | .negSucc _=>false
 | .negSucc a=>match y with
  | .ofNat _=>true
  | .negSucc b=>Nat.ble b a
def tD:IntKind->Int
 | .i8=> .negSucc 127| .i16=> .negSucc 32767| .i32=> .negSucc 2147483647| .i64=> .negSucc 9223372036854775807
 |_=> .ofNat 0
def tw:IntKind->Int
 | .i8=> .ofNat 127| .i16=> .ofNat 32767| .i32=> .ofNat 2147483647| .i64=> .ofNat 9223372036854775807
 | .u8=> .ofNat 255| .u16=> .ofNat 65535| .u32=> .ofNat 4294967295| .u64=> .ofNat 18446744073709551615
def aX (k:IntKind) (n:Int):Bool:=bA (tD k) n&&bA n (tw k)
def nn (n:Int):Bool:=match n with| .ofNat _=>true| .negSucc _=>false
def iP (v:SV) (k:Nat->Prop):Prop:=
 match v with
 | .int _ n=>ck (nn n) (k n.toNat)
 |_=>False
section
variable (tab:bc) (view:TypeId->Option View)
def gZ (eq:TypeId->SV->SV->Option Bool):List Field->List SV->List SV->Option Bool
 |[],_,_=>some true
 | f::fs,xs,ys=>
  bif decide (f.name= "_")then gZ eq fs xs ys else
   match iY tab f.type xs f.offset,iY tab f.type ys f.offset with
   |some a,some b=>match eq f.type a b,gZ eq fs xs ys with
    |some p,some q=>some (p&&q)
    |_,_=>none
   |_,_=>none
def ez:Nat->TypeId->SV->SV->Option Bool
 |0,_,_,_=>none
 | d+1,t,x,y=>
  match tab.und.get t,x,y with
  |some .bool, .bool a, .bool b=>some (a==b)
  |some (.int _), .int k a, .int j b=>bif decide (k=j)then some (a==b)else none
  |some .string, .str a, .str b=>some (a==b)
  |some (.pointer _), .aF, .aF=>some true
  |some (.pointer _), .aF, .ptr _ _=>some false
  |some (.pointer _), .ptr _ _, .aF=>some false
  |some (.pointer _), .wp _, .aF=>some false
  |some (.pointer _), .aF, .wp _=>some false
  |some (.slice _), .nils, .nils=>some true
  |some (.map _ _), .aW, .aW=>some true
  |some (.map _ _), .aW, .map _=>some false
  |some (.map _ _), .map _, .aW=>some false
  |some (.func _ _ _), .aZ, .aZ=>some true
  |some (.func _ _ _), .aZ, .fn .. =>some false
  |some (.func _ _ _), .fn .., .aZ=>some false
  |some (.struct fs), .agg xs, .agg ys=>
   match tab.held.get t with
   |some false=>gZ tab (ez d) fs.toList xs ys
   |_=>none
  |_,_,_=>none
def cf (b:UInt8):List SV:=[.int .u8 (.ofNat b.toNat)]
def mF (c:List UInt8):List SV:=c.map fun b=> .int .u8 (.ofNat b.toNat)
def vL (op:BinOp) (k:IntKind) (x y:Int) (K:SV->Prop):Prop:=
 let fit (n:Int):Prop:=bif k.signed then ck (aX k n) (K (.int k n))else K (.int k (k.wrap n))
 match op with
 | .add=>fit (x+y)
 | .sub=>fit (x - y)
 | .mul=>fit (x*y)
 | .quo=>ck (!(y==0)) (fit (x.tdiv y))
 | .rem=>ck (!(y==0)) (K (.int k (x.tmod y)))
 | .eql=>K (.bool (x==y))
 | .neq=>K (.bool (!(x==y)))
 | .lss=>K (.bool (bj x y))
 | .leq=>K (.bool (bA x y))
 | .gtr=>K (.bool (bj y x))
 | .geq=>K (.bool (bA y x))
 |op=>so (qh (intOp op k x y)) K
def mJ (op:BinOp) (t:TypeId) (x y:SV) (K:SV->Prop):Prop:=
 match op,x,y with
 | .shl, .int k a, .int _ b=>ck (nn b) (so (qh (.ok (.int k (k.wrap (a*2 ^ (min b.toNat k.bits)))))) K)
 | .shr, .int k a, .int _ b=>ck (nn b) (so (qh (.ok (.int k (a.fdiv (2 ^ (min b.toNat k.bits)))))) K)
 |op, .int k a, .int j b=>ck (decide (k=j)) (vL op k a b K)
 | .add, .str a, .str b=>ck (Nat.ble (a.length+b.length) 1048576) (K (.str (a++b)))
 | .eql, .str a, .str b=>K (.bool (a==b))
 | .neq, .str a, .str b=>K (.bool (!(a==b)))
 | .lss, .str a, .str b=>K (.bool (Op.bytesLess a b))
 | .leq, .str a, .str b=>K (.bool (Op.bytesLess a b||a==b))
 | .gtr, .str a, .str b=>K (.bool (!(Op.bytesLess a b||a==b)))
 | .geq, .str a, .str b=>K (.bool (!Op.bytesLess a b))
 | .eql, .agg a, .agg b=>match tab.hO.get t with|some false=>so (ez tab 8 t (.agg a) (.agg b)) fun p=>K (.bool p)|_=>False
 | .neq, .agg a, .agg b=>match tab.hO.get t with|some false=>so (ez tab 8 t (.agg a) (.agg b)) fun p=>K (.bool (!p))|_=>False
 | .eql,x,y=>so (ez tab 8 t x y) fun p=>K (.bool p)
 | .neq,x,y=>so (ez tab 8 t x y) fun p=>K (.bool (!p))
 |_,_,_=>False
def wG (op:UnOp) (x:SV) (K:SV->Prop):Prop:=
 match op,x with
 | .neg, .int k n=>bif k.signed then ck (aX k (0 - n)) (K (.int k (0 - n)))else K (.int k (k.wrap (0 - n)))
 | .xor, .int k n=>so (qh (unOp .xor (.int k n))) K
 | .not, .bool b=>K (.bool (!b))
 |_,_=>False
def mC (cs:List SV):List (Nat×Nat×SV)->Option (List SV)
 |[]=>some cs
 |(off,n,v)::rest=>bif v.known&&Nat.beq v.cells.length n&&Nat.ble (off+n) cs.length then mC (pH cs off v.cells) rest else none
def pT (fs:Array Field):List (Nat×SV)->Option (List (Nat×Nat×SV))
 |[]=>some []
 | (i,v)::rest=>match fs[i]? with
  |some f=>match tab.siz.get f.type,pT fs rest with
   |some n,some r=>some ((f.offset,n,v)::r)
   |_,_=>none
  |none=>none
def oA (ts:Fr):List (Nat×Operand)->Option (List (Nat×SV))
 |[]=>some []
 |(i,x)::l=>match dP ts x,oA ts l with
  |some v,some r=>some ((i,v)::r)
  |_,_=>none
def vD (t:TypeId) (ps:List (Nat×SV)):Option SV:=
 match qf tab t,tab.und.get t with
 | some z,some (.struct fs)=>bif fs.toList.all (fun f=>(tab.siz.get f.type).isSome)then
   match pT tab fs ps with
   |some q=>(mC z q).map .agg
   |none=>none
  else none
 |some z,some (.array _ e)=>match tab.siz.get e with
  |some n=>(mC z (ps.map fun(i,v)=>(i*n,n,v))).map .agg
  |none=>none
 |_,_=>none
def mG:Nat->List SV->List SV
 |0,_=>[]
 |n+1,l=>l++mG n l
def qL (s:St) (t:TypeId) (len:Nat) (ps:List (Nat×SV)) (K:SV->St->Prop):Prop:=
 match tab.und.get t with
 | some (.slice e)=>match tab.siz.get e,qf tab e with
  | some n,some z=>ck (Nat.ble (len*n) 16777216&&Nat.beq z.length n) (bif Nat.beq len 0 then
    ck (ps.isEmpty&& !(Nat.beq n 0)) (match view e with
    |some V=>K (.own s.h.next) (s.new (.arr V.X [] V.enc e))
    |none=>False)
   else so (mC (mG len z) (ps.map fun(i,v)=>(i*n,n,v))) fun cs=>K (.sl s.h.next 0 len len) (s.new (.cells cs e)))
  |_,_=>False
 |_=>False
def kz (ts:Fr) (x:Option Operand) (K:Option Nat->Prop):Prop:=
 match x with
 |none=>K none
 |some y=>so (dP ts y) fun v=>iP v fun n=>K (some n)
def iL {α:Type u} (l:List α) (lo hi:Option Nat) (K:List α->Prop):Prop:=
 match lo,hi with
 |none,none=>K l
 |some a,none=>ck (Nat.ble a l.length) (K (l.drop a))
 |none,some b=>ck (Nat.ble b l.length) (K (l.take b))
 |some a,some b=>ck (Nat.ble a b&&Nat.ble b l.length) (K ((l.drop a).take (b - a)))
def vS (s:St) (t:TypeId) (x:SV) (lo hi:Option Operand) (K:SV->St->Prop):Prop:=
 kz s.ts lo fun l=>kz s.ts hi fun u=>
 match tab.und.get t,x with
 |some .string, .str c=>iL c l u fun c'=>K (.str c') s
 |some (.slice e), .ax X L enc=>match tab.siz.get e with
  |some n=>(∀x:X,(enc x).length=n)/\iL L l u fun L'=>K (.ax X L' enc) s
  |none=>False
 |some (.slice e), .own b=>match s.h.get b,tab.siz.get e with
  |some (.arr X L enc _),some n=>(∀x:X,(enc x).length=n)/\iL L l u fun L'=>K (.ax X L' enc) ((s.ev (.dM b X L enc)).del b)
  |_,_=>False
 | some (.slice e), .sl b off len cap=>match tab.siz.get e with
  |some n=>let a:=l.getD 0
   let c:=u.getD len
   ck (Nat.ble a c&&Nat.ble c cap) (K (.sl b (bif Nat.beq cap a then off else off+a*n) (c - a) (cap - a)) s)
  |none=>False
 |_,_=>False
def sg (s:St) (src dst:TypeId) (x:SV) (K:SV->St->Prop):Prop:=
 match tab.und.get src,tab.und.get dst,x with
 |some _,some (.int k), .int _ n=>K (.int k (k.wrap n)) s
 |some _,some .string, .str c=>K (.str c) s
 |some _,some (.slice e), .str c=>match tab.und.get e,tab.siz.get e with
  |some (.int .u8),some 1=>K (.ax UInt8 c cf) s
  |_,_=>False
 |some (.slice e),some .string, .nils=>match tab.und.get e with
  |some (.int .u8)=>K (.str []) s
  |_=>False
 |some (.slice e),some .string, .ax X L enc=>match tab.und.get e with
  |some (.int .u8)=>∃c:List UInt8,SV.ax X L enc=SV.ax UInt8 c cf/\K (.str c) s
  |_=>False
 |some (.slice e),some .string, .own b=>match tab.und.get e,s.h.get b with
  |some (.int .u8),some (.arr X L enc _)=>∃c:List UInt8,SV.ax X L enc=SV.ax UInt8 c cf/\K (.str c) s
  |_,_=>False
 |some (.slice e),some .string, .sl b off len _=>match tab.und.get e,s.h.get b with
  |some (.int .u8),some (.cells cs _)=>ck (Nat.ble (off+len) cs.length) (∃c:List UInt8,(cs.drop off).take len=mF c/\K (.str c) s)
  |_,_=>False
 |_,_,_=>False
def rZ (t:TypeId) (f:Nat):Option Field:=
 match tab.und.get t with
 |some (.struct fs)=>fs[f]?
 |_=>none
def chunk (n:Nat):Nat->List SV->List (List SV)
 |0,_=>[]
 |m+1,l=>l.take n::chunk n m (l.drop n)
def qB {X:Type} (enc:X->List SV):List (List SV)->(List X->Prop)->Prop
 |[],K=>K []
 |c::cs,K=>∃x:X,enc x=c/\qB enc cs fun l=>K (x::l)
def fh:List SV->St->St
 |[],s=>s
 | .own b::l,s=>match s.h.get b with
  |some (.arr X L enc _)=>fh l ((s.ev (.dM b X L enc)).del b)
  |_=>fh l s
 |_::l,s=>fh l s
def ko (s:St) (e n by_:Nat) (x:SV) (Y:Type) (M:List Y) (enc':Y->List SV) (K:SV->St->Prop):Prop:=
 match x with
 | .nils=>(∀x:Y,(enc' x).length=n/\(enc' x).all iW=true)/\ck (Nat.ble (M.length*by_) 16777216&&Nat.ble M.length 16777216) (K (.own s.h.next) (s.new (.arr Y M enc' e)))
 | .own d=>match s.h.get d with
  |some (.arr X L enc e')=>ck (Nat.beq e e') ((∀x:Y,(enc' x).length=n/\(enc' x).all iW=true)/\ ∃M':List X,SV.ax Y M enc'=SV.ax X M' enc/\ck (Nat.ble ((L.length+M'.length)*by_) 16777216&&Nat.ble (L.length+M'.length) 16777216) (K (.own d) (((s.ev (.kill d)).gp d (.arr X (L++M') enc e)).note (.mod d))))
  |_=>False
 |_=>False
def lX (s:St) (e n by_ m:Nat) (x:SV) (cs:List SV) (K:SV->St->Prop):Prop:=
 match x with
 | .nils=>match view e with
  |some V=>qB V.enc (chunk n m cs) fun l=>ck (Nat.ble (l.length*by_) 16777216&&Nat.ble l.length 16777216) (K (.own s.h.next) (s.new (.arr V.X l V.enc e)))
  |none=>False
 | .own d=>match s.h.get d with
  |some (.arr X L enc e')=>ck (Nat.beq e e') (qB enc (chunk n m cs) fun l=>ck (Nat.ble ((L.length+l.length)*by_) 16777216&&Nat.ble (L.length+l.length) 16777216) (K (.own d) (((s.ev (.kill d)).gp d (.arr X (L++l) enc e)).note (.mod d))))
  |_=>False
 |_=>False
def u4 (s:St) (e:TypeId) (x y:SV) (K:SV->St->Prop):Prop:=
 match tab.siz.get e,tab.byt.get e with
 | some n,some by_=>
  ck (!(Nat.beq n 0)&&(match qf tab e with|some z=>Nat.beq z.length n|none=>false))
  (match y with
  | .sl b off m _=>match s.h.get b with
   |some (.cells cs0 _)=>
    match(fh ((cs0.drop off).take (m*n)) s).h.get b with
    |some (.cells cs _)=>ck (Nat.ble (off+m*n) cs.length&&((cs.drop off).take (m*n)).all iW) (lX view (fh ((cs0.drop off).take (m*n)) s) e n by_ m x ((cs.drop off).take (m*n)) K)
    |_=>False
   |_=>False
  | .ax Y M enc'=>ko s e n by_ x Y M enc' K
  | .own b=>match s.h.get b with
   |some (.arr Y M enc' _)=>ko ((s.ev (.dM b Y M enc')).del b) e n by_ x Y M enc' K
   |_=>False
  | .nils=>match x with
   | .nils=>K .nils s
   |_=>False
  |_=>False)
 |_,_=>False
def kv (k:IntKind):Int->List SV->Option SV
 |x,[]=>some (.int k x)
 |x, .int _ y::l=>kv k (if y<x then y else x) l
 |_,_=>none
def ku (k:IntKind):Int->List SV->Option SV
 |x,[]=>some (.int k x)
 |x, .int _ y::l=>ku k (if y>x then y else x) l
 |_,_=>none
def mc (s:St) (x:SV):Option Nat:=
 match x with
 | .nils=>some 0
 | .ax _ L _=>some L.length
 | .sl _ _ n _=>some n
 | .own b=>match s.h.get b with
  |some (.arr _ L _ _)=>some L.length
  |_=>none
 |_=>none
def nO (s:St) (b:Builtin) (ats:Array TypeId) (args:List SV) (K:SV->St->Prop):Prop:=
 match b,args with
 | .len,[x]=>match(ats[0]?).bind tab.und.get with
  |some .string=>match x with| .str c=>K (.int .i64 (.ofNat c.length)) s|_=>False
  |some (.slice _)=>so (mc s x) fun n=>K (.int .i64 (.ofNat n)) s
  |_=>False
 | .append,[x,y]=>match(ats[0]?).bind tab.und.get,(ats[1]?).bind tab.und.get with
  |some (.slice e),some (.slice _)=>u4 tab view s e x y K
  |_,_=>False
 | .min, .int k x::l=>so (kv k x l) fun v=>K v s
 | .max, .int k x::l=>so (ku k x l) fun v=>K v s
 |_,_=>False
def sR:SV->List Ev
 | .ptr b _=>[.mod b]
 |_=>[]
def iG (s:St) (o:Oper) (K:SV->St->Prop):Prop:=
 match o.op with
 | .move x=>so (dP s.ts x) fun v=>K v s
 | .assign x=>so (dP s.ts x) fun v=>K v s
 | .pick c a b=>match dP s.ts c with
  |some (.bool p)=>match dP s.ts a,dP s.ts b with
   |some (.bool x),some (.bool y)=>K (.bool (bif p then x else y)) s
   |u,v=>br p (so u fun v=>K v s) (so v fun v=>K v s)
  |_=>False
 | .alloc e=>so (tab.siz.get e) fun _=>so (qf tab e) fun cs=>K (.ptr s.h.next 0) (s.new (.cells cs e))
 | .box e x=>so (tab.siz.get e) fun _=>so (dP s.ts x) fun v=>ck v.known (K (.ptr s.h.next 0) (s.new (.cells v.cells e)))
 | .build t ps=>so (oA s.ts ps.toList) fun l=>so (vD tab t l) fun v=>K v s
 | .buildSlice t n ps=>so (oA s.ts ps.toList) fun l=>qL tab view s t n l K
 | .load t a=>so (dP s.ts a) fun p=>sQ tab s.h t p fun v=>K v s
 | .store t a x=>so (dP s.ts a) fun p=>so (dP s.ts x) fun v=>vT tab s.h t p v fun h'=>K (.bg []) (s.Fj h' (sR p))
 | .nilCheck x=>so (dP s.ts x) fun v=>match v with
  | .ptr .. | .bN .. | .ch .. | .fn .. =>K v s
  |_=>False
 | .binOp op t x y _=>so (dP s.ts x) fun a=>so (dP s.ts y) fun b=>mJ tab op t a b fun v=>K v s
 | .unOp op _ x=>so (dP s.ts x) fun a=>wG op a fun v=>K v s
 | .convert a b x=>so (dP s.ts x) fun v=>sg tab s a b v K
 | .makeFunc fn first captured=>match fn with
  | .func f=>so (gK s.ts first.toList) fun xs=>so (gK s.ts captured.toList) fun ys=>K (.fn f xs ys) s
  |_=>False
 | .slice t x lo hi none=>so (dP s.ts x) fun v=>vS tab s t v lo hi K
 | .fieldAddr st x f=>so (rZ tab st f) fun fd=>ck (match tab.siz.get fd.type with|some n=> !(Nat.beq n 0)|none=>false) (so (dP s.ts x) fun v=>match v with
  | .ptr b off=>K (.ptr b (off+fd.offset)) s
  | .bN b i off=>K (.bN b i (off+fd.offset)) s
  | .ch cs off=>K (.ch cs (off+fd.offset)) s
  |_=>False)
 | .field t x f=>so (rZ tab t f) fun fd=>so (dP s.ts x) fun v=>match v with
  | .agg cs=>so (iY tab fd.type cs fd.offset) fun u=>K u s
  |_=>False
 | .indexAddr t x ix=>so (dP s.ts ix) fun j=>iP j fun i=>so (dP s.ts x) fun v=>match tab.und.get t,v with
  |some (.array len e), .ptr b off=>match tab.siz.get e with
   |some n=>ck (Nat.blt i len) (K (.ptr b (off+i*n)) s)
   |none=>False
  |some (.slice e), .sl b off len _=>match tab.siz.get e with
   |some n=>ck (Nat.blt i len) (K (.ptr b (off+i*n)) s)
   |none=>False
  |some (.slice e), .ax _ L enc=>match tab.siz.get e with
   |some n=>so (L[i]?) fun x=>ck (Nat.beq (enc x).length n) (K (.ch (enc x) 0) s)
   |none=>False
  |some (.slice e), .own b=>match tab.siz.get e,s.h.get b with
   |some _,some (.arr _ L _ e')=>ck (Nat.beq e e'&&Nat.blt i L.length) (K (.bN b i 0) s)
   |_,_=>False
  |_,_=>False
 | .index t x ix=>so (dP s.ts ix) fun j=>iP j fun i=>so (dP s.ts x) fun v=>match tab.und.get t,v with
  |some (.array len e), .agg cs=>match tab.siz.get e with
   |some n=>ck (Nat.blt i len) (so (iY tab e cs (i*n)) fun u=>K u s)
   |none=>False
  |some .string, .str c=>so (c[i]?) fun b=>K (.int .u8 (.ofNat b.toNat)) s
  |_,_=>False
 | .extract t i=>so (dP s.ts t) fun v=>match v with
  | .bg vs=>so (vs[i]?) fun u=>K u s
  |_=>False
 | .call c=>match c.callee with
  | .builtin b=>so (gK s.ts c.args.toList) fun l=>nO tab view s b c.argTypes l K
  |_=>False
 |_=>False
end
end
section
universe u v
structure aH:Type 1 where
 Y:Type
 pre:Y->Prop
 args:Y->List SV
 res:Y->SV
structure aE:Type 1 where
 α:Type
 ok:α->Prop
 μ:α->Nat
 bu:List Nat
 aV:α->List (Nat×SV)
 bK:α->List (Nat×SO)
 dM:List Nat:=[]
 link:Option (α->α->Prop):=none
structure fy:Type 1 where
 tab:bc
 view:TypeId->Option View
 fH:FuncId->Option aH
 lk:FuncId->Nat->Option aE
inductive cZ:Type 1 where
 |code (c:Code)
 |inBlock (id:Nat)
 |inLoop (body:Code)
 |head (gr:Fr->SH->List Ev->Prop)
 |inScope (body:Code)
 |inRegion (ops:Array Oper) (l:List Nat)
structure SM:Type 1 where
 fn:FuncId
 nt:Nat
 base:Nat
 todo:List cZ
 s:St
mutual
def SV.lt (n:Nat):SV->Bool
 | .ptr b _=>Nat.blt b n
 | .bN b _ _=>Nat.blt b n
 | .own b=>Nat.blt b n
 | .sl b _ _ _=>Nat.blt b n
 | .map b=>Nat.blt b n
 | .fn _ xs ys=>eV n xs&&eV n ys
 | .agg cs=>eV n cs
 | .bg cs=>eV n cs
 |_=>true
def eV (n:Nat):List SV->Bool
 |[]=>true
 |v::l=>SV.lt n v&&eV n l
end
mutual
def SV.full:SV->Bool
 | .any=>false
 | .fn _ xs ys=>gq xs&&gq ys
 | .agg cs=>gq cs
 | .bg cs=>gq cs
 |_=>true
def gq:List SV->Bool
 |[]=>true
 |v::l=>SV.full v&&gq l
end
def SO.lt (n:Nat):SO->Bool
 | .cells cs _=>eV n cs
 | .arr .. =>true
def Ev.id:Ev->Nat
 | .kill b=>b
 | .mod b=>b
 | .dM b _ _ _=>b
def qA (v e:SV):Prop:=
 match v,e with
 | .bool a, .bool b=>a=b
 | .int k a, .int j b=>ck (decide (k=j)) (a=b)
 | .str a, .str b=>a=b
 | .ptr a i, .ptr b j=>ck (Nat.beq a b&&Nat.beq i j) True
 | .own a, .own b=>ck (Nat.beq a b) True
 | .aF, .aF=>True
 | .nils, .nils=>True
 | .aW, .aW=>True
 | .aZ, .aZ=>True
 | .nils, .ax _ L _=>L=[]
 |_, .any=>True
 |v,e=>v=e
def l7:List SV->List SV->Prop
 |[],[]=>True
 |a::l,b::m=>qA a b/\l7 l m
 |_,_=>False
def o7 (o e:SO):Prop:=
 match o,e with
 | .cells a t, .cells b u=>ck (Nat.beq t u) (l7 a b)
 | .arr X L enc t, .arr X' L' enc' u=>ck (Nat.beq t u) (SV.ax X L enc=SV.ax X' L' enc')
 |_,_=>False
def o8 (tab:bc) (next p:Nat) (o e:Option SO):Prop:=
 match e,o with
 |none,_=>True
 |some (.arr X L enc t),some o=>o7 o (.arr X L enc t)
 |some (.arr X L enc t),none=>ck (Nat.ble next p) (L=[]/\so (tab.siz.get t) fun n=>ck (!(Nat.beq n 0)) (∀x:X,(enc x).length=n))
 |some e,some o=>o7 o e
 |some _,none=>False
def vU (tab:bc) (h e:SH):Nat->Prop
 |0=>True
 |n+1=>o8 tab h.next n (h.get n) (e.get n)/\vU tab h e n
def iN (tab:bc) (h e:SH):Prop:=vU tab h e e.next
def l8 (h eh:SH) (v e:SV):Prop:=
 match e,v with
 | .own b, .nils=>match h.get b,eh.get b with|none,some (.arr ..)=>True|_,_=>False
 |e,v=>qA v e
def gA (ts:Fr) (h eh:SH):Fr->Prop
 |[]=>True
 |(t,e)::l=>so (look ts t) (fun v=>l8 h eh v e)/\gA ts h eh l
def stay (n:Nat) (h eh:SH):Bool:=(List.range n).all fun p=>match h.get p,eh.get p with|some _,none=>false|_,_=>true
def u6 (ts:Fr) (e:Fr):List Nat->Fr
 |[]=>e
 |t::l=>match look ts t with|some v=>(t,v)::u6 ts e l|none=>u6 ts e l
def pn:SH->List (Nat×SO)->SH
 |h,[]=>h
 |⟨n,os⟩,(b,o)::l=>pn ⟨Nat.max n (b+1),(b,some o)::os⟩ l
def aE.at (A:aE) (s:St) (x:A.α):Fr×SH:=(u6 s.ts (A.aV x) A.bu,pn s.h (A.bK x))
def low (ts:Fr) (h:SH):Bool:=ts.all (fun x=>x.2.lt h.next)&&h.os.all (fun x=>Nat.blt x.1 h.next&&(match x.2 with|some o=>o.lt h.next|none=>true))
def jL:Code->Option Nat
 | .region id _ _=>some id
 | .seq a b=>match jL a with|some r=>some r|none=>jL b
 | .cond _ a b=>match jL a with|some r=>some r|none=>jL b
 | .block _ b=>jL b
 | .loop b=>jL b
 | .scope b=>jL b
 | .rangeFunc _ _ a b=>match jL a with|some r=>some r|none=>jL b
 |_=>none
def ke (id:Nat):List cZ->Option (List cZ)
 | .inBlock j::k=>bif Nat.beq j id then some k else ke id k
 |_::k=>ke id k
 |[]=>none
section
variable (cfg:fy)
def cQ:Nat->List SV->List SV->St->(St->Prop)->Prop
 |0,_,_,_,_=>False
 |_+1,[],[],s,K=>K s
 | n+1,f::fs,a::as1,s,K=>
  match f,a with
  | .any,_=>cQ n fs as1 s K
  | .bool x, .bool y=>y=x/\cQ n fs as1 s K
  | .int k x, .int j y=>ck (decide (k=j)) (y=x/\cQ n fs as1 s K)
  | .str x, .str y=>y=x/\cQ n fs as1 s K
  | .aF, .aF=>cQ n fs as1 s K
  | .wp x, .wp y=>y=x/\cQ n fs as1 s K
  | .nils, .nils=>cQ n fs as1 s K
  | .aW, .aW=>cQ n fs as1 s K
  | .aZ, .aZ=>cQ n fs as1 s K
  | .ax X L enc, .ax X' L' enc'=>SV.ax X' L' enc'=SV.ax X L enc/\cQ n fs as1 s K
  | .ax _ L _, .nils=>L=[]/\cQ n fs as1 s K
  | .ax X L enc, .own b=>match s.h.get b with
   |some (.arr X' L' enc' _)=>SV.ax X' L' enc'=SV.ax X L enc/\cQ n fs (dS (.dM b X' L' enc') as1) ((s.ev (.dM b X' L' enc')).del b) K
   |_=>False
  | .ax X L enc, .sl b off m c=>match s.h.get b with
   |some (.cells cs e)=>match cfg.tab.siz.get e with
    |some r=>ck (!(Nat.beq r 0)&&Nat.ble m c&&Nat.ble (off+m*r) cs.length&&((cs.drop off).take (m*r)).all iW) (chunk r m ((cs.drop off).take (m*r))=L.map enc/\cQ n fs (dS (.kill b) as1) ((s.ev (.kill b)).del b) K)
    |none=>False
   |_=>False
  | .agg xs, .agg ys=>ck (Nat.beq xs.length ys.length) (cQ n (xs++fs) (ys++as1) s K)
  | .fn f xs us, .fn g ys vs=>ck (Nat.beq f g&&Nat.beq xs.length ys.length&&Nat.beq us.length vs.length) (cQ n (xs++(us++fs)) (ys++(vs++as1)) s K)
  |_,_=>False
 |_,_,_,_,_=>False
def oQ:List Ev->Fr->Fr
 |[],ts=>ts
 |e::l,ts=>oQ l (me e ts)
def wh (rec:SM->(SV->St->Prop)->Prop) (f:FuncId) (args:List SV) (s:St) (K:SV->St->Prop):Prop:=
 match cfg.tab.fns.get f with
 | some fn=>match fn.body with
  | some body=>match cfg.fH f with
   |some C=>∃y:C.Y,cQ cfg 1000 (C.args y) args s fun s=>C.pre y/\K (C.res y) s
   | none=>match s with
    |⟨ts,h,log⟩=>rec ⟨f,Nat.max fn.ntmps args.length,h.next,[.code body],⟨Fr.of args 0,h,[]⟩⟩ fun v s'=>
     match s' with
     |⟨_,h',log'⟩=>K v ⟨oQ log' ts,h',log++log'⟩
  |none=>False
 |none=>False
def fO (nt:Nat) (s:St) (d:Option Tmp) (v:SV) (K:St->Prop):Prop:=
 match s,d with
 |⟨ts,h,log⟩,some d=>bif Nat.blt d nt then vO v fun v=>pW h fun h=>K ⟨(d,v)::ts,h,log⟩else K ⟨ts,h,log⟩
 |⟨ts,h,log⟩,none=>pW h fun h=>K ⟨ts,h,log⟩
def pX (ops:Array Oper) (o:Oper) (s:St) (K:Bool->St->Prop):Prop:=
 match o.guard with
 |none=>K true s
 | some (j,w)=>
  match(ops[j]?).bind (·.dst)with
  | some d=>match s with
   |⟨ts,h,log⟩=>match look ts d with
    |some (.bool p)=>br p (K w ⟨(d, .bool true)::ts,h,log⟩) (K (!w) ⟨(d, .bool false)::ts,h,log⟩)
    |some (.bg _)=>K false ⟨ts,h,log⟩
    |_=>False
  |none=>K false s
def sP (rec:SM->(SV->St->Prop)->Prop) (s:St) (o:Oper) (K:SV->St->Prop):Prop:=
 match o.op with
 | .call c=>match c.callee with
  | .value f=>so (gK s.ts c.args.toList) fun args=>so (dP s.ts f) fun v=>match v with
   | .fn g first captured=>wh cfg rec g (first++args++captured) s K
   |_=>False
  |_=>iG cfg.tab cfg.view s o K
 |_=>iG cfg.tab cfg.view s o K
structure SD:Type 1 where
 s:St
 aC:T (List Nat)
 reads:List (Nat×List Nat)
 ar:List (Nat×Nat)
def kN:SH->List (Nat×Nat)->SH
 |h,[]=>h
 |h,(_,b)::l=>kN (h.set b none) l
def fK (o:Option SO):List Ev->Option SO
 |[]=>o
 |e::l=>fK (o.map (SO.on e)) l
def ik (h h0:SH) (log:List Ev):List (Nat×Nat)->SH
 |[]=>h
 |(_,b)::l=>ik (h.set b (fK (h0.get b) log)) h0 log l
def vu (ts:Fr) (o:Oper):List Nat:=
 match o.op with
 | .load _ a=>match dP ts a with
  |some (.ptr b _)=>[b]
  |some (.bN b _ _)=>[b]
  |_=>[]
 | .indexAddr _ x _=>match dP ts x with
  |some (.own b)=>[b]
  |_=>[]
 | .call c=>match c.args.toList with
  |[x]=>match dP ts x with
   |some (.own b)=>[b]
   |_=>[]
  |_=>[]
 |_=>[]
def lO (h:SH):List Nat->List (Nat×Option SO)
 |[]=>[]
 |b::l=>(b,h.get b)::lO h l
def vN (ops:Array Oper) (nt i:Nat) (o:Oper) (d:SD) (K:SD->Prop):Prop:=
 match d with
 |⟨s,aC,reads,ar⟩=>
 ck (fN aC ops i o) (pX ops o s fun w s=>
  bif !w then gl (dk aC o) fun an=>kL (aC.set i (some an)) fun aC=>fO nt s o.dst (.bg []) fun s=>K ⟨s,aC,reads,ar⟩
  else match cls cfg.tab o with
  | .gL=>K ⟨s,aC,reads,ar⟩
  | .alloc=>gl (dk aC o) fun an=>kL (aC.set i (some an)) fun anc'=>match s with
   |⟨ts,h,log⟩=>iG cfg.tab cfg.view ⟨ts,h,[]⟩ o fun v s'=>match s' with
    |⟨ts',h',log'⟩=>ck log'.isEmpty (fO nt ⟨ts',h',log⟩ o.dst v fun s'=>K ⟨s',anc',reads,(i,h.next)::ar⟩)
  |_=>gl (dk aC o) fun an=>kL (aC.set i (some an)) fun aC=>match s with
   |⟨ts,h,log⟩=>gl (vu ts o) fun rs=>ck (rs.all fun b=>ar.all fun x=> !(Nat.beq x.2 b)) (iG cfg.tab cfg.view ⟨ts,⟨h.next,lO h rs⟩,[]⟩ o fun v s'=>ck (s'.log.isEmpty&&v.full) (fO nt ⟨ts,h,log⟩ o.dst v fun s'=>K ⟨s',aC,(i,rs)::reads,ar⟩)))
def qd (ops:Array Oper) (nt:Nat):Nat->List Oper->SD->(SD->Prop)->Prop
 |_,[],d,K=>K d
 |i,o::l,d,K=>
  bif isReady d.aC i o then vN cfg ops nt i o d fun d'=>qd ops nt (i+1) l d' K
  else qd ops nt (i+1) l d K
def o6 (rec:SM->(SV->St->Prop)->Prop) (ops:Array Oper) (nt i:Nat) (o:Oper) (d:SD) (K:SD->Prop):Prop:=
 match d with
 |⟨s,aC,reads,ar⟩=>
 ck (fN aC ops i o) (pX ops o s fun w s=>
  ck w (gl (dk aC o) fun an=>kL (aC.set i (some an)) fun aC=>
   gl (ar.filter fun x=> !(bY x.1 an)) fun hid=>gl (reads.filter fun x=> !(bY x.1 an)) fun reads=>match s with
   | ⟨ts,h,log⟩=>sP cfg rec ⟨ts,kN h hid,[]⟩ o fun v s'=>match s' with
    |⟨ts',h',log'⟩=>ck ((reads.all fun x=>x.2.all fun b=> !(bY b (log'.map Ev.id))&&(h'.get b).isSome&&hid.all fun y=> !(Nat.beq y.2 b))&&hid.all fun x=> !(bY x.2 (log'.map Ev.id)))
     (fO nt ⟨ts',ik h' h log' hid,log++log'⟩ o.dst v fun s'=>K ⟨s',aC,reads,hid⟩)))
def sh (rec:SM->(SV->St->Prop)->Prop) (ops:Array Oper) (nt:Nat):Nat->SD->(St->Prop)->Prop
 |0,_,_=>False
 |n+1,d,K=>qd cfg ops nt 0 ops.toList d fun d1=>
  match fV d1.aC 0 ops.toList with
  |[]=>ck ((List.range ops.size).all fun i=>(d1.aC.get i).isSome) (K d1.s)
  |[(i,o)]=>o6 cfg rec ops nt i o d1 fun d2=>sh rec ops nt n d2 K
  |_=>False
def jb (s:St):List ResultVar->(List SV->Prop)->Prop
 |[],K=>K []
 | .tmp t::l,K=>so (look s.ts t) fun v=>jb s l fun vs=>K (v::vs)
 | .cell a t::l,K=>so (look s.ts a) fun p=>sQ cfg.tab s.h t p fun v=>jb s l fun vs=>K (v::vs)
def kR (fn:FuncId) (s:St) (Q:SV->St->Prop):Prop:=
 match cfg.tab.fns.get fn with
 |some fn=>jb cfg s fn.results.toList fun vs=>Q (match vs with|[v]=>v|vs=> .bg vs) s
 |none=>False
def fixC (s:St) (c:Operand) (p:Bool):St:=
 match s,c with
 |⟨ts,h,log⟩, .tmp t=>⟨(t, .bool p)::ts,h,log⟩
 |s,_=>s
def iO (ts:Fr):List Nat->List SV
 |[]=>[]
 |t::l=>match look ts t with|some v=>v::iO ts l|none=>iO ts l
def cL (A:aE) (s:St):St:=fh (iO s.ts A.dM) s
def vV (A:aE) (s:St) (base:Nat) (x:A.α) (ts:Fr) (h:SH) (log:List Ev):Prop:=
 match cL A ⟨ts,h,log⟩with
 |⟨ts,h,log⟩=>ck (log.all fun e=>Nat.ble base e.id) (∃y:A.α,A.ok y/\A.μ y<A.μ x/\gA ts h (A.at s y).2 (A.at s y).1/\iN cfg.tab h (A.at s y).2/\ck (stay base h (A.at s y).2) True)
def MV (A:aE) (s:St) (base:Nat) (cont:(Fr->SH->List Ev->Prop)->St->Prop):Prop:=
 match cL A s with
 |⟨ts,h,log⟩=>(∃x:A.α,A.ok x/\gA ts h (A.at ⟨ts,h,log⟩ x).2 (A.at ⟨ts,h,log⟩ x).1/\iN cfg.tab h (A.at ⟨ts,h,log⟩ x).2/\ck (stay base h (A.at ⟨ts,h,log⟩ x).2) True)/\
  ∀x:A.α,A.ok x->ck (log.all (fun e=>Nat.ble base e.id)&&(low (A.at ⟨ts,h,log⟩ x).1 (A.at ⟨ts,h,log⟩ x).2&&Nat.ble base (A.at ⟨ts,h,log⟩ x).2.next)) (cont (vV cfg A ⟨ts,h,log⟩ base x) ⟨(A.at ⟨ts,h,log⟩ x).1,(A.at ⟨ts,h,log⟩ x).2,log⟩)
def aE.when (A:aE) (R:A.α->A.α->Prop) (x0:A.α):aE:={α:=A.α,ok:=fun x=>A.ok x/\R x0 x,μ:=A.μ,bu:=A.bu,aV:=A.aV,bK:=A.bK,dM:=A.dM}
def wz (A:aE) (K:aE->Prop):Prop:=
 match A.link with
 |none=>K A
 |some R=>∃x0:A.α,K (A.when R x0)
theorem Jv {A:aE} {K:aE->Prop} (h:wz A K):∃A',K A':=by
 grind [wz]
def wp:Nat->SM->(SV->St->Prop)->Prop
 |0,_,_=>False
 | n+1,⟨fn,nt,base,todo,s⟩,Q=>
  match todo with
  |[]=>kR cfg fn s Q
  | .code .ret::_=>kR cfg fn s Q
  | .code .skip::k=>wp n ⟨fn,nt,base,k,s⟩ Q
  | .code (.label _)::k=>wp n ⟨fn,nt,base,k,s⟩ Q
  | .inBlock _::k=>wp n ⟨fn,nt,base,k,s⟩ Q
  | .inScope _::k=>wp n ⟨fn,nt,base,k,s⟩ Q
  | .code (.seq a b)::k=>wp n ⟨fn,nt,base, .code a:: .code b::k,s⟩ Q
  | .code (.cond c a b)::k=>match dP s.ts c with
   |some (.bool p)=>br p (wp n ⟨fn,nt,base, .code a::k,fixC s c true⟩ Q) (wp n ⟨fn,nt,base, .code b::k,fixC s c false⟩ Q)
   |_=>False
  | .code (.block id b)::k=>wp n ⟨fn,nt,base, .code b:: .inBlock id::k,s⟩ Q
  | .code (.scope b)::k=>wp n ⟨fn,nt,base, .code b:: .inScope b::k,s⟩ Q
  | .code (.loop b)::k=>match(jL b).bind (cfg.lk fn)with
   |none=>wp n ⟨fn,nt,base, .code b:: .inLoop b::k,s⟩ Q
   |some A=>wz A fun A=>MV cfg A s base fun gr s'=>wp n ⟨fn,nt,base, .code b:: .head gr::k,s'⟩ Q
  | .inLoop b::k=>wp n ⟨fn,nt,base, .code b:: .inLoop b::k,s⟩ Q
  | .head gr::_=>gr s.ts s.h s.log
  | .code (.exit id)::k=>match ke id k with
   |some k'=>wp n ⟨fn,nt,base,k',s⟩ Q
   |none=>False
  | .code (.region _ ops false)::k=>wp n ⟨fn,nt,base, .inRegion ops (List.range ops.size)::k,s⟩ Q
  | .code (.region _ ops true)::k=>ck (lP 0 ops.toList) (sh cfg (wp n) ops nt (ops.size+1) ⟨s, .e,[],[]⟩ fun s=>wp n ⟨fn,nt,base,k,s⟩ Q)
  | .inRegion _ []::k=>wp n ⟨fn,nt,base,k,s⟩ Q
  | .inRegion ops (i::rest)::k=>match ops[i]? with
   |some o=>pX ops o s fun w s=>
    bif w then sP cfg (wp n) s o fun v s'=>fO nt s' o.dst v fun s'=>wp n ⟨fn,nt,base, .inRegion ops rest::k,s'⟩ Q
    else fO nt s o.dst (.bg []) fun s'=>wp n ⟨fn,nt,base, .inRegion ops rest::k,s'⟩ Q
   |none=>False
  |_=>False
def ask (n:Nat) (f:FuncId) (args:List SV) (Q:SV->St->Prop):Prop:=
 match cfg.tab.fns.get f with
 |some fn=>match fn.body with
  |some body=>wp cfg n ⟨f,Nat.max fn.ntmps args.length,0,[.code body],⟨Fr.of args 0,⟨0,[]⟩,[]⟩⟩ Q
  |none=>False
 |none=>False
end
end
end Go.Sy
namespace Go.Sy
open Go.Am Go.RowKit
section
variable [Inhabited aL]
theorem _root_.Go.Am.dw.rest {E:Env} {h h0:AH} {K:KS} {w:World} (hB:dw K w):dw (Am.Rest E h h0 K) w:=fun b hb=>⟨.inl (hB b hb).1,(hB b hb).2⟩
def dX (w:World):Prop:=∀b,b<(default:aL).old.size->w.heap[b]? =(default:aL).old[b]?
theorem dX.lt {w:World} (h:dX w) {b:Nat} (hb:b<(default:aL).old.size):b<w.heap.size:=by
 have:=h b hb;rw[AS hb]at this;grind
theorem dX.oT {w:World} (h:dX w):dw (KS.old w.heap.size) w:=fun b hb=>⟨h.lt hb,h b hb⟩
theorem dX.below {w w':World} (h:dX w) (hb:Below w.heap.size w w'):dX w':=fun b hb'=>by rw[hb.block b (h.lt hb')];exact h b hb'
theorem dX.pj (h:(default:aL).old.size=0) (w:World):dX w:=fun b hb=>by omega
theorem _root_.Go.Am.dw.pj (h:(default:aL).old.size=0) (K:KS) (w:World):dw K w:=fun b hb=>by omega
def dm (P:Program) (m:AM) (Ψ:AV->AH->Prop):Prop:=
 ∀(D:Nat->Prop) (E:Env) (K:KS) (base:List Frame) (frC:Frame) (csC:List Frame) (w:World),Rel D E K m base frC csC w->dw K w->
  ∃v h',Ψ v h'/\Am.Ends P m.h.next (lone frC csC w) D E K v h' base (bot m.fr m.cs) w
structure eR (P:Program) (tab:bc):Prop where
 ok:bq P tab
 ext:gS P tab
 mix:P.follows .mixedOrders=true
theorem dm.mono {P:Program} {m:AM} {Ψ Φ:AV->AH->Prop} (h:dm P m Ψ) (hi:∀v h',Ψ v h'->Φ v h'):dm P m Φ:=by
 intro D E K base frC csC w hR hB;obtain⟨v,h',h1,h2⟩:=h D E K base frC csC w hR hB;grind
def sub0:FuncId->List AV->AH->R (List (AV×AH)):=fun _ _ _=> .no "sub0"
theorem rN {P:Program} {tab:bc}:gT P tab sub0:=by
 intro f fn body args h outs _ _ ho
 cases ho
section
variable {P:Program} {tab:bc} (pr:eR P tab) {Ψ:AV->AH->Prop}
include pr
theorem dm.next {m m':AM} (hs:Am.step tab sub0 m= .ok (.next m')) (h:dm P m' Ψ):dm P m Ψ:=by
 intro D E K base frC csC w hR hB;obtain⟨hb,fr',cs',w',E',D',s1,s2,s3,s4,s5,s6,s7⟩:=tZ pr.ok rN pr.ext (uc pr.ok rN pr.ext pr.mix) hs hR;obtain⟨v,h',h1,h2⟩:=h D' E' K base fr' cs' w' s2 (hB.kept s5);rw[hb]at h2;grind [Am.Ends.trans]
theorem dm.done {m:AM} {v:AV} {h:AH} (hs:Am.step tab sub0 m= .ok (.done v h)) (hv:Ψ v h):dm P m Ψ:=by
 intro D E K base frC csC w hR hB;exact⟨v,h,hv,tZ pr.ok rN pr.ext (uc pr.ok rN pr.ext pr.mix) hs hR⟩
end
def e9 (P:Program) (tab:bc) (ts:T AV) (h0:AH) (o:Oper) (Θ:AV->AH->Prop):Prop:=
 (∃v h1,dB tab ts h0 o= .ok (v,h1)/\h0.next<=h1.next/\Θ v h1)\/
 (∃c f g first captured args fn body,o.op= .call c/\c.callee= .value f/\ev ts f= .ok (.fn (.func g) first captured)/\gj ts c.args.toList= .ok args/\
  tab.fns.get g=some fn/\fn.body=some body/\dm P {fr:=ae.enter fn g body (first++args++captured) .normal,cs:=[],h:=h0} fun v h1=>h0.next<=h1.next/\Θ v h1)
theorem e9.congr {P:Program} {tab:bc} {ts ts':T AV} {h0:AH} {o:Oper} {Θ:AV->AH->Prop} (hops:∀x∈o.op.operands,ev ts x=ev ts' x) (hp:e9 P tab ts h0 o Θ):e9 P tab ts' h0 o Θ:=by
 rcases hp with⟨v,h1,hp,hle,hΘ⟩|⟨c,f,g,first,captured,args,fn,body,hc,hcf,hu,hargs,hfn,hb',hgo⟩
 . exact .inl ⟨v,h1,by rw[<-pq o hops];exact hp,hle,hΘ⟩
 . refine .inr ⟨c,f,g,first,captured,args,fn,body,hc,hcf,?_,?_,hfn,hb',hgo⟩
   all_goals grind [Op.operands,Call.operands,pA]
section
variable {P:Program} {tab:bc} (pr:eR P tab)
variable {D:Nat->Prop} {E:Env} {K:KS} {base:List Frame} {frC:Frame} {csC:List Frame} {w:World}
variable {fr:ae} {cs:List ae} {h h0:AH} {ops:Array Oper} {i:Nat} {rest:List Nat} {o:Oper}
include pr
theorem yf {Θ:AV->AH->Prop} (hR:Rel D E K {fr,cs,h} base frC csC w) (hB:dw K w) (a:fp frC ops i rest o) (hp:e9 P tab fr.tmps h0 o Θ)
   (hs:∀i o,h0.get i=some o->h.get i=some o) (hd0:∀i o,h0.get i=some o->i<h0.next) (hltD:∀i,D i->i<h0.next):
   ∃ v h1,Θ v h1/\h0.next<=h1.next/\ ∀fr' h2,fr.finish v= .ok fr'->(∀i o,h2.get i=some o->h1.get i=some o\/(h.get i=some o/\h0.get i=none))->
     (∀i o,h2.get i=some o->i<h2.next\/(h1.get i=some o/\h1.next<=h2.next))->h2.next=h1.next->eK P h0.next (lone frC csC w) D E K {fr:=fr',cs,h:=h2} base w:=by
 rcases hp with⟨v,h1,hp,hle,hΘ⟩|⟨c,f,g,first,captured,args,fn,body,hc,hcf,hu,hargs,hfn,hb,hgo⟩
 . refine⟨v,h1,hΘ,hle,fun fr' h2 hf hg hd2 hnx=>?_⟩;refine wB (pG pr.ok hR a hp hf hs hd0 hg hd2 (fun i=>i=h0.next/\h0.next<h1.next) (fun h=>⟨rfl,h⟩) (fun i hi=>⟨hi.1,fun hd=>by have:=hltD i hd;omega⟩) ?_) (by simp only;omega) (fun i hi=>by omega);rintro i (hi|hi)
   . have:=hltD i hi;omega
   . omega
 . have ok:=pr.ok;have hρ:∀E',ai D E E'->∀x u,ev fr.tmps x= .ok u->frC.eval x=ad E' u:=by
     intro E' he x u hx;rw[<-(hR.all E' he).2.1];exact lC hR.wf.1 E' hx
   have hd:lG (.fn (.func g) first captured) args= .ok {target:= .fn (.func g) captured,args:=first++args}:=rfl;have hres:∀E',ai D E E'->Deferred.ofValue (frC.eval f) (c.args.map frC.eval)=pure (cW E' {target:= .fn (.func g) captured,args:=first++args}):=by
     intro E' he;rw[<-nJ hd E',hρ E' he _ _ hu,<-mw (hρ E' he) _ _ hargs];congr 1
     simp[<-Array.toList_inj]
   have hrob:=po hres;have hnd:∀c',o.op≠ .defer c':=by rw[hc];intro c' e;cases e
   have hctx:Ctx P (lone frC csC w) frC csC w .normal (cW E {target:= .fn (.func g) captured,args:=first++args}):=uy a (.inr hnd) (by simp[execOp,hc,resolve,hcf,hres E (ai.refl _ _)]);have hinv:∀E',ai D E E'->invoke (cW E {target:= .fn (.func g) captured,args:=first++args}).target (cW E {target:= .fn (.func g) captured,args:=first++args}).args=callFunc g (aU E' (first++args++captured)).toArray:=by
     grind [cW,jY,invoke,cU]
   have hP:=ok.fns g fn hfn;have hn:fn.name≠ "runtime.NumGoroutine" :=by simpa using ok.qC g fn hfn
   have hrun:∀a,(callFunc g a).run P w= .ok (.enter g a) w:=by
     intro a;simp[callFunc,hP,hn,hb]
   have hstep:∀E',ai D E E'->Go.step P (lone frC csC w)= .next (lone (Frame.enter P g (aU E' (first++args++captured)).toArray .normal) (frC::csC) w):=fun E' he=>
     hctx.enter _ _ _ (by rw[hinv E' he,hrun])
   have hargsC:∀E',ai D E E'->(aU E' (first++args++captured)).toArray=(aU E (first++args++captured)).toArray:=by
     intro E' he;have h4:=hrun (aU E' (first++args++captured)).toArray;rw[<-hinv E' he,hinv E (ai.refl _ _),hrun]at h4;simpa using h4.symm
   have hRc:Rel D E (Am.Rest E h h0 K) {fr:=ae.enter fn g body (first++args++captured) .normal,cs:=[],h:=h0} (frC::csC) (Frame.enter P g (aU E (first++args++captured)).toArray .normal) (frC::csC) w:=by
     refine⟨fun E' he=>⟨?_,?_,rfl⟩,hltD,re _ _ _ _ _,fun f hf=>by cases hf⟩
     . rw[<-hR.dL he];exact(hR.all E' he).1.part hs hd0
     . rw[<-hargsC E' he,ly hP hb]
   obtain⟨v,h1,⟨hle,hΘ⟩,he2⟩:=hgo D E (Am.Rest E h h0 K) (frC::csC) _ _ w hRc hB.rest;refine⟨v,h1,hΘ,hle,fun fr' h2 hf hg hd2 hnx=>?_⟩;have hfc:=gO hf;obtain⟨fr1,w',vC,E',D',s1,s2,s3,s4,s5,s6,s7,s8,s9,s10⟩:=he2;refine⟨frC.finish vC,csC,w',E',D',?_,⟨?_,?_,?_⟩,s5,s6,s8.part,by grind,s10⟩
   . exact(Steps.head (hstep E (ai.refl _ _)) s1).trans (.one (step_leave_returned s3))
   . intro E'' he';obtain⟨g1,g2⟩:=s4 E'' he';have hag:=s5.trans he' s6;obtain⟨k1,k2,k3⟩:=hR.all E'' hag;refine⟨k1.join (by rw[hR.dL hag];exact g1) (by rw[hR.dL hag];exact s8) hg (fun i o hi=>(hd2 i o hi).elim id (fun h=>A2 (g1.dv i o h.1) h.2)),?_,k3⟩;rw[<-(hfc E'').1,<-g2,<-k2]
   . intro i hi;have:=s7 i hi;simp only;omega
   . exact⟨(hfc E).2.1 hR.wf.1,hR.wf.2⟩
theorem ML {Θ:AV->AH->Prop} {Ψ:AV->AH->Prop} {k:List bm} (hm:fr.mode= .run) (ht:fr.todo= .inRegion ops (i::rest)::k) (ho:ops[i]? =some o) (hw:wanted ops o fr.tmps= .ok true) (hp:e9 P tab fr.tmps h o Θ)
  (hfin:∀v,∃fr',fr.finish v= .ok fr') (hk:∀v h1,Θ v h1->∀fr',fr.finish v= .ok fr'->dm P {fr:=fr',cs,h:=h1} Ψ):dm P {fr,cs,h} Ψ:=by
 intro D E K base frC csC w hR hB;have hdom:=(hR.all E (ai.refl _ _)).1.dv;obtain⟨v,h1,hΘ,hle,hgets⟩:=yf pr hR hB (iJ hR hm ht ho hw) hp (fun _ _ h=>h) hdom (fun i hi=>hR.dv i hi);obtain⟨fr',hf⟩:=hfin v;obtain⟨frC',csC',w',E',D',s1,s2,s3,s4,s5,s6,s7⟩:=hgets fr' h1 hf (fun _ _ h=> .inl h) (fun _ _ h=> .inr ⟨h,An _⟩) rfl;obtain⟨v',h',g1,g2⟩:=hk v h1 hΘ fr' hf D' E' K base frC' csC' w' s2 (hB.kept s5);refine⟨v',h',g1,?_⟩;have hb:=eZ (gO hf E).2.2 cs;rw[hb]at g2;grind [Am.Ends.trans]
end
end
section
variable [Inhabited aL]
def kg (P:Program) (tab:bc) (ops:Array Oper) (nt i:Nat) (o:Oper) (s:DS) (Φ:DS->Prop):Prop:=
 fN s.aC ops i o=true/\wanted ops o s.ts= .ok true/\
 e9 P tab s.ts (fl s.h (s.ar.filter fun x=> !(bY x.1 (dk s.aC o)))) o fun v h1=>
  reread tab ops (fl (restore h1 s.h (s.ar.filter fun x=> !(bY x.1 (dk s.aC o)))) (s.ar.filter fun x=> !(bY x.1 (dk s.aC o)))) (s.reads.filter fun x=> !(bY x.1 (dk s.aC o)))= .ok ()/\
  Φ {ts:=fk nt s.ts o v,h:=restore h1 s.h (s.ar.filter fun x=> !(bY x.1 (dk s.aC o))),aC:=s.aC.set i (some (dk s.aC o)),reads:=s.reads.filter fun x=> !(bY x.1 (dk s.aC o)),ar:=s.ar.filter fun x=> !(bY x.1 (dk s.aC o))}
def dZ (P:Program) (tab:bc) (ops:Array Oper) (nt:Nat) (G:DS->Prop):Nat->DS->Prop
 |0,_=>False
 |n+1,s=>∃s1,gQ tab ops nt 0 ops.toList s= .ok s1/\((fV s1.aC 0 ops.toList=[]/\G s1)\/
  ∃c o,fV s1.aC 0 ops.toList=[(c,o)]/\kg P tab ops nt c o s1 (dZ P tab ops nt G n))
def sN (P:Program) (tab:bc) (ops:Array Oper) (nt:Nat) (G:DS->Prop) (n:Nat) (s1:DS):Prop:=
 (fV s1.aC 0 ops.toList=[]/\G s1)\/ ∃c o,fV s1.aC 0 ops.toList=[(c,o)]/\kg P tab ops nt c o s1 (dZ P tab ops nt G n)
section
variable {P:Program} {tab:bc} (pr:eR P tab)
variable {D:Nat->Prop} {E:Env} {K:KS} {base:List Frame} {frC:Frame} {csC:List Frame} {w:World}
variable {ops:Array Oper} {fr0:ae} {cs:List ae} {k:List bm} {lo:Nat} {s:DS} {Φ:DS->Prop} {X:Nat->Prop} {tsR:T AV} {hR:AH} {j:Nat} {l:List Nat} {o:Oper}
open Classical in
include pr in
theorem HR (H:cu tab ops fr0.nt fr0.tmps lo s X) (Q:dq ops fr0 cs k base s X D E K tsR hR (j::l) frC csC w) (hB:dw K w) (hm:fr0.mode= .run) (ho:ops[j]? =some o) (hr:isReady s.aC j o=true)
   (hd:kg P tab ops fr0.nt j o s Φ) (hready:∀p∈fg o,X p):∃s2,Φ s2/\cu tab ops fr0.nt fr0.tmps lo s2 (fun i=>X i\/i=j)/\oo P ops fr0 cs k base s2 (fun i=>X i\/i=j) D E K lo l frC csC w:=by
 obtain⟨hok,hb,hp⟩:=hd;obtain⟨hnone,hpre⟩:=lz hr;obtain⟨hok1,hok2⟩:=rM hok;have hxj:¬X j:=fun h=>by have:=H.cx j h;rw[hnone]at this;grind
 have hanX:∀p∈dk s.aC o,X p:=by
   intro p hp;rcases dU.1 hp with h|⟨q,hq,ap,h1,h2⟩
   . grind
   . exact H.mK q ap (hready q hq) h1 p h2
 generalize hhid:(s.ar.filter fun x=> !(bY x.1 (dk s.aC o)))=hid at*
 have hidm:∀x,x∈hid↔x∈s.ar/\x.1∉dk s.aC o:=by
   grind [df]
 have hidj:∀x∈hid,x.1≠j:=by
   intro x hx e;have:=(H.al x ((hidm x).1 hx).1).2.1;rw[e,hnone]at this;grind
 have hl:∀t∈looks ops o,tsR.get t=s.ts.get t:=by
   intro t ht;by_cases hw:∃jj oj,ops[jj]? =some oj/\oj.dst=some t/\(s.aC.get jj).isSome
   . obtain⟨jj,oj,g1,g2,g3⟩:=hw;exact Q.kT jj oj t (hready jj (hok1 t ht jj oj g1 g2 g3)) g1 g2
   . rw[Q.kS t (fun jj oj hx hoj hd=>hw ⟨jj,oj,hoj,hd,H.cx jj hx⟩),H.lR t (fun jj oj hc hoj hd=>hw ⟨jj,oj,hoj,hd,hc⟩)]
 obtain⟨hops,hwant⟩:=uf hl;have a:=iJ Q.rel hm rfl ho (by rw[hwant];exact hb);obtain⟨v,h1,⟨hrr,hΦ⟩,hle,hgets0⟩:=yf pr Q.rel hB a (h0:=fl s.h hid) (hp.congr (fun x hx=>(hops x hx).symm))
   (by
     intro i ob h;rw[fm]at h;split at h
     . cases h
     . refine(Q.hr i ob).2 ⟨h,fun x hx e=>?_⟩;grind)
   (by
     intro i ob h;rw[fm]at h;split at h
     . cases h
     . rw[fQ];exact H.hd i ob h)
   (by intro i hi;rw[fQ,<-Q.hn];exact Q.rel.dv i hi)
 rw[fQ]at hle;have hfin:=tT (fr0:=fr0) (tsR:=tsR) (l:=l) (k:=k) ho v;let h2:=restore h1 s.h hid
 let pd:=hid.filter fun x=>decide (¬(X x.1\/x.1=j))
 let hR2:=fl h2 pd
 have hg2:∀i,h2.get i=if ∃x∈hid,x.2=i then s.h.get i else h1.get i:=fun i=>kB _ _ _ _
 have hn2:h2.next=h1.next:=qK _ _ _;have hchar:∀i ob,hR2.get i=some ob↔h2.get i=some ob/\ ∀x∈hid,x.2=i->X x.1\/x.1=j:=by
   intro i ob;simp only[hR2,fm];constructor
   . intro h;split at h
     . cases h
     . refine⟨h,fun x hx e=>?_⟩;grind
   grind
 have hR2n:hR2.next=h1.next:=(fQ _ _).trans hn2;have hgets:=hgets0 _ hR2 hfin
   (by
     intro i ob h;obtain⟨h3,h4⟩:=(hchar i ob).1 h;rw[hg2]at h3;split at h3
     . rename_i hex;right;refine⟨(Q.hr i ob).2 ⟨h3,fun x hx e=>?_⟩,by rw[fm,Ai hex]⟩;grind
     grind)
   (by
     intro i ob h;obtain⟨h3,_⟩:=(hchar i ob).1 h;rw[hg2]at h3;rw[hR2n];split at h3
     . have:=H.hd i ob h3;omega
     grind)
   hR2n
 obtain⟨frC',csC',w',E1,D1,s1,rel1,ag1,dd1,kp1,_,new1⟩:=hgets;rw[fQ]at new1;have hdom2:∀i ob,h2.get i=some ob->i<h2.next:=by
   intro i ob h;rw[hn2];rw[hg2]at h;split at h
   . have:=H.hd i ob h;omega
   . rename_i hne;have h3:=(hchar i ob).2 ⟨by rw[hg2,Ah hne];exact h,fun x hx e=>absurd ⟨x,hx,e⟩ hne⟩;have:=(rel1.all E1 (ai.refl _ _)).1.dv i ob h3;rw[<-hR2n];omega
 refine⟨_,hΦ,?_,fk fr0.nt tsR o v,hR2,frC',csC',w',D1,E1,s1,⟨rel1,hchar,hR2n.trans hn2.symm,?_,?_,?_⟩,ag1,dd1,kp1,?_⟩
 . refine H.gL ho hr hok hanX rfl rfl (by grind) (fun x hx=>((hidm x).1 hx).1) (fun x hx hn=>(hidm x).2 ⟨hx,hn⟩) ?_ hdom2 ?_
   . intro x hx;rw[hg2,Ai ⟨x,hx,rfl⟩]
   . intro j' oj tj vj hmr hjan hoj hce hca;have hmf:(j',tj,vj)∈s.reads.filter (fun x=> !(bY x.1 (dk s.aC o))):=by
       rw[Bc];refine⟨hmr,?_⟩
       cases hb:bY j' (dk s.aC o)with
       |true=>exact absurd (df.1 hb) hjan
       |false=>rfl
     refine⟨hmf,?_⟩;obtain⟨oj',hr',g1,g2⟩:=yE _ hrr _ _ _ hmf;rw[hoj]at g1
     cases g1;have hsame:=qH ⟨hce,hca⟩ g2;subst hsame;refine⟨_,g2,?_⟩;intro b ob hg;rw[fm]at hg;split at hg
     all_goals grind [fQ]
 . intro i oi t hi hoi hd;rw[gN,gN];by_cases hc:o.dst=some t/\t<fr0.nt
   . rw[Ai hc,Ai hc]
   . rw[Ah hc,Ah hc];rcases hi with hi|rfl
     . exact Q.kT i oi t hi hoi hd
     . rw[ho]at hoi
       cases hoi;have hge:fr0.nt<=t:=Dh (fun hlt=>hc ⟨hd,hlt⟩);rw[H.oR t hge];exact Q.rel.wf.1 t hge
 . intro t ht;rw[gN,Ah (fun h=>ht j o (.inr rfl) ho h.1)];exact Q.kS t (fun i oi hi hoi=>ht i oi (.inl hi) hoi)
 . intro x hx hnx hD;have hxm:=((hidm x).1 hx).1;rcases new1 x.2 hD with hd|hd
   . exact Q.dp x hxm (fun h=>hnx (.inl h)) hd
   . have:=(H.al x hxm).1;omega
 . intro i hi;rcases new1 i hi with h|h
   . grind
   . exact .inr (Bb H.nx h)
end
section
variable {P:Program} {tab:bc} (pr:eR P tab)
variable {K:KS} {base:List Frame}
variable {ops:Array Oper} {fr0:ae} {cs:List ae} {k:List bm} {lo:Nat}
def lT (P:Program) (fr0:ae) (cs:List ae) (k:List bm) (base:List Frame) (K:KS) (lo:Nat) (G:DS->Prop) (D:Nat->Prop) (E:Env) (frC:Frame) (csC:List Frame) (w:World):Prop:=
 ∃sF frC' csC' w' D' E',G sF/\Steps P (lone frC csC w) (lone frC' csC' w')/\Rel D' E' K {fr:={fr0 with tmps:=sF.ts,todo:=k},cs,h:=sF.h} base frC' csC' w'/\ai D E E'/\(∀i,D i->D' i)/\Kept K w w'/\(∀i,D' i->D i\/lo<=i)/\lo<=sF.h.next
include pr in
theorem tF (hm:fr0.mode= .run) (hlt:lP 0 ops.toList=true):∀(fuel t:Nat) (listed:Array Bool) (s:DS) (G:DS->Prop) (n:Nat) (D:Nat->Prop) (E:Env) (tsR:T AV) (hR:AH) (frC:Frame) (csC:List Frame) (w:World),
  listed.size=ops.size->kf ops.size listed<=fuel->sN P tab ops fr0.nt G n s->cu tab ops fr0.nt fr0.tmps lo s (db listed)->
  dq ops fr0 cs k base s (db listed) D E K tsR hR (Region.linearise.go .any ops fuel t listed []) frC csC w->dw K w->lT P fr0 cs k base K lo G D E frC csC w:=by
 have hend:∀(listed:Array Bool) (s:DS) (G:DS->Prop) (n:Nat) (D:Nat->Prop) (E:Env) (tsR:T AV) (hR:AH) (frC:Frame) (csC:List Frame) (w:World),(∀j,j<ops.size->db listed j)->
    sN P tab ops fr0.nt G n s->cu tab ops fr0.nt fr0.tmps lo s (db listed)->dq ops fr0 cs k base s (db listed) D E K tsR hR [] frC csC w->lT P fr0 cs k base K lo G D E frC csC w:=by
  intro listed s G n D E tsR hR frC csC w hall htodo H Q;rcases htodo with⟨_,hG⟩|⟨c,o,hc,_⟩
  . have hts:∀t,tsR.get t=s.ts.get t:=by
      intro t;by_cases hw:∃(j:Nat) (oj:Oper),ops[j]? =some oj/\oj.dst=some t
      . obtain⟨j,oj,h1,h2⟩:=hw;exact Q.kT j oj t (hall j (Ak.1 h1).1) h1 h2
      . rw[Q.kS t (fun j oj _ h1 h2=>hw ⟨j,oj,h1,h2⟩),H.lR t (fun j oj _ h1 h2=>hw ⟨j,oj,h1,h2⟩)]
    have hst:∀E',Go.step P (lone (aY E' {fr0 with tmps:=tsR,todo:= .inRegion ops []::k}) csC w)= .next (lone (aY E' {fr0 with tmps:=tsR,todo:=k}) csC w):=
      fun E'=>step_lone_go (by simp[stepG,stepG.exec,aY,hm,dJ,cH])
    have hconc:∀E',aY E' {fr0 with tmps:=s.ts,todo:=k}=aY E' {fr0 with tmps:=tsR,todo:=k}:=by
      simp_all[eH,qe,aY]
    have hfr:=(Q.rel.all E (ai.refl _ _)).2.1;refine⟨s,aY E {fr0 with tmps:=tsR,todo:=k},csC,w,D,E,hG, .one (by rw[<-hfr];grind),⟨fun E' he=>?_,fun i hi=>?_,?_,Q.rel.wf.2⟩,ai.refl _ _,fun _ h=>h,Kept.refl K w,fun i hi=> .inl hi,H.nx⟩
    . obtain⟨g1,g2,g3⟩:=Q.rel.all E' he;refine⟨g1.same (fun i ob h=>(Q.hr i ob).2 ⟨h,fun x hx _=>?_⟩) (by simp only;rw[Q.hn];omega),?_,g3⟩
      . obtain⟨o,ho⟩:=H.op _ (H.al x hx).2.1;grind
      grind [nT]
    . have:=Q.rel.dv i hi;rw[Q.hn]at this;omega
    . intro t ht;have:=Q.rel.wf.1 t ht;grind
  . have hcm:(c,o)∈fV s.aC 0 ops.toList:=by rw[hc];grind
    obtain⟨j',h1,h2,h3⟩:=xx _ _ _ _ _ hcm;have hlt':c<ops.size:=by
      have:=(Ao.1 h2).1;grind
    have:=H.cx c (hall c hlt');rw[(lz h3).1]at this;grind
 intro fuel;induction fuel with
 |zero=>
  grind [zj,Region.linearise.go]
 | succ fuel ih=>
  intro t listed s G n D E tsR hR frC csC w hsz hu htodo H Q hB;change dq ops fr0 cs k base s (db listed) D E K tsR hR (match(Region.ready .any ops listed)[t % (Region.ready .any ops listed).length]? with
    |some i=>Region.linearise.go .any ops fuel (t / (Region.ready .any ops listed).length) (listed.setIfInBounds i true) [i]
    |none=>[].reverse) frC csC w at Q
  have hget:∀j,j<ops.size->(listed.getD j true=false↔¬db listed j):=by
    grind [db]
  cases hi:(Region.ready .any ops listed)[t % (Region.ready .any ops listed).length]? with
  | none=>
    rw[hi]at Q;have hnil:Region.ready .any ops listed=[]:=by
      cases hr:Region.ready .any ops listed with
      |nil=>rfl
      | cons x xs=>
        rw[hr]at hi;have hlt:t % (x::xs).length<(x::xs).length:=DM _ (by simp);rw[Da]at hi;omega
    have hall:∀j,j<ops.size->db listed j:=by
      intro j;induction j using Nat.strongRecOn with
      | _ j ihj=>
        intro hj;by_cases hx:db listed j
        . exact hx
        . have hm':j∈Region.ready .any ops listed:=by
           rw[mem_ready];refine⟨(hget j hj).2 hx,ops[j],AS hj,?_⟩;intro e he hb;have hp:e.on∈fg ops[j]:=BF.2 ⟨e,Bc.2 ⟨by grind,hb⟩,rfl⟩;have hlt':=zD ops.toList 0 hlt j ops[j] (by grind) e.on hp;grind
          rw[hnil]at hm';grind
    grind
  | some i =>
    rw[hi]at Q;simp only at Q;rw[linearise_go_acc,BP,BS]at Q;obtain⟨hl1,o,ho,hdeps⟩:=mem_ready.1 (Bv hi);have hin:i<ops.size:=(Ak.1 ho).1;have hx:=(hget i hin).1 hl1;have hready:∀p∈fg o,db listed p:=by
      intro p hp;obtain⟨e,he,rfl⟩:=BF.1 hp;grind
    have hsz':(listed.setIfInBounds i true).size=ops.size:=by grind
    have hu':kf ops.size (listed.setIfInBounds i true)<=fuel:=by
      have:=Cp hin (by omega) hx;omega
    have hX':db (listed.setIfInBounds i true)=fun j=>db listed j\/j=i:=u2 (by omega)
    have hfin:∀(s':DS) (n':Nat),sN P tab ops fr0.nt G n' s'->cu tab ops fr0.nt fr0.tmps lo s' (fun j=>db listed j\/j=i)->
        oo P ops fr0 cs k base s' (fun j=>db listed j\/j=i) D E K lo (Region.linearise.go .any ops fuel (t / (Region.ready .any ops listed).length) (listed.setIfInBounds i true) []) frC csC w->lT P fr0 cs k base K lo G D E frC csC w:=by
      intro s' n' htd H' hc;obtain⟨tsR',hR',frC',csC',w',D',E',c1,c2,c3,c4,c5,c6⟩:=hc;obtain⟨sF,frF,cSF,wF,DF,EF,f0,f1,f2,f3,f4,f5,f6,f7⟩:=ih _ (listed.setIfInBounds i true) s' G n' D' E' tsR' hR' frC' csC' w' hsz' hu' htd (by rw[hX'];exact H') (by rw[hX'];exact c2) (hB.kept c5);exact⟨sF,frF,cSF,wF,DF,EF,f0,c1.trans f1,f2,c3.trans f3 c4,fun x hx=>f4 x (c4 x hx),c5.trans f5,fun x hx=>(f6 x hx).elim (c6 x) .inr,f7⟩
    by_cases hC:(s.aC.get i).isSome=true
    . exact hfin s n htodo (H.oZ hC ho hready) (yg pr.ok H Q hm ho hC hx hready)
    . have hr:isReady s.aC i o=true:=by
        unfold isReady;simp only[Ad,Aq];exact⟨by simp_all,fun p hp=>H.cx p (hready p hp)⟩
      have hcm:(i,o)∈fV s.aC 0 ops.toList:=by
        have:=yZ ops.toList 0 s.aC i o (by grind) (by grind);grind
      rcases htodo with⟨hc,_⟩|⟨c,o',hc,hd⟩
      . rw[hc]at hcm;grind
      . rw [hc]at hcm;rcases As.1 hcm with e|hcm
        . cases e;obtain⟨s2,hloop,H2,tsR',hR',frC',csC',w',D',E',c1,c2,c3,c4,c5,c6⟩:=HR pr H Q hB hm ho hr hd hready
          cases n with
          |zero=>exact hloop.elim
          | succ n=>
           obtain⟨s3,hpass,htd3⟩:=hloop;have hpl:∀j o,ops.toList[j]? =some o->ops[0+j]? =some o:=by
            intro j o hj;simpa using hj
           obtain⟨hR3,Q3⟩:=qP ops.toList 0 s2 s3 hR' hpl hpass H2 c2;exact hfin s3 n htd3 (qM ops.toList 0 s2 s3 hpl hpass H2) ⟨tsR',hR3,frC',csC',w',D',E',c1,Q3,c3,c4,c5,c6⟩
        . cases hcm
include pr in
theorem Mr {Ψ:AV->AH->Prop} {h:AH} {id:Nat} {n:Nat} (hm:fr0.mode= .run) (ht:fr0.todo= .code (.region id ops true)::k) (hlt:lP 0 ops.toList=true)
  (hd:dZ P tab ops fr0.nt (fun sF=>dm P {fr:={fr0 with tmps:=sF.ts,todo:=k},cs,h:=sF.h} Ψ) n {ts:=fr0.tmps,h,aC:= .e,reads:=[],ar:=[]}):dm P {fr:=fr0,cs,h} Ψ:=by
 intro D E K base frC csC w hR hB;obtain⟨n,rfl⟩:∃n',n=n'+1:=by
  cases n with
  |zero=>exact hd.elim
  |succ n=>grind
 obtain⟨s1,hpass,htodo⟩:=hd;let s0:DS:={ts:=fr0.tmps,h,aC:= .e,reads:=[],ar:=[]}
 let ord:=w.tape w.drawn (.order frC.fn id)
 let l:=Go.Region.linearise.go .any ops ops.size ord (Array.replicate ops.size false) []
 have hstep:∀E',ai D E E'->Go.step P (lone frC csC w)= .next (lone (aY E' {fr0 with tmps:=fr0.tmps,todo:= .inRegion ops l::k}) csC w.drew):=by
  intro E' he;have e1:=(hR.all E' he).2.1;refine step_lone_go ?_;have hmC:frC.mode= .run:=by rw[<-e1];grind [aY,dJ]
  have htC:frC.todo= .code (.region id ops true)::k.map (cH E'):=by rw[<-e1];grind [aY,cH]
  have hrun:(choose (.order frC.fn id)).run P w= .ok ord w.drew:=by
   rfl
  have hsch:Go.Region.schedule (P.follows .mixedOrders) ops ord=l:=by
   simp only[Go.Region.schedule,pr.mix,BR,AY];rfl
  have hgoal:aY E' {fr0 with tmps:=fr0.tmps,todo:= .inRegion ops l::k}={frC with todo:= .inRegion ops l::k.map (cH E')}:=by
   rw[<-e1];rfl
  rw[hgoal];grind [stepG,stepG.exec,GStep.bare_go]
 have hdom:=(hR.all E (ai.refl _ _)).1.dv;have H0:cu tab ops fr0.nt fr0.tmps h.next s0 (db (Array.replicate ops.size false)):=by
  have hnone:∀j,s0.aC.get j=none:=fun _=>rfl
  refine⟨fun j hj=>absurd hj (nK _ _),fun j a hj=>absurd hj (nK _ _),?_,?_,?_,fun _ _=>rfl,?_,fun x hx=>(by cases hx),An _,hR.wf.1,fun x hx=>(by cases hx),hdom⟩
  all_goals grind
 have Q0:dq ops fr0 cs k base s0 (db (Array.replicate ops.size false)) D E K fr0.tmps h l (aY E {fr0 with tmps:=fr0.tmps,todo:= .inRegion ops l::k}) csC w.drew:=by
  refine⟨⟨fun E' he=>?_,hR.dv,hR.wf⟩,fun i ob=>⟨fun h=>⟨h,fun x hx=>(by cases hx)⟩,fun h=>h.1⟩,rfl,fun j o t hx=>absurd hx (nK _ _),fun _ _=>rfl,fun x hx=>by cases hx⟩;obtain⟨g1,g2,g3⟩:=hR.all E' he;refine⟨g1.drew,?_,g3⟩;have h1:=hstep E' he;rw[hstep E (ai.refl _ _)]at h1;grind [nT]
 have htodo:sN P tab ops fr0.nt (fun sF=>dm P {fr:={fr0 with tmps:=sF.ts,todo:=k},cs,h:=sF.h} Ψ) n s1:=htodo;have hpl:∀j o,ops.toList[j]? =some o->ops[0+j]? =some o:=by
  grind
 obtain⟨hR1,Q1⟩:=qP ops.toList 0 s0 s1 h hpl hpass H0 Q0;have H1:=qM ops.toList 0 s0 s1 hpl hpass H0;obtain⟨sF,frC',csC',w',D',E',f0,f1,f2,f3,f4,f5,f6,f7⟩:=tF pr hm hlt ops.size ord (Array.replicate ops.size false) s1 _ n D E fr0.tmps hR1 _ csC w.drew (by simp)
  (by grind [kf]) htodo H1 Q1 hB
 obtain⟨v,h',g1,g2⟩:=f0 D' E' K base frC' csC' w' f2 (dw.kept (w:=w.drew) hB f5);have hb:bot {fr0 with tmps:=sF.ts,todo:=k} cs=bot fr0 cs:=eZ (fr:=fr0) (fr':={fr0 with tmps:=sF.ts,todo:=k}) rfl cs;rw[hb]at g2;exact⟨v,h',g1,Am.Ends.trans (Steps.head (hstep E (ai.refl _ _)) f1) f3 f4 ((Kept.drew K w).trans f5) f7 f6 g2⟩
end
end
section
universe u v
variable [Inhabited aL]
structure BI where
 β:Nat
 len:Nat
 sz:Nat
 cap:Option ew
structure Cx where
 ρ:Nat->Option BI
 Fz:Nat->Option AO
def oJ (cap:ew) (off n sz:Nat) (ext:Bool):Prop:=
 match cap with
 | .lit m=>n<=m
 | .tail k=>ext=true/\off=k*sz
def dx (Fz:Nat->Option AO) (b:Nat) (cs:List AV) (e:TypeId) (sz:Nat) (ext:Bool) (bk:BK):Prop:=
 ∃sz0 ext0,Fz b=some (.cells cs e sz0 ext0 bk)/\(ext=true->sz0=sz/\ext0=true)
theorem dx.of {Fz:Nat->Option AO} {b:Nat} {cs:List AV} {e:TypeId} {sz:Nat} {ext:Bool} {bk:BK} (h:Fz b=some (.cells cs e sz ext bk)):dx Fz b cs e sz ext bk:=⟨sz,ext,h,fun h=>⟨rfl,h⟩⟩
theorem dx.mono {Fz Fz':Nat->Option AO} (hf:∀i o,Fz i=some o->Fz' i=some o) {b:Nat} {cs:List AV} {e:TypeId} {sz:Nat} {ext:Bool} {bk:BK} (h:dx Fz b cs e sz ext bk):dx Fz' b cs e sz ext bk:=by
 obtain⟨s,x,h1,h2⟩:=h;exact⟨s,x,hf _ _ h1,h2⟩
inductive aG (Fz:Nat->Option AO):SV->AV->Prop
 |bool (b:Bool):aG Fz (.bool b) (.bool b)
 |int (k:IntKind) (n:Int):aG Fz (.int k n) (.int k n)
 |str (s:List UInt8):aG Fz (.str s) (.str s)
 |aF:aG Fz .aF .aF
 |wp (a:Addr):aG Fz (.wp a) (.raw (.pointer (some a)))
 |nils:aG Fz .nils .nils
 |aW:aG Fz .aW .aW
 |aZ:aG Fz .aZ .aZ
 |any (v:AV):aG Fz .any v
 |bR {X:Type} {L:List X} {enc:X->List SV} {v:AV} (h0:L.length=0) (hv:v= .nils\/(∃b off l n k,v= .emp b off l n k)\/ ∃a c,v= .raw (.slice a 0 c)):aG Fz (.ax X L enc) v
 |ax {X:Type} {L:List X} {enc:X->List SV} (b off:Nat) (cap:ew) (cs:List AV) (e:TypeId) (sz:Nat) (ext:Bool) (bk:BK) (u:Nat->Nat->AV)
  (hb:dx Fz b cs e sz ext bk) (hs:0<sz) (hl:off+L.length*sz<=cs.length) (hn:∀(i:Nat) x,L[i]? =some x->(enc x).length=sz) (hc:oJ cap off L.length sz ext)
  (h1:∀(i:Nat) x (j:Nat) v,L[i]? =some x->(enc x)[j]? =some v->cs[off+i*sz+j]? =some (u i j)) (h2:∀(i:Nat) x (j:Nat) v,L[i]? =some x->(enc x)[j]? =some v->aG Fz v (u i j)):aG Fz (.ax X L enc) (.sl b off L.length cap)
 |ch {cs:List SV} {off:Nat} (b base:Nat) (ca:List AV) (e:TypeId) (sz:Nat) (ext:Bool) (bk:BK) (u:Nat->AV) (hb:Fz b=some (.cells ca e sz ext bk)) (hl:base+cs.length<=ca.length)
  (h1:∀(j:Nat) v,cs[j]? =some v->ca[base+j]? =some (u j)) (h2:∀(j:Nat) v,cs[j]? =some v->aG Fz v (u j)):aG Fz (.ch cs off) (.ptr b (base+off))
 |fn {f:FuncId} {xs ys:List SV} {us vs:List AV} (h1:xs.length=us.length) (h2:ys.length=vs.length) (h3:∀(i:Nat) x u,xs[i]? =some x->us[i]? =some u->aG Fz x u) (h4:∀(i:Nat) x u,ys[i]? =some x->vs[i]? =some u->aG Fz x u):aG Fz (.fn f xs ys) (.fn (.func f) us vs)
 |agg {cs:List SV} {vs:List AV} (h1:cs.length=vs.length) (h2:∀(i:Nat) c v,cs[i]? =some c->vs[i]? =some v->aG Fz c v):aG Fz (.agg cs) (.agg vs)
 |bg {cs:List SV} {vs:List AV} (h1:cs.length=vs.length) (h2:∀(i:Nat) c v,cs[i]? =some c->vs[i]? =some v->aG Fz c v):aG Fz (.bg cs) (.bg vs)
inductive az (C:Cx):SV->AV->Prop
 |pure {s:SV} {v:AV} (h:aG C.Fz s v):az C s v
 |ptr {b off:Nat} {I:BI} (h:C.ρ b=some I):az C (.ptr b off) (.ptr I.β off)
 |bN {b i off:Nat} {I:BI} (h:C.ρ b=some I) (hc:I.cap.isSome):az C (.bN b i off) (.ptr I.β (i*I.sz+off))
 |dh {b:Nat} {I:BI} (h:C.ρ b=some I) (hc:I.cap=none):az C (.own b) .nils
 |own {b:Nat} {I:BI} {c:ew} (h:C.ρ b=some I) (hc:I.cap=some c):az C (.own b) (.sl I.β 0 I.len c)
 |sl {b off n c:Nat} {I:BI} (h:C.ρ b=some I):az C (.sl b off n c) (.sl I.β off n (.lit c))
 |fn {f:FuncId} {xs ys:List SV} {us vs:List AV} (h1:xs.length=us.length) (h2:ys.length=vs.length) (h3:∀(i:Nat) x u,xs[i]? =some x->us[i]? =some u->az C x u) (h4:∀(i:Nat) x u,ys[i]? =some x->vs[i]? =some u->az C x u):az C (.fn f xs ys) (.fn (.func f) us vs)
 |agg {cs:List SV} {vs:List AV} (h1:cs.length=vs.length) (h2:∀(i:Nat) c v,cs[i]? =some c->vs[i]? =some v->az C c v):az C (.agg cs) (.agg vs)
 |bg {cs:List SV} {vs:List AV} (h1:cs.length=vs.length) (h2:∀(i:Nat) c v,cs[i]? =some c->vs[i]? =some v->az C c v):az C (.bg cs) (.bg vs)
theorem eu {b c:Nat} (h:¬b=c):Nat.beq b c=false:=Ap.2 fun e=>h (Ab e)
def aJ (C:Cx) (l:List SV) (m:List AV):Prop:=l.length=m.length/\ ∀(i:Nat) s v,l[i]? =some s->m[i]? =some v->az C s v
theorem aJ.nil {C:Cx}:aJ C [] []:=⟨rfl,fun i s v h=>by grind⟩
theorem aJ.cons {C:Cx} {s:SV} {v:AV} {l:List SV} {m:List AV} (h:az C s v) (t:aJ C l m):aJ C (s::l) (v::m):=by
 refine⟨by simp[t.1],fun i a b ha hb=>?_⟩
 cases i with
 |zero=>grind
 |succ i=>exact t.2 i a b (by grind) (by grind)
theorem aJ.head {C:Cx} {s:SV} {v:AV} {l:List SV} {m:List AV} (h:aJ C (s::l) (v::m)):az C s v/\aJ C l m:=
 ⟨h.2 0 s v rfl rfl,by simpa using h.1,fun i a b ha hb=>h.2 (i+1) a b (by grind) (by grind)⟩
theorem aJ.append {C:Cx} {l l':List SV} {m m':List AV} (h:aJ C l m) (h':aJ C l' m'):aJ C (l++l') (m++m'):=by
 refine⟨by simp[h.1,h'.1],fun i a b ha hb=>?_⟩;by_cases hi:i<l.length
 . rw[AL hi]at ha;rw[AL (by rw[<-h.1];exact hi)]at hb;exact h.2 i a b ha hb
 . rw[A8 (by omega)]at ha;rw[A8 (by rw[<-h.1];omega),<-h.1]at hb;exact h'.2 _ a b ha hb
theorem aJ.take {C:Cx} {l:List SV} {m:List AV} (h:aJ C l m) (n:Nat):aJ C (l.take n) (m.take n):=by
 refine⟨by simp[h.1],fun i a b ha hb=>?_⟩;rw[Bq]at ha hb;split at ha
 . rename_i hi;rw[Ai hi]at hb;exact h.2 i a b ha hb
 grind
theorem aJ.drop {C:Cx} {l:List SV} {m:List AV} (h:aJ C l m) (n:Nat):aJ C (l.drop n) (m.drop n):=by
 refine⟨by simp[h.1],fun i a b ha hb=>?_⟩;rw[BB]at ha hb;exact h.2 _ a b ha hb
theorem aG.mono {Fz Fz':Nat->Option AO} (hf:∀i o,Fz i=some o->Fz' i=some o) {s:SV} {v:AV} (h:aG Fz s v):aG Fz' s v:=by
 induction h with
 |bool b=>grind [bool]
 |int k n=>grind [int]
 |str s=>grind [str]
 |aF=>exact .aF
 |wp a=>grind [wp]
 |nils=>exact .nils
 |aW=>exact .aW
 |aZ=>exact .aZ
 |any v=>grind [any]
 |bR h0 hv=>grind [bR]
 |ax b off cap cs e sz ext bk u hb hs hl hn hc h1 _ ih=>exact .ax b off cap cs e sz ext bk u (hb.mono hf) hs hl hn hc h1 ih
 |ch b base ca e sz ext bk u hb hl h1 _ ih=>exact .ch b base ca e sz ext bk u (hf _ _ hb) hl h1 ih
 |fn h1 h2 _ _ ih3 ih4=>grind [fn]
 |agg h1 _ ih=>grind [agg]
 |bg h1 _ ih=>grind [bg]
theorem kK (e:Ev) (l:List SV):dS e l=l.map (SV.on e):=by
 induction l with
 |nil=>simp[dS]
 |cons a l ih=>grind [dS]
theorem aG.on {Fz:Nat->Option AO} {s:SV} {v:AV} (h:aG Fz s v) (e:Ev):aG Fz (s.on e) v:=by
 induction h with
 |bool b=>grind [SV.on,bool]
 |int k n=>grind [SV.on,int]
 |str s=>grind [SV.on,str]
 |aF=>grind [SV.on,aF]
 |wp a=>grind [SV.on,wp]
 |nils=>grind [SV.on,nils]
 |aW=>grind [SV.on,aW]
 |aZ=>grind [SV.on,aZ]
 |any v=>grind [SV.on,any]
 |bR h0 hv=>grind [SV.on,bR]
 |ax b off cap cs e sz ext bk u hb hs hl hn hc h1 h2 _=>exact .ax b off cap cs e sz ext bk u hb hs hl hn hc h1 h2
 |ch b base ca e sz ext bk u hb hl h1 h2 _=>exact .ch b base ca e sz ext bk u hb hl h1 h2
 |fn h1 h2 _ _ ih3 ih4=>
  grind [SV.on,kK,fn]
 |agg h1 _ ih=>
  grind [SV.on,kK,agg]
 |bg h1 _ ih=>
  grind [SV.on,kK,bg]
def cz (C:Cx) (e:Ev) (C':Cx):Prop:=
 (∀i o,C.Fz i=some o->C'.Fz i=some o)/\
 match e with
 | .mod _=>∀p I,C.ρ p=some I->C'.ρ p=some I
 | .kill b=>∀p I,p≠b->C.ρ p=some I->C'.ρ p=some I
 | .dM b X L enc=>(∀p I,p≠b->C.ρ p=some I->C'.ρ p=some I)/\ ∀I,C.ρ b=some I->
  (∀v,az C (.own b) v->aG C'.Fz (.ax X L enc) v)/\(∀(i:Nat) off v x,L[i]? =some x->az C (.bN b i off) v->aG C'.Fz (.ch (enc x) off) v)
theorem az.turns {C C':Cx} {e:Ev} (ht:cz C e C') {s:SV} {v:AV} (h:az C s v):az C' (s.on e) v:=by
 induction h with
 |pure h=>exact .pure ((h.mono ht.1).on e)
 | @ptr b off I h=>
  simp only[SV.on]
  cases e with
  |mod c=>exact .ptr (ht.2 _ _ h)
  |kill c=>
   by_cases hb:b=c
   . simp[hb];exact .pure (.any _)
   . simp only[eu hb,A6];exact .ptr (ht.2 _ _ hb h)
  |dM c X L enc=>
   by_cases hb:b=c
   . simp[hb];exact .pure (.any _)
   . simp only[eu hb,A6];exact .ptr (ht.2.1 _ _ hb h)
 | @bN b i off I h hc=>
  simp only[SV.on]
  cases e with
  |mod c=>exact .bN (ht.2 _ _ h) hc
  |kill c=>
   by_cases hb:b=c
   . simp[hb];exact .pure (.any _)
   . simp only[eu hb,A6];exact .bN (ht.2 _ _ hb h) hc
  |dM c X L enc=>
   by_cases hb:b=c
   . subst hb;simp only[BA,BM];split
     . rename_i x hx;exact .pure ((ht.2.2 I h).2 i off _ x hx (.bN h hc))
     . exact .pure (.any _)
   . simp only[eu hb,A6];exact .bN (ht.2.1 _ _ hb h) hc
 | @dh b I h hc=>
  simp only[SV.on]
  cases e with
  |mod c=>exact .dh (ht.2 _ _ h) hc
  |kill c=>
   by_cases hb:b=c
   . simp[hb];exact .pure (.any _)
   . simp only[eu hb,A6];exact .dh (ht.2 _ _ hb h) hc
  |dM c X L enc=>
   by_cases hb:b=c
   . subst hb;simp only[BA,BM];exact .pure ((ht.2.2 I h).1 _ (.dh h hc))
   . simp only[eu hb,A6];exact .dh (ht.2.1 _ _ hb h) hc
 | @own b I c' h hc=>
  simp only[SV.on]
  cases e with
  |mod c=>exact .own (ht.2 _ _ h) hc
  |kill c=>
   by_cases hb:b=c
   . simp[hb];exact .pure (.any _)
   . simp only[eu hb,A6];exact .own (ht.2 _ _ hb h) hc
  |dM c X L enc=>
   by_cases hb:b=c
   . subst hb;simp only[BA,BM];exact .pure ((ht.2.2 I h).1 _ (.own h hc))
   . simp only[eu hb,A6];exact .own (ht.2.1 _ _ hb h) hc
 | @sl b off n c' I h=>
  simp only[SV.on]
  cases e with
  |mod c=>exact .sl (ht.2 _ _ h)
  |kill c=>
   by_cases hb:b=c
   . simp[hb];exact .pure (.any _)
   . simp only[eu hb,A6];exact .sl (ht.2 _ _ hb h)
  |dM c X L enc=>
   by_cases hb:b=c
   . simp[hb];exact .pure (.any _)
   . simp only[eu hb,A6];exact .sl (ht.2.1 _ _ hb h)
 |fn h1 h2 _ _ ih3 ih4=>
  grind [SV.on,kK,fn]
 |agg h1 _ ih=>
  grind [SV.on,kK,agg]
 |bg h1 _ ih=>
  grind [SV.on,kK,bg]
def fG:List Ev->SV->SV
 |[],s=>s
 |e::l,s=>fG l (s.on e)
theorem qJ (l m:List Ev) (s:SV):fG (l++m) s=fG m (fG l s):=by
 induction l generalizing s with
 |nil=>rfl
 |cons e l ih=>exact ih _
structure Tr (C:Cx) (log:List Ev) (C':Cx):Prop where
 val:∀s v,az C s v->az C' (fG log s) v
 fz:∀i o,C.Fz i=some o->C'.Fz i=some o
theorem Tr.refl (C:Cx):Tr C [] C:=⟨fun _ _ h=>h,fun _ _ h=>h⟩
theorem Tr.trans {C C' C'':Cx} {l m:List Ev} (h:Tr C l C') (k:Tr C' m C''):Tr C (l++m) C'':=
 ⟨fun s v hs=>by rw[qJ];exact k.val _ _ (h.val _ _ hs),fun i o hi=>k.fz i o (h.fz i o hi)⟩
theorem cz.tr {C C':Cx} {e:Ev} (h:cz C e C'):Tr C [e] C':=⟨fun _ _ hs=>hs.turns h,h.1⟩
def Cx.le (C C':Cx):Prop:=(∀p I,C.ρ p=some I->C'.ρ p=some I)/\ ∀i o,C.Fz i=some o->C'.Fz i=some o
theorem az.le {C C':Cx} (hc:C.le C') {s:SV} {v:AV} (h:az C s v):az C' s v:=by
 induction h with
 |pure h=>exact .pure (h.mono hc.2)
 |ptr h=>exact .ptr (hc.1 _ _ h)
 |bN h hs=>exact .bN (hc.1 _ _ h) hs
 |dh h hs=>exact .dh (hc.1 _ _ h) hs
 |own h hs=>exact .own (hc.1 _ _ h) hs
 |sl h=>exact .sl (hc.1 _ _ h)
 |fn h1 h2 _ _ ih3 ih4=>grind [fn]
 |agg h1 _ ih=>grind [agg]
 |bg h1 _ ih=>grind [bg]
theorem Cx.le.tr {C C':Cx} (h:C.le C'):Tr C [] C':=⟨fun _ _ hs=>hs.le h,h.2⟩
theorem Cx.le_refl (C:Cx):C.le C:=⟨fun _ _ h=>h,fun _ _ h=>h⟩
def da (tab:bc) (C:Cx) (I:BI) (o:SO) (a:AH):Prop:=
 match o with
 | .cells cs e=>I.cap.isSome/\ ∃ca sz,a.get I.β=some (.cells ca e sz false .rw)/\aJ C cs ca/\tab.siz.get e=some sz
 | .arr X L enc e=>tab.siz.get e=some I.sz/\0<I.sz/\I.len=L.length/\(∀(i:Nat) x,L[i]? =some x->(enc x).length=I.sz)/\
  match I.cap with
  |none=>L.length=0
  |some c=>∃ca ext bk,a.get I.β=some (.cells ca e I.sz ext bk)/\(bk≠ .ro/\bk≠ .cold)/\ca.length=L.length*I.sz/\((c= .tail 0/\ext=true)\/(c= .lit 0/\L.length=0))/\
   ∀(i:Nat) x (j:Nat) v,L[i]? =some x->(enc x)[j]? =some v->∃u,ca[i*I.sz+j]? =some u/\aG C.Fz v u
structure HS (tab:bc) (C:Cx) (h:SH) (a:AH):Prop where
 obj:∀p o,h.get p=some o->∃I,C.ρ p=some I/\da tab C I o a
 inj:∀p q o o' I J,h.get p=some o->h.get q=some o'->C.ρ p=some I->C.ρ q=some J->I.cap.isSome->J.cap.isSome->I.β=J.β->p=q
 fz:∀i o,C.Fz i=some o->a.get i=some o
 dj:∀p o I,h.get p=some o->C.ρ p=some I->I.cap.isSome->C.Fz I.β=none
 lt:∀p I,C.ρ p=some I->p<h.next
 wf:∀i o,a.get i=some o->i<a.next
def FS (C:Cx) (ts:Fr) (ta:T AV):Prop:=∀t s,look ts t=some s->az C s ((ta.get t).getD (.bg []))
end
section
universe u v
variable [Inhabited aL]
theorem gE {α:Type u} (k:Nat) (v:α) (l:List (Nat×α)) (n:Nat):look ((k,v)::l) n=if n=k then some v else look l n:=by
 simp only[look];by_cases h:n=k
 . simp_all
 grind [eu]
theorem SH.aO (h:SH) (b p:Nat) (o:Option SO):(h.set b o).get p=if p=b then o else h.get p:=by
 obtain⟨n,os⟩:=h;simp only[SH.set,SH.get,gE];by_cases e:p=b
 . simp[e];cases o<;>rfl
 grind
theorem SH.aI (h:SH) (p:Nat) (o:SO):(h.new o).get p=if p=h.next then some o else h.get p:=by
 obtain⟨n,os⟩:=h;grind [SH.new,SH.get,gE]
theorem SH.dg (h:SH) (b:Nat) (o:Option SO):(h.set b o).next=h.next:=by obtain⟨n,os⟩:=h;rfl
theorem SH.bT (h:SH) (o:SO):(h.new o).next=h.next+1:=by obtain⟨n,os⟩:=h;rfl
theorem Jw (e:Ev) (os:List (Nat×Option SO)) (p:Nat):look (fA e os) p=(look os p).map fun o=>o.map (SO.on e):=by
 induction os with
 |nil=>rfl
 |cons x l ih=>
  obtain⟨b,o⟩:=x
  cases o with
  |none=>grind [fA,gE]
  |some o=>grind [fA,gE]
theorem oh (e:Ev) (n:Nat) (os:List (Nat×Option SO)) (p:Nat):(SH.mk n (fA e os)).get p=((SH.mk n os).get p).map (SO.on e):=by
 simp only[SH.get,Jw]
 cases h:look os p with
 |none=>rfl
 |some o=>cases o<;>rfl
theorem zt (e:Ev) (ts:Fr) (t:Nat):look (me e ts) t=(look ts t).map (SV.on e):=by
 induction ts with
 |nil=>rfl
 |cons x l ih=>
  grind [me,gE]
theorem FS.turns {C C':Cx} {e:Ev} (ht:cz C e C') {ts:Fr} {ta:T AV} (h:FS C ts ta):FS C' (me e ts) ta:=by
 intro t s hs;rw[zt]at hs;obtain⟨s0,h0,rfl⟩:=AA.1 hs;exact(h t s0 h0).turns ht
theorem FS.le {C C':Cx} (hc:C.le C') {ts:Fr} {ta:T AV} (h:FS C ts ta):FS C' ts ta:=fun t s hs=>(h t s hs).le hc
theorem FS.log {C C':Cx} {log:List Ev} (ht:Tr C log C') {ts:Fr} {ta:T AV} (h:FS C ts ta):FS C' (oQ log ts) ta:=by
 have key:∀(log:List Ev) (ts:Fr) (t:Nat),look (oQ log ts) t=(look ts t).map (fG log):=by
  intro log;induction log with
  |nil=>intro ts t;simp[oQ];cases look ts t<;>rfl
  |cons e l ih=>
   intro ts t;simp only[oQ,ih,zt,Option.map_map];rfl
 intro t s hs;rw[key]at hs;obtain⟨s0,h0,rfl⟩:=AA.1 hs;exact ht.val _ _ (h t s0 h0)
theorem FS.put {C:Cx} {ts:Fr} {ta:T AV} (h:FS C ts ta) {t:Nat} {s:SV} {v:AV} (hv:az C s v):FS C ((t,s)::ts) (ta.set t (some v)):=by
 intro t' s' hs;rw[gE]at hs;rw[T.aO];split at hs
 . grind
 . rename_i e;simpa [e]using h t' s' hs
theorem aJ.le {C C':Cx} (hc:C.le C') {l:List SV} {m:List AV} (h:aJ C l m):aJ C' l m:=⟨h.1,fun i s v hs hv=>(h.2 i s v hs hv).le hc⟩
theorem aJ.turns {C C':Cx} {e:Ev} (ht:cz C e C') {l:List SV} {m:List AV} (h:aJ C l m):aJ C' (dS e l) m:=by
 rw[kK];refine⟨by simp[h.1],fun i s v hs hv=>?_⟩;rw[AF]at hs;obtain⟨s0,h0,rfl⟩:=AA.1 hs;exact(h.2 i s0 v h0 hv).turns ht
section
variable {tab:bc} {C C':Cx} {I:BI} {o:SO} {a a':AH} {h:SH}
theorem da.congr (hg:a'.get I.β=a.get I.β) (ho:da tab C I o a):da tab C I o a':=by
 simp_all[da]
theorem da.le (hc:C.le C') (ho:da tab C I o a):da tab C' I o a:=by
 cases o with
 |cells cs e=>
  obtain⟨h1,ca,sz,h2,h3,h4⟩:=ho;exact⟨h1,ca,sz,h2,h3.le hc,h4⟩
 | arr X L enc e=>
  obtain⟨h1,h2,h3,h4,h5⟩:=ho;refine⟨h1,h2,h3,h4,?_⟩
  cases hcap:I.cap with
  |none=>rw[hcap]at h5;exact h5
  |some c=>
   rw[hcap]at h5;obtain⟨ca,ext,bk,g1,g2,g3,g4,g5⟩:=h5;refine⟨ca,ext,bk,g1,g2,g3,g4,fun i x j v hx hv=>?_⟩;obtain⟨u,k1,k2⟩:=g5 i x j v hx hv;exact⟨u,k1,k2.mono hc.2⟩
theorem da.turns {e:Ev} (ht:cz C e C') (ho:da tab C I o a):da tab C' I (o.on e) a:=by
 cases o with
 |cells cs t=>
  obtain⟨h1,ca,sz,h2,h3,h4⟩:=ho;exact⟨h1,ca,sz,h2,h3.turns ht,h4⟩
 | arr X L enc t=>
  obtain⟨h1,h2,h3,h4,h5⟩:=ho;refine⟨h1,h2,h3,h4,?_⟩
  cases hcap:I.cap with
  |none=>rw[hcap]at h5;exact h5
  |some c=>
   rw[hcap]at h5;obtain⟨ca,ext,bk,g1,g2,g3,g4,g5⟩:=h5;refine⟨ca,ext,bk,g1,g2,g3,g4,fun i x j v hx hv=>?_⟩;obtain⟨u,k1,k2⟩:=g5 i x j v hx hv;exact⟨u,k1,k2.mono ht.1⟩
theorem da.live (ho:da tab C I o a) (hc:I.cap.isSome):∃b,a.get I.β=some b:=by
 cases o with
 |cells cs e=>
  obtain⟨_,ca,sz,h2,_⟩:=ho;grind
 |arr X L enc e=>
  obtain⟨_,_,_,_,h5⟩:=ho;grind
open Classical in
noncomputable def Cx.put (C:Cx) (p:Nat) (I:BI):Cx:={C with ρ:=fun q=>if q=p then some I else C.ρ q}
theorem fx (C:Cx) (p:Nat) (I:BI):(C.put p I).ρ p=some I:=by simp[Cx.put]
theorem fZ (C:Cx) {p q:Nat} (I:BI) (h:q≠p):(C.put p I).ρ q=C.ρ q:=by grind [Cx.put]
structure Grow (a a':AH):Prop where
 next:a.next<=a'.next
 old:∀i o,a'.get i=some o->(∃o0,a.get i=some o0)\/a.next<=i
theorem Grow.refl (a:AH):Grow a a:=⟨An _,fun i o h=> .inl ⟨o,h⟩⟩
theorem Grow.trans {a b c:AH} (h:Grow a b) (k:Grow b c):Grow a c:=
 ⟨Bb h.next k.next,fun i o hi=>(k.old i o hi).elim (fun⟨o',ho⟩=>h.old i o' ho) (fun hl=> .inr (Bb h.next hl))⟩
theorem Grow.new (a:AH) (o:AO):Grow a (a.new o):=⟨by simp,fun i o' hi=>by
 rw[AH.aI]at hi;grind⟩
theorem HS.new (H:HS tab C h a) {ao:AO} {o:SO} (I:BI) (hI:I.β=a.next) (ho:C.le (C.put h.next I)->da tab (C.put h.next I) I o (a.new ao)):
   C.le (C.put h.next I)/\HS tab (C.put h.next I) (h.new o) (a.new ao):=by
 have hle:C.le (C.put h.next I):=by
   refine⟨fun p J hp=>?_,fun i o h=>h⟩;have:=H.lt p J hp;rw[fZ _ _ (by omega)];exact hp
 refine⟨hle,?_⟩;have hold:∀p o',(h.new o).get p=some o'->p≠h.next->h.get p=some o':=by
   grind [SH.aI]
 have hne:∀p o',h.get p=some o'->p≠h.next:=by
   intro p o' hp e;obtain⟨J,hJ,_⟩:=H.obj p o' hp;have:=H.lt p J hJ;omega
 have hblk:∀p o' J,h.get p=some o'->C.ρ p=some J->J.cap.isSome->J.β<a.next:=by
   intro p o' J hp hJ hc;obtain⟨J',hJ',hs⟩:=H.obj p o' hp;rw[hJ]at hJ';cases hJ';obtain⟨b,hb⟩:=hs.live hc;exact H.wf _ _ hb
 refine⟨?_,?_,?_,?_,?_,?_⟩
 . intro p o' hp;by_cases e:p=h.next
   . grind [SH.aI,fx]
   . have hp':=hold p o' hp e;obtain⟨J,hJ,hs⟩:=H.obj p o' hp';refine⟨J,hle.1 _ _ hJ,?_⟩;have hs':=hs.le hle;by_cases hc:J.cap.isSome
     . refine hs'.congr ?_;have:=hblk p o' J hp' hJ hc;rw[AH.aI,Ah (by omega)]
     . cases o' with
       |cells cs t=>exact absurd hs.1 hc
       |arr X L enc t=>
        obtain⟨h1,h2,h3,h4,h5⟩:=hs';refine⟨h1,h2,h3,h4,?_⟩;grind
 . intro p q o1 o2 J J' hp hq hJ hJ' hc hc' e;by_cases e1:p=h.next
   . grind [fx,fZ]
   . rw[fZ _ _ e1]at hJ;by_cases e2:q=h.next
     . grind [fx]
     . rw[fZ _ _ e2]at hJ';exact H.inj p q o1 o2 J J' (hold p o1 hp e1) (hold q o2 hq e2) hJ hJ' hc hc' e
 . intro i o' hi;have:=H.fz i o' hi;have hl:=H.wf _ _ this;rw[AH.aI,Ah (by omega)];omega
 . intro p o' J hp hJ hc;by_cases e:p=h.next
   . subst e;rw[fx]at hJ;cases hJ;rw[hI]
     cases hz:(C.put h.next I).Fz a.next with
     |none=>rfl
     | some o2=>
       have:=H.wf _ _ (H.fz _ _ hz);omega
   . rw[fZ _ _ e]at hJ;exact H.dj p o' J (hold p o' hp e) hJ hc
 . intro p J hJ;rw[SH.bT];by_cases e:p=h.next
   . omega
   . rw[fZ _ _ e]at hJ;have:=H.lt p J hJ;omega
 . intro i o' hi;rw[AH.aI]at hi;simp only[AH.bT];split at hi
   . omega
   . have:=H.wf i o' hi;omega
theorem HS.tG (H:HS tab C h a) {o:SO} (I:BI) (hI:I.cap=none) (ho:C.le (C.put h.next I)->da tab (C.put h.next I) I o a):
   C.le (C.put h.next I)/\HS tab (C.put h.next I) (h.new o) a:=by
 have hle:C.le (C.put h.next I):=by
   refine⟨fun p J hp=>?_,fun i o h=>h⟩;have:=H.lt p J hp;rw[fZ _ _ (by omega)];exact hp
 refine⟨hle,?_⟩;have hold:∀p o',(h.new o).get p=some o'->p≠h.next->h.get p=some o':=by
   grind [SH.aI]
 refine⟨?_,?_,H.fz,?_,?_,H.wf⟩
 . intro p o' hp;by_cases e:p=h.next
   . grind [SH.aI,fx]
   . obtain⟨J,hJ,hs⟩:=H.obj p o' (hold p o' hp e);exact⟨J,hle.1 _ _ hJ,hs.le hle⟩
 . intro p q o1 o2 J J' hp hq hJ hJ' hc hc' e;by_cases e1:p=h.next
   . grind [fx]
   . rw[fZ _ _ e1]at hJ;by_cases e2:q=h.next
     . grind [fx]
     . rw[fZ _ _ e2]at hJ';exact H.inj p q o1 o2 J J' (hold p o1 hp e1) (hold q o2 hq e2) hJ hJ' hc hc' e
 . intro p o' J hp hJ hc;by_cases e:p=h.next
   . grind [fx]
   . rw[fZ _ _ e]at hJ;exact H.dj p o' J (hold p o' hp e) hJ hc
 . intro p J hJ;rw[SH.bT];by_cases e:p=h.next
   . omega
   . rw[fZ _ _ e]at hJ;have:=H.lt p J hJ;omega
theorem HS.renew (H:HS tab C h a) {d:Nat} {o0:SO} {I0:BI} (hd:h.get d=some o0) (hI0:C.ρ d=some I0) (I:BI) {o:SO}
   (hold:∀i b,(I0.cap.isSome->i≠I0.β)->a.get i=some b->a'.get i=some b) (hwf:∀i b,a'.get i=some b->i<a'.next)
   (hnew:I.cap.isSome->a.next<=I.β\/(I0.cap.isSome/\I.β=I0.β)) (hn:a.next<=a'.next) (ho:cz C (.kill d) (C.put d I)->da tab (C.put d I) I o a'):
   cz C (.kill d) (C.put d I)/\HS tab (C.put d I) ⟨h.next,(d,some o)::fA (.kill d) h.os⟩ a':=by
 have hT:cz C (.kill d) (C.put d I):=⟨fun i o h=>h,fun p J hp hJ=>by rw[fZ _ _ hp];exact hJ⟩;refine⟨hT,?_⟩;have hget:∀p,(SH.mk h.next ((d,some o)::fA (.kill d) h.os)).get p=if p=d then some o else(h.get p).map (SO.on (.kill d)):=by
   intro p;have h1:=oh (.kill d) h.next h.os p;grind [SH.get,gE]
 have hback:∀p o',(SH.mk h.next ((d,some o)::fA (.kill d) h.os)).get p=some o'->p≠d->∃o1,h.get p=some o1/\o'=o1.on (.kill d):=by
   grind [Option.map_eq_some_iff]
 have hlive:∀p o1 J,h.get p=some o1->C.ρ p=some J->da tab C J o1 a:=by
   intro p o1 J hp hJ;obtain⟨J',hJ',hs⟩:=H.obj p o1 hp;rw[hJ]at hJ';grind
 have hne:∀p o1 J,h.get p=some o1->C.ρ p=some J->J.cap.isSome->p≠d->(I0.cap.isSome->J.β≠I0.β):=by
   intro p o1 J hp hJ hc hpd hc0 e;exact hpd (H.inj p d o1 o0 J I0 hp hd hJ hI0 hc hc0 e)
 refine⟨?_,?_,?_,?_,?_,hwf⟩
 . intro p o' hp;by_cases e:p=d
   . grind [fx]
   . obtain⟨o1,h1,rfl⟩:=hback p o' hp e;obtain⟨J,hJ,hs⟩:=H.obj p o1 h1;refine⟨J,hT.2 p J e hJ,?_⟩;have hs':=hs.turns hT;by_cases hc:J.cap.isSome
     . obtain⟨b,hb⟩:=hs.live hc;exact hs'.congr ((hold _ _ (hne p o1 J h1 hJ hc e) hb).trans hb.symm)
     . cases o1 with
       |cells cs t=>exact absurd hs.1 hc
       |arr X L enc t=>
        obtain⟨g1,g2,g3,g4,g5⟩:=hs';refine⟨g1,g2,g3,g4,?_⟩;grind
 . have key:∀q o2 J,(SH.mk h.next ((d,some o)::fA (.kill d) h.os)).get q=some o2->q≠d->(C.put d I).ρ q=some J->J.cap.isSome->I.cap.isSome->I.β≠J.β:=by
     intro q o2 J hq e2 hJ' hc' hc e;rw[fZ _ _ e2]at hJ';obtain⟨o3,h3,rfl⟩:=hback q o2 hq e2;obtain⟨b,hb⟩:=(hlive q o3 J h3 hJ').live hc';have hlt:=H.wf _ _ hb;grind
   intro p q o1 o2 J J' hp hq hJ hJ' hc hc' e;by_cases e1:p=d
   . grind [fx]
   . by_cases e2:q=d
     . grind [fx]
     . rw[fZ _ _ e1]at hJ;rw[fZ _ _ e2]at hJ';obtain⟨o3,h3,_⟩:=hback p o1 hp e1;obtain⟨o4,h4,_⟩:=hback q o2 hq e2;exact H.inj p q o3 o4 J J' h3 h4 hJ hJ' hc hc' e
 . intro i b hi;have h1:=H.fz i b hi;refine hold i b (fun hc e=>?_) h1;subst e;have:=H.dj d o0 I0 hd hI0 hc;rw[show C.Fz I0.β=some b from hi]at this;grind
 . intro p o' J hp hJ hc;by_cases e:p=d
   . subst e;rw[fx]at hJ;cases hJ;rcases hnew hc with hge|⟨h0,he⟩
     . cases hz:C.Fz I.β with
       |none=>exact hz
       |some o2=>
        have:=H.wf _ _ (H.fz _ _ hz);omega
     . rw[he];exact H.dj p o0 I0 hd hI0 h0
   . rw[fZ _ _ e]at hJ;obtain⟨o3,h3,_⟩:=hback p o' hp e;exact H.dj p o3 J h3 hJ hc
 . intro p J hJ;by_cases e:p=d
   . subst e;exact H.lt p I0 hI0
   . rw[fZ _ _ e]at hJ;exact H.lt p J hJ
end
end
section
universe u v
variable [Inhabited aL]
section
variable {tab:bc} {C C':Cx} {I:BI} {o:SO} {a a':AH} {h:SH}
theorem HS.at_ (H:HS tab C h a) {p:Nat} {o:SO} {I:BI} (hp:h.get p=some o) (hI:C.ρ p=some I):da tab C I o a:=by
 obtain⟨J,hJ,hs⟩:=H.obj p o hp;rw[hI]at hJ;grind
theorem HS.mod (H:HS tab C h a) {d:Nat} {o0:SO} {I0:BI} (hd:h.get d=some o0) (hI0:C.ρ d=some I0) (hb:I0.cap.isSome) {o:SO} {ao:AO} (ho:da tab C I0 o (a.set I0.β ao)):
   HS tab C (h.set d (some o)) (a.set I0.β ao):=by
 have hback:∀p o',(h.set d (some o)).get p=some o'->p≠d->h.get p=some o':=by
   grind [SH.aO]
 have hany:∀p o',(h.set d (some o)).get p=some o'->∃o1,h.get p=some o1:=by
   grind
 have hlt:=H.wf _ _ ((H.at_ hd hI0).live hb).choose_spec;refine⟨?_,?_,?_,?_,?_,?_⟩
 . intro p o' hp;by_cases e:p=d
   . grind [SH.aO]
   . have hp':=hback p o' hp e;obtain⟨J,hJ,hs⟩:=H.obj p o' hp';refine⟨J,hJ,?_⟩;by_cases hc:J.cap.isSome
     . refine hs.congr ?_;rw[AH.aO,Ah];intro e';exact e (H.inj p d o' o0 J I0 hp' hd hJ hI0 hc hb e')
     . cases o' with
       |cells cs t=>exact absurd hs.1 hc
       |arr X L enc t=>
        obtain⟨g1,g2,g3,g4,g5⟩:=hs;refine⟨g1,g2,g3,g4,?_⟩;grind
 . intro p q o1 o2 J J' hp hq hJ hJ' hc hc' e;obtain⟨o3,h3⟩:=hany p o1 hp;obtain⟨o4,h4⟩:=hany q o2 hq;exact H.inj p q o3 o4 J J' h3 h4 hJ hJ' hc hc' e
 . intro i b hi;have h1:=H.fz i b hi;rw[AH.aO,Ah]
   . exact h1
   . intro e;subst e;have:=H.dj d o0 I0 hd hI0 hb;rw[hi]at this;grind
 . intro p o' J hp hJ hc;obtain⟨o3,h3⟩:=hany p o' hp;exact H.dj p o3 J h3 hJ hc
 . intro p J hJ;rw[SH.dg];exact H.lt p J hJ
 . intro i b hi;rw[AH.aO]at hi;simp only[AH.dg];split at hi
   . omega
   . exact H.wf i b hi
open Classical in
noncomputable def Cx.freeze (C:Cx) (β:Nat) (p:Prop) (o:Option AO):Cx:={C with Fz:=fun i=>if p/\i=β then o else C.Fz i}
theorem HS.freeze (H:HS tab C h a) {d:Nat} {o0:SO} {I0:BI} (hd:h.get d=some o0) (hI0:C.ρ d=some I0) {e:Ev} (he:∀C':Cx,(∀i o,C.Fz i=some o->C'.Fz i=some o)->(∀p I,C.ρ p=some I->C'.ρ p=some I)->
     (I0.cap.isSome->C'.Fz I0.β=a.get I0.β)->cz C e C'):
   ∃C',cz C e C'/\HS tab C' ⟨h.next,(d,none)::fA e h.os⟩ a/\(I0.cap.isSome->C'.Fz I0.β=a.get I0.β)/\C'.ρ=C.ρ:=by
 classical
 let C':Cx:=C.freeze I0.β (I0.cap.isSome=true) (a.get I0.β)
 have hfz:∀i o,C.Fz i=some o->C'.Fz i=some o:=by
   intro i o hi;simp only[C',Cx.freeze];split
   . rename_i hc;obtain⟨hb,rfl⟩:=hc;have:=H.dj d o0 I0 hd hI0 hb;rw[hi]at this;grind
   omega
 have hfb:I0.cap.isSome->C'.Fz I0.β=a.get I0.β:=by
   grind [Cx.freeze]
 have hback':∀i o,C'.Fz i=some o->C.Fz i=some o\/(I0.cap.isSome/\i=I0.β/\a.get i=some o):=by
   grind [Cx.freeze]
 have hT:=he C' hfz (fun p I h=>h) hfb;refine⟨C',hT,?_,hfb,rfl⟩;have hget:∀p,(SH.mk h.next ((d,none)::fA e h.os)).get p=if p=d then none else(h.get p).map (SO.on e):=by
   intro p;have h1:=oh e h.next h.os p;grind [SH.get,gE]
 have hback:∀p o',(SH.mk h.next ((d,none)::fA e h.os)).get p=some o'->p≠d/\ ∃o1,h.get p=some o1/\o'=o1.on e:=by
   simp_all
 refine⟨?_,?_,?_,?_,H.lt,H.wf⟩
 . intro p o' hp;obtain⟨hne,o1,h1,rfl⟩:=hback p o' hp;obtain⟨J,hJ,hs⟩:=H.obj p o1 h1;exact⟨J,hJ,hs.turns hT⟩
 . intro p q o1 o2 J J' hp hq hJ hJ' hc hc' e;obtain⟨_,o3,h3,_⟩:=hback p o1 hp;obtain⟨_,o4,h4,_⟩:=hback q o2 hq;exact H.inj p q o3 o4 J J' h3 h4 hJ hJ' hc hc' e
 . intro i b hi;rcases hback' i b hi with h1|⟨_,_,h1⟩
   . exact H.fz i b h1
   omega
 . intro p o' J hp hJ hc;obtain⟨hne,o3,h3,_⟩:=hback p o' hp
   cases hz:C'.Fz J.β with
   |none=>rfl
   | some b=>
     rcases hback' _ b hz with h1|⟨hb,h1,_⟩
     . have:=H.dj p o3 J h3 hJ hc;rw[h1]at this;omega
     . exact absurd (H.inj p d o3 o0 J I0 h3 hd hJ hI0 hc hb h1) hne
theorem HX (H:HS tab C h a) {d:Nat} {X:Type} {L:List X} {enc:X->List SV} {t:TypeId} {I0:BI} (hd:h.get d=some (.arr X L enc t)) (hI0:C.ρ d=some I0) (C':Cx)
   (hfz:∀i o,C.Fz i=some o->C'.Fz i=some o) (hρ:∀p I,C.ρ p=some I->C'.ρ p=some I) (hb:I0.cap.isSome->C'.Fz I0.β=a.get I0.β):cz C (.dM d X L enc) C':=by
 refine⟨hfz,fun p I _ h=>hρ p I h,fun I hI=>?_⟩;rw[hI0]at hI;cases hI;obtain⟨g1,g2,g3,g4,g5⟩:=H.at_ hd hI0;constructor
 . intro v hv
   cases hv with
   |pure h=>cases h
   |dh hI hc=>
    rw[hI0]at hI;cases hI;rw[hc]at g5;exact .bR g5 (.inl rfl)
   |own hI hc=>
    rw[hI0]at hI;cases hI;rw[hc]at g5;obtain⟨ca,ext,bk,k1,k2,k3,k4,k5⟩:=g5;rw[g3];refine .ax I0.β 0 _ ca t I0.sz ext bk (fun i j=>(ca[0+i*I0.sz+j]?).getD (.bg [])) (.of (by rw[hb (by grind),k1])) g2 (by omega) g4 ?_ ?_ ?_
    . grind [oJ]
    . grind
    . intro i x j v hx hv;obtain⟨u,k6,k7⟩:=k5 i x j v hx hv;rw[Bk,k6];exact k7.mono hfz
 . intro i off v x hx hv
   cases hv with
   |pure h=>cases h
   |bN hI hc=>
    rw[hI0]at hI;cases hI;obtain⟨c,hc'⟩:=Bx.1 hc;rw[hc']at g5;obtain⟨ca,ext,bk,k1,k2,k3,k4,k5⟩:=g5;refine .ch I0.β (i*I0.sz) ca t I0.sz ext bk (fun j=>(ca[i*I0.sz+j]?).getD (.bg [])) (by rw[hb hc,k1]) ?_ ?_ ?_
    . have hlt:=(Ao.1 hx).1;rw[k3,g4 i x hx]
      calc i*I0.sz+I0.sz=(i+1)*I0.sz:=by rw[A1,BX]
       _<=L.length*I0.sz:=AX _ hlt
    . grind
    . intro j v hv;obtain⟨u,k6,k7⟩:=k5 i x j v hx hv;rw[k6];exact k7.mono hfz
theorem G6 {d:Nat} (C':Cx) (hfz:∀i o,C.Fz i=some o->C'.Fz i=some o) (hρ:∀p I,C.ρ p=some I->C'.ρ p=some I):cz C (.kill d) C':=⟨hfz,fun p I _ h=>hρ p I h⟩
end
def cw (C:Cx) (h:SH) (a:AH) (new:List Ev) (C':Cx) (h':SH) (a':AH):Prop:=∀p o I,h.get p=some o->C.ρ p=some I->I.cap.isSome->p∉gF new->
 a'.get I.β=a.get I.β/\((∃o',h'.get p=some o'/\C'.ρ p=some I)\/ ∃b,C'.Fz I.β=some b)
theorem cw.same (C:Cx) (h:SH) (a:AH) (new:List Ev):cw C h a new C h a:=fun _ o _ hp hI _ _=>⟨rfl, .inl ⟨o,hp,hI⟩⟩
theorem cw.new {tab:bc} {C C':Cx} {h h':SH} {a:AH} (H:HS tab C h a) (o:AO) (new:List Ev) (hle:C.le C') (hh:∀p o,h.get p=some o->∃o',h'.get p=some o'):cw C h a new C' h' (a.new o):=by
 intro p o' I hp hI hc _;obtain⟨b,hb⟩:=(H.at_ hp hI).live hc;have:=H.wf _ _ hb;obtain⟨o2,h2⟩:=hh p o' hp;exact⟨by rw[AH.aI,Ah (by omega)], .inl ⟨o2,h2,hle.1 _ _ hI⟩⟩
theorem pC {tab:bc} {C:Cx} {h:SH} {a:AH} (H:HS tab C h a) (o:SO):∀p o',h.get p=some o'->∃o2,(h.new o).get p=some o2:=by
 grind [SH.aI]
structure lj (tab:bc) (C:Cx) (s:St) (ta:T AV) (a:AH) (sv:SV) (s':St) (v:AV) (a':AH):Prop where
 ex:∃C' new,s'.log=s.log++new/\Tr C new C'/\az C' sv v/\HS tab C' s'.h a'/\FS C' s'.ts ta/\cw C s.h a new C' s'.h a'
 grow:Grow a a'
theorem lj.same {tab:bc} {C:Cx} {s:St} {ta:T AV} {a:AH} {sv:SV} {v:AV} (hF:FS C s.ts ta) (H:HS tab C s.h a) (hv:az C sv v):lj tab C s ta a sv s v a:=
 ⟨⟨C,[],by simp,Tr.refl C,hv,H,hF,cw.same _ _ _ _⟩,Grow.refl a⟩
def cK (C:Cx) (h:SH) (a:AH) (C1:Cx) (h1:SH):Prop:=∀p o I,h.get p=some o->C.ρ p=some I->I.cap.isSome->(∃o',h1.get p=some o'/\C1.ρ p=some I)\/ ∃b,a.get I.β=some b/\C1.Fz I.β=some b
theorem cK.refl (C:Cx) (h:SH) (a:AH):cK C h a C h:=fun p o I hp hI _=> .inl ⟨o,hp,hI⟩
theorem cK.trans {C C1 C2:Cx} {h h1 h2:SH} {a:AH} (k:cK C h a C1 h1) (k':cK C1 h1 a C2 h2) (hf:∀i o,C1.Fz i=some o->C2.Fz i=some o):cK C h a C2 h2:=by
 intro p o I hp hI hc;rcases k p o I hp hI hc with⟨o',h1,h2⟩|⟨b,h1,h2⟩
 . exact k' p o' I h1 h2 hc
 grind
theorem cK.bu {C C1:Cx} {h h1:SH} {a:AH} (k:cK C h a C1 h1) (new:List Ev):cw C h a new C1 h1 a:=
 fun p o I hp hI hc _=>⟨rfl,(k p o I hp hI hc).imp id (fun⟨b,_,h⟩=>⟨b,h⟩)⟩
theorem iv {tab:bc} {C:Cx} {s:St} {ta:T AV} {a:AH} (hF:FS C s.ts ta) (H:HS tab C s.h a) {d:Nat} {X:Type} {L:List X} {enc:X->List SV} {t:TypeId} (hd:s.h.get d=some (.arr X L enc t)):
   ∃C',((s.ev (.dM d X L enc)).del d).log=s.log++[.dM d X L enc]/\Tr C [.dM d X L enc] C'/\HS tab C' ((s.ev (.dM d X L enc)).del d).h a/\FS C' ((s.ev (.dM d X L enc)).del d).ts ta/\
    (∀v,az C (.own d) v->aG C'.Fz (.ax X L enc) v)/\cK C s.h a C' ((s.ev (.dM d X L enc)).del d).h:=by
 obtain⟨ts,⟨n,os⟩,log⟩:=s;obtain⟨I,hI,ho⟩:=H.obj d _ hd;obtain⟨C',hT,H',hfb,hρ⟩:=H.freeze hd hI (HX H hd hI);refine⟨C',rfl,hT.tr,H',hF.turns hT,(hT.2.2 I hI).1,?_⟩;intro p o J hp hJ hc;by_cases e:p=d
 . subst e;rw[hI]at hJ;cases hJ;obtain⟨b,hb⟩:=(H.at_ hp hI).live hc;grind
 simp_all[St.ev,St.del,SH.aO,oh]
end
section
universe u v
variable [Inhabited aL]
theorem rb {α β:Type} {x:R α} {a:α} (h:x= .ok a) (f:α->R β):(x>>=f)=f a:=by rw[h];rfl
theorem ro {α:Type} {s:String} {x:Option α} {a:α} (h:x=some a):R.of s x= .ok a:=by rw[h];rfl
theorem rc {s:String} {b:Bool} (h:b=true):R.check s b= .ok ():=by rw[h];rfl
theorem cA {α:Type u} {x:Option α} {k:α->Prop} (h:so x k):∃a,x=some a/\k a:=by
 cases x with
 |none=>exact h.elim
 |some a=>exact⟨a,rfl,h⟩
theorem bZ {b:Bool} {p:Prop} (h:ck b p):b=true/\p:=by
 cases b with
 |false=>exact h.elim
 |true=>exact⟨rfl,h⟩
theorem sr {b:Bool} {p q:Prop} (h:br b p q):(b=true/\p)\/(b=false/\q):=by
 cases b with
 |false=>exact .inr ⟨rfl,h⟩
 |true=>exact .inl ⟨rfl,h⟩
theorem vn {α:Type u} {β:Type v} {f:α->Option β}:∀{l:List α} {m:List β},fw f l=some m->l.length=m.length/\ ∀(i:Nat) a b,l[i]? =some a->m[i]? =some b->f a=some b:=by
 intro l;induction l with
 |nil=>grind [fw]
 |cons x l ih=>
  grind [fw]
section
variable {tab:bc} {C:Cx}
theorem uh {v:Value} {s:SV} (h:pS v=some s):az C s (lJ v):=by
 unfold pS at h;split at h<;>cases h<;>simp only[lJ]<;>exact .pure (by constructor)
theorem Gr {v:Value} {s:SV} (h:uT v=some s):az C s (ofConst v):=by
 unfold uT at h;split at h
 . obtain⟨l,hl,rfl⟩:=AA.1 h;obtain⟨h1,h2⟩:=vn hl;refine .agg (by grind) (fun i c v hc hv=>?_);rw[AF]at hv;grind [uh]
 . obtain⟨l,hl,rfl⟩:=AA.1 h;obtain⟨h1,h2⟩:=vn hl;refine .bg (by grind) (fun i c v hc hv=>?_);rw[AF]at hv;grind [uh]
 grind [ofConst,uh]
theorem Ce {v:AV} {s:SV} (h:gC v=some s):az C s v:=by
 unfold gC at h;split at h<;>cases h<;>exact .pure (by constructor)
theorem iD {ts:Fr} {ta:T AV} (hF:FS C ts ta) {x:Operand} {s:SV} (h:dP ts x=some s):∃v,ev ta x= .ok v/\az C s v:=by
 cases x with
 |tmp t=>exact⟨_,rfl,hF t s h⟩
 |const v=>exact⟨_,rfl,Gr h⟩
 |func f=>
  simp only[dP,AW]at h;subst h;exact⟨_,rfl, .fn rfl rfl (fun i x u hx=>by grind) (fun i x u hx=>by grind)⟩
 |global g=>cases h
theorem mr {ts:Fr} {ta:T AV} (hF:FS C ts ta):∀{l:List Operand} {m:List SV},gK ts l=some m->∃vs,gj ta l= .ok vs/\aJ C m vs:=by
 intro l;induction l with
 |nil=>intro m h;simp only[gK,fw,AW]at h;subst h;exact⟨[],rfl,aJ.nil⟩
 |cons x l ih=>
  intro m h;simp only[gK,fw]at h;split at h
  . rename_i y m' hy hm
    cases h;obtain⟨v,hv,h1⟩:=iD hF hy;obtain⟨vs,hvs,h2⟩:=ih hm;simp_all[aJ.cons,gj,rb]
  grind
theorem aJ.get {cs:List SV} {ca:List AV} (h:aJ C cs ca) {i:Nat} {s:SV} (hs:cs[i]? =some s):∃v,ca[i]? =some v/\az C s v:=by
 have hlt:i<ca.length:=by rw[<-h.1];grind
 exact⟨ca[i],Af hlt,h.2 i s _ hs (Af hlt)⟩
theorem pJ {cs:List SV} {ca:List AV} (hc:aJ C cs ca) {t off:Nat} {s:SV} (h:iY tab t cs off=some s):∃v,Am.part tab t ca off= .ok v/\az C s v:=by
 unfold iY at h;unfold Am.part;split at h
 . rename_i hg;split at h
   . rename_i n hn
     cases hb:Nat.ble (off+n) cs.length
     . rw[hb]at h;cases h
     . rw[hb]at h;cases h;refine⟨.agg ((ca.drop off).take n),?_, .agg ((hc.drop off).take n).1 ((hc.drop off).take n).2⟩;rw[rb (show Am.isAgg tab t= .ok true from ro hg)];simp_all[rb,siz,ro]
   grind
 . obtain⟨v,h1,h2⟩:=hc.get h;simp_all[rb,Am.isAgg,ro]
 grind
theorem xo {cs vs:List SV} {ca va:List AV} (hc:aJ C cs ca) (hv:aJ C vs va) (off:Nat):aJ C (pH cs off vs) (jQ ca off va):=by
 unfold pH jQ;rw[hv.1];exact(hc.take off).append (hv.append (hc.drop _))
theorem qQ {s:SV} {v:AV} (h:az C s v) (hk:s.known=true):∃l,v.cells= .ok l/\aJ C s.cells l:=by
 have one:∀{s:SV} {v:AV},az C s v->aJ C [s] [v]:=fun h=>aJ.cons h aJ.nil
 cases h with
 | pure h=>
  cases h with
  |any v=>cases hk
  |agg h1 h2=>exact⟨_,rfl,h1,fun i s v hs hv=> .pure (h2 i s v hs hv)⟩
  |bool b=>exact⟨_,rfl,one (.pure (.bool b))⟩
  |int k n=>exact⟨_,rfl,one (.pure (.int k n))⟩
  |str s=>exact⟨_,rfl,one (.pure (.str s))⟩
  |aF=>exact⟨_,rfl,one (.pure .aF)⟩
  |wp a=>exact⟨_,rfl,one (.pure (.wp a))⟩
  |nils=>exact⟨_,rfl,one (.pure .nils)⟩
  |aW=>exact⟨_,rfl,one (.pure .aW)⟩
  |aZ=>exact⟨_,rfl,one (.pure .aZ)⟩
  |bR h0 hv=>
   rcases hv with rfl|⟨b,off,l,n,k,rfl⟩|⟨a,c,rfl⟩
   . exact⟨_,rfl,one (.pure (.bR h0 (.inl rfl)))⟩
   . exact⟨_,rfl,one (.pure (.bR h0 (.inr (.inl ⟨_,_,_,_,_,rfl⟩))))⟩
   . exact⟨_,rfl,one (.pure (.bR h0 (.inr (.inr ⟨_,_,rfl⟩))))⟩
  |ax b off cap cs e sz ext bk u hb hs hl hn hc h1 h2=>exact⟨_,rfl,one (.pure (.ax b off cap cs e sz ext bk u hb hs hl hn hc h1 h2))⟩
  |ch b base ca e sz ext bk u hb hl h1 h2=>exact⟨_,rfl,one (.pure (.ch b base ca e sz ext bk u hb hl h1 h2))⟩
  |fn h1 h2 h3 h4=>exact⟨_,rfl,one (.pure (.fn h1 h2 h3 h4))⟩
  |bg h1 h2=>exact⟨_,rfl,one (.pure (.bg h1 h2))⟩
 |ptr h=>exact⟨_,rfl,one (.ptr h)⟩
 |bN h hc=>exact⟨_,rfl,one (.bN h hc)⟩
 |dh h hc=>exact⟨_,rfl,one (.dh h hc)⟩
 |own h hc=>exact⟨_,rfl,one (.own h hc)⟩
 |sl h=>exact⟨_,rfl,one (.sl h)⟩
 |fn h1 h2 h3 h4=>exact⟨_,rfl,one (.fn h1 h2 h3 h4)⟩
 |agg h1 h2=>exact⟨_,rfl,h1,h2⟩
 |bg h1 h2=>exact⟨_,rfl,one (.bg h1 h2)⟩
theorem yG {s:SV} {v:AV} (h:az C s v) (hk:isScalar s=true):iA v=true:=by
 cases h with
 |pure h=>
  cases h with
  |any v=>cases hk
  |agg h1 h2=>cases hk
  |bg h1 h2=>cases hk
  |bR h0 hv=>rcases hv with rfl|⟨b,off,l,n,k,rfl⟩|⟨a,c,rfl⟩<;>rfl
  |_=>rfl
 |agg h1 h2=>cases hk
 |bg h1 h2=>cases hk
 |_=>rfl
theorem xQ {cs:List SV} {ca:List AV} (hc:aJ C cs ca) (h:cs.all isScalar=true):ca.all iA=true:=by
 rw[Aq]at h⊢;intro v hv;obtain⟨i,hi⟩:=AZ.1 hv;have hlt:i<cs.length:=by rw[hc.1];grind
 exact yG (hc.2 i _ v (Af hlt) hi) (h _ (Av hlt))
theorem mn {t:TypeId} {z:List SV} (h:qf tab t=some z):∃zv zc,zero tab t= .ok zv/\zv.cells= .ok zc/\aJ C z zc:=by
 obtain⟨zv,h1,h2⟩:=Dg.1 h;refine⟨zv,?_⟩
 cases zv with
 |agg cs=>
  obtain⟨g1,g2⟩:=vn h2;exact⟨cs,ro h1,rfl,g1.symm,fun i s v hs hv=>Ce (g2 i v s hv hs)⟩
 |raw v=>grind [wA,gC]
 | _=>
  simp only[wA,gC,Bj,Bu,AW]at h2
  first
   |(cases h2;done)
   |(subst h2;exact⟨_,ro h1,rfl,aJ.cons (.pure (by constructor)) aJ.nil⟩)
end
end
section
universe u v
variable [Inhabited aL]
section
variable {tab:bc} {C:Cx} {h:SH} {a:AH}
theorem eS {b:Nat} {ca:List AV} {e:TypeId} {sz:Nat} {ext:Bool} {bk:BK} (hb:a.get b=some (.cells ca e sz ext bk)):gm a b= .ok (ca,e,sz,ext,bk):=by
 grind [gm]
theorem vt {b base:Nat} {ca:List AV} {e:TypeId} {sz:Nat} {ext:Bool} {bk:BK} (hb:a.get b=some (.cells ca e sz ext bk)) {cs:List SV} (hl:base+cs.length<=ca.length)
   (hc:∀(j:Nat) s,cs[j]? =some s->∃u,ca[base+j]? =some u/\az C s u) {t off:Nat} {sv:SV} (hp:iY tab t cs off=some sv):∃u,Am.loadVar tab a t b (base+off)= .ok u/\az C sv u:=by
 unfold iY at hp;unfold Am.loadVar;split at hp
 . rename_i hg;split at hp
   . rename_i n hn
     cases hle:Nat.ble (off+n) cs.length
     . rw[hle]at hp;cases hp
     . rw[hle]at hp;cases hp;have hle:=Ag hle;rw[rb (show Am.isAgg tab t= .ok true from ro hg)];rw[rb (show siz tab t= .ok n from ro hn)];have hr:readN a b (base+off) n= .ok ((ca.drop (base+off)).take n):=by
        unfold readN;rw[rb (eS hb)];simp only;rw[rb (rc (by simp only[AI];omega))]
       rw[rb hr];refine⟨_,rfl, .agg (by simp;omega) (fun i s u hs hu=>?_)⟩;rw[Bq]at hs hu;grind
   grind
 . rename_i hg;obtain⟨u,hu,hsim⟩:=hc off sv hp;rw[rb (show Am.isAgg tab t= .ok false from ro hg)];rw[rb (eS hb)];exact⟨u,ro hu,hsim⟩
 grind
theorem uE (H:HS tab C h a) {p:SV} {v:AV} (hv:az C p v) {t:TypeId} {K:SV->Prop} (hl:sQ tab h t p K):∃b off u sv,v= .ptr b off/\Am.loadVar tab a t b off= .ok u/\az C sv u/\K sv:=by
 unfold sQ at hl;split at hl
 . split at hl
   . rename_i cs e hb;obtain⟨sv,hp,hk⟩:=cA hl
     cases hv with
     |pure h=>cases h
     |ptr hI=>
      obtain⟨_,ca,sz,h2,h3,_⟩:=H.at_ hb hI;obtain⟨u,h4,h5⟩:=vt h2 (base:=0) (cs:=cs) (by rw[h3.1];omega) (fun j s hs=>by rw[Bk];exact h3.get hs) hp;rw[Bk]at h4;grind
   grind
 . rename_i b i off;split at hl
   . rename_i X L enc e hb;obtain⟨x,hx,hl⟩:=cA hl;obtain⟨sv,hp,hk⟩:=cA hl
     cases hv with
     |pure h=>cases h
     | bN hI hc=>
      rename_i I;obtain⟨g1,g2,g3,g4,g5⟩:=H.at_ hb hI;obtain⟨c,hc'⟩:=Bx.1 hc;rw[hc']at g5;obtain⟨ca,ext,bk,k1,k2,k3,k4,k5⟩:=g5;have hlt:=(Ao.1 hx).1;obtain⟨u,h4,h5⟩:=vt k1 (base:=i*I.sz) (cs:=enc x) (by
       rw[k3,g4 i x hx,<-Nat.succ_mul];exact AX _ hlt) (fun j s hs=>by
       obtain⟨u,q1,q2⟩:=k5 i x j s hx hs;exact⟨u,q1, .pure q2⟩) hp
      grind
   grind
 . rename_i cs off;obtain⟨sv,hp,hk⟩:=cA hl
   cases hv with
   | pure h=>
     cases h with
     |ch b base ca e sz ext bk u hb hl h1 h2=>
      obtain⟨w,h4,h5⟩:=vt (H.fz _ _ hb) (base:=base) (cs:=cs) hl (fun j s hs=>⟨_,h1 j s hs, .pure (h2 j s hs)⟩) hp;grind
 grind
theorem hZ {s:SV} {v:AV} (h:az C s v) (hp:iW s=true):aG C.Fz s v:=by
 cases h with
 |pure h=>exact h
 |_=>cases hp
theorem GC {t:TypeId} {b off n:Nat} {v:AV} {l ca:List AV} {e:TypeId} {sz:Nat} {ext:Bool} {bk:BK} (hn:tab.siz.get t=some n) (hv:v.cells= .ok l) (hl:l.length=n) (hn0:n≠0)
  (hb:a.get b=some (.cells ca e sz ext bk)) (hbk:(bk≠ .ro/\bk≠ .cold)) (hr:off+n<=ca.length) (h1:l.all iA=true):Am.storeVar tab a t b off v= .ok (a.set b (.cells (jQ ca off l) e sz ext bk)):=by
 unfold Am.storeVar;rw[rb (show siz tab t= .ok n from ro hn),rb hv,rb (rc (by simp_all))];unfold writeN
 cases l with
 |nil=>grind
 |cons x l=>
  simp only;rw[rb (eS hb)];rw[rb (rc (by simpa using hbk)),rb (rc (by rw[hl];simp only[AI];exact hr)),rb (rc h1)]
theorem Is (H:HS tab C h a) {p s:SV} {v w:AV} (hv:az C p v) (hw:az C s w) {t:TypeId} {K:SH->Prop} (hl:vT tab h t p s K):
   ∃b off a' h',v= .ptr b off/\Am.storeVar tab a t b off w= .ok a'/\HS tab C h' a'/\K h'/\Grow a a'/\cw C h a (sR p) C h' a':=by
 unfold vT at hl;split at hl
 . rename_i n hn;obtain⟨hck,hl⟩:=bZ hl;simp only[Ad,AG]at hck;obtain⟨⟨⟨hn0,hkn⟩,hlen⟩,hsc⟩:=hck;have hn0:n≠0:=fun e=>by simp_all
   have hlen:=Ab hlen;obtain⟨l,hl1,hl2⟩:=qQ hw hkn;have hone:=xQ hl2 hsc;have hll:l.length=n:=by rw[<-hl2.1,hlen]
   split at hl
   . rename_i b off _;split at hl
     . rename_i cs e hb;obtain⟨hr,hk⟩:=bZ hl;have hr:=Ag hr
       cases hv with
       |pure h=>cases h
       |ptr hI=>
        rename_i I;obtain⟨hc,ca,sz,h2,h3,h3s⟩:=H.at_ hb hI;refine⟨_,_,_,_,rfl,GC hn hl1 hll hn0 h2 (by simp) (by rw[<-h3.1];exact hr) hone,H.mod hb hI hc (o:= .cells (pH cs off s.cells) e) ⟨hc,_,sz,by rw[AH.aO,Ai rfl],xo h3 hl2 off,h3s⟩,hk,⟨by simp,fun i o hi=>?_⟩,?_⟩
        . rw[AH.aO]at hi;split at hi
          . rename_i e';exact .inl ⟨_,e'▸h2⟩
          . exact .inl ⟨_,hi⟩
        . intro q o J hq hJ hcJ hn;have hqb:q≠b:=fun e'=>hn (by grind [sR,gF])
          refine⟨?_, .inl ⟨o,by rw[SH.aO,Ah hqb];exact hq,hJ⟩⟩;rw[AH.aO,Ah];intro e';exact hqb (H.inj q _ o _ J I hq hb hJ hI hcJ hc e')
     grind
   grind
 grind
end
end
section
universe u v
variable [Inhabited aL]
section
variable {tab:bc} {C:Cx} {h:SH} {a:AH}
theorem JK:∀(d:Nat) (t:TypeId) (x y:SV) (u w:AV) (p:Bool),ez tab d t x y=some p->az C x u->az C y w->eqT tab d t u w= .ok p:=by
 intro d;induction d with
 |zero=>simp_all[ez]
 | succ d ih=>
  have hgo:∀(fs:List Field) (xs ys:List SV) (us ws:List AV) (p:Bool),gZ tab (ez tab d) fs xs ys=some p->aJ C xs us->aJ C ys ws->eqFields tab (eqT tab d) us ws fs= .ok p:=by
   intro fs;induction fs with
   |nil=>intro xs ys us ws p h _ _;simp only[gZ,AW]at h;subst h;rfl
   | cons f fs ihf=>
     grind [gZ,eqFields,pJ,rb]
  intro t x y u w p h hx hy;unfold ez at h;split at h
  all_goals first
   |(cases h;done)
   |skip
  all_goals (rename_i hg)
  case h_1=> 
   cases h;cases hx with
   | pure hx=>cases hx with
     | bool=>cases hy with
      |pure hy=>cases hy with
       |bool=>simp_all[eqT,rb,und,ro]
  case h_2=>
   rename_i k1 a1 k2 a2
   cases hk:decide (k1=k2)
   . rw[hk]at h;cases h
   . rw [hk]at h;cases h;have hk:=Bg hk
     cases hx with
     | pure hx=>cases hx with
      | int=>cases hy with
       |pure hy=>cases hy with
        |int=>simp_all[eqT,rb,und,ro]
  case h_3=>
   cases h;cases hx with
   | pure hx=>cases hx with
     | str=>cases hy with
      |pure hy=>cases hy with
       |str=>simp_all[eqT,rb,und,ro]
  case h_4=>
   cases h;cases hx with
   | pure hx=>cases hx with
     | aF=>cases hy with
      |pure hy=>cases hy with
       |aF=>simp_all[eqT,rb,und,ro]
  case h_5=>
   cases h;cases hx with
   | pure hx=>cases hx with
     |aF=>cases hy with
      |pure hy=>cases hy
      |ptr hI=>simp_all[eqT,rb,und,ro]
  case h_6=>
   cases h;cases hx with
   |pure hx=>cases hx
   | ptr hI=>cases hy with
     |pure hy=>cases hy with
      |aF=>simp_all[eqT,rb,und,ro]
  case h_7=>
   cases h;cases hx with
   | pure hx=>cases hx with
     | wp=>cases hy with
      |pure hy=>cases hy with
       |aF=>simp_all[eqT,rb,und,ro]
  case h_8=>
   cases h;cases hx with
   | pure hx=>cases hx with
     | aF=>cases hy with
      |pure hy=>cases hy with
       |wp=>simp_all[eqT,rb,und,ro]
  case h_9=>
   cases h;cases hx with
   | pure hx=>cases hx with
     | nils=>cases hy with
      |pure hy=>cases hy with
       |nils=>simp_all[eqT,rb,und,ro]
  case h_10=>
   cases h;cases hx with
   | pure hx=>cases hx with
     | aW=>cases hy with
      |pure hy=>cases hy with
       |aW=>simp_all[eqT,rb,und,ro]
  case h_11=>cases hy with
   |pure hy=>cases hy
  case h_12=>cases hx with
   |pure hx=>cases hx
  case h_13=>
   cases h;cases hx with
   | pure hx=>cases hx with
     | aZ=>cases hy with
      |pure hy=>cases hy with
       |aZ=>simp_all[eqT,rb,und,ro]
  case h_14=>
   cases h;cases hx with
   | pure hx=>cases hx with
     | aZ=>cases hy with
      |pure hy=>cases hy with
       |fn=>simp_all[eqT,rb,und,ro]
      |fn=>simp_all[eqT,rb,und,ro]
  case h_15=>
   cases h;cases hy with
   | pure hy=>cases hy with
     | aZ=>cases hx with
      |pure hx=>cases hx with
       |fn=>simp_all[eqT,rb,und,ro]
      |fn=>simp_all[eqT,rb,und,ro]
  case h_16=>
   split at h
   . rename_i hh;have hA:∀{cs:List SV} {v:AV},az C (.agg cs) v->∃us,v= .agg us/\aJ C cs us:=by
      intro cs v hv
      cases hv with
      |pure hv=>cases hv with
       |agg h1 h2=>exact⟨_,rfl,h1,fun i s v hs hv=> .pure (h2 i s v hs hv)⟩
      |agg h1 h2=>exact⟨_,rfl,h1,h2⟩
     obtain⟨us,e1,h1⟩:=hA hx;obtain⟨ws,e2,h2⟩:=hA hy;subst e1;subst e2;simp only[eqT];rw[rb (show und tab t=_ from ro hg)];grind
   grind
theorem jR {cs:List SV} {v:AV} (hv:az C (.agg cs) v):∃us,v= .agg us/\aJ C cs us:=by
 cases hv with
 |pure hv=>cases hv with
  |agg h1 h2=>exact⟨_,rfl,h1,fun i s v hs hv=> .pure (h2 i s v hs hv)⟩
 |agg h1 h2=>exact⟨_,rfl,h1,h2⟩
theorem rY {cs:List SV} {v:AV} (hv:az C (.bg cs) v):∃us,v= .bg us/\aJ C cs us:=by
 cases hv with
 |pure hv=>cases hv with
  |bg h1 h2=>exact⟨_,rfl,h1,fun i s v hs hv=> .pure (h2 i s v hs hv)⟩
 |bg h1 h2=>exact⟨_,rfl,h1,h2⟩
theorem fR {k:IntKind} {n:Int} {v:AV} (hv:az C (.int k n) v):v= .int k n:=by
 cases hv with
 |pure hv=>cases hv;rfl
theorem fi {s:List UInt8} {v:AV} (hv:az C (.str s) v):v= .str s:=by
 cases hv with
 |pure hv=>cases hv;rfl
theorem lB {b:Bool} {v:AV} (hv:az C (.bool b) v):v= .bool b:=by
 cases hv with
 |pure hv=>cases hv;rfl
theorem kJ {v:AV} (hv:az C .nils v):v= .nils:=by
 cases hv with
 |pure hv=>cases hv;rfl
theorem bF (x y:Int):bj x y=decide (x<y):=by
 rw[Aw,Ac];unfold bj
 cases x with
 |ofNat a=>cases y with
  |ofNat b=>simp
  |negSucc b=>grind
 |negSucc a=>cases y with
  |ofNat b=>grind
  |negSucc b=>simp;omega
theorem dN (x y:Int):bA x y=decide (x<=y):=by
 rw[Aw,Ac];unfold bA
 cases x with
 |ofNat a=>cases y with
  |ofNat b=>simp
  |negSucc b=>grind
 |negSucc a=>cases y with
  |ofNat b=>grind
  |negSucc b=>simp;omega
theorem Ct {k:IntKind} {n:Int} (h:aX k n=true):k.wrap n=n:=by
 unfold aX at h;rw[dN,dN]at h;simp only[Ad,Ac]at h;obtain⟨h1,h2⟩:=h
 cases k<;>simp only[tD,tw,IntKind.wrap,IntKind.signed,IntKind.bits]at* <;>simp at* <;>omega
theorem sb {r:R AV} {s:SV} (h:qh r=some s):∃v,r= .ok v/\az C s v:=by
 cases r with
 |no w=>cases h
 |ok v=>exact⟨v,rfl,Ce h⟩
theorem JI {t:TypeId} {x y:SV} {u w:AV} {p:Bool} (h:ez tab 8 t x y=some p) (hx:az C x u) (hy:az C y w) (hg:∀a b,x= .agg a->y= .agg b->tab.hO.get t=some false):eqOp tab a t u w= .ok p:=by
 have hh:=JK 8 t x y u w p h hx hy;have e:∀(u w:AV),(∀b i c j,u= .ptr b i->w= .ptr c j->False)->(∀a b,u= .agg a->w= .agg b->False)->(u= .eA->w= .eA->False)->eqOp tab a t u w=eqT tab 8 t u w:=by
  grind [eqOp]
 have h0:=h;unfold ez at h;split at h
 case h_17=>cases h
 case h_16=>
  grind [jR,eqOp]
 all_goals
  rw[e u w ?_ ?_ ?_]
  . exact hh
  all_goals (intros;subst_vars)
  all_goals first
    | (cases hx with
     |pure hx=>cases hx
     |_=>(cases hy with
      |pure hy=>cases hy))
    |(cases hx with
     |pure hx=>cases hx)
    |(cases hy with
     |pure hy=>cases hy)
    |skip
end
end
section
universe u v
variable [Inhabited aL]
section
variable {tab:bc} {C:Cx} {h:SH} {a:AH}
def ed (C:Cx) (K:SV->Prop) (r:R AV):Prop:=∃s v,r= .ok v/\az C s v/\K s
theorem ed.pure {K:SV->Prop} {s:SV} {v:AV} (h:aG C.Fz s v) (hk:K s):ed C K (.ok v):=⟨s,v,rfl, .pure h,hk⟩
theorem Hx {op:BinOp} {k:IntKind} {x y:Int} {K:SV->Prop} (h:vL op k x y K):ed C K (intOp op k x y):=by
 have fit:∀n:Int,(bif k.signed then ck (aX k n) (K (.int k n))else K (.int k (k.wrap n)))->ed C K (.ok (.int k (k.wrap n))):=by
  intro n hn
  cases hs:k.signed
  . rw[hs]at hn;exact ed.pure (.int k _) hn
  . rw[hs]at hn;obtain⟨h1,h2⟩:=bZ hn;rw[Ct h1];exact ed.pure (.int k _) h2
 unfold vL at h
 cases op
 case add=>exact fit _ h
 case sub=>exact fit _ h
 case mul=>exact fit _ h
 case quo=>
  grind [bZ,intOp]
 case rem=>
  obtain⟨h1,h2⟩:=bZ h;have hy:¬y=0:=by grind
  simp only[intOp,Ah hy];exact ed.pure (.int k _) h2
 case eql=>exact ed.pure (.bool _) h
 case neq=>exact ed.pure (.bool _) h
 case lss=>have h:K (.bool (bj x y)):=h;rw[bF]at h;exact ed.pure (.bool _) h
 case leq=>have h:K (.bool (bA x y)):=h;rw[dN]at h;exact ed.pure (.bool _) h
 case gtr=>have h:K (.bool (bj y x)):=h;rw[bF]at h;exact ed.pure (.bool _) h
 case geq=>have h:K (.bool (bA y x)):=h;rw[dN]at h;exact ed.pure (.bool _) h
 all_goals
  obtain⟨s,h1,h2⟩:=cA h;obtain⟨v,h3,h4⟩:=sb h1;exact⟨s,v,h3,h4,h2⟩
theorem zn {t:TypeId} {x y:SV} {p:Bool} {u w:AV} (h:ez tab 8 t x y=some p) (hx:az C x u) (hy:az C y w):
  (∃k m j n,x= .int k m/\y= .int j n)\/(∃s s',x= .str s/\y= .str s')\/
   (Am.binOp tab a .eql t u w=(do .ok (.bool (<-eqOp tab a t u w)):R AV)/\Am.binOp tab a .neq t u w=(do .ok (.bool (!(<-eqOp tab a t u w))):R AV)):=by
 have key:(∀k m j n,u= .int k m->w= .int j n->False)->(∀s s',u= .str s->w= .str s'->False)->
   (Am.binOp tab a .eql t u w=(do .ok (.bool (<-eqOp tab a t u w)):R AV)/\Am.binOp tab a .neq t u w=(do .ok (.bool (!(<-eqOp tab a t u w))):R AV)):=by
  grind [Am.binOp]
 unfold ez at h;split at h
 case h_2=>grind
 case h_3=>grind
 case h_17=>cases h
 all_goals
  refine .inr (.inr (key ?_ ?_))
  all_goals (intros;subst_vars)
  all_goals first
   |(cases hx with
    |pure hx=>cases hx)
   |(cases hy with
    |pure hy=>cases hy)
   |(cases hx)
   |skip
theorem zX {op:BinOp} {t:TypeId} {x y:SV} {K:SV->Prop} {u w:AV} (h:mJ tab op t x y K) (hx:az C x u) (hy:az C y w):ed C K (Am.binOp tab a op t u w):=by
 have eqK:∀{p:Bool},ez tab 8 t x y=some p->(∀a b,x= .agg a->y= .agg b->tab.hO.get t=some false)->eqOp tab a t u w= .ok p:=fun h1 h2=>JI h1 hx hy h2
 unfold mJ at h;split at h
 ·
   rw[fR hx,fR hy];rename_i k a1 j b1;obtain⟨h1,h2⟩:=bZ h;obtain⟨s,h3,h4⟩:=cA h2
   cases b1 with
   |negSucc m=>cases h1
   | ofNat m=>
     obtain⟨v,h5,h6⟩:=sb (C:=C) h3
     cases h5;refine⟨s,_,?_,h6,h4⟩;grind [Am.binOp,shiftOp]
 ·
   rw[fR hx,fR hy];rename_i k a1 j b1;obtain⟨h1,h2⟩:=bZ h;obtain⟨s,h3,h4⟩:=cA h2
   cases b1 with
   |negSucc m=>cases h1
   | ofNat m=>
     obtain⟨v,h5,h6⟩:=sb (C:=C) h3
     cases h5;refine⟨s,_,?_,h6,h4⟩;grind [Am.binOp,shiftOp]
 ·
   rw[fR hx,fR hy];grind [bZ,Hx,Am.binOp]
 . obtain⟨h1,h2⟩:=bZ h;rw[fi hx,fi hy];simp only[Am.binOp,strOp];rw[Ai (Ag h1)];exact ed.pure (.str _) h2
 . rw[fi hx,fi hy];exact ed.pure (.bool _) h
 . rw[fi hx,fi hy];exact ed.pure (.bool _) h
 . rw[fi hx,fi hy];exact ed.pure (.bool _) h
 . rw[fi hx,fi hy];exact ed.pure (.bool _) h
 . rw[fi hx,fi hy];exact ed.pure (.bool _) h
 . rw[fi hx,fi hy];exact ed.pure (.bool _) h
 . split at h
   . rename_i hg;obtain⟨p,h1,h2⟩:=cA h;have he:=eqK h1 (fun _ _ _ _=>hg);obtain⟨us,rfl,_⟩:=jR hx;obtain⟨ws,rfl,_⟩:=jR hy;simp only[Am.binOp];rw[rb he];exact ed.pure (.bool _) h2
   grind
 . split at h
   . rename_i hg;obtain⟨p,h1,h2⟩:=cA h;have he:=eqK h1 (fun _ _ _ _=>hg);obtain⟨us,rfl,_⟩:=jR hx;obtain⟨ws,rfl,_⟩:=jR hy;simp only[Am.binOp];rw[rb he];exact ed.pure (.bool _) h2
   grind
 . rename_i n1 n2 n3;obtain⟨p,h1,h2⟩:=cA h;have he:=eqK h1 (fun a b e1 e2=>(n3 a b e1 e2).elim);have hb:Am.binOp tab a .eql t u w=(do .ok (.bool (<-eqOp tab a t u w)):R AV):=by
     grind [zn]
   rw[hb,rb he];exact ed.pure (.bool _) h2
 . rename_i n1 n2 n3;obtain⟨p,h1,h2⟩:=cA h;have he:=eqK h1 (fun a b e1 e2=>(n3 a b e1 e2).elim);have hb:Am.binOp tab a .neq t u w=(do .ok (.bool (!(<-eqOp tab a t u w))):R AV):=by
     rcases zn h1 hx hy with⟨k,m,j,n,rfl,rfl⟩|⟨s1,s2,rfl,rfl⟩|hne
     . grind
     . grind
     . exact hne.2
   rw[hb,rb he];exact ed.pure (.bool _) h2
 grind
end
end
section
universe u v
variable [Inhabited aL]
section
variable {tab:bc} {C:Cx} {h:SH} {a:AH}
theorem Cw {op:UnOp} {x:SV} {K:SV->Prop} {u:AV} (h:wG op x K) (hx:az C x u):ed C K (Am.unOp op u):=by
 unfold wG at h;split at h
 . rename_i k n;rw[fR hx];simp only[Am.unOp]
   cases hs:k.signed
   . rw[hs]at h;exact ed.pure (.int k _) h
   . rw[hs]at h;obtain⟨h1,h2⟩:=bZ h;rw[Ct h1];exact ed.pure (.int k _) h2
 . rw[fR hx];obtain⟨s,h1,h2⟩:=cA h;obtain⟨v,h3,h4⟩:=sb h1;exact⟨s,v,h3,h4,h2⟩
 . rw[lB hx];exact ed.pure (.bool _) h
 grind
theorem pV {x:SV} {K:Nat->Prop} {u:AV} (h:iP x K) (hx:az C x u):∃n,asNat u= .ok n/\K n:=by
 unfold iP at h;split at h
 . rename_i k n;obtain⟨h1,h2⟩:=bZ h;rw[fR hx]
   cases n with
   |negSucc m=>cases h1
   |ofNat m=>exact⟨m,rfl,h2⟩
 grind
theorem qO {ts:Fr} {ta:T AV} (hF:FS C ts ta):∀{l:List (Nat×Operand)} {m:List (Nat×SV)},oA ts l=some m->∃vs,iz ta l= .ok vs/\vs.map (·.1)=m.map (·.1)/\aJ C (m.map (·.2)) (vs.map (·.2)):=by
 intro l;induction l with
 |nil=>intro m h;simp only[oA,AW]at h;subst h;exact⟨[],rfl,rfl,aJ.nil⟩
 |cons x l ih=>
  obtain⟨i,x⟩:=x;intro m h;simp only[oA]at h;split at h
  . rename_i s r h1 h2
    cases h;obtain⟨v,hv,g1⟩:=iD hF h1;obtain⟨vs,hvs,g2,g3⟩:=ih h2;grind [aJ.cons,iz,rb]
  grind
theorem ri:∀{ps:List (Nat×Nat×SV)} {qs:List (Nat×Nat×AV)} {cs:List SV} {ca:List AV} {r:List SV},aJ C cs ca->qs.map (fun x=>(x.1,x.2.1))=ps.map (fun x=>(x.1,x.2.1))->aJ C (ps.map (·.2.2)) (qs.map (·.2.2))->mC cs ps=some r->
  ∃ra,fill ca qs= .ok ra/\aJ C r ra:=by
 intro ps;induction ps with
 |nil=>
  intro qs cs ca r hc hq _ h;simp only[mC,AW]at h;subst h
  cases qs with
  |nil=>exact⟨ca,rfl,hc⟩
  |cons q qs=>grind
 | cons x ps ih=>
  intro qs cs ca r hc hq hs h
  cases qs with
  |nil=>grind
  |cons q qs=>
   obtain⟨off,n,s⟩:=x;obtain⟨off',n',v⟩:=q;simp only[Bn,BL,DQ]at hq;obtain⟨⟨rfl,rfl⟩,hq⟩:=hq;obtain⟨hv,hs⟩:=hs.head;simp only[mC]at h
   cases hb:(s.known&&Nat.beq s.cells.length n'&&Nat.ble (off'+n') cs.length)
   . rw[hb]at h;cases h
   . rw[hb]at h;simp only[Ad]at hb;obtain⟨⟨hk,hl⟩,hr⟩:=hb;obtain⟨l,h1,h2⟩:=qQ hv hk;obtain⟨ra,h3,h4⟩:=ih (xo hc h2 off') hq hs h;refine⟨ra,?_,h4⟩;simp only[fill];rw[rb h1,rb (rc (by rw[<-h2.1,hl,<-hc.1,hr];rfl))];exact h3
theorem Hl (fs:Array Field):∀{ps:List (Nat×SV)} {vs:List (Nat×AV)} {r:List (Nat×Nat×SV)},vs.map (·.1)=ps.map (·.1)->aJ C (ps.map (·.2)) (vs.map (·.2))->pT tab fs ps=some r->
  ∃ra,nI tab fs vs= .ok ra/\ra.map (fun x=>(x.1,x.2.1))=r.map (fun x=>(x.1,x.2.1))/\aJ C (r.map (·.2.2)) (ra.map (·.2.2)):=by
 intro ps;induction ps with
 |nil=>
  intro vs r hv _ h;simp only[pT,AW]at h;subst h
  cases vs with
  |nil=>exact⟨[],rfl,rfl,aJ.nil⟩
  |cons q qs=>grind
 | cons x ps ih=>
  intro vs r hv hs h
  cases vs with
  |nil=>grind
  |cons q vs=>
   obtain⟨i,s⟩:=x;obtain⟨i',v⟩:=q;simp only[Bn,BL]at hv;obtain⟨rfl,hv⟩:=hv;obtain⟨hsv,hs⟩:=hs.head;simp only[pT]at h;split at h
   . split at h
     . rename_i n r' hn hr
       cases h;obtain⟨ra,h1,h2,h3⟩:=ih hv hs hr;simp_all[aJ.cons,nI,rb,ro,siz]
     grind
   grind
theorem yv {t:TypeId} {ps:List (Nat×SV)} {vs:List (Nat×AV)} {s:SV} (hv:vs.map (·.1)=ps.map (·.1)) (hs:aJ C (ps.map (·.2)) (vs.map (·.2))) (h:vD tab t ps=some s):∃v,Am.build tab t vs= .ok v/\az C s v:=by
 unfold vD at h;unfold Am.build;split at h
 . rename_i z fs hz hu;obtain⟨zv,zc,g1,g2,g3⟩:=mn (C:=C) hz;rw[rb g1,rb g2,rb (show und tab t=_ from ro hu)]
   cases hb:fs.toList.all (fun f=>(tab.siz.get f.type).isSome)
   . rw[hb]at h;cases h
   . rw[hb]at h;split at h
     . rename_i q hq;obtain⟨r,hr,rfl⟩:=AA.1 h;obtain⟨ra,h1,h2,h3⟩:=Hl fs hv hs hq;obtain⟨rb',h4,h5⟩:=ri g3 h2 h3 hr;simp only;rw[rb (rc hb),rb h1,rb h4];exact⟨_,rfl, .agg h5.1 h5.2⟩
     grind
 . rename_i z n e hz hu;split at h
   . rename_i m hm;obtain⟨r,hr,rfl⟩:=AA.1 h;obtain⟨zv,zc,g1,g2,g3⟩:=mn (C:=C) hz;rw[rb g1,rb g2,rb (show und tab t=_ from ro hu)];simp only;rw[rb (show siz tab e=_ from ro hm)];obtain⟨rb',h4,h5⟩:=ri (qs:=vs.map fun x=>(x.1*m,m,x.2)) g3 (by
       have:=Az (List.map (fun i=>(i*m,m))) hv;grind [Function.comp_def]) (by grind [Function.comp_def]) hr
     rw[rb h4];exact⟨_,rfl, .agg h5.1 h5.2⟩
   grind
 grind
def gD (o:Option Nat) (d:R Nat):R Nat:=match o with|none=>d|some n=> .ok n
theorem rL {ts:Fr} {ta:T AV} (hF:FS C ts ta) {x:Option Operand} {K:Option Nat->Prop} (h:kz ts x K):∃o,K o/\ ∀d:R Nat,dV ta d x=gD o d/\(x=none↔o=none):=by
 unfold kz at h;split at h
 . exact⟨none,h,fun d=>⟨rfl,by simp⟩⟩
 . obtain⟨v,h1,h2⟩:=cA h;obtain⟨u,h3,h4⟩:=iD hF h1;obtain⟨n,h5,h6⟩:=pV h2 h4;refine⟨some n,h6,fun d=>⟨?_,by simp⟩⟩;simp only[dV];rw[rb h3];exact h5
end
end
end Go.Sy
namespace Go.Sy
open Go.Am Go.RowKit
universe u v
variable [Inhabited aL]
section
variable {tab:bc} {C:Cx} {h:SH} {a:AH}
theorem oe {α:Type u} {l:List α} {lo hi:Option Nat} {K:List α->Prop} (h:iL l lo hi K):lo.getD 0<=hi.getD l.length/\hi.getD l.length<=l.length/\K ((l.drop (lo.getD 0)).take (hi.getD l.length - lo.getD 0)):=by
 unfold iL at h;split at h
 . grind
 . obtain⟨h1,h2⟩:=bZ h;have h1:=Ag h1;grind [List.take_of_length_le]
 . grind [bZ,Nat.le_of_ble_eq_true]
 . obtain⟨h1,h2⟩:=bZ h;simp_all
theorem sa {X:Type} {L:List X} {enc:X->List SV} {v:AV} {Fz:Nat->Option AO} (hv:aG Fz (.ax X L enc) v) (hL:L≠[]):∃b off cap cs e sz ext bk,v= .sl b off L.length cap/\dx Fz b cs e sz ext bk/\0<sz/\off+L.length*sz<=cs.length/\
  (∀(i:Nat) x,L[i]? =some x->(enc x).length=sz)/\oJ cap off L.length sz ext/\ ∀(i:Nat) x (j:Nat) v,L[i]? =some x->(enc x)[j]? =some v->∃u,cs[off+i*sz+j]? =some u/\aG Fz v u:=by
 cases hv with
 |bR h0 _=>grind
 |ax b off cap cs e sz ext bk u hb hs hl hn hc h1 h2=>grind
theorem r9 {X:Type} {L:List X} {enc:X->List SV} {Fz:Nat->Option AO} (b off:Nat) (cap:ew) (cs:List AV) (e:TypeId) (sz:Nat) (ext:Bool) (bk:BK) (n:Nat) (hn':n=L.length)
  (hb:dx Fz b cs e sz ext bk) (hs:0<sz) (hl:off+L.length*sz<=cs.length) (hn:∀(i:Nat) x,L[i]? =some x->(enc x).length=sz) (hc:oJ cap off L.length sz ext)
  (h1:∀(i:Nat) x (j:Nat) v,L[i]? =some x->(enc x)[j]? =some v->∃u,cs[off+i*sz+j]? =some u/\aG Fz v u):aG Fz (.ax X L enc) (.sl b off n cap):=by
 subst hn';refine .ax b off cap cs e sz ext bk (fun i j=>(cs[off+i*sz+j]?).getD (.bg [])) hb hs hl hn hc ?_ ?_
 all_goals grind
theorem ry {ta:T AV} {t e n:Nat} (hu:tab.und.get t=some (.slice e)) (hn:tab.siz.get e=some n) {X:Type} {L:List X} {enc:X->List SV} {v:AV} {Fz:Nat->Option AO} (hfz:∀i o,Fz i=some o->a.get i=some o) (hv:aG Fz (.ax X L enc) v)
  (hlen:∀x:X,(enc x).length=n) {lo hi:Option Operand} {l u:Option Nat} (h1:∀d:R Nat,dV ta d lo=gD l d) (h2:∀d:R Nat,dV ta d hi=gD u d)
  (hle:l.getD 0<=u.getD L.length) (hle2:u.getD L.length<=L.length):∃w,fY tab ta a t v lo hi none= .ok (w,a)/\aG Fz (.ax X ((L.drop (l.getD 0)).take (u.getD L.length - l.getD 0)) enc) w:=by
 by_cases hL:0<L.length
 case neg=>
  have hL0:L.length=0:=by omega
  have o1:dV ta (.ok 0) lo= .ok (l.getD 0):=by rw[h1];cases l<;>rfl
  have o2:∀d,dV ta (.ok d) hi= .ok (u.getD d):=by intro d;rw[h2];cases u<;>rfl
  rw[hL0]at hle hle2;have hu0:u.getD 0=0:=by omega
  have hl0:l.getD 0=0:=by omega
  have hr:((L.drop (l.getD 0)).take (u.getD L.length - l.getD 0)).length=0:=by grind
  rw[hl0]at o1;unfold fY;rw[rb (show und tab t=_ from ro hu)]
  cases hv with
  |bR h0 hv=>
   rcases hv with rfl|⟨b,off,l1,n1,k,rfl⟩|⟨a',c,rfl⟩
   . refine⟨.nils,?_, .bR hr (.inl rfl)⟩;simp only;rw[rb (show siz tab e= .ok n from ro hn),rb o1,rb (o2 0),hu0];rfl
   . refine⟨.emp b off l1 n1 k,?_, .bR hr (.inr (.inl ⟨_,_,_,_,_,rfl⟩))⟩;simp only;rw[rb (show siz tab e= .ok n from ro hn),rb o1,rb (o2 0),hu0];rfl
   . refine⟨.raw (.slice a' 0 c),?_, .bR hr (.inr (.inr ⟨_,_,rfl⟩))⟩;simp only;rw[rb (show siz tab e= .ok n from ro hn),rb o1,rb (o2 0),hu0];rfl
  | ax b off cap cs e' sz ext bk w hb hs hl hn' hc h1' h2'=>
   obtain⟨sz0,ext0,hb0,hx0⟩:=id hb;have hcl:=eS (hfz _ _ hb0);rw[hL0]at hc⊢;simp only
   cases cap with
   | lit m=>
     rw[rb (show capLow a b (.lit m)= .ok m from rfl),rb (show siz tab e= .ok n from ro hn),rb o1,rb (o2 0),hu0];simp only;rw[rb (rc (by simp))];refine⟨_,rfl,?_⟩;have:(aG Fz (.ax X ((L.drop (l.getD 0)).take (0 - l.getD 0)) enc) (.sl b off ((L.drop (l.getD 0)).take (0 - l.getD 0)).length (.lit m))):=by
       refine .ax b off (.lit m) cs e' sz ext bk w hb hs (by grind) (fun i x hx=>?_) (by grind) (fun i x j v hx=>?_) (fun i x j v hx=>?_)
       all_goals grind
     grind
   | tail k=>
     obtain⟨hext,hoff⟩:=hc;subst hext;obtain⟨hz1,hz2⟩:=hx0 rfl;have hz1:=hz1.symm;subst hz1;have hcap:capLow a b (.tail k)= .ok (cs.length / sz - k):=by
       simp only[capLow];rw[rb hcl];rw[rb (rc (by grind [eu]))];rfl
     rw[rb hcap,rb (show siz tab e= .ok n from ro hn),rb o1,rb (o2 0),hu0];simp only;rw[rb (rc (by simp))];refine⟨_,rfl,?_⟩;have:(aG Fz (.ax X ((L.drop (l.getD 0)).take (0 - l.getD 0)) enc) (.sl b off ((L.drop (l.getD 0)).take (0 - l.getD 0)).length (.tail k))):=by
       refine .ax b off (.tail k) cs e' sz true bk w hb hs (by grind) (fun i x hx=>?_) ⟨rfl,hoff⟩ (fun i x j v hx=>?_) (fun i x j v hx=>?_)
       all_goals grind
     grind
 case pos=>
  obtain⟨b,off,cap,cs,e',sz,ext,bk,rfl,hb,hs,hl,hsz,hc,hcell⟩:=sa hv (by grind);have hszn:sz=n:=by
   rw[<-hsz 0 _ (Af hL),hlen]
  subst hszn;have o1:dV ta (.ok 0) lo= .ok (l.getD 0):=by rw[h1];cases l<;>rfl
  have o2:∀d,dV ta (.ok d) hi= .ok (u.getD d):=by intro d;rw[h2];cases u<;>rfl
  obtain⟨sz0,ext0,hb0,hx0⟩:=id hb;have hcl:=eS (hfz _ _ hb0);generalize l.getD 0=i at*
  generalize hj:u.getD L.length=j at*
  have hLl:((L.drop i).take (j - i)).length=j - i:=by grind
  have hget:∀(q:Nat) x,((L.drop i).take (j - i))[q]? =some x->L[i+q]? =some x/\q<j - i:=by
   grind
  have hmul:∀q,off+i*sz+q*sz=off+(i+q)*sz:=by grind
  have hbound:off+i*sz+(j - i)*sz<=cs.length:=by
   rw[hmul];have:(i+(j - i))*sz<=L.length*sz:=AX _ (by omega);omega
  have mk:∀cap',oJ cap' (off+i*sz) (j - i) sz ext->aG Fz (.ax X ((L.drop i).take (j - i)) enc) (.sl b (off+i*sz) (j - i) cap'):=by
   grind [r9]
  have empty:j - i=0->∀w,(w= .nils\/(∃b off l n k,w= .emp b off l n k)\/ ∃a c,w= .raw (.slice a 0 c))->aG Fz (.ax X ((L.drop i).take (j - i)) enc) w:=fun h0 w hw=> .bR (by rw[hLl,h0]) hw
  unfold fY;rw[rb (show und tab t=_ from ro hu)];simp only
  cases cap with
  |lit m=>
   have hcm:L.length<=m:=hc;rw[rb (show capLow a b (.lit m)= .ok m from rfl),rb (show siz tab e= .ok sz from ro hn),rb o1,rb (o2 _),hj];simp only;rw[rb (rc (by grind [Nat.ble_eq]))];grind [r9,oJ,eu]
  |tail k=>
   obtain⟨hext,hoff⟩:=hc;subst hext;obtain⟨hz1,hz2⟩:=hx0 rfl;have hz1:=hz1.symm;subst hz1;subst hz2;have hcap:capLow a b (.tail k)= .ok (cs.length / sz - k):=by
     simp only[capLow];rw[rb hcl];rw[rb (rc (by simp only[Ba,AG];exact eu (by omega)))];rfl
   have hge:L.length<=cs.length / sz - k:=by
     have:(k+L.length)*sz<=cs.length:=by rw[A1,<-hoff];exact hl
     have:=(D3 hs).2 this;omega
   rw[rb hcap,rb (show siz tab e= .ok sz from ro hn),rb o1,rb (o2 _),hj];simp only;rw[rb (rc (by simp only[Ad,AI];omega))];by_cases hi0:i=0
   . subst hi0;have:=mk (.tail k) ⟨rfl,by omega⟩;exact⟨_,rfl,by simpa using this⟩
   . rw[eu hi0];by_cases hlt:i<cs.length / sz - k
     . rw[show Nat.blt i (cs.length / sz - k)=true from by simpa using hlt];exact⟨_,rfl,mk _ ⟨rfl,by rw[A1,hoff]⟩⟩
     . rw[show Nat.blt i (cs.length / sz - k)=false from Ap.2 fun e=>hlt (by simpa using e)];exact⟨_,rfl,empty (by omega) _ (.inr (.inl ⟨_,_,_,_,_,rfl⟩))⟩
 end
 end Go.Sy
namespace Go.Sy
open Go.Am Go.RowKit
section
universe u v
variable [Inhabited aL]
section
variable {tab:bc} {view:TypeId->Option View} {C:Cx} {s:St} {ta:T AV} {a:AH}
def aA (tab:bc) (C:Cx) (s:St) (ta:T AV) (a:AH) (K:SV->St->Prop) (r:R (AV×AH)):Prop:=∃sv s' v a',K sv s'/\r= .ok (v,a')/\lj tab C s ta a sv s' v a'
theorem aA.same {K:SV->St->Prop} (hF:FS C s.ts ta) (H:HS tab C s.h a) {sv:SV} {v:AV} (hv:az C sv v) (hk:K sv s):aA tab C s ta a K (.ok (v,a)):=⟨sv,s,v,a,hk,rfl,lj.same hF H hv⟩
theorem aA.val {K:SV->St->Prop} (hF:FS C s.ts ta) (H:HS tab C s.h a) {r:R AV} (h:ed C (fun v=>K v s) r):aA tab C s ta a K (do .ok (<-r,a)):=by
 obtain⟨sv,v,h1,h2,h3⟩:=h;rw[rb h1];grind [aA.same]
theorem Ir (hF:FS C s.ts ta) (H:HS tab C s.h a) {t:TypeId} {x:SV} {v:AV} (hv:az C x v) {lo hi:Option Operand} {K:SV->St->Prop} (h:vS tab s t x lo hi K):aA tab C s ta a K (fY tab ta a t v lo hi none):=by
 obtain⟨l,h1,hl⟩:=rL hF h;obtain⟨u,h2,hu⟩:=rL hF h1;clear h h1;have h:=h2;have o1:∀d:R Nat,dV ta d lo=gD l d:=fun d=>(hl d).1
 have o2:∀d:R Nat,dV ta d hi=gD u d:=fun d=>(hu d).1
 split at h
 . rename_i c hg;rw[fi hv];obtain⟨h1,h2,h3⟩:=oe h;unfold fY;rw[rb (show und tab t=_ from ro hg)];simp only;rw[rb (show R.check "slice: max" (none:Option Operand).isNone= .ok ()from rfl),rb (show dV ta (.ok 0) lo= .ok (l.getD 0)from by rw[o1];cases l<;>rfl),rb (show dV ta (.ok c.length) hi= .ok (u.getD c.length)from by rw[o2];cases u<;>rfl),
     rb (rc (by simp_all))]
   exact aA.same hF H (.pure (.str _)) h3
 . rename_i e X L enc hg;split at h
   . rename_i n hn;obtain⟨hlen,h⟩:=h;obtain⟨h1,h2,h3⟩:=oe h;obtain⟨w,h4,h5⟩:=ry hg hn H.fz (hZ hv rfl) hlen o1 o2 h1 h2;rw[h4];exact aA.same hF H (.pure h5) h3
   grind
 . rename_i e b hg;split at h
   . rename_i X L enc t' n hb hn;obtain⟨hlen,h⟩:=h;obtain⟨h1,h2,h3⟩:=oe h;obtain⟨C',e1,e2,e3,e4,e5,e6⟩:=iv hF H hb;obtain⟨w,h4,h5⟩:=ry hg hn e3.fz (e5 v hv) hlen o1 o2 h1 h2;exact⟨_,_,w,a,h3,h4,⟨C',_,e1,e2, .pure h5,e3,e4,e6.bu _⟩,Grow.refl a⟩
   grind
 . rename_i e b off len cap hg;split at h
   . rename_i n hn;obtain⟨h1,h2⟩:=bZ h
     cases hv with
     |pure hv=>cases hv
     | sl hI=>
      unfold fY;rw[rb (show und tab t=_ from ro hg)];simp only;rw[rb (show capLow a _ (.lit cap)= .ok cap from rfl),rb (show siz tab e= .ok n from ro hn),rb (show dV ta (.ok 0) lo= .ok (l.getD 0)from by rw[o1];cases l<;>rfl),
       rb (show dV ta (.ok len) hi= .ok (u.getD len)from by rw[o2];cases u<;>rfl),
       rb (rc (by grind))]
      exact aA.same hF H (.sl hI) h2
   grind
 grind
theorem HS.fresh (H:HS tab C s.h a) (ca:List AV) (e:TypeId) (sz:Nat) (ext:Bool) (bk:BK):∃C':Cx,C.le C'/\C'.Fz a.next=some (.cells ca e sz ext bk)/\HS tab C' s.h (a.new (.cells ca e sz ext bk)):=by
 classical
 let C':Cx:={C with Fz:=fun i=>if i=a.next then some (.cells ca e sz ext bk)else C.Fz i}
 have hfz:∀i o,C.Fz i=some o->C'.Fz i=some o:=by
   intro i o hi;have:=H.wf _ _ (H.fz i o hi);grind
 have hle:C.le C':=⟨fun _ _ h=>h,hfz⟩;have hblk:∀p o I,s.h.get p=some o->C.ρ p=some I->I.cap.isSome->I.β≠a.next:=by
   intro p o I hp hI hc;obtain⟨b,hb⟩:=(H.at_ hp hI).live hc;have:=H.wf _ _ hb;omega
 refine⟨C',hle,by grind,⟨?_,H.inj,?_,?_,H.lt,?_⟩⟩
 . intro p o hp;obtain⟨I,hI,ho⟩:=H.obj p o hp;refine⟨I,hI,?_⟩;have ho':=ho.le hle;by_cases hc:I.cap.isSome
   . exact ho'.congr (by rw[AH.aI,Ah (hblk p o I hp hI hc)])
   . cases o with
     |cells cs t=>exact absurd ho.1 hc
     |arr X L enc t=>
      obtain⟨g1,g2,g3,g4,g5⟩:=ho';refine⟨g1,g2,g3,g4,?_⟩;grind
 . intro i o hi;simp only[C']at hi;rw[AH.aI];split at hi
   . grind
   . rename_i e;rw[Ah e];exact H.fz i o hi
 . intro p o I hp hI hc;simp only[C'];rw[Ah (hblk p o I hp hI hc)];exact H.dj p o I hp hI hc
 . intro i o hi;rw[AH.aI]at hi;simp only[AH.bT];split at hi
   . omega
   . have:=H.wf i o hi;omega
theorem fo {e n:Nat} (hn:tab.siz.get e=some n) (cs:List AV) (ext:Bool) (bk:BK):Am.newRow tab a e cs ext bk= .ok (a.new (.cells cs e n ext bk),a.next):=by
 simp_all[Am.newRow,rb,siz,ro]
theorem Jl {c:List UInt8} {i:Nat} {x:UInt8} (hx:c[i]? =some x) {j:Nat} {v:SV} (hv:(cf x)[j]? =some v):j=0/\v= .int .u8 (.ofNat x.toNat):=by
 grind [cf]
theorem pD:∀{c:List UInt8},bytesOf (c.map fun b=>AV.int .u8 (.ofNat b.toNat))= .ok c:=by
 intro c;induction c with
 |nil=>rfl
 |cons x c ih=>
  simp_all[bytesOf,rb]
theorem xl {Fz:Nat->Option AO} (hfz:∀i o,Fz i=some o->a.get i=some o) {c:List UInt8} {v:AV} (hv:aG Fz (.ax UInt8 c cf) v):
  v= .nils/\c=[]\/((∃b off l n k,v= .emp b off l n k)\/ ∃a c,v= .raw (.slice a 0 c))/\c=[]\/ ∃b off cap,v= .sl b off c.length cap/\readN a b off c.length= .ok (c.map fun b=>AV.int .u8 (.ofNat b.toNat)):=by
 cases hv with
 |bR h0 hv=>
  have:=Ay h0;grind
 |ax b off cap cs e sz ext bk u hb hs hl hn hc h1 h2=>
  refine .inr (.inr ⟨b,off,cap,rfl,?_⟩);obtain⟨sz0,ext0,hb,hx0⟩:=hb;have hsz:c≠[]->sz=1:=by
    intro hc0
    cases c with
    |nil=>grind
    |cons x c=>rw[<-hn 0 x rfl];rfl
  unfold readN;rw[rb (eS (hfz _ _ hb))];simp only;have hle:off+c.length<=cs.length:=by
    by_cases h0:c=[]
    all_goals grind
  rw[rb (rc (by simp_all))];congr 1
  apply List.ext_getElem?
  intro i;rw[Bq,AF];by_cases hi:i<c.length
  . rw[Ai hi,BB];have hx:=Af hi;have h0:c≠[]:=by grind
    have g1:=h1 i _ 0 _ hx rfl;have g2:=h2 i _ 0 _ hx rfl;rw[hsz h0]at g1;simp only[Nat.mul_one,BO]at g1;rw[g1,hx]
    cases g2h:u i 0 with
    |int k n=>
     rw[g2h]at g2
     cases g2;rfl
    |_=>rw[g2h]at g2;cases g2
  grind
theorem Ic (hF:FS C s.ts ta) (H:HS tab C s.h a) {src dst:TypeId} {x:SV} {v:AV} (hv:az C x v) {K:SV->St->Prop} (h:sg tab s src dst x K):aA tab C s ta a K (kH tab a src dst v):=by
 have hnu:∀{d:TypeDesc},tab.und.get dst=some d->(d≠ .unsafePointer)->(∀u,d≠ .pointer u)->kH tab a src dst v=Am.convert tab a src dst v:=by
   intro d hd h1 h2;unfold kH;rw[rb (show und tab dst=_ from ro hd)]
   cases d<;>first|rfl|exact absurd rfl h1|grind
 unfold sg at h;split at h
 . rename_i d k j n hs hd;rw[hnu hd (by simp) (by simp),fR hv];unfold Am.convert;rw[rb (show und tab src=_ from ro hs),rb (show und tab dst=_ from ro hd)];exact aA.same hF H (.pure (.int _ _)) h
 . rename_i d c hs hd;rw[hnu hd (by simp) (by simp),fi hv];unfold Am.convert;rw[rb (show und tab src=_ from ro hs),rb (show und tab dst=_ from ro hd)];exact aA.same hF H (.pure (.str _)) h
 . rename_i d e c hs hd;split at h
   . rename_i he hz;rw[hnu hd (by simp) (by simp),fi hv];unfold Am.convert;rw[rb (show und tab src=_ from ro hs),rb (show und tab dst=_ from ro hd)];obtain⟨C',g1,g2,g3⟩:=H.fresh (ofBytes c) e 1 true .mark;have hsim:aG C'.Fz (.ax UInt8 c cf) (.sl a.next 0 c.length (.tail 0)):=by
       refine r9 a.next 0 _ (ofBytes c) e 1 true .mark _ rfl (.of g2) (by omega) (by simp[ofBytes]) (fun i x _=>rfl) ⟨rfl,rfl⟩ ?_;intro i x j w hx hw;obtain⟨rfl,rfl⟩:=Jl hx hw;refine⟨_,?_, .int _ _⟩;grind [ofBytes]
     have hr:Am.newRow tab a e (ofBytes c) true .mark= .ok (a.new (.cells (ofBytes c) e 1 true .mark),a.next):=fo hz _ _ _;have:aA tab C s ta a K (.ok (.sl a.next 0 c.length (.tail 0),a.new (.cells (ofBytes c) e 1 true .mark))):=
       ⟨_,s,_,_,h,rfl,⟨C',[],by simp,g1.tr, .pure hsim,g3,hF.le g1,cw.new H _ _ g1 (fun p o h=>⟨o,h⟩)⟩,Grow.new a _⟩
     cases d<;>simp only<;>(rw[rb (show und tab e=_ from ro he)];simp only;rw[rb (show siz tab e= .ok 1 from ro hz),rb (show R.check "convert: size" (Nat.beq 1 1)= .ok ()from rfl),rb hr];exact this)
   grind
 . rename_i e hs hd;split at h
   . rename_i he;rw[hnu hd (by simp) (by simp),kJ hv];unfold Am.convert;rw[rb (show und tab src=_ from ro hs),rb (show und tab dst=_ from ro hd)];simp only;rw[rb (show und tab e=_ from ro he)];exact aA.same hF H (.pure (.str _)) h
   grind
 . rename_i e X L enc hs hd;split at h
   . rename_i he;obtain⟨c,h1,h2⟩:=h;rw[h1]at hv;rw[hnu hd (by simp) (by simp)];unfold Am.convert;rw[rb (show und tab src=_ from ro hs),rb (show und tab dst=_ from ro hd)];rcases xl H.fz (hZ hv rfl)with⟨rfl,rfl⟩|⟨⟨b,off,l,n,k,rfl⟩|⟨a1,c1,rfl⟩,rfl⟩|⟨b,off,cap,rfl,hr⟩
     . simp only;rw[rb (show und tab e=_ from ro he)];exact aA.same hF H (.pure (.str _)) h2
     . simp only;rw[rb (show und tab e=_ from ro he)];exact aA.same hF H (.pure (.str _)) h2
     . simp only;rw[rb (show und tab e=_ from ro he)];exact aA.same hF H (.pure (.str _)) h2
     . simp only;rw[rb (show und tab e=_ from ro he)];simp only;rw[rb hr,rb pD];exact aA.same hF H (.pure (.str _)) h2
   grind
 . rename_i e b hs hd;split at h
   . rename_i X L enc t' he hb;obtain⟨c,h1,h2⟩:=h;obtain⟨C',e1,e2,e3,e4,e5,_⟩:=iv hF H hb;have hv':=e5 v hv;rw[h1]at hv';rw[hnu hd (by simp) (by simp)];unfold Am.convert;rw[rb (show und tab src=_ from ro hs),rb (show und tab dst=_ from ro hd)];rcases xl e3.fz hv' with⟨rfl,rfl⟩|⟨⟨b,off,l,n,k,rfl⟩|⟨a1,c1,rfl⟩,rfl⟩|⟨b,off,cap,rfl,hr⟩
     . simp only;rw[rb (show und tab e=_ from ro he)];exact aA.same hF H (.pure (.str _)) h2
     . simp only;rw[rb (show und tab e=_ from ro he)];exact aA.same hF H (.pure (.str _)) h2
     . simp only;rw[rb (show und tab e=_ from ro he)];exact aA.same hF H (.pure (.str _)) h2
     . simp only;rw[rb (show und tab e=_ from ro he)];simp only;rw[rb hr,rb pD];exact aA.same hF H (.pure (.str _)) h2
   grind
 . rename_i e b off len cap hs hd;split at h
   . rename_i cs t' he hb;obtain⟨hle,c,h1,h2⟩:=bZ h;have hle:=Ag hle;rw[hnu hd (by simp) (by simp)]
     cases hv with
     |pure hv=>cases hv
     | @sl _ _ _ _ I hI=>
       obtain⟨_,ca,sz,g1,g2,_⟩:=H.at_ hb hI;have hcl:=g2.1;have hr:readN a I.β off len= .ok (c.map fun b=>AV.int .u8 (.ofNat b.toNat)):=by
        unfold readN;rw[rb (eS g1)];simp only;rw[rb (rc (by grind))];congr 1
        apply List.ext_getElem?
        intro i;have hS:=(g2.drop off).take len;rw[h1]at hS
        cases hq:(mF c)[i]? with
        |none=>
         have hn:=Da.1 hq;rw[Br (by rw[<-hS.1];exact hn),Br (by grind [mF])]
        |some v=>
         have hlt:=(Ao.1 hq).1;have hlt2:i<(List.take len (List.drop off ca)).length:=by rw[<-hS.1];omega
         have hsv:=hS.2 i v _ hq (Af hlt2);grind [mF,fR]
       unfold Am.convert;rw[rb (show und tab src=_ from ro hs),rb (show und tab dst=_ from ro hd)];simp only;rw[rb (show und tab e=_ from ro he)];simp only;rw[rb hr,rb pD];exact aA.same hF H (.pure (.str _)) h2
   grind
 grind
end
end
section
universe u v
variable [Inhabited aL]
section
variable {tab:bc} {view:TypeId->Option View} {C:Cx} {s:St} {ta:T AV} {a:AH} {h:SH}
structure Told (Fz:Nat->Option AO) (X:Type) (l:List X) (enc:X->List SV) (n:Nat) (news:List AV):Prop where
 len:news.length=l.length*n
 each:∀(i:Nat) x,l[i]? =some x->(enc x).length=n
 cell:∀(i:Nat) x (j:Nat) v,l[i]? =some x->(enc x)[j]? =some v->∃u,news[i*n+j]? =some u/\aG Fz v u
 one:news.all iA=true
theorem wV {s:SV} (h:iW s=true):isScalar s=true:=by cases s<;>first|rfl|cases h
theorem HL {Fz:Nat->Option AO} {s:SV} {v:AV} (h:aG Fz s v) (hp:iW s=true):iA v=true:=yG (C:=⟨fun _=>none,Fz⟩) (.pure h) (wV hp)
theorem GZ {news:List AV} {n:Nat} (hn:n≠0) {m:Nat} (hl:news.length=m*n) (h:∀i j,i<m->j<n->∀u,news[i*n+j]? =some u->iA u=true):news.all iA=true:=by
 rw[Aq];intro v hv;obtain⟨q,hq⟩:=AZ.1 hv;have hlt:q<m*n:=by rw[<-hl];grind
 have h1:q / n<m:=by
  apply (Nat.div_lt_iff_lt_mul (by omega)).2;omega
 have h2:q % n<n:=DM _ (by omega);grind [Nat.div_add_mod]
theorem xR {X:Type} {L:List X} {enc:X->List SV} {v:AV} {Fz:Nat->Option AO} {n:Nat} (hfz:∀i o,Fz i=some o->a.get i=some o) (hv:aG Fz (.ax X L enc) v) (hn:n≠0) (he:∀x:X,(enc x).length=n/\(enc x).all iW=true):
   ∃news,source a n v= .ok (L.length,news)/\Told Fz X L enc n news:=by
 by_cases hL:L=[]
 . subst hL;have ht:Told Fz X [] enc n []:=⟨by simp,fun i x hx=>by grind,fun i x j v hx=>by grind,rfl⟩
   cases hv with
   | bR h0 hv=>
     rcases hv with rfl|⟨b,off,l,k,c,rfl⟩|⟨a,c,rfl⟩
     . exact⟨[],rfl,ht⟩
     . exact⟨[],rfl,ht⟩
     . exact⟨[],rfl,ht⟩
   | ax b off cap cs e sz ext bk u hb hs hl hsz hc h1 h2=>
     obtain⟨sz0,ext0,hb,hx0⟩:=hb;refine⟨[],?_,ht⟩;simp only[source,A3,Nat.zero_mul];unfold readN;rw[rb (eS (hfz _ _ hb))];grind [rb,rc,Nat.ble_eq]
 . obtain⟨b,off,cap,cs,e',sz,ext,bk,rfl,hb,hs,hl,hsz,hc,hcell⟩:=sa hv hL;obtain⟨sz0,ext0,hb,hx0⟩:=hb;have hszn:sz=n:=by
     obtain⟨x,hx⟩:∃x,L[0]? =some x:=⟨L[0]'(by grind),by simp⟩;rw[<-hsz 0 x hx,(he x).1]
   subst hszn;have hr:readN a b off (L.length*sz)= .ok ((cs.drop off).take (L.length*sz)):=by
     unfold readN;rw[rb (eS (hfz _ _ hb))];grind [rb,rc,Nat.ble_eq]
   have hlen:((cs.drop off).take (L.length*sz)).length=L.length*sz:=by grind
   have hget:∀(i j:Nat),i<L.length->j<sz->((cs.drop off).take (L.length*sz))[i*sz+j]? =cs[off+i*sz+j]? :=by
     intro i j hi hj;rw[Bq,Ai,BB,BC]
     calc i*sz+j<i*sz+sz:=by omega
       _=(i+1)*sz:=by rw[A1,BX]
       _<=L.length*sz:=AX _ hi
   have hcell':∀(i:Nat) x (j:Nat) v,L[i]? =some x->(enc x)[j]? =some v->∃u,((cs.drop off).take (L.length*sz))[i*sz+j]? =some u/\aG Fz v u:=by
     grind
   refine⟨_,?_,hlen,hsz,hcell',GZ (by omega) hlen ?_⟩
   . grind [source,rb]
   . intro i j hi hj u hu;have hx:=Af hi;have hjl:j<(enc L[i]).length:=by rw[(he _).1];exact hj
     have hv:=Af hjl;grind [HL]
theorem x7 (n:Nat):∀(m:Nat) (l:List SV) (i:Nat),i<m->(chunk n m l)[i]? =some ((l.drop (i*n)).take n):=by
 intro m;induction m with
 |zero=>omega
 | succ m ih=>
  intro l i h
  cases i with
  |zero=>simp[chunk]
  |succ i=>
   grind [chunk,List.drop_drop,Nat.add_mul]
theorem uw (n:Nat):∀(m:Nat) (l:List SV),(chunk n m l).length=m:=by
 intro m;induction m with
 |zero=>intro l;rfl
 |succ m ih=>grind [chunk]
theorem CK {X:Type} {enc:X->List SV}:∀{c:List (List SV)} {K:List X->Prop},qB enc c K->∃l,l.length=c.length/\(∀(i:Nat) x q,l[i]? =some x->c[i]? =some q->enc x=q)/\K l:=by
 intro c;induction c with
 |nil=>intro K h;exact⟨[],rfl,fun i x q h=>by grind,h⟩
 |cons q c ih=>
  intro K h;obtain⟨x,hx,h⟩:=h;grind
theorem tP {X:Type} {enc:X->List SV} {n m:Nat} (hn:n≠0) {cs:List SV} {ca:List AV} (hc:aJ C cs ca) (hl:cs.length=m*n) (hp:cs.all iW=true) {l:List X} (hll:l.length=m)
   (he:∀(i:Nat) x q,l[i]? =some x->(chunk n m cs)[i]? =some q->enc x=q):Told C.Fz X l enc n ca:=by
 have hsub:∀i,i<m->i*n+n<=m*n:=by
   intro i hi
   calc i*n+n=(i+1)*n:=by rw[A1,BX]
     _<=m*n:=AX _ hi
 refine⟨by rw[<-hc.1,hl,hll],?_,?_,?_⟩
 . intro i x hx;have hi:i<m:=by rw[<-hll];grind
   rw[he i x _ hx (x7 n m cs i hi)];have:=hsub i hi;grind
 . intro i x j v hx hv;have hi:i<m:=by rw[<-hll];grind
   rw[he i x _ hx (x7 n m cs i hi),Bq]at hv;split at hv
   . rw[BB]at hv;obtain⟨u,h1,h2⟩:=hc.get hv;grind [hZ]
   grind
 grind [xQ,wV]
theorem Jd {X:Type} {L M:List X} {enc:X->List SV} {n:Nat} {ca news:List AV} {Fz:Nat->Option AO} (hl:ca.length=L.length*n) (hL:∀(i:Nat) x,L[i]? =some x->(enc x).length=n)
   (hc:∀(i:Nat) x (j:Nat) v,L[i]? =some x->(enc x)[j]? =some v->∃u,ca[i*n+j]? =some u/\aG Fz v u) (hM:Told Fz X M enc n news):
   (ca++news).length=(L++M).length*n/\(∀(i:Nat) x,(L++M)[i]? =some x->(enc x).length=n)/\
     ∀(i:Nat) x (j:Nat) v,(L++M)[i]? =some x->(enc x)[j]? =some v->∃u,(ca++news)[i*n+j]? =some u/\aG Fz v u:=by
 have hlt:∀i j,i<L.length->j<n->i*n+j<L.length*n:=by
   intro i j hi hj
   calc i*n+j<(i+1)*n:=by rw[A1,BX];omega
     _<=L.length*n:=AX _ hi
 refine⟨by rw[AR,AR,hl,hM.len,A1],?_,?_⟩
 . intro i x hx;by_cases hi:i<L.length
   . rw[AL hi]at hx;grind
   . rw[A8 (by omega)]at hx;exact hM.each _ x hx
 . intro i x j v hx hv;by_cases hi:i<L.length
   . rw[AL hi]at hx;have hj:j<n:=by rw[<-hL i x hx];grind
     grind
   . rw[A8 (by omega)]at hx;obtain⟨u,h1,h2⟩:=hM.cell _ x j v hx hv;refine⟨u,?_,h2⟩;have hge:L.length*n<=i*n:=AX _ (by omega);rw[A8 (by rw[hl];omega),hl];rw[Nat.sub_mul]at h1;rw[<-h1];grind
def oB (by_ m:Nat):Prop:=(Nat.ble (m*by_) 16777216&&Nat.ble m 16777216)=true
theorem FV (H:HS tab C h a) {d:Nat} {X:Type} {L M:List X} {enc:X->List SV} {e n by_:Nat} {u:AV} {news:List AV} (hd:h.get d=some (.arr X L enc e)) (hv:az C (.own d) u) (hn:tab.siz.get e=some n) (hn0:n≠0)
   (hz:iU tab e n= .ok ()) (hroom:oB by_ (L.length+M.length)) (hM:Told C.Fz X M enc n news):
   ∃I v a',Am.bn tab a e n by_ u M.length news= .ok (v,a')/\cz C (.kill d) (C.put d I)/\HS tab (C.put d I) ⟨h.next,(d,some (.arr X (L++M) enc e))::fA (.kill d) h.os⟩ a'/\az (C.put d I) (.own d) v/\Grow a a'/\cw C h a [.kill d, .mod d] (C.put d I) ⟨h.next,(d,some (.arr X (L++M) enc e))::fA (.kill d) h.os⟩ a':=by
 have hpk:∀(I:BI) (o2:SO) p o J,h.get p=some o->C.ρ p=some J->p≠d->∃o',(SH.mk h.next ((d,some o2)::fA (.kill d) h.os)).get p=some o'/\(C.put d I).ρ p=some J:=by
   intro I o2 p o J hp hJ hpd;refine⟨o.on (.kill d),?_,by rw[fZ _ _ hpd];exact hJ⟩;have h1:=oh (.kill d) h.next h.os p;grind [SH.get,gE]
 obtain⟨I0,hI0,ho⟩:=H.obj d _ hd;have ho':=ho;obtain⟨g1,g2,g3,g4,g5⟩:=ho;have hsz:I0.sz=n:=by rw[hn]at g1;grind
 have hlt:∀b i,C.Fz i=some b->i<a.next:=fun b i hi=>H.wf _ _ (H.fz _ _ hi)
 by_cases hm:M.length=0
 . have hM0:=Ay hm;subst hM0;have hnews:news=[]:=Ay (by rw[hM.len];simp);subst hnews;rw[A9];obtain⟨hT,H'⟩:=H.renew hd hI0 I0 (o:= .arr X L enc e) (a':=a) (fun i b _ h=>h) H.wf (fun hc=> .inr ⟨hc,rfl⟩) (An _) (fun hT=>by
     have:=ho'.turns hT;exact this)
   refine⟨I0,u,a,?_,hT,H',?_,Grow.refl a,fun p o J hp hJ hc hnd=>⟨rfl, .inl (hpk I0 _ p o J hp hJ (fun e=>hnd (by grind [gF])))⟩⟩
   . cases hv with
     |pure hv=>cases hv
     |dh hI hc=>simp[Am.bn]
     | own hI hc=>
       rw [hI0]at hI;cases hI;rw[hc]at g5;obtain⟨ca,ext,bk,k1,k2,k3,k4,k5⟩:=g5;rename_i c';have hlow:capLow a I0.β c'= .ok (I0.len):=by
        rcases k4 with⟨rfl,rfl⟩|⟨rfl,h0⟩
        . simp only[capLow];rw[rb (eS k1)];rw[rb (rc (by grind [eu]))];rw[k3,g3];congr 1
          exact Nat.mul_div_cancel _ (by omega)
        grind [capLow]
       simp only[Am.bn];rw[rb hlow,rb (eS k1)];rw[rb (rc (by simp_all)),rb (rc (by rw[g3];exact hroom)),A3,BO,show Nat.ble I0.len I0.len=true from by simp];rfl
   . cases hv with
     |pure hv=>cases hv
     |dh hI hc=>exact .dh (fx _ _ _) (by rw[hI0]at hI;grind)
     |own hI hc=>rw[hI0]at hI;cases hI;exact .own (fx _ _ _) hc
 . have hbm:Nat.beq M.length 0=false:=eu hm;have hpos:0<n:=by omega
   have newrow:∀(ca:List AV) (a1:AH) (bk:BK),a1.next=a.next->(∀i o,a1.get i=some o->a.get i=some o)->(∀i b,(I0.cap.isSome->i≠I0.β)->a.get i=some b->a1.get i=some b)->(bk≠ .ro/\bk≠ .cold)->ca.length=L.length*n->
       (∀(i:Nat) x (j:Nat) v,L[i]? =some x->(enc x)[j]? =some v->∃u,ca[i*n+j]? =some u/\aG C.Fz v u)->
       ∃I,cz C (.kill d) (C.put d I)/\HS tab (C.put d I) ⟨h.next,(d,some (.arr X (L++M) enc e))::fA (.kill d) h.os⟩ (a1.new (.cells (ca++news) e n true bk))/\az (C.put d I) (.own d) (.sl a.next 0 (L.length+M.length) (.tail 0))/\Grow a (a1.new (.cells (ca++news) e n true bk))/\cw C h a [.kill d, .mod d] (C.put d I) ⟨h.next,(d,some (.arr X (L++M) enc e))::fA (.kill d) h.os⟩ (a1.new (.cells (ca++news) e n true bk)):=by
     intro ca a1 bk hn1 hold1 hkeep hbk hcl hcc;let I:BI:=⟨a.next,L.length+M.length,n,some (.tail 0)⟩
     obtain⟨r1,r2,r3⟩:=Jd hcl (fun i x hx=>by rw[<-hsz];grind) hcc hM;obtain⟨hT,H'⟩:=H.renew hd hI0 I (o:= .arr X (L++M) enc e) (a':=a1.new (.cells (ca++news) e n true bk)) (fun i b hi hb=>by
        rw[AH.aI,Ah (by have:=H.wf _ _ hb;omega)];grind)
       (fun i b hi=>by
        rw[AH.aI]at hi;simp only[AH.bT];split at hi
        . omega
        . have:=H.wf _ _ (hold1 i b hi);omega)
       (fun _=> .inl (An _)) (by grind [AH.bT])
       (fun hT=>by
        refine⟨hn,hpos,by simp[I],r2,?_⟩;refine⟨ca++news,true,bk,by rw[AH.aI,Ai (by rw[hn1])],hbk,r1, .inl ⟨rfl,rfl⟩,fun i x j v hx hv=>?_⟩;obtain⟨w,w1,w2⟩:=r3 i x j v hx hv;exact⟨w,w1,w2.mono hT.1⟩)
     refine⟨I,hT,H', .own (I:=I) (fx _ _ _) rfl,⟨by grind [AH.bT],fun i o hi=>?_⟩,?_⟩
     . rw[AH.aI]at hi;grind
     . intro p o J hp hJ hc hnd;have hpd:p≠d:=fun e=>hnd (by grind [gF])
       obtain⟨b,hb⟩:=(H.at_ hp hJ).live hc;have hlt:=H.wf _ _ hb;refine⟨?_, .inl (hpk I _ p o J hp hJ hpd)⟩;rw[AH.aI,Ah (by omega),hkeep J.β b (fun hc0 e=>hpd (H.inj p d o _ J I0 hp hd hJ hI0 hc hc0 e)) hb,hb]
   cases hv with
   |pure hv=>cases hv
   | dh hI hc=>
     rw[hI0]at hI;cases hI;rw[hc]at g5;have hL0:=Ay g5;subst hL0;obtain⟨I,q1,q2,q3,q4,q5⟩:=newrow [] a .rw rfl (fun i o h=>h) (fun i b _ h=>h) (by simp) (by simp) (fun i x j v hx=>by grind);grind [Am.bn,oB,rb,rc,fo]
   | own hI hc=>
     rw[hI0]at hI;cases hI;rw[hc]at g5;obtain⟨ca,ext,bk,k1,k2,k3,k4,k5⟩:=g5;rw[hsz]at k1 k3 k5;rcases k4 with⟨rfl,rfl⟩|⟨rfl,h0⟩
     . obtain⟨I,q1,q2,q3,q4,q5⟩:=newrow ca (a.kill I0.β) bk.grown rfl (fun i o hi=>by
          rw[jA]at hi;grind) (fun i b hi hb=>by rw[jA,Ah (hi (by grind))];exact hb) (by cases bk<;>simp[BK.grown]) k3 k5
       refine⟨I,_,_,?_,q1,q2,q3,q4,q5⟩;have hlow:capLow a I0.β (.tail 0)= .ok L.length:=by
        simp only[capLow];rw[rb (eS k1)];rw[rb (rc (by simp only[Ba,AG];exact eu hn0))];rw[k3];congr 1
        exact Nat.mul_div_cancel _ hpos
       simp only[Am.bn];rw[rb hlow,rb (eS k1)];rw[rb (rc (by simp)),g3,rb (rc hroom),show Nat.ble (L.length+M.length) L.length=false from Ap.2 fun e=>by have:=Ag e;omega];rw[rb (rc (by simp only[Bk,AI];omega)),rb hz,rb (rc (by
        simp only[BA,Ba,Ad];exact⟨by simpa using k2,hM.one⟩)),show ca.take (L.length*n)=ca from Ax (by omega)]
       rw[rb (fo hn _ _ _)];rfl
     . have hL0:=Ay h0;subst hL0;obtain⟨I,q1,q2,q3,q4,q5⟩:=newrow [] a .rw rfl (fun i o h=>h) (fun i b _ h=>h) (by simp) (by simp) (fun i x j v hx=>by simp at hx);simp only[DH,A3,Bk]at q2 q3 q4;refine⟨I,_,_,?_,q1,q2,q3,q4,q5⟩;have hlen0:I0.len=0:=by rw[g3];rfl
       simp only[Am.bn];rw[rb (show capLow a I0.β (.lit 0)= .ok 0 from rfl),rb (eS k1)];rw[rb (rc (by simp)),hlen0,rb (rc (by have:=hroom;unfold oB at this;simpa using this)),show Nat.ble (0+M.length) 0=false from Ap.2 fun e=>by have:=Ag e;omega];simp only[A6];rw[rb (rc (by simp)),rb hz];simp only[Nat.zero_mul,List.take_zero,DH,Bk];rw[rb (fo hn _ _ _)]
theorem FU (H:HS tab C h a) {X:Type} {M:List X} {enc:X->List SV} {e n by_:Nat} {news:List AV} (hn:tab.siz.get e=some n) (hn0:n≠0)
   (hz:iU tab e n= .ok ()) (hroom:oB by_ M.length) (hM:Told C.Fz X M enc n news):
   ∃I v a',Am.bn tab a e n by_ .nils M.length news= .ok (v,a')/\C.le (C.put h.next I)/\HS tab (C.put h.next I) (h.new (.arr X M enc e)) a'/\az (C.put h.next I) (.own h.next) v/\Grow a a'/\cw C h a [] (C.put h.next I) (h.new (.arr X M enc e)) a':=by
 by_cases hm:M.length=0
 . let I:BI:=⟨0,0,n,none⟩
   obtain⟨h1,h2⟩:=H.tG (o:= .arr X M enc e) I rfl (fun hle=>⟨hn,by grind,by grind,hM.each,hm⟩);exact⟨I, .nils,a,by simp[Am.bn,hm],h1,h2, .dh (I:=I) (fx _ _ _) rfl,Grow.refl a,fun p o J hp hJ hc _=>⟨rfl, .inl (by obtain⟨o2,g2⟩:=pC H (.arr X M enc e) p o hp;exact⟨o2,g2,h1.1 _ _ hJ⟩)⟩⟩
 . let I:BI:=⟨a.next,M.length,n,some (.tail 0)⟩
   obtain⟨h1,h2⟩:=H.new (ao:= .cells news e n true .rw) (o:= .arr X M enc e) I rfl (fun hle=>⟨hn,by grind,rfl,hM.each,news,true, .rw,by rw[AH.aI,Ai rfl],by simp,hM.len, .inl ⟨rfl,rfl⟩,fun i x j v hx hv=>by
    obtain⟨u,g1,g2⟩:=hM.cell i x j v hx hv;exact⟨u,g1,g2.mono hle.2⟩⟩)
   refine⟨I, .sl a.next 0 M.length (.tail 0),a.new (.cells news e n true .rw),?_,h1,h2, .own (I:=I) (fx _ _ _) rfl,Grow.new a _,cw.new H _ _ h1 (pC H _)⟩;simp only[Am.bn,eu hm,A6];rw[rb (rc hroom),rb hz,rb (fo hn _ _ _)]
end
end
section
universe u v
variable [Inhabited aL]
section
variable {tab:bc} {view:TypeId->Option View} {C:Cx} {s:St} {ta:T AV} {a:AH} {h:SH}
theorem uX (s:St) (b p:Nat) (X:Type) (L:List X) (enc:X->List SV):((s.ev (.dM b X L enc)).del b).h.get p=if p=b then none else(s.h.get p).map (SO.on (.dM b X L enc)):=by
 simp_all[St.ev,St.del,SH.aO,oh]
theorem F2:∀(l:List SV) (s:St) (p:Nat),s.h.get p=none->(fh l s).h.get p=none:=by
 intro l;induction l with
 |nil=>intro s p h;exact h
 | cons x l ih=>
  intro s p h
  cases x with
  |own b=>
   grind [fh,uX]
  |_=>exact ih s p h
theorem ym:∀(l:List SV) (s:St) (C:Cx),FS C s.ts ta->HS tab C s.h a->∃C' new,(fh l s).log=s.log++new/\Tr C new C'/\HS tab C' (fh l s).h a/\FS C' (fh l s).ts ta/\
  cK C s.h a C' (fh l s).h/\fG new .nils= .nils/\ ∀d o,(fh l s).h.get d=some o->fG new (.own d)= .own d/\ ∀off n c,fG new (.sl d off n c)= .sl d off n c:=by
 intro l;induction l with
 |nil=>intro s C hF H;exact⟨C,[],by simp[fh],Tr.refl C,H,hF,cK.refl _ _ _,rfl,fun d o _=>⟨rfl,fun _ _ _=>rfl⟩⟩
 | cons x l ih=>
  intro s C hF H;have skip:fh (x::l) s=fh l s->∃C' new,(fh (x::l) s).log=s.log++new/\Tr C new C'/\HS tab C' (fh (x::l) s).h a/\FS C' (fh (x::l) s).ts ta/\
     cK C s.h a C' (fh (x::l) s).h/\fG new .nils= .nils/\ ∀d o,(fh (x::l) s).h.get d=some o->fG new (.own d)= .own d/\ ∀off n c,fG new (.sl d off n c)= .sl d off n c:=by
   intro e;rw[e];exact ih s C hF H
  cases x with
  |own b=>
   simp only[fh]at skip⊢;split
   . rename_i X L enc t hb;obtain⟨C1,e1,e2,e3,e4,_,e6⟩:=iv hF H hb;obtain⟨C2,new,f1,f2,f3,f4,f7,f5,f6⟩:=ih _ C1 e4 e3;refine⟨C2,_,by rw[f1,e1,Bw],e2.trans f2,f3,f4,e6.trans f7 f2.fz,?_,fun d o hd=>?_⟩
     . rw[qJ];exact f5
     . have hne:d≠b:=by
         intro e;subst e;rw[F2 l _ d (by rw[uX,Ai rfl])]at hd;cases hd
       obtain⟨g1,g2⟩:=f6 d o hd;constructor
       . rw[qJ];simp only[fG,SV.on,eu hne,A6];exact g1
       . intro off n c;rw[qJ];simp only[fG,SV.on,eu hne,A6];exact g2 off n c
   grind
  |_=>exact skip rfl
theorem Hz (s:St) (d:Nat) (o:SO):(((s.ev (.kill d)).gp d o).note (.mod d)).log=s.log++[.kill d, .mod d]/\(((s.ev (.kill d)).gp d o).note (.mod d)).h=⟨s.h.next,(d,some o)::fA (.kill d) s.h.os⟩/\
  (((s.ev (.kill d)).gp d o).note (.mod d)).ts=me (.kill d) s.ts:=by
 obtain⟨ts,⟨n,os⟩,log⟩:=s;exact⟨by simp[St.ev,St.gp,St.note],rfl,rfl⟩
theorem St.iQ (s:St) (o:SO):(s.new o).h=s.h.new o/\(s.new o).ts=s.ts/\(s.new o).log=s.log:=by
 obtain⟨ts,h,log⟩:=s;exact⟨rfl,rfl,rfl⟩
theorem cz.ks {C C':Cx} {d:Nat} (h:cz C (.kill d) C'):Tr C [.kill d, .mod d] C':=
 h.tr.trans (l:=[.kill d]) (cz.tr (e:= .mod d) ⟨fun _ _ h=>h,fun _ _ h=>h⟩)
theorem yW (hF:FS C s.ts ta) (H:HS tab C s.h a) {d:Nat} {X:Type} {L M:List X} {enc:X->List SV} {e n by_:Nat} {u:AV} {news:List AV} {K:SV->St->Prop} (hd:s.h.get d=some (.arr X L enc e)) (hv:az C (.own d) u) (hn:tab.siz.get e=some n) (hn0:n≠0)
  (hz:iU tab e n= .ok ()) (hroom:oB by_ (L.length+M.length)) (hM:Told C.Fz X M enc n news) (hk:K (.own d) (((s.ev (.kill d)).gp d (.arr X (L++M) enc e)).note (.mod d))):
  aA tab C s ta a K (Am.bn tab a e n by_ u M.length news):=by
 obtain⟨I,v,a',h1,h2,h3,h4,h5,h6⟩:=FV H hd hv hn hn0 hz hroom hM;obtain⟨e1,e2,e3⟩:=Hz s d (.arr X (L++M) enc e);exact⟨_,_,v,a',hk,h1,⟨C.put d I,_,e1,h2.ks,h4,by rw[e2];exact h3,by rw[e3];exact hF.turns h2,by rw[e2];exact h6⟩,h5⟩
theorem xr (hF:FS C s.ts ta) (H:HS tab C s.h a) {X:Type} {M:List X} {enc:X->List SV} {e n by_:Nat} {news:List AV} {K:SV->St->Prop} (hn:tab.siz.get e=some n) (hn0:n≠0)
  (hz:iU tab e n= .ok ()) (hroom:oB by_ M.length) (hM:Told C.Fz X M enc n news) (hk:K (.own s.h.next) (s.new (.arr X M enc e))):aA tab C s ta a K (Am.bn tab a e n by_ .nils M.length news):=by
 obtain⟨I,v,a',h1,h2,h3,h4,h5,h6⟩:=FU H hn hn0 hz hroom hM;obtain⟨e1,e2,e3⟩:=s.iQ (.arr X M enc e);exact⟨_,_,v,a',hk,h1,⟨_,[],by rw[e3];simp,h2.tr,h4,by rw[e1];exact h3,by rw[e2];exact hF.le h2,by rw[e1];exact h6⟩,h5⟩
theorem wR (l m:List Ev):gF (l++m)=gF l++gF m:=by
 induction l with
 |nil=>rfl
 |cons e l ih=>cases e<;>simp[gF,ih]
theorem aA.later {C1:Cx} {s1:St} {new:List Ev} {K:SV->St->Prop} {r:R (AV×AH)} (hl:s1.log=s.log++new) (ht:Tr C new C1) (hk:cK C s.h a C1 s1.h) (h:aA tab C1 s1 ta a K r):aA tab C s ta a K r:=by
 obtain⟨sv,s',v,a',h1,h2,⟨C',new',g1,g2,g3,g4,g5,g6⟩,h4⟩:=h;refine⟨sv,s',v,a',h1,h2,⟨C',new++new',by rw[g1,hl,Bw],ht.trans g2,g3,g4,g5,?_⟩,h4⟩;intro p o I hp hI hc hn;rw[wR]at hn;rcases hk p o I hp hI hc with⟨o',q1,q2⟩|⟨b,q1,q2⟩
 . exact g6 p o' I q1 q2 hc (fun e=>hn (BT _ e))
 . exact⟨by rw[q1];exact g4.fz _ _ (g2.fz _ _ q2), .inr ⟨b,g2.fz _ _ q2⟩⟩
theorem xh (hF:FS C s.ts ta) (H:HS tab C s.h a) {e n by_:Nat} (hn:tab.siz.get e=some n) (hn0:n≠0) (hz:iU tab e n= .ok ()) {x:SV} {u w:AV} (hx:x= .nils->az C x u) (hx':∀d o,x= .own d->s.h.get d=some o->az C x u) {Y:Type} {M:List Y} {enc':Y->List SV} (hy:aG C.Fz (.ax Y M enc') w)
   {K:SV->St->Prop} (h:ko s e n by_ x Y M enc' K):∃m news,source a n w= .ok (m,news)/\aA tab C s ta a K (Am.bn tab a e n by_ u m news):=by
 unfold ko at h;split at h
 . obtain⟨he,h1⟩:=h;obtain⟨hr,hk⟩:=bZ h1;obtain⟨news,g1,g2⟩:=xR H.fz hy hn0 he;rw[kJ (hx rfl)];exact⟨_,_,g1,xr hF H hn hn0 hz hr g2 hk⟩
 . rename_i d;split at h
   . rename_i X L enc e' hd;obtain⟨hee,h1⟩:=bZ h;have hee:=Ab hee;subst hee;obtain⟨he,M',hM',h2⟩:=h1;obtain⟨hr,hk⟩:=bZ h2;obtain⟨news,g1,g2⟩:=xR H.fz hy hn0 he
     cases hM';exact⟨_,_,g1,yW hF H hd (hx' d _ rfl hd) hn hn0 hz hr g2 hk⟩
   grind
 grind
theorem GN (hF:FS C s.ts ta) (H:HS tab C s.h a) {e n by_ m:Nat} (hn:tab.siz.get e=some n) (hn0:n≠0) (hz:iU tab e n= .ok ()) {x:SV} {u:AV} (hx:x= .nils->az C x u) (hx':∀d o,x= .own d->s.h.get d=some o->az C x u) {cs:List SV} {ca:List AV} (hc:aJ C cs ca)
   (hl:cs.length=m*n) (hp:cs.all iW=true) {K:SV->St->Prop} (h:lX view s e n by_ m x cs K):aA tab C s ta a K (Am.bn tab a e n by_ u m ca):=by
 unfold lX at h;split at h
 . split at h
   . obtain⟨l,h1,h2,h3⟩:=CK h;obtain⟨hr,hk⟩:=bZ h3;rw[uw]at h1;have:=xr hF H hn hn0 hz hr (tP hn0 hc hl hp h1 h2) hk;rw[h1]at this;rw[kJ (hx rfl)];omega
   grind
 . rename_i d;split at h
   . rename_i X L enc e' hd;obtain⟨hee,h1⟩:=bZ h;have hee:=Ab hee;subst hee;obtain⟨l,h1,h2,h3⟩:=CK h1;obtain⟨hr,hk⟩:=bZ h3;rw[uw]at h1;have:=yW hF H hd (hx' d _ rfl hd) hn hn0 hz hr (tP hn0 hc hl hp h1 h2) hk;rw[h1]at this;omega
   grind
 grind
theorem GO (hF:FS C s.ts ta) (H:HS tab C s.h a) {e:TypeId} {x y:SV} {u w:AV} (hx:az C x u) (hy:az C y w) {K:SV->St->Prop} (h:u4 tab view s e x y K):
   ∃n by_,tab.siz.get e=some n/\tab.byt.get e=some by_/\n≠0/\ ∃m news,source a n w= .ok (m,news)/\aA tab C s ta a K (Am.bn tab a e n by_ u m news):=by
 unfold u4 at h;split at h
 . rename_i n by_ hn hby;refine⟨n,by_,hn,hby,?_⟩;obtain⟨hck,hh⟩:=bZ h;simp only[Ad,AG]at hck;obtain⟨hn0,hzz⟩:=hck;have hn0:n≠0:=fun e=>by simp_all
   refine⟨hn0,?_⟩;have hz:iU tab e n= .ok ():=by
     split at hzz
     . rename_i z hz;obtain⟨zv,zc,g1,g2,g3⟩:=mn (C:=C) hz;unfold iU;rw[rb g1,rb g2];exact rc (by rw[<-g3.1];omega)
     grind
   split at hh
   ·
     rename_i b off m cap;split at hh
     . rename_i cs0 t0 hb0;obtain⟨C1,new,f1,f2,f3,f4,f7,f5,f6⟩:=ym ((cs0.drop off).take (m*n)) s C hF H;have hx1:=f2.val _ _ hx;have hy1:=f2.val _ _ hy;split at hh
       . rename_i cs t1 hb1;obtain⟨hck,hh⟩:=bZ hh;simp only[Ad]at hck;have hle:=Ag hck.1;rw[(f6 b _ hb1).2]at hy1
         cases hy1 with
         |pure hy1=>cases hy1
         | sl hI=>
          rename_i I;obtain⟨hcap,ca,sz,k1,k2,_⟩:=f3.at_ hb1 hI;have hsub:=(k2.drop off).take (m*n);have hsrc:source a n (.sl I.β off m (.lit cap))= .ok (m,(ca.drop off).take (m*n)):=by
           have hr:readN a I.β off (m*n)= .ok ((ca.drop off).take (m*n)):=by
            unfold readN;rw[rb (eS k1)];simp only;rw[rb (rc (by simp only[AI];rw[<-k2.1];omega))]
           grind [source,rb]
          refine⟨m,_,hsrc,aA.later f1 f2 f7 (GN f4 f3 hn hn0 hz (fun e=>?_) (fun d o e hd=>?_) hsub (by simp;omega) hck.2 hh)⟩
          all_goals grind
       grind
     grind
   . exact xh hF H hn hn0 hz (fun _=>hx) (fun _ _ _ _=>hx) (hZ hy rfl) hh
   ·
     split at hh
     . rename_i Y M enc' t' hb;obtain⟨C1,e1,e2,e3,e4,e5,e6⟩:=iv hF H hb;have hx1:=e2.val _ _ hx;obtain⟨m,news,g1,g2⟩:=xh (u:=u) e4 e3 hn hn0 hz (fun e=>by subst e;exact hx1) (fun d o e hd=>by
         grind [uX,fG,SV.on,eu]) (e5 w hy) hh
       exact⟨m,news,g1,g2.later e1 e2 e6⟩
     grind
   . split at hh
     . rw[kJ hy,kJ hx];exact⟨0,[],rfl,by simpa [Am.bn]using aA.same hF H (.pure .nils) hh⟩
     grind
   grind
 grind
end
end
section
universe u v
variable [Inhabited aL]
section
variable {tab:bc} {view:TypeId->Option View} {C:Cx} {s:St} {ta:T AV} {a:AH} {h:SH}
theorem Ca {k:IntKind}:∀{l:List SV} {m:List AV} {x:Int} {sv:SV},aJ C l m->kv k x l=some sv->∃v,ow k x m= .ok v/\az C sv v:=by
 intro l;induction l with
 |nil=>intro m x sv hs h;cases m with
  |nil=>cases h;exact⟨_,rfl, .pure (.int _ _)⟩
  |cons=>have:=hs.1;grind
 | cons y l ih=>intro m x sv hs h;cases m with
  |nil=>have:=hs.1;grind
  |cons w m=>
   cases y<;>simp only[kv]at h<;>first|(cases h;done)|skip
   obtain⟨h1,h2⟩:=hs.head;rw[fR h1];grind [ow]
theorem Cm {k:IntKind}:∀{l:List SV} {m:List AV} {x:Int} {sv:SV},aJ C l m->ku k x l=some sv->∃v,ov k x m= .ok v/\az C sv v:=by
 intro l;induction l with
 |nil=>intro m x sv hs h;cases m with
  |nil=>cases h;exact⟨_,rfl, .pure (.int _ _)⟩
  |cons=>have:=hs.1;grind
 | cons y l ih=>intro m x sv hs h;cases m with
  |nil=>have:=hs.1;grind
  |cons w m=>
   cases y<;>simp only[ku]at h<;>first|(cases h;done)|skip
   obtain⟨h1,h2⟩:=hs.head;rw[fR h1];grind [ov]
theorem Cl (H:HS tab C s.h a) {e:TypeId} {x:SV} {v:AV} (hx:az C x v) {n:Nat} (hn:mc s x=some n):lenOf a (.slice e) v= .ok n:=by
 unfold mc at hn;split at hn
 . cases hn;rw[kJ hx];rfl
 . cases hn
   cases hx with
   | pure hx=>cases hx with
     |bR h0 hv=>
      rw[h0];rcases hv with rfl|⟨b,off,l,n,k,rfl⟩|⟨a,c,rfl⟩<;>rfl
     |ax b off cap cs e sz ext bk u hb hs hl hn hc h1 h2=>rfl
 . cases hn
   cases hx with
   |pure hx=>cases hx
   |sl hI=>rfl
 . split at hn
   . rename_i X L enc t hb
     cases hn
     cases hx with
     |pure hx=>cases hx
     |dh hI hc=>
      obtain⟨_,_,g3,_,g5⟩:=H.at_ hb hI;rw[hc]at g5;rw[g5];rfl
     |own hI hc=>
      obtain⟨_,_,g3,_,g5⟩:=H.at_ hb hI;grind [lenOf]
   grind
 grind
theorem F6 (hF:FS C s.ts ta) (H:HS tab C s.h a) {b:Builtin} {ats:Array TypeId} {l:List SV} {vs:List AV} (hl:aJ C l vs) {K:SV->St->Prop} (h:nO tab view s b ats l K):aA tab C s ta a K (Am.builtin tab b ats vs a):=by
 unfold nO at h;split at h
 ·
  rename_i x;have hv:∃v,vs=[v]/\az C x v:=by
   cases vs with
   |nil=>have:=hl.1;grind
   | cons v vs=>cases vs with
     |nil=>exact⟨v,rfl,hl.head.1⟩
     |cons=>have:=hl.1;grind
  obtain⟨v,rfl,hx⟩:=hv;unfold Am.builtin;simp only
  cases ht:ats[0]? with
  |none=>rw[ht]at h;grind
  |some t=>
   rw[ht]at h;rw[rb (ro rfl)];split at h
   . rename_i hg;split at h
     . rw[fi hx,rb (show und tab t=_ from ro hg)];exact aA.same hF H (.pure (.int _ _)) h
     grind
   . rename_i e hg;obtain⟨n,h1,h2⟩:=cA h;rw[rb (show und tab t=_ from ro hg)];simp only;rw[rb (Cl H hx h1)];exact aA.same hF H (.pure (.int _ _)) h2
   grind
 ·
  rename_i x y;have hv:∃u w,vs=[u,w]/\az C x u/\az C y w:=by
   cases vs with
   |nil=>have:=hl.1;grind
   | cons v vs=>cases vs with
     |nil=>have:=hl.1;grind
     | cons w vs=>cases vs with
       |nil=>exact⟨v,w,rfl,hl.head.1,hl.head.2.head.1⟩
       |cons=>have:=hl.1;grind
  obtain⟨u,w,rfl,hx,hy⟩:=hv
  cases ht:ats[0]? with
  |none=>rw[ht]at h;grind
  |some t=>
   cases ht1:ats[1]? with
   |none=>rw[ht,ht1]at h;grind
   | some t1=>
     rw[ht,ht1]at h;split at h
     . rename_i e e' hg hg';obtain⟨n,by_,hn,hby,hn0,m,news,h1,h2⟩:=GO hF H hx hy h;unfold Am.builtin;simp only;rw[ht,ht1,rb (show R.of "append" (some t)= .ok t from rfl),rb (show R.of "append" (some t1)= .ok t1 from rfl),rb (show und tab t1=_ from ro hg')];simp_all[rb,und,siz,R.of,rc,eu]
     grind
 ·
  cases vs with
  |nil=>have:=hl.1;grind
  |cons v vs=>
   obtain⟨h1,h2⟩:=hl.head;rw[fR h1];obtain⟨sv,h3,h4⟩:=cA h;grind [Ca,Am.builtin,rb,aA.same]
 ·
  cases vs with
  |nil=>have:=hl.1;grind
  |cons v vs=>
   obtain⟨h1,h2⟩:=hl.head;rw[fR h1];obtain⟨sv,h3,h4⟩:=cA h;grind [Cm,Am.builtin,rb,aA.same]
 grind
theorem uS (hF:FS C s.ts ta) (H:HS tab C s.h a) {cs:List SV} {ca:List AV} (hc:aJ C cs ca) (e n:Nat) (hn:tab.siz.get e=some n) {K:SV->St->Prop} {sv:SV} {v:AV} (hv:∀C':Cx,∀I,C'.ρ s.h.next=some I->I.β=a.next->az C' sv v) (hk:K sv (s.new (.cells cs e))):
  aA tab C s ta a K (.ok (v,a.new (.cells ca e n false .rw))):=by
 let I:BI:=⟨a.next,0,n,some (.lit 0)⟩
 obtain⟨h1,h2⟩:=H.new (ao:= .cells ca e n false .rw) (o:= .cells cs e) I rfl (fun hle=>⟨rfl,ca,n,by rw[AH.aI,Ai rfl],hc.le hle,hn⟩);obtain⟨e1,e2,e3⟩:=s.iQ (.cells cs e);exact⟨sv,_,v,_,hk,rfl,⟨C.put s.h.next I,[],by rw[e3];simp,h1.tr,hv _ I (fx _ _ _) rfl,by rw[e1];exact h2,by rw[e2];exact hF.le h1,by rw[e1];exact cw.new H _ _ h1 (pC H _)⟩,Grow.new a _⟩
theorem Ch {l:List SV} {m:List AV} (h:aJ C l m):∀n,aJ C (mG n l) (rep n m):=by
 intro n;induction n with
 |zero=>exact aJ.nil
 |succ n ih=>exact h.append ih
theorem Fq (hF:FS C s.ts ta) (H:HS tab C s.h a) {t:TypeId} {len:Nat} {ps:List (Nat×SV)} {vs:List (Nat×AV)} (hv:vs.map (·.1)=ps.map (·.1)) (hs:aJ C (ps.map (·.2)) (vs.map (·.2))) {K:SV->St->Prop} (h:qL tab view s t len ps K):
   aA tab C s ta a K (Am.buildSlice tab a t len vs):=by
 unfold qL at h;split at h
 . rename_i e hg;split at h
   . rename_i n z hn hz;obtain⟨hck,h1⟩:=bZ h;simp only[Ad]at hck;obtain⟨zv,zc,g1,g2,g3⟩:=mn (C:=C) hz;have hzl:(Nat.beq zc.length n)=true:=by rw[<-g3.1];grind
     unfold Am.buildSlice;rw[rb (show und tab t=_ from ro hg)];simp only;rw[rb (show siz tab e=_ from ro hn),rb (rc hck.1),rb g1,rb g2,rb (rc hzl)];by_cases hl0:len=0
     . subst hl0;obtain⟨hck2,h2⟩:=bZ h1;simp only[Ad,List.isEmpty_iff,AG]at hck2;obtain⟨rfl,hn0⟩:=hck2;have hn0:n≠0:=fun e=>by simp_all
       cases vs with
       |cons=>grind
       |nil=>
        split at h2
        . rename_i V hV;simp only[List.map_nil,rep,fill];rw[rb (show(R.ok ([]:List AV))= .ok []from rfl),rb (fo hn _ _ _)];let I:BI:=⟨a.next,0,n,some (.lit 0)⟩
          obtain⟨q1,q2⟩:=H.new (ao:= .cells [] e n false .rw) (o:= .arr V.X [] V.enc e) I rfl (fun hle=>⟨hn,by grind,rfl,fun i x hx=>by grind,[],false, .rw,by rw[AH.aI,Ai rfl],by simp,by simp, .inr ⟨rfl,rfl⟩,fun i x j v hx=>by grind⟩);obtain⟨e1,e2,e3⟩:=s.iQ (.arr V.X [] V.enc e);exact⟨_,_,_,_,h2,rfl,⟨C.put s.h.next I,[],by rw[e3];simp,q1.tr, .own (I:=I) (fx _ _ _) rfl,by rw[e1];exact q2,by rw[e2];exact hF.le q1,by rw[e1];exact cw.new H _ _ q1 (pC H _)⟩,Grow.new a _⟩
        grind
     . rw[eu hl0]at h1;obtain⟨cs,h2,hk⟩:=cA h1;obtain⟨ca,h3,h4⟩:=ri (qs:=vs.map fun x=>(x.1*n,n,x.2)) (Ch g3 len) (by
        have:=Az (List.map (fun i=>(i*n,n))) hv;grind [Function.comp_def]) (by grind [Function.comp_def]) h2
       rw[rb h3,rb (fo hn _ _ _)];exact uS hF H h4 e n hn (fun C' I hI hb=>by rw[<-hb];exact .sl hI) hk
   grind
 grind
theorem de {ts:T AV} {x:Operand} {v:AV} (h:ev ts x= .ok v) {β:Type} (f:AV->R β):(ev ts x>>=f)=f v:=rb h f
theorem MW (b:Nat) (C:Cx):Tr C [.mod b] C:=cz.tr (e:= .mod b) ⟨fun _ _ h=>h,fun _ _ h=>h⟩
theorem qU {t:TypeId} {f:Nat} {fd:Field} (h:rZ tab t f=some fd):pU tab t f= .ok fd:=by
 unfold rZ at h;unfold pU;split at h
 all_goals simp_all[rb,und,ro]
theorem L3 (hF:FS C s.ts ta) (H:HS tab C s.h a) {o:Oper} {K:SV->St->Prop} (h:iG tab view s o K):aA tab C s ta a K (dB tab ta a o):=by
 obtain⟨dst,op,type,pos,after,guard⟩:=o;unfold iG at h;unfold dB;have same1:∀{x:Operand} {K':SV->Prop},so (dP s.ts x) K'->∃sv v,ev ta x= .ok v/\az C sv v/\K' sv:=by
  intro x K' h;obtain⟨sv,h1,h2⟩:=cA h;grind [iD]
 cases op<;>simp only at h⊢
 case move x=>
  grind [de,aA.same]
 case assign x=>
  grind [de,aA.same]
 case pick c x y=>
  grind [iD,lB,de,aA.same,sr]
 case alloc e=>
  obtain⟨n,hn,h⟩:=cA h;obtain⟨cs,h1,h2⟩:=cA h;obtain⟨zv,zc,g1,g2,g3⟩:=mn (C:=C) h1;rw[rb g1,rb g2,rb (fo hn _ _ _)];exact uS hF H g3 e n hn (fun C' I hI hb=>by rw[<-hb];exact .ptr hI) h2
 case box e x=>
  obtain⟨n,hn,h⟩:=cA h;obtain⟨sv,v,h3,h4,h2⟩:=same1 h;obtain⟨hk,h2⟩:=bZ h2;obtain⟨l,g1,g2⟩:=qQ h4 hk;rw[de h3,rb g1,rb (fo hn _ _ _)];exact uS hF H g2 e n hn (fun C' I hI hb=>by rw[<-hb];exact .ptr hI) h2
 case build t ps=>
  obtain⟨l,h1,h2⟩:=cA h;obtain⟨sv,h3,h4⟩:=cA h2;grind [qO,yv,rb,aA.same]
 case buildSlice t n ps=>
  obtain⟨l,h1,h2⟩:=cA h;grind [qO,rb,Fq]
 case load t x=>
  grind [uE,rb,aA.same]
 case store t x y=>
  obtain⟨sv,v,h3,h4,h2⟩:=same1 h;obtain⟨sw,w,g3,g4,g2⟩:=same1 h2;obtain⟨b,off,a',h',rfl,k1,k2,k3,k4,k5⟩:=Is H h4 g4 g2;rw[de h3];simp only;rw[de g3,rb k1];obtain⟨ts,hh,log⟩:=s;refine⟨_,_,_,_,k3,rfl,⟨C,sR sv,rfl,?_, .pure (.bg rfl (fun i c v hc=>by grind)),k2,hF,k5⟩,k4⟩
  cases sv<;>first|exact MW _ C|exact Tr.refl C
 case nilCheck x=>
  obtain⟨sv,v,h3,h4,h2⟩:=same1 h;rw[de h3];split at h2
  . cases h4 with
    |pure h=>cases h
    |ptr hI=>grind [aA.same]
  . cases h4 with
    |pure h=>cases h
    |bN hI hc=>grind [aA.same]
  . cases h4 with
    | pure h=>cases h with
      |ch b base ca e sz ext bk u hb hl h1 h2'=>grind [aA.same]
  . cases h4 with
    | pure h=>cases h with
      |fn h1 h2' h3' h4'=>grind [aA.same]
    |fn h1 h2' h3' h4'=>grind [aA.same]
  grind
 case binOp op t x y _=>
  grind [de,aA.val,zX]
 case unOp op _ x=>
  grind [de,aA.val,Cw]
 case convert x y z=>
  obtain⟨sv,v,h3,h4,h2⟩:=same1 h;rw[de h3];exact Ic hF H h4 h2
 case makeFunc fn first captured=>
  split at h
  . obtain⟨xs,h1,h2⟩:=cA h;obtain⟨ys,h3,h4⟩:=cA h2;obtain⟨us,g1,g2⟩:=mr hF h1;obtain⟨vs,g3,g4⟩:=mr hF h3;simp only;rw[rb g1,rb g3];exact aA.same hF H (.fn g2.1 g4.1 g2.2 g4.2) h4
  . exact h.elim
 case slice t x lo hi mx=>
  grind [de,Ir]
 case fieldAddr st x f=>
  obtain⟨fd,h1,h2⟩:=cA h;obtain⟨hck,h3⟩:=bZ h2;obtain⟨sv,v,h4,h5,h6⟩:=same1 h3;rw[rb (qU h1)];split at hck
  . rename_i n hn;rw[rb (show siz tab fd.type=_ from ro hn),rb (rc hck),de h4];split at h6
    . cases h5 with
      |pure h=>cases h
      |ptr hI=>exact aA.same hF H (.ptr hI) h6
    . cases h5 with
      |pure h=>cases h
      |bN hI hc=>simp only[BC];exact aA.same hF H (.bN hI hc) h6
    . cases h5 with
      | pure h=>cases h with
        |ch b base ca e sz ext bk u hb hl h1 h2'=>simp only[BC];exact aA.same hF H (.pure (.ch b base ca e sz ext bk u hb hl h1 h2')) h6
    grind
  grind
 case field t x f=>
  obtain⟨fd,h1,h2⟩:=cA h;obtain⟨sv,v,h4,h5,h6⟩:=same1 h2;rw[rb (qU h1),de h4];grind [jR,cA,pJ,rb,aA.same]
 case indexAddr t x ix=>
  obtain⟨sj,vj,h1,h2,h3⟩:=same1 h;obtain⟨i,h4,h5⟩:=pV h3 h2;obtain⟨sv,v,h6,h7,h8⟩:=same1 h5;rw[de h1,rb h4];split at h8
  . rename_i len e b off hg;split at h8
    . rename_i n hn;obtain⟨g1,g2⟩:=bZ h8;rw[rb (show und tab t=_ from ro hg),de h6]
      cases h7 with
      |pure h=>cases h
      |ptr hI=>simp only;rw[rb (rc g1),rb (show siz tab e=_ from ro hn)];exact aA.same hF H (.ptr hI) g2
    grind
  . rename_i e b off len cap hg;split at h8
    . rename_i n hn;obtain⟨g1,g2⟩:=bZ h8;rw[rb (show und tab t=_ from ro hg),de h6]
      cases h7 with
      |pure h=>cases h
      |sl hI=>simp only;rw[rb (rc g1),rb (show siz tab e=_ from ro hn)];exact aA.same hF H (.ptr hI) g2
    grind
  . rename_i e X L enc hg;split at h8
    . rename_i n hn;obtain⟨x,g1,g2⟩:=cA h8;obtain⟨g2,g3⟩:=bZ g2;have g2:=Ab g2;have hi:=(Ao.1 g1).1;obtain⟨b,off,cap,cs,e',sz,ext,bk,rfl,hb,hs,hl,hsz,hc,hcell⟩:=sa (hZ h7 rfl) (by grind);obtain⟨sz0,ext0,hb,hx0⟩:=hb;have hszn:sz=n:=by rw[<-hsz i x g1];exact g2
      subst hszn;rw[rb (show und tab t=_ from ro hg),de h6];simp only;rw[rb (rc (by simpa using hi)),rb (show siz tab e=_ from ro hn)];refine aA.same hF H (.pure ?_) g3;refine .ch b (off+i*sz) cs e' sz0 ext0 bk (fun j=>(cs[off+i*sz+j]?).getD (.bg [])) hb ?_ ?_ ?_
      . rw[g2];have:i*sz+sz<=L.length*sz:=by
         calc i*sz+sz=(i+1)*sz:=by rw[A1,BX]
          _<=L.length*sz:=AX _ hi
        omega
      . intro j v hv;obtain⟨u,q1,_⟩:=hcell i x j v g1 hv;rw[q1];rfl
      . intro j v hv;obtain⟨u,q1,q2⟩:=hcell i x j v g1 hv;rw[q1];exact q2
    grind
  . rename_i e b hg;split at h8
    . rename_i n X L enc e' hn hb;obtain⟨g1,g2⟩:=bZ h8;simp only[Ad]at g1;have hee:=Ab g1.1;subst hee;have hi:i<L.length:=by simpa using g1.2
      rw[rb (show und tab t=_ from ro hg),de h6]
      cases h7 with
      |pure h=>cases h
      | dh hI hc=>
        obtain⟨_,_,_,_,k5⟩:=H.at_ hb hI;rw[hc]at k5;omega
      | own hI hc=>
        rename_i I c;obtain⟨k1,k2,k3,_,k5⟩:=H.at_ hb hI;have hsz:I.sz=n:=by rw[hn]at k1;grind
        simp only;rw[rb (rc (by rw[k3];simpa using hi)),rb (show siz tab e=_ from ro hn)];have hh:az C (.bN b i 0) (.ptr I.β (i*I.sz+0)):= .bN hI (by simp[hc]);rw[hsz,BO]at hh;rw[Bk];exact aA.same hF H hh g2
    grind
  . exact h8.elim
 case index t x ix=>
  obtain⟨sj,vj,h1,h2,h3⟩:=same1 h;obtain⟨i,h4,h5⟩:=pV h3 h2;obtain⟨sv,v,h6,h7,h8⟩:=same1 h5;rw[de h1,rb h4];split at h8
  . rename_i len e cs hg;split at h8
    . rename_i n hn;obtain⟨g1,g2⟩:=bZ h8;obtain⟨su,g3,g4⟩:=cA g2;obtain⟨us,rfl,g5⟩:=jR h7;obtain⟨u,g6,g7⟩:=pJ g5 g3;rw[rb (show und tab t=_ from ro hg),de h6];simp only;rw[rb (rc g1),rb (show siz tab e=_ from ro hn),rb g6];exact aA.same hF H g7 g4
    . exact h8.elim
  . rename_i c hg;obtain⟨b,g1,g2⟩:=cA h8;rw[rb (show und tab t=_ from ro hg),de h6,fi h7];simp only;rw[rb (ro g1)];exact aA.same hF H (.pure (.int _ _)) g2
  . exact h8.elim
 case extract t i=>
  obtain⟨sv,v,h6,h7,h8⟩:=same1 h;rw[de h6];split at h8
  . obtain⟨us,rfl,g5⟩:=rY h7;obtain⟨su,g3,g4⟩:=cA h8;obtain⟨u,g6,g7⟩:=g5.get g3;simp only;rw[rb (ro g6)];exact aA.same hF H g7 g4
  . exact h8.elim
 case call c=>
  split at h
  . rename_i b hb;obtain⟨l,h1,h2⟩:=cA h;obtain⟨vs,g1,g2⟩:=mr hF h1;rw[hb];simp only;rw[rb g1];exact F6 hF H g2 h2
  . exact h.elim
 all_goals exact h.elim
end
end
section
universe u v
variable [Inhabited aL]
def pZ (f:Nat->Option AO):Nat->T AO
 |0=> .e
 |n+1=>(pZ f n).set n (f n)
theorem Hp (f:Nat->Option AO):∀n i,(pZ f n).get i=if i<n then f i else none:=by
 intro n;induction n with
 |zero=>grind [pZ,qg]
 |succ n ih=>
  grind [pZ,T.aO]
def ofFn (next:Nat) (f:Nat->Option AO):AH:={t:=pZ f next,next}
theorem mm (next:Nat) (f:Nat->Option AO) (i:Nat):(ofFn next f).get i=if i<next then f i else none:=Hp f next i
section
variable {P:Program} {tab:bc}
theorem dm.frame {fr:ae} {h h0:AH} {Θ:AV->AH->Prop} (hgo:dm P {fr,cs:=[],h:=h0} Θ) (hs:∀i o,h0.get i=some o->h.get i=some o) (hn:h0.next=h.next):
   dm P {fr,cs:=[],h} fun v h2=>∃h1,Θ v h1/\h2.next=h1.next/\h.next<=h1.next/\(∀i o,h1.get i=some o->i<h1.next)/\ ∀i o,h2.get i=some o↔(h1.get i=some o\/(h.get i=some o/\h0.get i=none/\h1.get i=none)):=by
 classical
 intro D E K base frC csC w hR hB;have hdom:∀i o,h.get i=some o->i<h.next:=(hR.all E (ai.refl _ _)).1.dv;have hd0:∀i o,h0.get i=some o->i<h0.next:=fun i o hi=>by rw[hn];grind
 have hRc:Rel D E (Am.Rest E h h0 K) {fr,cs:=[],h:=h0} base frC csC w:=by
   refine⟨fun E' he=>?_,fun i hi=>by rw[hn];exact hR.dv i hi,hR.wf⟩;obtain⟨g1,g2,g3⟩:=hR.all E' he;refine⟨?_,g2,g3⟩;rw[<-hR.dL he];exact g1.part hs hd0
 obtain⟨v,h1,hΘ,fr1,w',vC,E',D',s1,s2,s3,s4,s5,s6,s7,s8,s9,s10⟩:=hgo D E _ base frC csC w hRc hB.rest;simp only at s9;have hdom1:=(s4 E' (ai.refl _ _)).1.dv;let h2:AH:=ofFn h1.next fun i=>match h1.get i with
   |some o=>some o
   |none=>if(h0.get i).isNone then h.get i else none
 have hg2:∀i o,h2.get i=some o↔(h1.get i=some o\/(h.get i=some o/\h0.get i=none/\h1.get i=none)):=by
   intro i o;simp only[h2,mm];constructor
   . intro hh;split at hh
     . split at hh
       all_goals simp_all
     grind
   grind
 refine⟨v,h2,⟨h1,hΘ,rfl,by omega,hdom1,hg2⟩,fr1,w',vC,E',D',s1,s2,s3,?_,s5,s6,s7,s8.part,by rw[<-hn];exact s9,fun i hi=>by grind⟩;intro E'' he';obtain⟨g1,g2⟩:=s4 E'' he';have hag:=s5.trans he' s6;obtain⟨k1,k2,k3⟩:=hR.all E'' hag;refine⟨k1.join (by rw[hR.dL hag];exact g1) (by rw[hR.dL hag];exact s8) (fun i o hi=>((hg2 i o).1 hi).imp id (fun x=>⟨x.1,x.2.1⟩)) (fun i o hi=>?_),g2⟩;rcases(hg2 i o).1 hi with g|⟨g,_,_⟩
 . exact g1.dv i o g
 . have:=hdom i o g;show i<h1.next
   omega
def ft (tab:bc) (C0:Cx) (h0:SH) (a0:AH) (Q:SV->St->Prop) (v:AV) (a':AH):Prop:=
 ∃sv s' C',Q sv s'/\az C' sv v/\HS tab C' s'.h a'/\Tr C0 s'.log C'/\Grow a0 a'/\cw C0 h0 a0 s'.log C' s'.h a'
def bX (P:Program) (tab:bc) (g:FuncId) (C:aH):Prop:=
 ∀ fn body,tab.fns.get g=some fn->fn.body=some body->∀y,C.pre y->∀(Fz:Nat->Option AO) (a:AH) (avs:List AV),(∀i o,Fz i=some o->a.get i=some o)->(∀i o,a.get i=some o->i<a.next)->
  (C.args y).length=avs.length->(∀(i:Nat) s v,(C.args y)[i]? =some s->avs[i]? =some v->aG Fz s v)->
  dm P {fr:=ae.enter fn g body avs .normal,cs:=[],h:=a} fun v a'=>∃Fz':Nat->Option AO,(∀i o,Fz i=some o->Fz' i=some o)/\(∀i o,Fz' i=some o->a'.get i=some o)/\aG Fz' (C.res y) v/\Grow a a'/\
   (∀i o,a.get i=some o->a'.get i=some o)/\(∀i o,a'.get i=some o->i<a'.next)/\ ∀i o,Fz' i=some o->Fz i=some o\/a.next<=i
theorem bX.of {g:FuncId} {C:aH} (h:∀fn body,tab.fns.get g=some fn->fn.body=some body->∀y,C.pre y->∀(C0:Cx) (a:AH) (avs:List AV),C0.ρ=(fun _=>none)->HS tab C0 ⟨0,[]⟩ a->
     (C.args y).length=avs.length->(∀(i:Nat) s v,(C.args y)[i]? =some s->avs[i]? =some v->aG C0.Fz s v)->dm P {fr:=ae.enter fn g body avs .normal,cs:=[],h:=a} (ft tab C0 ⟨0,[]⟩ a fun v s=>
       (∀(C':Cx) (a':AH) (av:AV),HS tab C' s.h a'->az C' v av->∃Fz':Nat->Option AO,(∀i o,C'.Fz i=some o->Fz' i=some o)/\(∀i o,Fz' i=some o->a'.get i=some o)/\aG Fz' (C.res y) av))):bX P tab g C:=by
 intro fn body hfn hb y hy Fz a avs hfz hwf hlen hav;let h0:AH:=ofFn a.next Fz
 have hg0:∀i,h0.get i=Fz i:=by
   intro i;simp only[h0,mm];split
   . rfl
   . cases hz:Fz i with
     |none=>rfl
     |some o=>grind
 let C0:Cx:=⟨fun _=>none,Fz⟩
 have H0:HS tab C0 ⟨0,[]⟩ h0:=by
   refine⟨fun p o hp=>by grind [SH.get,look],fun p q o o' I J hp=>by grind,fun i o hi=>by rw[hg0];exact hi,fun p o I hp=>by grind,fun p I hp=>by grind,fun i o hi=>?_⟩;rw[hg0]at hi;exact hwf i o (hfz i o hi)
 have:=h fn body hfn hb y hy C0 h0 avs rfl H0 hlen hav;refine(this.frame (h:=a) (fun i o hi=>by rw[hg0]at hi;grind) rfl).mono ?_;rintro v a2 ⟨a1,⟨sv,s',C',hQ,hsv,hH,hT,hG,_⟩,hn,hle,hw1,hg2⟩;obtain⟨Fz',f1,f2,f3⟩:=hQ C' a1 v hH hsv;refine⟨Fz',fun i o hi=>f1 i o (hT.fz i o hi),fun i o hi=>(hg2 i o).2 (.inl (f2 i o hi)),f3,⟨by rw[hn];omega,fun i o hi=>?_⟩,fun i o hi=>?_,fun i o hi=>?_,fun i o hi=>?_⟩
 . rcases(hg2 i o).1 hi with g|⟨g,_,_⟩
   . rcases hG.old i o g with⟨o0,g1⟩|g1
     . rw[hg0]at g1;grind
     . exact .inr g1
   grind
 . cases hz:Fz i with
   | some o'=>
     have:=hfz i o' hz;rw[hi]at this;cases this;exact(hg2 i o).2 (.inl (f2 i o (f1 i o (hT.fz i o hz))))
   | none=>
     refine(hg2 i o).2 (.inr ⟨hi,by rw[hg0];exact hz,?_⟩)
     cases hz1:a1.get i with
     |none=>rfl
     | some o1=>
       rcases hG.old i o1 hz1 with⟨o0,g1⟩|g1
       . rw[hg0,hz]at g1;cases g1
       . have:=hwf i o hi;have e:h0.next=a.next:=rfl;omega
 . grind
 . have h3:=f2 i o hi;rcases hG.old i o h3 with⟨o0,g1⟩|g1
   . rw[hg0]at g1;have:=f1 i o0 (hT.fz i o0 g1);rw[hi]at this;grind
   . exact .inr g1
end
end
section
universe u v
variable [Inhabited aL]
def PL (Fz:Nat->Option AO) (fs:List SV) (vs:List AV):Prop:=fs.length=vs.length/\ ∀(i:Nat) f v,fs[i]? =some f->vs[i]? =some v->aG Fz f v
theorem PL.nil {Fz:Nat->Option AO}:PL Fz [] []:=⟨rfl,fun i f v h=>by grind⟩
theorem PL.cons {Fz:Nat->Option AO} {f:SV} {v:AV} {fs:List SV} {vs:List AV} (h:aG Fz f v) (t:PL Fz fs vs):PL Fz (f::fs) (v::vs):=by
 refine⟨by simp[t.1],fun i a b ha hb=>?_⟩
 cases i with
 |zero=>grind
 |succ i=>exact t.2 i a b (by grind) (by grind)
theorem PL.split {Fz:Nat->Option AO} {xs fs:List SV} {us vs:List AV} (h:PL Fz (xs++fs) (us++vs)) (hl:xs.length=us.length):PL Fz xs us/\PL Fz fs vs:=by
 refine⟨⟨hl,fun i f v hf hv=>h.2 i f v ?_ ?_⟩,⟨?_,fun i f v hf hv=>h.2 (xs.length+i) f v ?_ ?_⟩⟩
 . rw[AL (Ao.1 hf).1];exact hf
 . rw[AL (Ao.1 hv).1];exact hv
 . have:=h.1;grind
 all_goals grind
theorem CQ {X X':Type} {L:List X} {L':List X'} {enc:X->List SV} {enc':X'->List SV} {Fz:Nat->Option AO} {v:AV} (h:SV.ax X' L' enc'=SV.ax X L enc) (hv:aG Fz (.ax X' L' enc') v):aG Fz (.ax X L enc) v:=h▸hv
section
variable {P:Program} {tab:bc} {cfg:fy} {ta:T AV} {a:AH}
theorem Mz {C:Cx} {s:St} (hF:FS C s.ts ta) (H:HS tab C s.h a) {d:Nat} {o0:SO} (hd:s.h.get d=some o0):∃C',((s.ev (.kill d)).del d).log=s.log++[.kill d]/\Tr C [.kill d] C'/\HS tab C' ((s.ev (.kill d)).del d).h a/\FS C' ((s.ev (.kill d)).del d).ts ta/\
   cK C s.h a C' ((s.ev (.kill d)).del d).h/\cz C (.kill d) C'/\ ∀I,C.ρ d=some I->I.cap.isSome->C'.Fz I.β=a.get I.β:=by
 obtain⟨ts,⟨n,os⟩,log⟩:=s;obtain⟨I,hI,ho⟩:=H.obj d _ hd;obtain⟨C',hT,H',hfb,hρ⟩:=H.freeze (e:= .kill d) hd hI (fun C' h1 h2 _=>G6 C' h1 h2);refine⟨C',rfl,hT.tr,H',hF.turns hT,?_,hT,fun J hJ hc=>by rw[hI]at hJ;grind⟩;intro p o J hp hJ hc;by_cases e:p=d
 . subst e;rw[hI]at hJ;cases hJ;obtain⟨b,hb⟩:=(H.at_ hp hI).live hc;grind
 simp_all[St.ev,St.del,SH.aO,oh]
theorem u5 (htab:cfg.tab=tab):∀(n:Nat) (fs as1:List SV) (vs:List AV) (s:St) (C:Cx) (K:St->Prop),cQ cfg n fs as1 s K->aJ C as1 vs->FS C s.ts ta->HS tab C s.h a->
  ∃C' new s',s'.log=s.log++new/\Tr C new C'/\HS tab C' s'.h a/\FS C' s'.ts ta/\cK C s.h a C' s'.h/\K s'/\PL C'.Fz fs vs:=by
 intro n;induction n with
 |zero=>intro fs as1 vs s C K h;exact h.elim
 | succ n ih =>
  intro fs as1 vs s C K h hs0 hF H;have lift:∀{f:SV} {fs:List SV} {a0:SV} {as1:List SV} {v:AV} {vs:List AV},cQ cfg n fs as1 s K->aJ C as1 vs->(∀Fz':Nat->Option AO,(∀i o,C.Fz i=some o->Fz' i=some o)->aG Fz' f v)->
    ∃C' new s',s'.log=s.log++new/\Tr C new C'/\HS tab C' s'.h a/\FS C' s'.ts ta/\cK C s.h a C' s'.h/\K s'/\PL C'.Fz (f::fs) (v::vs):=by
   intro f fs a0 as1 v vs h hs hv;obtain⟨C',new,s',g1,g2,g3,g4,g5,g6,g7⟩:=ih fs as1 vs s C K h hs hF H;exact⟨C',new,s',g1,g2,g3,g4,g5,g6,PL.cons (hv _ g2.fz) g7⟩
  have liftP:∀{f:SV} {fs:List SV} {as1:List SV} {v:AV} {vs:List AV},cQ cfg n fs as1 s K->aJ C as1 vs->aG C.Fz f v->
    ∃C' new s',s'.log=s.log++new/\Tr C new C'/\HS tab C' s'.h a/\FS C' s'.ts ta/\cK C s.h a C' s'.h/\K s'/\PL C'.Fz (f::fs) (v::vs):=fun h hs hv=>lift (a0:= .any) h hs (fun Fz' hf=>hv.mono hf)
  cases fs with
  | nil=>
   cases as1 with
   |nil=>
    cases vs with
    |nil=>exact⟨C,[],s,by simp,Tr.refl C,H,hF,cK.refl _ _ _,h,PL.nil⟩
    |cons=>have:=hs0.1;grind
   |cons=>grind [cQ]
  | cons f fs=>
   cases as1 with
   |nil=>grind [cQ]
   | cons x as1=>
    cases vs with
    |nil=>have:=hs0.1;grind
    | cons v vs=>
     obtain⟨hx,hs⟩:=hs0.head;simp only[cQ]at h;split at h
     . exact liftP h hs (.any _)
     . obtain⟨rfl,h⟩:=h;rw[lB hx];exact liftP h hs (.bool _)
     . obtain⟨h1,h2,h3⟩:=bZ h;have h1:=Bg h1;subst h1;rw[fR hx,h2];exact liftP h3 hs (.int _ _)
     . obtain⟨rfl,h⟩:=h;rw[fi hx];exact liftP h hs (.str _)
     . exact liftP h hs (hZ hx rfl)
     . obtain⟨rfl,h⟩:=h;exact liftP h hs (hZ hx rfl)
     . exact liftP h hs (hZ hx rfl)
     . exact liftP h hs (hZ hx rfl)
     . exact liftP h hs (hZ hx rfl)
     . obtain⟨h1,h⟩:=h;exact liftP h hs (CQ h1 (hZ hx rfl))
     . obtain⟨rfl,h⟩:=h;rw[kJ hx];exact liftP h hs (.bR rfl (.inl rfl))
     . rename_i X L enc b;split at h
       . rename_i X' L' enc' t hb;obtain⟨h1,h⟩:=h;obtain⟨C1,e1,e2,e3,e4,e5,e6⟩:=iv hF H hb;have hs1:aJ C1 (dS (.dM b X' L' enc') as1) vs:=by
           rw[kK];refine⟨by simp[hs.1],fun i q w hq hw=>?_⟩;rw[AF]at hq;obtain⟨q0,hq0,rfl⟩:=AA.1 hq;exact e2.val q0 w (hs.2 i q0 w hq0 hw)
         obtain⟨C',new,s',g1,g2,g3,g4,g5,g6,g7⟩:=ih fs _ vs _ C1 K h hs1 e4 e3;exact⟨C',_,s',by rw[g1,e1,Bw],e2.trans g2,g3,g4,e6.trans g5 g2.fz,g6,PL.cons ((CQ h1 (e5 v hx)).mono g2.fz) g7⟩
       grind
     . rename_i X L enc b off m c;split at h
       . rename_i cs e hb;split at h
         . rename_i r hr;rw[htab]at hr;obtain⟨hck,h⟩:=bZ h;simp only[Ad,AG]at hck;obtain⟨⟨⟨hr0,hmc⟩,hle⟩,hpu⟩:=hck;have hr0:r≠0:=fun e=>by simp_all
           have hmc:=Ag hmc;have hle:=Ag hle;obtain⟨h1,h⟩:=h;obtain⟨C1,e1,e2,e3,e4,e5,e6,e7⟩:=Mz hF H hb;have hs1:aJ C1 (dS (.kill b) as1) vs:=hs.turns e6;obtain⟨C',new,s',g1,g2,g3,g4,g5,g6,g7⟩:=ih fs _ vs _ C1 K h hs1 e4 e3;refine⟨C',_,s',by rw[g1,e1,Bw],e2.trans g2,g3,g4,e5.trans g5 g2.fz,g6,PL.cons ?_ g7⟩
           cases hx with
           |pure hx=>cases hx
           | sl hI=>
            rename_i I;obtain⟨hcap,ca,sz,k1,k2,k3⟩:=H.at_ hb hI;have hszr:r=sz:=by rw[hr]at k3;grind
            subst hszr;have hfz:=e7 I hI hcap;rw[k1]at hfz;have hLm:L.length=m:=by
             have:=Az List.length h1;rw[uw]at this;grind
            have hsub:=(k2.drop off).take (m*r);have hT:Told C.Fz X L enc r ((ca.drop off).take (m*r)):=tP hr0 hsub (by simp;omega) hpu hLm (fun i x q hx hq=>by
             rw[h1,AF,hx]at hq;grind)
            subst hLm;refine aG.mono g2.fz (r9 I.β off _ ca e _ false .rw _ rfl (.of hfz) (by omega) (by rw[<-k2.1];omega) hT.each hmc ?_);intro i x j w hx hw;obtain⟨u,q1,q2⟩:=hT.cell i x j w hx hw;refine⟨u,?_,q2.mono e2.fz⟩;rw[Bq]at q1;simp_all[BC]
         grind
       grind
     . obtain⟨h1,h⟩:=bZ h;have h1:=Ab h1;obtain⟨us,rfl,hu⟩:=jR hx;obtain⟨C',new,s',g1,g2,g3,g4,g5,g6,g7⟩:=ih _ _ (us++vs) s C K h (hu.append hs) hF H;obtain⟨q1,q2⟩:=g7.split (h1.trans hu.1);exact⟨C',new,s',g1,g2,g3,g4,g5,g6,PL.cons (.agg q1.1 q1.2) q2⟩
     . rename_i f xs us g ys ws;obtain⟨h1,h'⟩:=bZ h;clear h;have h:=h';simp only[Ad]at h1;obtain⟨⟨h0,h1⟩,h2⟩:=h1;have h0:=Ab h0;have h1:=Ab h1;have h2:=Ab h2;subst h0;have hfn:∃y' w',v= .fn (.func f) y' w'/\aJ C ys y'/\aJ C ws w':=by
         cases hx with
         | pure hx=>cases hx with
           |fn k1 k2 k3 k4=>exact⟨_,_,rfl,⟨k1,fun i q r a b=> .pure (k3 i q r a b)⟩,⟨k2,fun i q r a b=> .pure (k4 i q r a b)⟩⟩
         |fn k1 k2 k3 k4=>exact⟨_,_,rfl,⟨k1,k3⟩,⟨k2,k4⟩⟩
       obtain⟨y',w',rfl,k1,k2⟩:=hfn;obtain⟨C',new,s',g1,g2,g3,g4,g5,g6,g7⟩:=ih _ _ (y'++(w'++vs)) s C K h (k1.append (k2.append hs)) hF H;obtain⟨q1,q2⟩:=g7.split (h1.trans k1.1);obtain⟨q2,q3⟩:=q2.split (h2.trans k2.1);exact⟨C',new,s',g1,g2,g3,g4,g5,g6,PL.cons (.fn q1.1 q2.1 q1.2 q2.2) q3⟩
     grind
end
end
section
universe u v
variable [Inhabited aL]
theorem jM {α:Type u}:∀{l:List α} {K:List α->Prop},gl l K->K l:=by
 intro l;induction l with
 |nil=>intro K h;exact h
 |cons x l ih=>intro K h;exact ih (K:=fun l'=>K (x::l')) h
theorem HW {v:SV} {K:SV->Prop} (h:vO v K):K v:=by
 cases v<;>simp only[vO]at h<;>first|exact h|exact jM h|grind [jM]
theorem HV {o:SO} {K:SO->Prop} (h:CN o K):K o:=by
 cases o with
 |cells cs t=>exact jM (K:=fun cs=>K (.cells cs t)) h
 |arr X L enc t=>exact h
theorem yj {h:SH} {K:SH->Prop} (hh:pW h K):K h:=by
 obtain⟨n,os⟩:=h;simp only[pW]at hh;grind [HV]
theorem qV {α:Type}:∀{t:T α} {K:T α->Prop},kL t K->K t:=by
 intro t;induction t with
 |e=>intro K h;exact h
 |n v l r ihl ihr=>
  grind [kL]
section
variable {P:Program} {tab:bc} {cfg:fy} {rec:SM->(SV->St->Prop)->Prop} {C:Cx} {s:St} {ta:T AV} {a:AH}
def kP (P:Program) (tab:bc) (rec:SM->(SV->St->Prop)->Prop):Prop:=
 ∀(f:FuncId) (fn:Func) (body:Code) (args:List SV) (h:SH) (a:AH) (C:Cx) (avs:List AV) (Q:SV->St->Prop),tab.fns.get f=some fn->fn.body=some body->
  rec ⟨f,Nat.max fn.ntmps args.length,h.next,[.code body],⟨Fr.of args 0,h,[]⟩⟩ Q->HS tab C h a->aJ C args avs->dm P {fr:=ae.enter fn f body avs .normal,cs:=[],h:=a} (ft tab C h a Q)
theorem Il (htab:cfg.tab=tab) (hrec:kP P tab rec) (hcon:∀g C,cfg.fH g=some C->bX P tab g C) {f:FuncId} {args:List SV} {avs:List AV} {K:SV->St->Prop} (h:wh cfg rec f args s K) (hF:FS C s.ts ta) (H:HS tab C s.h a) (hs:aJ C args avs):
   ∃fn body,tab.fns.get f=some fn/\fn.body=some body/\dm P {fr:=ae.enter fn f body avs .normal,cs:=[],h:=a} fun v a'=>a.next<=a'.next/\ ∃sv s',K sv s'/\lj tab C s ta a sv s' v a':=by
 unfold wh at h;rw[htab]at h;split at h
 . rename_i fn hfn;split at h
   . rename_i body hb;refine⟨fn,body,hfn,hb,?_⟩;split at h
     . rename_i Cn hCn;obtain⟨y,h⟩:=h;obtain⟨C1,new,s1,g1,g2,g3,g4,g5,⟨hpre,hk⟩,g7⟩:=u5 htab 1000 _ _ _ _ _ _ h hs hF H;refine(hcon f Cn hCn fn body hfn hb y hpre C1.Fz a avs g3.fz g3.wf g7.1 g7.2).mono ?_;rintro v a' ⟨Fz',f1,f2,f3,f4,f5,f6,f7⟩;refine⟨f4.next,_,s1,hk,⟨⟨C1.ρ,Fz'⟩,new,g1,?_, .pure f3,?_,?_,?_⟩,f4⟩
       . have hle:C1.le ⟨C1.ρ,Fz'⟩:=⟨fun _ _ h=>h,f1⟩;have:=g2.trans hle.tr;grind
       . have hle:C1.le ⟨C1.ρ,Fz'⟩:=⟨fun _ _ h=>h,f1⟩;refine⟨fun p o hp=>?_,g3.inj,f2,fun p o I hp hI hc=>?_,g3.lt,f6⟩
         . obtain⟨I,hI,ho⟩:=g3.obj p o hp;refine⟨I,hI,?_⟩;have ho':=ho.le hle;by_cases hc:I.cap.isSome
           . obtain⟨b,hb'⟩:=ho.live hc;exact ho'.congr ((f5 _ _ hb').trans hb'.symm)
           . cases o with
             |cells cs t=>exact absurd ho.1 hc
             | arr X L enc t=>
               obtain⟨q1,q2,q3,q4,q5⟩:=ho';refine⟨q1,q2,q3,q4,?_⟩;grind
         . show Fz' I.β=none
           cases hz:Fz' I.β with
           |none=>rfl
           | some b=>
             rcases f7 _ _ hz with hz1|hz1
             . have:=g3.dj p o I hp hI hc;rw[hz1]at this;omega
             . obtain⟨b',hb'⟩:=(g3.at_ hp hI).live hc;have:=g3.wf _ _ hb';omega
       . have hle:C1.le ⟨C1.ρ,Fz'⟩:=⟨fun _ _ h=>h,f1⟩;grind [FS.le]
       . intro p o I hp hI hc _;obtain⟨b,hb'⟩:=(H.at_ hp hI).live hc;refine⟨by rw[hb'];grind,?_⟩;rcases g5 p o I hp hI hc with h1|⟨b,_,h2⟩
         all_goals grind
     . obtain⟨ts,hh,log⟩:=s;refine(hrec f fn body args hh a C avs _ hfn hb h H hs).mono ?_;rintro v a' ⟨sv,s',C',hk,q1,q2,q3,q4,q5⟩;obtain⟨ts',h',log'⟩:=s';exact⟨q4.next,sv,_,hk,⟨C',log',rfl,q3,q1,q2,hF.log q3,q5⟩,q4⟩
   grind
 grind
theorem zo (htab:cfg.tab=tab) (hrec:kP P tab rec) (hcon:∀g C,cfg.fH g=some C->bX P tab g C) {o:Oper} {K:SV->St->Prop} (h:sP cfg rec s o K) (hF:FS C s.ts ta) (H:HS tab C s.h a):
   e9 P tab ta a o fun v a'=>∃sv s',K sv s'/\lj tab C s ta a sv s' v a':=by
 have hsop:iG cfg.tab cfg.view s o K->e9 P tab ta a o fun v a'=>∃sv s',K sv s'/\lj tab C s ta a sv s' v a':=by
   intro h;rw[htab]at h;obtain⟨sv,s',v,a',h1,h2,h3⟩:=L3 hF H h;exact .inl ⟨v,a',h2,h3.grow.next,sv,s',h1,h3⟩
 unfold sP at h;split at h
 . rename_i c hc;split at h
   . rename_i f hf;obtain⟨args,h1,h2⟩:=cA h;obtain⟨sf,h3,h4⟩:=cA h2;obtain⟨avs,g1,g2⟩:=mr hF h1;obtain⟨vf,g3,g4⟩:=iD hF h3;split at h4
     . rename_i g first captured;have hfn:∃us ws,vf= .fn (.func g) us ws/\aJ C first us/\aJ C captured ws:=by
        cases g4 with
        |pure hx=>cases hx with
         |fn k1 k2 k3 k4=>exact⟨_,_,rfl,⟨k1,fun i q r a b=> .pure (k3 i q r a b)⟩,⟨k2,fun i q r a b=> .pure (k4 i q r a b)⟩⟩
        |fn k1 k2 k3 k4=>exact⟨_,_,rfl,⟨k1,k3⟩,⟨k2,k4⟩⟩
       obtain⟨us,ws,rfl,k1,k2⟩:=hfn;obtain⟨fn,body,q1,q2,q3⟩:=Il htab hrec hcon h4 hF H ((k1.append g2).append k2);exact .inr ⟨c,f,g,us,ws,avs,fn,body,hc,hf,g3,g1,q1,q2,q3⟩
     grind
   grind
 grind
theorem uz {ops:Array Oper} {o:Oper} {K:Bool->St->Prop} (h:pX ops o s K) (hF:FS C s.ts ta):∃b s',K b s'/\wanted ops o ta= .ok b/\FS C s'.ts ta/\s'.h=s.h/\s'.log=s.log:=by
 unfold pX at h;unfold wanted;split at h
 . grind
 . rename_i j w hg;rw[hg];simp only;obtain⟨ts,hh,log⟩:=s;split at h
   . rename_i d hd;simp only at h;rw[hd];simp only[Df];have lit:∀p:Bool,look ts d=some (.bool p)->ta.get d=some (.bool p):=by
       intro p hp;have h1:=hF d _ hp;have h2:=lB h1
       cases hg:ta.get d with
       |none=>rw[hg]at h2;grind
       |some v=>rw[hg]at h2;grind
     have putb:∀p:Bool,ta.get d=some (.bool p)->FS C ((d, .bool p)::ts) ta:=by
       intro p hp t q hq;rw[gE]at hq;split at hq
       . rename_i e
         cases hq;rw[e,hp];exact .pure (.bool p)
       . exact hF t q hq
     split at h
     . rename_i p hp;have hta:=lit p hp;rw[hta];rcases sr h with⟨rfl,h⟩|⟨rfl,h⟩
       . exact⟨w,_,h,by cases w<;>rfl,putb true hta,rfl,rfl⟩
       . exact⟨!w,_,h,by cases w<;>rfl,putb false hta,rfl,rfl⟩
     . rename_i cs hp;have h1:=hF d _ hp;grind [rY]
     grind
   grind
def eF (nt:Nat) (ta:T AV) (d:Option Tmp) (v:AV):T AV:=match d with|some d=>bif Nat.blt d nt then ta.set d (some v)else ta|none=>ta
theorem nW {nt:Nat} {d:Option Tmp} {sv:SV} {v:AV} {K:St->Prop} (h:fO nt s d sv K) (hF:FS C s.ts ta) (hv:az C sv v):
  ∃s',K s'/\FS C s'.ts (eF nt ta d v)/\s'.h=s.h/\s'.log=s.log:=by
 obtain⟨ts,hh,log⟩:=s;unfold fO at h
 cases d with
 |none=>exact⟨_,yj (K:=fun h=>K ⟨ts,h,log⟩) h,hF,rfl,rfl⟩
 |some d=>
  simp only[eF]at h⊢
  cases hb:Nat.blt d nt
  . rw[hb]at h;grind
  . rw[hb]at h;have h:=yj (K:=fun h=>K ⟨(d,sv)::ts,h,log⟩) (HW (K:=fun v=>pW hh fun h=>K ⟨(d,v)::ts,h,log⟩) h);exact⟨_,h,hF.put hv,rfl,rfl⟩
end
end
section
universe u v
variable [Inhabited aL]
mutual
theorem ED (e:Ev):∀(s:SV) (n:Nat),s.lt n=true->n<=e.id->s.on e=s
 | .bool b,n,_,_=>by simp[SV.on]
 | .int k m,n,_,_=>by simp[SV.on]
 | .str s,n,_,_=>by simp[SV.on]
 | .aF,n,_,_=>by simp[SV.on]
 | .wp _,n,_,_=>by simp[SV.on]
 | .ptr b off,n,h,he=>by
  simp only[SV.lt,Bp]at h
  cases e<;>simp only[SV.on,Ev.id]at* <;>first|rfl|(rw[eu (by omega)];rfl)
 | .bN b i off,n,h,he=>by
  simp only[SV.lt,Bp]at h
  cases e<;>simp only[SV.on,Ev.id]at* <;>first|rfl|(rw[eu (by omega)];rfl)
 | .ch cs off,n,_,_=>by simp[SV.on]
 | .nils,n,_,_=>by simp[SV.on]
 | .sl b off l c,n,h,he=>by
  simp only[SV.lt,Bp]at h
  cases e<;>simp only[SV.on,Ev.id]at* <;>first|rfl|(rw[eu (by omega)];rfl)
 | .own b,n,h,he=>by
  simp only[SV.lt,Bp]at h
  cases e<;>simp only[SV.on,Ev.id]at* <;>first|rfl|(rw[eu (by omega)];rfl)
 | .ax X L enc,n,_,_=>by simp[SV.on]
 | .aW,n,_,_=>by simp[SV.on]
 | .map b,n,_,_=>by simp[SV.on]
 | .aZ,n,_,_=>by simp[SV.on]
 | .fn f xs ys,n,h,he=>by
  simp only[SV.lt,Ad]at h;simp only[SV.on,jH e xs n h.1 he,jH e ys n h.2 he]
 | .agg cs,n,h,he=>by
  simp only[SV.lt]at h;simp only[SV.on,jH e cs n h he]
 | .bg cs,n,h,he=>by
  simp only[SV.lt]at h;simp only[SV.on,jH e cs n h he]
 | .any,n,_,_=>by simp[SV.on]
theorem jH (e:Ev):∀(l:List SV) (n:Nat),eV n l=true->n<=e.id->dS e l=l
 |[],n,_,_=>by simp[dS]
 |v::l,n,h,he=>by
  simp only[eV,Ad]at h;simp only[dS,ED e v n h.1 he,jH e l n h.2 he]
end
theorem zC:∀(log:List Ev) (s:SV) (n:Nat),s.lt n=true->(∀e∈log,n<=e.id)->fG log s=s:=by
 intro log;induction log with
 |nil=>intro s n _ _;rfl
 |cons e l ih=>
  grind [fG,ED]
theorem cV {n:Nat}:∀{l:List SV},eV n l=true↔∀s∈l,s.lt n=true:=by
 intro l;induction l with
 |nil=>simp[eV]
 |cons v l ih=>grind [eV]
theorem rC {n:Nat} {l:List SV} (h:eV n l=true) {i:Nat} {s:SV} (hs:l[i]? =some s):s.lt n=true:=cV.1 h s (Bv hs)
open Classical in
noncomputable def Cx.cut (C:Cx) (n:Nat):Cx:={C with ρ:=fun p=>if p<n then C.ρ p else none}
theorem jF (C:Cx) {n p:Nat} (h:p<n):(C.cut n).ρ p=C.ρ p:=by grind [Cx.cut]
theorem az.cut {C:Cx} {n:Nat} {s:SV} {v:AV} (h:az C s v) (hl:s.lt n=true):az (C.cut n) s v:=by
 induction h with
 |pure h=>exact .pure h
 |ptr h=>grind [SV.lt,Nat.blt_eq,ptr,jF]
 |bN h hc=>grind [SV.lt,Nat.blt_eq,bN,jF]
 |dh h hc=>grind [SV.lt,Nat.blt_eq,dh,jF]
 |own h hc=>grind [SV.lt,Nat.blt_eq,own,jF]
 |sl h=>grind [SV.lt,Nat.blt_eq,sl,jF]
 |fn h1 h2 _ _ ih3 ih4=>
  grind [SV.lt,fn,rC]
 |agg h1 _ ih=>grind [SV.lt,agg,rC]
 |bg h1 _ ih=>grind [SV.lt,bg,rC]
theorem aG.low {Fz:Nat->Option AO} {n:Nat} {s:SV} {v:AV} (h:aG Fz s v):s.lt n=true:=by
 induction h with
 |fn h1 h2 _ _ ih3 ih4=>
  simp only[SV.lt,Ad];constructor
  . rw[cV];intro s hs;obtain⟨i,hi⟩:=AZ.1 hs;exact ih3 i s _ hi (Af (by rw[<-h1];grind))
  . rw[cV];intro s hs;obtain⟨i,hi⟩:=AZ.1 hs;exact ih4 i s _ hi (Af (by rw[<-h2];grind))
 |agg h1 _ ih=>
  simp only[SV.lt];rw[cV];intro s hs;obtain⟨i,hi⟩:=AZ.1 hs;exact ih i s _ hi (Af (by rw[<-h1];grind))
 |bg h1 _ ih=>
  simp only[SV.lt];rw[cV];intro s hs;obtain⟨i,hi⟩:=AZ.1 hs;exact ih i s _ hi (Af (by rw[<-h1];grind))
 |_=>rfl
theorem az.low {C:Cx} {n:Nat} (hC:∀p I,C.ρ p=some I->p<n) {s:SV} {v:AV} (h:az C s v):s.lt n=true:=by
 induction h with
 |pure h=>exact h.low
 |ptr h=>simp_all[SV.lt]
 |bN h hc=>simp_all[SV.lt]
 |dh h hc=>simp_all[SV.lt]
 |own h hc=>simp_all[SV.lt]
 |sl h=>simp_all[SV.lt]
 |fn h1 h2 _ _ ih3 ih4=>
  simp only[SV.lt,Ad];constructor
  . rw[cV];intro s hs;obtain⟨i,hi⟩:=AZ.1 hs;exact ih3 i s _ hi (Af (by rw[<-h1];grind))
  . rw[cV];intro s hs;obtain⟨i,hi⟩:=AZ.1 hs;exact ih4 i s _ hi (Af (by rw[<-h2];grind))
 |agg h1 _ ih=>
  simp only[SV.lt];rw[cV];intro s hs;obtain⟨i,hi⟩:=AZ.1 hs;exact ih i s _ hi (Af (by rw[<-h1];grind))
 |bg h1 _ ih=>
  simp only[SV.lt];rw[cV];intro s hs;obtain⟨i,hi⟩:=AZ.1 hs;exact ih i s _ hi (Af (by rw[<-h1];grind))
section
variable {P:Program} {tab:bc} {cfg:fy}
structure fq (fr:ae) (fn:FuncId) (nt:Nat):Prop where
 fn:fr.fn=fn
 nt:fr.nt=nt
 mode:fr.mode= .run
 defers:fr.defers=[]
 kind:fr.kind= .normal
 round:fr.round=none
theorem fq.todo {fr:ae} {fn:FuncId} {nt:Nat} (h:fq fr fn nt) (ts:T AV) (k:List bm):fq {fr with tmps:=ts,todo:=k} fn nt:=⟨h.fn,h.nt,h.mode,h.defers,h.kind,h.round⟩
def SI (tab:bc) (C0:Cx) (h0:SH) (a0:AH) (ta:T AV) (a:AH) (s:St):Prop:=∃C,FS C s.ts ta/\HS tab C s.h a/\Tr C0 s.log C/\Grow a0 a/\cw C0 h0 a0 s.log C s.h a
inductive TS (HO:(Fr->SH->List Ev->Prop)->Code->List bm->Prop):List cZ->List bm->Prop
 |nil:TS HO [] []
 |code {k:List cZ} {k':List bm} (c:Code) (h:TS HO k k'):TS HO (.code c::k) (.code c::k')
 |inBlock {k:List cZ} {k':List bm} (id:Nat) (h:TS HO k k'):TS HO (.inBlock id::k) (.inBlock id::k')
 |inLoop {k:List cZ} {k':List bm} (b:Code) (h:TS HO k k'):TS HO (.inLoop b::k) (.inLoop b::k')
 |inScope {k:List cZ} {k':List bm} (b:Code) (h:TS HO k k'):TS HO (.inScope b::k) (.inScope b::k')
 |inRegion {k:List cZ} {k':List bm} (ops:Array Oper) (l:List Nat) (h:TS HO k k'):TS HO (.inRegion ops l::k) (.inRegion ops l::k')
 |head {k:List cZ} {k':List bm} (gr:Fr->SH->List Ev->Prop) (b:Code) (h:TS HO k k') (ho:HO gr b k'):TS HO (.head gr::k) (.inLoop b::k')
theorem TS.exit {HO:(Fr->SH->List Ev->Prop)->Code->List bm->Prop} {id:Nat}:∀{k:List cZ} {k':List bm} {k1:List cZ},TS HO k k'->ke id k=some k1->∃k1',Am.exitTo id k'=some k1'/\TS HO k1 k1':=by
 intro k k' k1 h;induction h with
 |nil=>intro h;cases h
 |inBlock j h ih=>
  grind [ke,Am.exitTo]
 |code c h ih=>grind [ke,Am.exitTo]
 |inLoop b h ih=>grind [ke,Am.exitTo]
 |inScope b h ih=>grind [ke,Am.exitTo]
 |inRegion ops l h ih=>grind [ke,Am.exitTo]
 |head gr b h ho ih=>grind [ke,Am.exitTo]
theorem Ko (htab:cfg.tab=tab) {C:Cx} {s:St} {ta:T AV} {a:AH} (hF:FS C s.ts ta) (H:HS tab C s.h a):∀{l:List ResultVar} {K:List SV->Prop},jb cfg s l K->∃vs svs,Am.results tab a ta l= .ok vs/\aJ C svs vs/\K svs:=by
 intro l;induction l with
 |nil=>intro K h;exact⟨[],[],rfl,aJ.nil,h⟩
 | cons x l ih=>
  intro K h
  cases x with
  |tmp t=>
   obtain⟨v,h1,h2⟩:=cA h;obtain⟨vs,svs,g1,g2,g3⟩:=ih h2;refine⟨_,_,?_,aJ.cons (hF t v h1) g2,g3⟩;grind [Am.results,rb]
  | cell b t=>
   simp only[jb]at h;rw[htab]at h;obtain⟨p,h1,h2⟩:=cA h;obtain⟨bb,off,u,sv,h3,h4,h5,h6⟩:=uE H (hF b p h1) h2;obtain⟨vs,svs,g1,g2,g3⟩:=ih h6;refine⟨_,_,?_,aJ.cons h5 g2,g3⟩;simp only[Am.results]
   cases hg:ta.get b with
   |none=>rw[hg]at h3;grind
   |some w=>
    rw[hg]at h3;grind [rb]
theorem Cv (pr:eR P tab) (htab:cfg.tab=tab) {fn:FuncId} {nt:Nat} {s:St} {Q:SV->St->Prop} {C0:Cx} {h0:SH} {a0 a:AH} {fr:ae} (h:kR cfg fn s Q) (hf:fq fr fn nt) (hS:SI tab C0 h0 a0 fr.tmps a s)
   (ht:fr.todo=[]\/ ∃k,fr.todo= .code .ret::k):dm P {fr,cs:=[],h:=a} (ft tab C0 h0 a0 Q):=by
 obtain⟨C,hF,H,hT,hG,hK⟩:=hS;have hstep:Am.step tab sub0 {fr,cs:=[],h:=a}= .ok (.next {fr:={fr with mode:= .returning},cs:=[],h:=a}):=by
   rcases ht with ht|⟨k,ht⟩
   . simp only[Am.step,hf.mode,ht,Am.leave,hf.round]
   . simp only[Am.step,hf.mode,ht,Am.leave,hf.round]
 refine dm.next pr hstep ?_;unfold kR at h;rw[htab]at h;split at h
 . rename_i func hfn;obtain⟨vs,svs,g1,g2,g3⟩:=Ko htab hF H h;have hdone:Am.step tab sub0 {fr:={fr with mode:= .returning},cs:=[],h:=a}= .ok (.done (Am.result vs) a):=by
     simp only[Am.step,Am.unwind,hf.defers,hf.fn,hfn];rw[rb g1];simp only[Am.doReturn,hf.kind]
   refine dm.done pr hdone ⟨_,s,C,g3,?_,H,hT,hG,hK⟩
   cases svs with
   | nil=>cases vs with
     |nil=>exact .bg g2.1 g2.2
     |cons=>have:=g2.1;grind
   | cons x svs=>cases vs with
     |nil=>have:=g2.1;grind
     | cons v vs=>cases svs with
      |nil=>cases vs with
       |nil=>exact g2.head.1
       |cons=>have:=g2.1;grind
      |cons y svs=>cases vs with
       |nil=>have:=g2.1;grind
       |cons w vs=>exact .bg g2.1 g2.2
 grind
end
end
section
universe u v
variable [Inhabited aL]
section
variable {P:Program} {tab:bc} {cfg:fy}
theorem cw.trans {C0 C C':Cx} {h0 h h':SH} {a0 a a':AH} {l m:List Ev} (k:cw C0 h0 a0 l C h a) (k':cw C h a m C' h' a') (hf:∀i o,C.Fz i=some o->C'.Fz i=some o) (H:∀i o,C.Fz i=some o->a.get i=some o) (H':∀i o,C'.Fz i=some o->a'.get i=some o):
   cw C0 h0 a0 (l++m) C' h' a':=by
 intro p o I hp hI hc hn;rw[wR]at hn;obtain⟨g1,g2⟩:=k p o I hp hI hc (fun e=>hn (BZ _ e));rcases g2 with⟨o',h1,h2⟩|⟨b,h1⟩
 . obtain⟨g3,g4⟩:=k' p o' I h1 h2 hc (fun e=>hn (BT _ e));grind
 grind
theorem SI.res {C0 C:Cx} {h0:SH} {a0 a a':AH} {ta:T AV} {s s':St} {sv:SV} {v:AV} (H:HS tab C s.h a) (hT:Tr C0 s.log C) (hG:Grow a0 a) (hK:cw C0 h0 a0 s.log C s.h a) (hr:lj tab C s ta a sv s' v a'):
  ∃C',az C' sv v/\FS C' s'.ts ta/\HS tab C' s'.h a'/\Tr C0 s'.log C'/\Grow a0 a'/\cw C0 h0 a0 s'.log C' s'.h a':=by
 obtain⟨⟨C',new,e1,e2,e3,e4,e5,e6⟩,e7⟩:=hr;exact⟨C',e3,e5,e4,by rw[e1];exact hT.trans e2,hG.trans e7,by rw[e1];exact hK.trans e6 e2.fz H.fz e4.fz⟩
theorem dZ.mono {ops:Array Oper} {nt:Nat} {G G':DS->Prop} (hg:∀s,G s->G' s):∀n s,dZ P tab ops nt G n s->dZ P tab ops nt G' n s:=by
 intro n;induction n with
 |zero=>intro s h;exact h
 |succ n ih=>
  intro s h;obtain⟨s1,h1,h2⟩:=h;refine⟨s1,h1,h2.imp (fun x=>⟨x.1,hg _ x.2⟩) (fun⟨c,o,q1,q2,q3,q4⟩=>⟨c,o,q1,q2,q3,?_⟩)⟩;rcases q4 with⟨v,h1,k1,k2,k3,k4⟩|⟨c',f,g,first,captured,args,fn,body,k1,k2,k3,k4,k5,k6,k7⟩
  . exact .inl ⟨v,h1,k1,k2,k3,ih _ k4⟩
  . exact .inr ⟨c',f,g,first,captured,args,fn,body,k1,k2,k3,k4,k5,k6,k7.mono fun v h1 ⟨a,b,c⟩=>⟨a,b,ih _ c⟩⟩
def vl (P:Program) (tab:bc) (cfg:fy) (rec:SM->(SV->St->Prop)->Prop):Prop:=
 ∀(ops:Array Oper) (nt n:Nat) (s:St) (K:St->Prop) (ta:T AV) (a:AH) (C:Cx),sh cfg rec ops nt n ⟨s, .e,[],[]⟩ K->FS C s.ts ta->HS tab C s.h a->
  dZ P tab ops nt (fun sF=>∃s' C' new,K s'/\s'.log=s.log++new/\Tr C new C'/\HS tab C' s'.h sF.h/\FS C' s'.ts sF.ts/\Grow a sF.h/\cw C s.h a new C' s'.h sF.h) n {ts:=ta,h:=a,aC:= .e,reads:=[],ar:=[]}
theorem Ck {C:Cx} {s:St} {ta:T AV} {c:Operand} {p:Bool} (hF:FS C s.ts ta) (hc:dP s.ts c=some (.bool p)):FS C (fixC s c p).ts ta/\(fixC s c p).h=s.h/\(fixC s c p).log=s.log:=by
 obtain⟨ts,h,log⟩:=s
 cases c with
 |tmp t=>
  refine⟨?_,rfl,rfl⟩;intro t' q hq;simp only[fixC]at hq;rw[gE]at hq;split at hq
  . rename_i e
    cases hq;rw[e];exact hF t _ hc
  . exact hF t' q hq
 |const v=>exact⟨hF,rfl,rfl⟩
 |func f=>exact⟨hF,rfl,rfl⟩
 |global g=>exact⟨hF,rfl,rfl⟩
theorem CJ {C:Cx} {v e:SV} {av:AV} (h:qA v e) (hv:az C v av):az C e av:=by
 unfold qA at h;split at h
 . rw[<-h];exact hv
 . grind [bZ]
 . rw[<-h];exact hv
 . grind [bZ,Nat.eq_of_beq_eq_true]
 . grind [bZ,Nat.eq_of_beq_eq_true]
 . exact hv
 . exact hv
 . exact hv
 . exact hv
 . rw[kJ hv];exact .pure (.bR (by rw[h];rfl) (.inl rfl))
 . exact .pure (.any _)
 grind
theorem JJ {C:Cx}:∀{l m:List SV} {vs:List AV},l7 l m->aJ C l vs->aJ C m vs:=by
 intro l;induction l with
 |nil=>intro m vs h hs;cases m with
  |nil=>exact hs
  |cons=>exact h.elim
 | cons a l ih=>intro m vs h hs;cases m with
  |nil=>exact h.elim
  |cons b m=>
   cases vs with
   |nil=>have:=hs.1;grind
   |cons v vs=>exact aJ.cons (CJ h.1 hs.head.1) (ih h.2 hs.head.2)
theorem Jp {ts:Fr} {h eh:SH}:∀{l:Fr},gA ts h eh l->∀{t:Nat} {e:SV},look l t=some e->∃v,look ts t=some v/\l8 h eh v e:=by
 intro l;induction l with
 |nil=>intro _ t e h;cases h
 |cons x l ih=>
  obtain⟨k,e0⟩:=x;intro hf t e hl;rw[gE]at hl;split at hl
  . rename_i ek
    cases hl;rw[ek];exact cA hf.1
  . exact ih hf.2 hl
theorem zr {α:Type u}:∀{l:List (Nat×α)} {t:Nat} {v:α},look l t=some v->(t,v)∈l:=by
 intro l;induction l with
 |nil=>intro t v h;cases h
 |cons x l ih=>
  grind [gE]
theorem Jo {h e:SH}:∀{n:Nat},vU tab h e n->∀p,p<n->o8 tab h.next p (h.get p) (e.get p):=by
 intro n;induction n with
 |zero=>omega
 |succ n ih=>
  intro hf p hp;by_cases e:p=n
  . subst e;exact hf.1
  . exact ih hf.2 p (by omega)
theorem SI.dM {C0:Cx} {h0:SH} {a0 a:AH} {ta:T AV} {s:St} (hS:SI tab C0 h0 a0 ta a s) (l:List SV):SI tab C0 h0 a0 ta a (fh l s):=by
 obtain⟨C,hF,H,hT,hG,hK⟩:=hS;obtain⟨C',new,e,t,H',F',st,_⟩:=ym l s C hF H;exact⟨C',F',H',by rw[e];exact hT.trans t,hG,by rw[e];exact hK.trans (st.bu new) t.fz H.fz H'.fz⟩
open Classical in
theorem CM (htab:cfg.tab=tab) {C0 C:Cx} {h0:SH} {a0 a:AH} {ta:T AV} {s:St} {base:Nat} (hC0:∀p I,C0.ρ p=some I->p<base) {log:List Ev} (hnew:(∀e∈s.log,base<=e.id)/\ ∀e∈log,base<=e.id) (hF:FS C s.ts ta) (H:HS tab C s.h a) (hT:Tr C0 s.log C) (hG:Grow a0 a) (hK:cw C0 h0 a0 s.log C s.h a)
   (hb0:∀p o,h0.get p=some o->p<base) {e:Fr×SH} (h1:gA s.ts s.h e.2 e.1) (h2:iN cfg.tab s.h e.2) (hl:low e.1 e.2=true) (hbn:base<=e.2.next) (hst:stay base s.h e.2=true):SI tab C0 h0 a0 ta a ⟨e.1,e.2,log⟩:=by
 obtain⟨ts,eh⟩:=e;simp only at h1 h2 hl hbn hst⊢;unfold low at hl;simp only[Ad,Aq]at hl;obtain⟨hl1,hl2⟩:=hl;obtain⟨hnow,hlog⟩:=hnew;rw[htab]at h2;have hfit:=Jo h2;have hlow:∀p o,eh.get p=some o->p<eh.next/\o.lt eh.next=true:=by
   intro p o hp;unfold SH.get at hp;split at hp
   . rename_i o' ho'
     cases hp;have:=hl2 _ (zr ho');simp_all
   grind
 let szOf (t:TypeId):Nat:=(tab.siz.get t).getD 0
 let Cy:Cx:=⟨fun p=>if p<eh.next then(match C.ρ p with
     |some I=>some I
     | none=>match eh.get p with
       |some (.arr _ _ _ t)=>some ⟨0,0,szOf t,none⟩
       |_=>none)else none,C.Fz⟩
 have hρ:∀p I,p<eh.next->C.ρ p=some I->Cy.ρ p=some I:=by
   grind
 have hcut:(C.cut eh.next).le Cy:=by
   refine⟨fun p I hp=>?_,fun _ _ h=>h⟩;grind [Cx.cut]
 have hval:∀{s:SV} {v:AV},az C s v->s.lt eh.next=true->az Cy s v:=fun h hl=>(h.cut hl).le hcut
 have hback:∀p I,Cy.ρ p=some I->I.cap.isSome->C.ρ p=some I:=by
   grind
 have hlive:∀p o I,eh.get p=some o->C.ρ p=some I->∃o',s.h.get p=some o':=by
   intro p o I hp hI;obtain⟨hlt,_⟩:=hlow p o hp;have hf:=hfit p hlt;rw[hp]at hf
   cases hs:s.h.get p with
   |some o'=>grind
   | none=>
     rw[hs]at hf
     cases o with
     |cells cs t=>exact hf.elim
     | arr X L enc t=>
       have:=Ag (bZ hf).1;have:=H.lt p I hI;omega
 refine⟨Cy,?_,⟨?_,?_,H.fz,?_,?_,H.wf⟩,⟨?_,hT.fz⟩,hG,?_⟩
 ·
   intro t ev hev;obtain⟨v,hv,hfv⟩:=Jp h1 hev;have hlt:=hl1 _ (zr hev);have hsv:=hF t v hv;unfold l8 at hfv;split at hfv
   . rename_i b;split at hfv
     . rename_i X L enc t' hb1 hb2;rw[kJ hsv];obtain⟨hbl,_⟩:=hlow _ _ hb2;have hf:=hfit _ hbl;rw[hb1,hb2]at hf;have hge:=Ag (bZ hf).1;have hnone:C.ρ b=none:=by
        cases hz:C.ρ b with
        |none=>rfl
        |some I=>have:=H.lt _ _ hz;omega
       exact .dh (I:=⟨0,0,szOf t',none⟩) (by grind) rfl
     grind
   grind [CJ]
 ·
   intro p o hp;obtain⟨hlt,hol⟩:=hlow p o hp;have hf:=hfit p hlt;rw[hp]at hf
   cases hs:s.h.get p with
   | none=>
     rw[hs]at hf
     cases o with
     |cells cs t=>exact hf.elim
     | arr X L enc t=>
       obtain⟨hge,hL,hz⟩:=bZ hf;obtain⟨n,hn,hz⟩:=cA hz;obtain⟨hn0,hz⟩:=bZ hz;have hge:=Ag hge;have hnone:C.ρ p=none:=by
        cases hz:C.ρ p with
        |none=>rfl
        |some I=>have:=H.lt _ _ hz;omega
       have hsz:szOf t=n:=by grind
       refine⟨⟨0,0,szOf t,none⟩,by grind,?_⟩;subst hL;have hn0:n≠0:=fun e=>by simp_all
       exact⟨by grind,by simp only[hsz];omega,rfl,fun i x hx=>by simp at hx,rfl⟩
   | some o'=>
     rw[hs]at hf;obtain⟨I,hI,ho⟩:=H.obj p o' hs;refine⟨I,hρ p I hlt hI,?_⟩
     cases o with
     | cells cs t=>
       cases o' with
       |arr X L enc t'=>exact hf.elim
       |cells cs' t'=>
        obtain⟨htt,hcs⟩:=bZ hf;have htt:=Ab htt;subst htt;obtain⟨q1,ca,sz,q2,q3,q4⟩:=ho;have q5:=JJ hcs q3;exact⟨q1,ca,sz,q2,⟨q5.1,fun i x v hx hv=>hval (q5.2 i x v hx hv) (rC hol hx)⟩,q4⟩
     | arr X L enc t=>
       cases o' with
       |cells cs' t'=>exact hf.elim
       |arr X' L' enc' t'=>
        obtain⟨htt,hLL⟩:=bZ hf;have htt:=Ab htt;subst htt
        cases hLL;exact ho.congr (a':=a) rfl|>fun ho=>by
          obtain⟨g1,g2,g3,g4,g5⟩:=ho;exact⟨g1,g2,g3,g4,g5⟩
 . intro p q o o' I J hp hq hI hJ hc hc' e;have hI':=hback p I hI hc;have hJ':=hback q J hJ hc';obtain⟨o1,g1⟩:=hlive p o I hp hI';obtain⟨o2,g2⟩:=hlive q o' J hq hJ';exact H.inj p q o1 o2 I J g1 g2 hI' hJ' hc hc' e
 . intro p o I hp hI hc;have hI':=hback p I hI hc;obtain⟨o1,g1⟩:=hlive p o I hp hI';exact H.dj p o1 I g1 hI' hc
 . grind
 . intro sv v hsv;have hlt:=hsv.low hC0;have h3:=hT.val _ _ hsv;rw[zC _ _ base hlt hnow]at h3;rw[zC _ _ base hlt hlog];exact hval h3 (hsv.low (fun p I hI=>A2 (hC0 p I hI) hbn))
 . intro p o I hp hI hc hn;have hpb:=hb0 p o hp;have hn':p∉gF s.log:=by
     have :∀(l:List Ev),(∀e∈l,base<=e.id)->p∉gF l:=by
       intro l;induction l with
       |nil=>intro _ h;cases h
       |cons e l ih=>
        intro he hm;have h1:=he e Aj
        cases e<;>simp only[gF,Ev.id]at hm h1
        . rcases As.1 hm with rfl|hm
          . omega
          . exact ih (fun e' h'=>he e' (Au _ h')) hm
        . rcases As.1 hm with rfl|hm
          . omega
          . exact ih (fun e' h'=>he e' (Au _ h')) hm
        . exact ih (fun e' h'=>he e' (Au _ h')) hm
     exact this _ hnow
   obtain⟨g1,g2⟩:=hK p o I hp hI hc hn';refine⟨g1,?_⟩;rcases g2 with⟨o',q1,q2⟩|g2
   . have:=Aq.1 hst p (List.mem_range.2 hpb);rw[q1]at this
     cases hz:eh.get p with
     |none=>rw[hz]at this;cases this
     |some o2=>exact .inl ⟨o2,rfl,hρ p I (by omega) q2⟩
   . exact .inr g2
theorem Lq (pr:eR P tab) (htab:cfg.tab=tab) (hcon:∀g C,cfg.fH g=some C->bX P tab g C) (hdraw:∀rec,kP P tab rec->vl P tab cfg rec):∀(n:Nat),kP P tab (wp cfg n)/\ ∀(fn:FuncId) (nt base:Nat) (todo:List cZ) (s:St) (Q:SV->St->Prop) (C0:Cx) (h0:SH) (a0:AH),(∀p I,C0.ρ p=some I->p<base)->(∀p o,h0.get p=some o->p<base)->∀(fr:ae) (a:AH),
  wp cfg n ⟨fn,nt,base,todo,s⟩ Q->fq fr fn nt->
  TS (fun gr b k'=>∀(ts:Fr) (h:SH) (log:List Ev) (fr:ae) (a:AH),gr ts h log->fr.todo= .inLoop b::k'->fq fr fn nt->SI tab C0 h0 a0 fr.tmps a ⟨ts,h,log⟩->dm P {fr,cs:=[],h:=a} (ft tab C0 h0 a0 Q)) todo fr.todo->
  SI tab C0 h0 a0 fr.tmps a s->dm P {fr,cs:=[],h:=a} (ft tab C0 h0 a0 Q):=by
 intro n;induction n with
 |zero=>exact⟨fun f fn body args h a C avs Q _ _ h'=>h'.elim,fun fn nt base todo s Q C0 h0 a0 _ _ fr a h=>h.elim⟩
 | succ n ihn=>
  obtain ⟨ihrec,ih⟩:=ihn;have walk:∀(fn:FuncId) (nt base:Nat) (todo:List cZ) (s:St) (Q:SV->St->Prop) (C0:Cx) (h0:SH) (a0:AH),(∀p I,C0.ρ p=some I->p<base)->(∀p o,h0.get p=some o->p<base)->∀(fr:ae) (a:AH),
     wp cfg (n+1) ⟨fn,nt,base,todo,s⟩ Q->fq fr fn nt->
     TS (fun gr b k'=>∀(ts:Fr) (h:SH) (log:List Ev) (fr:ae) (a:AH),gr ts h log->fr.todo= .inLoop b::k'->fq fr fn nt->SI tab C0 h0 a0 fr.tmps a ⟨ts,h,log⟩->dm P {fr,cs:=[],h:=a} (ft tab C0 h0 a0 Q)) todo fr.todo->
     SI tab C0 h0 a0 fr.tmps a s->dm P {fr,cs:=[],h:=a} (ft tab C0 h0 a0 Q):=by
    intro fn nt base todo s Q C0 h0 a0 hC0 hh0 fr a h hf hts hS;have gh:∀(k:List cZ) (k':List bm) (s':St),wp cfg n ⟨fn,nt,base,k,s'⟩ Q->(Am.step tab sub0 {fr,cs:=[],h:=a}= .ok (.next {fr:={fr with todo:=k'},cs:=[],h:=a}))->
      TS (fun gr b k'=>∀(ts:Fr) (h:SH) (log:List Ev) (fr:ae) (a:AH),gr ts h log->fr.todo= .inLoop b::k'->fq fr fn nt->SI tab C0 h0 a0 fr.tmps a ⟨ts,h,log⟩->dm P {fr,cs:=[],h:=a} (ft tab C0 h0 a0 Q)) k k'->
      SI tab C0 h0 a0 fr.tmps a s'->dm P {fr,cs:=[],h:=a} (ft tab C0 h0 a0 Q):=fun k k' s' hw hstep hk hS'=>dm.next pr hstep (ih fn nt base k s' Q C0 h0 a0 hC0 hh0 _ a hw (hf.todo fr.tmps k') hk hS')
    generalize htodo:fr.todo=todo' at hts
    simp only[wp]at h
    cases hts with
    |nil=>grind [Cv]
    |inBlock id hk=>exact gh _ _ s h (by simp only[Am.step,hf.mode,htodo]) hk hS
    |inScope b hk=>exact gh _ _ s h (by simp only[Am.step,hf.mode,htodo]) hk hS
    |inLoop b hk=>exact gh _ _ s h (by simp only[Am.step,hf.mode,htodo]) (.code b (.inLoop b hk)) hS
    |head gr b hk ho=>exact ho s.ts s.h s.log fr a h htodo hf hS
    | @inRegion k k' ops l hk=>
     cases l with
     |nil=>exact gh _ _ s h (by simp only[Am.step,hf.mode,htodo]) hk hS
     |cons i rest=>
      simp only at h;split at h
      . rename_i o ho;obtain⟨C,hF,H,hT,hG,hK⟩:=hS;obtain⟨b,s1,h1,hw,hF1,eh,el⟩:=uz h hF;have hfin:∀v,fr.finish v= .ok {fr with tmps:=fr.put o.dst v,todo:= .inRegion ops rest::k'}:=by
          grind [ae.finish]
        have hput:∀(v:AV),fr.put o.dst v=eF nt fr.tmps o.dst v:=by
          intro v;unfold ae.put eF;rw[hf.nt]
          cases o.dst<;>rfl
        have H1:HS tab C s1.h a:=by rw[eh];exact H
        have hT1:Tr C0 s1.log C:=by rw[el];exact hT
        have hK1:cw C0 h0 a0 s1.log C s1.h a:=by rw[el,eh];exact hK
        cases b with
        | false=>
          simp only[A6]at h1;obtain⟨s2,k1,k2,k3,k4⟩:=nW (v:= .bg []) h1 hF1 (.pure (.bg rfl (fun i c v hc=>by grind)));refine dm.next pr (m':={fr:={fr with tmps:=fr.put o.dst (.bg []),todo:= .inRegion ops rest::k'},cs:=[],h:=a}) (by
           simp only[Am.step,hf.mode,htodo,ho];rw[rb hw];simp only[Ar,AE];rw[rb (hfin _),hf.mode]) (ih fn nt base _ s2 Q C0 h0 a0 hC0 hh0 _ a k1 (hf.todo _ _) (.inRegion ops rest hk) ⟨C,?_,by rw[k3];exact H1,by rw[k4];omega,hG,by rw[k3,k4];omega⟩)
          grind
        | true=>
          refine ML pr hf.mode htodo ho hw (zo htab ihrec hcon h1 hF1 H1) (fun v=>⟨_,hfin v⟩) ?_;rintro v a1 ⟨sv,s2,k1,k2⟩ fr' hfr;rw[hfin v]at hfr
          cases hfr;obtain⟨C',q1,q2,q3,q4,q5,q6⟩:=SI.res H1 hT1 hG hK1 k2;obtain⟨s3,r1,r2,r3,r4⟩:=nW k1 q2 q1;refine ih fn nt base _ s3 Q C0 h0 a0 hC0 hh0 _ a1 r1 (hf.todo _ _) (.inRegion ops rest hk) ⟨C',?_,by rw[r3];exact q3,by rw[r4];exact q4,q5,by rw[r3,r4];exact q6⟩;grind
      grind
    | @code k k' c hk=>
     cases c with
     |skip=>exact gh _ _ s h (by simp only[Am.step,hf.mode,htodo]) hk hS
     |label l=>exact gh _ _ s h (by simp only[Am.step,hf.mode,htodo]) hk hS
     |ret=>grind [Cv]
     |seq x y=>exact gh _ _ s h (by simp only[Am.step,hf.mode,htodo]) (.code x (.code y hk)) hS
     |block id b=>exact gh _ _ s h (by simp only[Am.step,hf.mode,htodo]) (.code b (.inBlock id hk)) hS
     |scope b=>exact gh _ _ s h (by simp only[Am.step,hf.mode,htodo]) (.code b (.inScope b hk)) hS
     |exit id=>
      simp only at h;split at h
      . rename_i k1 hk1;obtain⟨k1',g1,g2⟩:=hk.exit hk1;exact gh _ _ s h (by simp only[Am.step,hf.mode,htodo,g1]) g2 hS
      grind
     |cond x y z=>
      simp only at h;split at h
      . rename_i p hp;obtain⟨C,hF,H,hT,hG,hK⟩:=hS;obtain⟨v,g1,g2⟩:=iD hF hp;rw[lB g2]at g1;rcases sr h with⟨rfl,h⟩|⟨rfl,h⟩
        . obtain⟨f1,f2,f3⟩:=Ck hF hp;exact gh _ _ _ h (by simp only[Am.step,hf.mode,htodo];rw[rb g1]) (.code y hk) ⟨C,f1,by rw[f2];exact H,by rw[f3];exact hT,hG,by rw[f2,f3];exact hK⟩
        . obtain⟨f1,f2,f3⟩:=Ck hF hp;exact gh _ _ _ h (by simp only[Am.step,hf.mode,htodo];rw[rb g1]) (.code z hk) ⟨C,f1,by rw[f2];exact H,by rw[f3];exact hT,hG,by rw[f2,f3];exact hK⟩
      grind
     |region id ops d=>
      cases d with
      |false=>exact gh _ _ s h (by simp only[Am.step,hf.mode,htodo]) (.inRegion ops _ hk) hS
      | true=>
        obtain⟨hlt,h⟩:=bZ h;obtain⟨C,hF,H,hT,hG,hK⟩:=hS;rw[<-hf.nt]at h;have hd:=hdraw (wp cfg n) ihrec ops fr.nt _ s _ fr.tmps a C h hF H;refine Mr pr hf.mode htodo hlt (n:=ops.size+1) (dZ.mono ?_ _ _ hd);rintro sF ⟨s',C',new,k1,k2,k3,k4,k5,k6,k7⟩;rw[hf.nt]at k1;exact ih fn nt base _ s' Q C0 h0 a0 hC0 hh0 _ sF.h k1 (hf.todo _ _) hk ⟨C',k5,k4,by rw[k2];exact hT.trans k3,hG.trans k6,by rw[k2];exact hK.trans k7 k3.fz H.fz k4.fz⟩
     |loop b=>
      simp only at h;split at h
      . exact gh _ _ s h (by simp only[Am.step,hf.mode,htodo]) (.code b (.inLoop b hk)) hS
      . obtain⟨A,h⟩:=Jv h;have hS:=hS.dM (iO s.ts A.dM);have h:(∃x:A.α,A.ok x/\gA (cL A s).ts (cL A s).h (A.at (cL A s) x).2 (A.at (cL A s) x).1/\iN cfg.tab (cL A s).h (A.at (cL A s) x).2/\ck (stay base (cL A s).h (A.at (cL A s) x).2) True)/\
           ∀x:A.α,A.ok x->ck ((cL A s).log.all (fun e=>Nat.ble base e.id)&&(low (A.at (cL A s) x).1 (A.at (cL A s) x).2&&Nat.ble base (A.at (cL A s) x).2.next)) (wp cfg n ⟨fn,nt,base, .code b:: .head (vV cfg A (cL A s) base x)::k,⟨(A.at (cL A s) x).1,(A.at (cL A s) x).2,(cL A s).log⟩⟩ Q):=h
        have hS:SI tab C0 h0 a0 fr.tmps a (cL A s):=hS;generalize cL A s=s at h hS
        obtain⟨⟨x0,hx0,hf1,hf2,hf3⟩,hall⟩:=h;have hrest:∀x,A.ok x->(∀e∈s.log,base<=e.id)/\low (A.at s x).1 (A.at s x).2=true/\base<=(A.at s x).2.next/\wp cfg n ⟨fn,nt,base, .code b:: .head (vV cfg A s base x)::k,⟨(A.at s x).1,(A.at s x).2,s.log⟩⟩ Q:=by
          intro x hx;obtain⟨g1,g2⟩:=bZ (hall x hx);simp_all
        have loop:∀(m:Nat) (x:A.α),A.μ x=m->A.ok x->∀(fr2:ae) (a2:AH),fr2.todo= .code b:: .inLoop b::k'->fq fr2 fn nt->SI tab C0 h0 a0 fr2.tmps a2 ⟨(A.at s x).1,(A.at s x).2,s.log⟩->dm P {fr:=fr2,cs:=[],h:=a2} (ft tab C0 h0 a0 Q):=by
          intro m;induction m using Nat.strongRecOn with
          |_ m ihm=>
           intro x hm hx fr2 a2 ht2 hf2 hS2;obtain⟨_,_,_,hw⟩:=hrest x hx;refine ih fn nt base _ _ Q C0 h0 a0 hC0 hh0 fr2 a2 hw hf2 ?_ hS2;rw[ht2];refine .code b (.head _ b hk ?_);intro ts hh log fr3 a3 hchk ht3 hf3 hS3;have hS3:=hS3.dM (iO ts A.dM);have hchk:ck ((cL A ⟨ts,hh,log⟩).log.all fun e=>Nat.ble base e.id) (∃y:A.α,A.ok y/\A.μ y<A.μ x/\gA (cL A ⟨ts,hh,log⟩).ts (cL A ⟨ts,hh,log⟩).h (A.at s y).2 (A.at s y).1/\iN cfg.tab (cL A ⟨ts,hh,log⟩).h (A.at s y).2/\ck (stay base (cL A ⟨ts,hh,log⟩).h (A.at s y).2) True):=hchk;have hS3:SI tab C0 h0 a0 fr3.tmps a3 (cL A ⟨ts,hh,log⟩):=hS3;generalize cL A ⟨ts,hh,log⟩=s3 at hchk hS3
           obtain⟨hcov,y,hy,hμ,q1,q2,q3⟩:=bZ hchk;obtain⟨l0,l1,l2,_⟩:=hrest y hy;obtain⟨C,hF,H,hT,hG,hK⟩:=hS3;have hpre:(∀e∈s3.log,base<=e.id)/\ ∀e∈s.log,base<=e.id:=⟨fun e he=>Ag (Aq.1 hcov e he),l0⟩;have hSy:=CM htab hC0 (s:=s3) hpre hF H hT hG hK hh0 q1 q2 l1 l2 (bZ q3).1;refine dm.next pr (m':={fr:={fr3 with todo:= .code b:: .inLoop b::k'},cs:=[],h:=a3}) (by simp only[Am.step,hf3.mode,ht3]) ?_;exact ihm (A.μ y) (by omega) y rfl hy _ a3 rfl (hf3.todo fr3.tmps _) hSy
        obtain⟨l0,l1,l2,_⟩:=hrest x0 hx0;obtain⟨C,hF,H,hT,hG,hK⟩:=hS;have hS0:=CM htab hC0 (log:=s.log) ⟨l0,l0⟩ hF H hT hG hK hh0 hf1 hf2 l1 l2 (bZ hf3).1;refine dm.next pr (m':={fr:={fr with todo:= .code b:: .inLoop b::k'},cs:=[],h:=a}) (by simp only[Am.step,hf.mode,htodo]) ?_;exact loop _ x0 rfl hx0 _ a rfl (hf.todo fr.tmps _) hS0
     |_=>exact h.elim
  refine⟨?_,walk⟩;intro f fn body args h a C avs Q hfn hb hw H hs;refine walk f _ h.next _ _ Q C h a H.lt (fun p o hp=>?_) _ a hw ⟨rfl,?_,rfl,rfl,rfl,rfl⟩ (.code body .nil) ⟨C,?_,H,Tr.refl C,Grow.refl a,cw.same _ _ _ _⟩
  . obtain⟨I,hI,_⟩:=H.obj p o hp;exact H.lt p I hI
  . simp only[ae.enter];rw[hs.1]
  . have hlook:∀(l:List SV) (k t:Nat),look (Fr.of l k) t=if k<=t then l[t - k]? else none:=by
     intro l;induction l with
     |nil=>grind [Fr.of,look]
     |cons v l ih=>
      grind [Fr.of,gE]
    intro t q hq;rw[hlook]at hq;obtain⟨v,h1,h2⟩:=hs.get hq;grind [ae.enter,nw]
theorem JZ (pr:eR P tab) (htab:cfg.tab=tab) (hcon:∀g C,cfg.fH g=some C->bX P tab g C) (hdraw:∀rec,kP P tab rec->vl P tab cfg rec):∀n,kP P tab (wp cfg n):=fun n=>(Lq pr htab hcon hdraw n).1
end
end
section
universe u v
variable [Inhabited aL]
section
variable {tab:bc} {ta:T AV}
def Part (h0 h:AH):Prop:=∀i o,h0.get i=some o->h.get i=some o
theorem wZ {h0 h:AH} (hs:Part h0 h) {b:Nat} {r} (hp:gm h0 b= .ok r):gm h b= .ok r:=by
 unfold gm at hp⊢;split at hp
 . rename_i hg;rw[hs _ _ hg];exact hp
 grind
theorem FH {h0 h:AH} (hs:Part h0 h) {t b off:Nat} {r} (hp:Am.loadVar tab h0 t b off= .ok r):Am.loadVar tab h t b off= .ok r:=by
 grind [Am.loadVar,readN,ah,wZ]
theorem F8 {h0 h:AH} (hs:Part h0 h) {b:Nat} {c:ew} {r} (hp:capLow h0 b c= .ok r):capLow h b c= .ok r:=by
 cases c with
 |lit n=>exact hp
 |tail k=>
  grind [capLow,ah,wZ]
theorem Gg {h0 h h1:AH} (hs:Part h0 h) {t:TypeId} {x v:AV} {lo hi:Option Operand} (hp:fY tab ta h0 t x lo hi none= .ok (v,h1)):fY tab ta h t x lo hi none= .ok (v,h):=by
 unfold fY at hp⊢;obtain⟨d,hd,hp⟩:=ah.1 hp;rw[rb hd];split at hp
 . obtain⟨_,h1,hp⟩:=ah.1 hp;obtain⟨l,h2,hp⟩:=ah.1 hp;obtain⟨u,h3,hp⟩:=ah.1 hp;grind [ah]
 . obtain⟨_,h0,hp⟩:=ah.1 hp;obtain⟨l,h1,hp⟩:=ah.1 hp;obtain⟨u,h2,hp⟩:=ah.1 hp;obtain⟨m,h3,hp⟩:=ah.1 hp;obtain⟨_,h4,hp⟩:=ah.1 hp
   cases hp;rw[rb h0,rb h1,rb h2,rb h3,rb h4]
 . rename_i cap _;obtain⟨c,h0,hp⟩:=ah.1 hp;obtain⟨n,h1,hp⟩:=ah.1 hp;obtain⟨l,h2,hp⟩:=ah.1 hp;obtain⟨u,h3,hp⟩:=ah.1 hp;rw[rb (F8 hs h0),rb h1,rb h2,rb h3]
   cases cap with
   |lit m=>
    simp only at hp⊢;obtain⟨_,h4,hp⟩:=ah.1 hp
    cases hp;rw[rb h4]
   |tail k=>
    simp only at hp⊢;obtain⟨_,h4,hp⟩:=ah.1 hp;rw[rb h4]
    cases h5:Nat.beq l 0<;>rw[h5]at hp<;>simp only[BM,A6]at hp⊢
    . cases h6:Nat.blt l c<;>rw[h6]at hp<;>simp only[BM,A6]at hp⊢ <;>(cases hp;rfl)
    . cases hp;rfl
 . obtain⟨_,h0,hp⟩:=ah.1 hp;obtain⟨l,h1,hp⟩:=ah.1 hp;obtain⟨u,h2,hp⟩:=ah.1 hp;obtain⟨_,h4,hp⟩:=ah.1 hp
   cases hp;rw[rb h0,rb h1,rb h2,rb h4]
 . obtain⟨_,h0,hp⟩:=ah.1 hp;obtain⟨l,h1,hp⟩:=ah.1 hp;obtain⟨u,h2,hp⟩:=ah.1 hp;obtain⟨_,h4,hp⟩:=ah.1 hp
   cases hp;rw[rb h0,rb h1,rb h2,rb h4]
 . cases hp
theorem HQ {h0 h:AH} (hs:Part h0 h) {t:TypeId} {x y:AV} {r} (hp:eqOp tab h0 t x y= .ok r):eqOp tab h t x y= .ok r:=by
 unfold eqOp at hp⊢;split at hp
 . obtain⟨d,hd,hp⟩:=ah.1 hp;rw[rb hd];split at hp
   . obtain⟨n,h1,hp⟩:=ah.1 hp;obtain⟨_,h2,hp⟩:=ah.1 hp;rw[rb h1,rb h2];split at hp
     . grind
     . rename_i hc;simp only[hc];split at hp
       . rename_i g1 g2;rw[hs _ _ g1,hs _ _ g2];exact hp
       grind
   omega
 all_goals omega
theorem GQ {h0 h:AH} (hs:Part h0 h) {op:BinOp} {t:TypeId} {x y:AV} {r} (hp:Am.binOp tab h0 op t x y= .ok r):Am.binOp tab h op t x y= .ok r:=by
 unfold Am.binOp at hp⊢;grind [ah,HQ]
theorem G8 {h0 h:AH} (hs:Part h0 h) {u:TypeDesc} {x:AV} {r} (hp:lenOf h0 u x= .ok r):lenOf h u x= .ok r:=by
 unfold lenOf at hp⊢;split at hp
 . exact hp
 . exact hp
 . exact hp
 . exact hp
 . exact hp
 . exact hp
 . obtain⟨q,h1,hp⟩:=ah.1 hp;unfold il at h1⊢;split at h1
   . rename_i hg
     cases h1;simp only[hs _ _ hg];exact hp
   grind
 all_goals omega
theorem FW {h0 h h1:AH} (hs:Part h0 h) {ats:Array TypeId} {l:List AV} {b:Builtin} (hb:b= .len\/b= .min\/b= .max) {v:AV} (hp:Am.builtin tab b ats l h0= .ok (v,h1)):Am.builtin tab b ats l h= .ok (v,h):=by
 rcases hb with rfl|rfl|rfl
 . cases l with
   |nil=>cases hp
   | cons x l=>
    cases l with
    |cons y l=>cases hp
    |nil=>
     unfold Am.builtin at hp⊢;simp only at hp⊢;obtain⟨t,h1,hp⟩:=ah.1 hp;obtain⟨u,h2,hp⟩:=ah.1 hp;rw[rb h1,rb h2];split at hp
     . obtain⟨w,h3,hp⟩:=ah.1 hp;rw[rb h3];split at hp
       . cases hp;rfl
       . cases hp
     . obtain⟨n,h3,hp⟩:=ah.1 hp;rw[rb (G8 hs h3)]
       cases hp;rfl
 . cases l with
   |nil=>cases hp
   |cons x l=>
    cases x<;>first|(cases hp;done)|skip
    grind [Am.builtin,ah]
 . cases l with
   |nil=>cases hp
   |cons x l=>
    cases x<;>first|(cases hp;done)|skip
    grind [Am.builtin,ah]
def ph (op:Op):Bool:=
 match op with
 | .lookup .. | .entry _| .typeAssert .. =>false
 | .slice _ _ _ _ (some _)=>false
 | .call c=>match c.callee with| .builtin .cap=>false|_=>true
 |_=>true
theorem tX {o:Oper} (hc:cls tab o= .pure\/cls tab o= .read) (hlk:ph o.op=true)
  {h0 h h1:AH} (hs:Part h0 h) {v:AV} (hp:dB tab ta h0 o= .ok (v,h1)):dB tab ta h o= .ok (v,h):=by
 obtain⟨dst,op,type,pos,after,guard⟩:=o;unfold dB at hp⊢
 cases op<;>simp only[cls]at hc<;>simp only at hp⊢
 case slice t x lo hi mx=>
  cases mx with
  |some m=>cases hlk
  |none=>
   grind [ah,Gg]
 case load t a=>
  grind [ah,FH]
 case binOp op t x y e=>
  obtain⟨p,h1,hp⟩:=ah.1 hp;obtain⟨q,h2,hp⟩:=ah.1 hp;grind [ah,GQ]
 case convert src dst x=>
  grind [ah,zJ,xF]
 case lookup=>cases hlk
 case entry=>cases hlk
 case typeAssert=>cases hlk
 case call c=>
  cases hcc:c.callee with
  |builtin b=>
   rw[hcc]at hp hc;grind [ah,FW,ph]
  |value f=>rw[hcc]at hp;cases hp
  |invoke r m=>rw[hcc]at hp;cases hp
 all_goals first
  |(rcases hc with hc|hc<;>cases hc;done)
  |skip
 all_goals (repeat' first
  |(cases hp;done)
  |(cases hp;rfl)
  |(obtain⟨_,hx,hp⟩:=ah.1 hp;rw[rb hx];clear hx)
  |split at hp)
end
end
section
universe u v
variable [Inhabited aL]
section
variable {tab:bc} {view:TypeId->Option View} {C:Cx} {s:St} {ta:T AV} {a:AH} {h:SH}
def bH (C:Cx) (s:St) (a:AH) (K:SV->St->Prop) (r:R (AV×AH)):Prop:=∃sv v,K sv s/\r= .ok (v,a)/\az C sv v
theorem bH.same {K:SV->St->Prop} {sv:SV} {v:AV} (hv:az C sv v) (hk:K sv s):bH C s a K (.ok (v,a)):=⟨sv,v,hk,rfl,hv⟩
theorem bH.val {K:SV->St->Prop} {r:R AV} (h:ed C (fun v=>K v s) r):bH C s a K (do .ok (<-r,a)):=by
 obtain⟨sv,v,h1,h2,h3⟩:=h;rw[rb h1];grind [bH.same]
theorem Gy (hF:FS C s.ts ta) (H:HS tab C s.h a) {t:TypeId} {x:SV} {v:AV} (hv:az C x v) {lo hi:Option Operand} {K:SV->St->Prop} (hK:∀sv s1,K sv s1->s1.log=s.log) (h:vS tab s t x lo hi K):bH C s a K (fY tab ta a t v lo hi none):=by
 obtain⟨l,h1,hl⟩:=rL hF h;obtain⟨u,h2,hu⟩:=rL hF h1;clear h h1;have h:=h2;have o1:∀d:R Nat,dV ta d lo=gD l d:=fun d=>(hl d).1
 have o2:∀d:R Nat,dV ta d hi=gD u d:=fun d=>(hu d).1
 split at h
 . rename_i c hg;rw[fi hv];obtain⟨h1,h2,h3⟩:=oe h;unfold fY;rw[rb (show und tab t=_ from ro hg)];simp only;rw[rb (show R.check "slice: max" (none:Option Operand).isNone= .ok ()from rfl),rb (show dV ta (.ok 0) lo= .ok (l.getD 0)from by rw[o1];cases l<;>rfl),rb (show dV ta (.ok c.length) hi= .ok (u.getD c.length)from by rw[o2];cases u<;>rfl),
     rb (rc (by simp_all))]
   exact bH.same (.pure (.str _)) h3
 . rename_i e X L enc hg;split at h
   . rename_i n hn;obtain⟨hlen,h⟩:=h;obtain⟨h1,h2,h3⟩:=oe h;obtain⟨w,h4,h5⟩:=ry hg hn H.fz (hZ hv rfl) hlen o1 o2 h1 h2;rw[h4];exact bH.same (.pure h5) h3
   grind
 . rename_i e b hg;split at h
   . rename_i X L enc t' n hb hn;obtain⟨hlen,h⟩:=h;obtain⟨h1,h2,h3⟩:=oe h;obtain⟨C',e1,e2,e3,e4,e5,e6⟩:=iv hF H hb;obtain⟨w,h4,h5⟩:=ry hg hn e3.fz (e5 v hv) hlen o1 o2 h1 h2;have:=hK _ _ h3;rw[e1]at this;simp_all
   grind
 . rename_i e b off len cap hg;split at h
   . rename_i n hn;obtain⟨h1,h2⟩:=bZ h
     cases hv with
     |pure hv=>cases hv
     | sl hI=>
      unfold fY;rw[rb (show und tab t=_ from ro hg)];simp only;rw[rb (show capLow a _ (.lit cap)= .ok cap from rfl),rb (show siz tab e= .ok n from ro hn),rb (show dV ta (.ok 0) lo= .ok (l.getD 0)from by rw[o1];cases l<;>rfl),
       rb (show dV ta (.ok len) hi= .ok (u.getD len)from by rw[o2];cases u<;>rfl),
       rb (rc (by grind))]
      exact bH.same (.sl hI) h2
   grind
 grind
theorem tO (hF:FS C s.ts ta) (H:HS tab C s.h a) {b:Builtin} {ats:Array TypeId} {l:List SV} {vs:List AV} (hl:aJ C l vs) (hb:b= .len\/b= .min\/b= .max) {K:SV->St->Prop} (h:nO tab view s b ats l K):bH C s a K (Am.builtin tab b ats vs a):=by
 unfold nO at h;split at h
 ·
   rename_i x;have hv:∃v,vs=[v]/\az C x v:=by
    cases vs with
    |nil=>have:=hl.1;grind
    | cons v vs=>cases vs with
      |nil=>exact⟨v,rfl,hl.head.1⟩
      |cons=>have:=hl.1;grind
   obtain⟨v,rfl,hx⟩:=hv;unfold Am.builtin;simp only
   cases ht:ats[0]? with
   |none=>rw[ht]at h;grind
   |some t=>
    rw[ht]at h;rw[rb (ro rfl)];split at h
    . rename_i hg;split at h
      . rw[fi hx,rb (show und tab t=_ from ro hg)];exact bH.same (.pure (.int _ _)) h
      grind
    . rename_i e hg;obtain⟨n,h1,h2⟩:=cA h;rw[rb (show und tab t=_ from ro hg)];simp only;rw[rb (Cl H hx h1)];exact bH.same (.pure (.int _ _)) h2
    grind
 . rcases hb with hb|hb|hb<;>cases hb
 ·
   cases vs with
   |nil=>have:=hl.1;grind
   |cons v vs=>
    obtain⟨h1,h2⟩:=hl.head;rw[fR h1];obtain⟨sv,h3,h4⟩:=cA h;grind [Ca,Am.builtin,rb,bH.same]
 ·
   cases vs with
   |nil=>have:=hl.1;grind
   |cons v vs=>
    obtain⟨h1,h2⟩:=hl.head;rw[fR h1];obtain⟨sv,h3,h4⟩:=cA h;grind [Cm,Am.builtin,rb,bH.same]
 grind
theorem Jg (hF:FS C s.ts ta) (H:HS tab C s.h a) {o:Oper} (hc:cls tab o= .pure\/cls tab o= .read) {K:SV->St->Prop} (hK:∀sv s1,K sv s1->s1.log=s.log) (h:iG tab view s o K):ph o.op=true/\bH C s a K (dB tab ta a o):=by
 obtain⟨dst,op,type,pos,after,guard⟩:=o;unfold iG at h;unfold dB;have same1:∀{x:Operand} {K':SV->Prop},so (dP s.ts x) K'->∃sv v,ev ta x= .ok v/\az C sv v/\K' sv:=by
  intro x K' h;obtain⟨sv,h1,h2⟩:=cA h;obtain⟨v,h3,h4⟩:=iD hF h1;exact⟨sv,v,h3,h4,h2⟩
 cases op<;>simp only at h⊢ <;>simp only[cls,ph]at hc⊢
 case move x=>
  grind [de,bH.same]
 case assign x=>
  grind [de,bH.same]
 case pick c x y=>
  refine⟨trivial,?_⟩;split at h
  . rename_i p hc;obtain⟨v,h3,h4⟩:=iD hF hc;rw[lB h4]at h3;rw[de h3];split at h
    . rename_i p1 p2 hx hy;obtain⟨u,g1,g2⟩:=iD hF hx;obtain⟨w,g3,g4⟩:=iD hF hy;rw[lB g2]at g1;rw[lB g4]at g3
      cases p
      . simp only;rw[de g3];exact bH.same (.pure (.bool _)) h
      . simp only;rw[de g1];exact bH.same (.pure (.bool _)) h
    . rcases sr h with⟨rfl,h⟩|⟨rfl,h⟩
      . obtain⟨sv,v,h3,h4,h2⟩:=same1 h;simp only;rw[de h3];exact bH.same h4 h2
      . obtain⟨sv,v,h3,h4,h2⟩:=same1 h;simp only;rw[de h3];exact bH.same h4 h2
  . exact h.elim
 case build t ps=>
  refine⟨trivial,?_⟩;obtain⟨l,h1,h2⟩:=cA h;obtain⟨sv,h3,h4⟩:=cA h2;obtain⟨vs,g1,g2,g3⟩:=qO hF h1;obtain⟨v,g4,g5⟩:=yv g2 g3 h3;rw[rb g1,rb g4];exact bH.same g5 h4
 case load t x=>
  refine⟨trivial,?_⟩;obtain⟨sv,v,h3,h4,h2⟩:=same1 h;obtain⟨b,off,u,su,rfl,g1,g2,g3⟩:=uE H h4 h2;rw[de h3];simp only;rw[rb g1];exact bH.same g2 g3
 case nilCheck x=>
  refine⟨trivial,?_⟩;obtain⟨sv,v,h3,h4,h2⟩:=same1 h;rw[de h3];split at h2
  . cases h4 with
    |pure h=>cases h
    |ptr hI=>grind [bH.same]
  . cases h4 with
    |pure h=>cases h
    |bN hI hc=>grind [bH.same]
  . cases h4 with
    | pure h=>cases h with
      |ch b base ca e sz ext bk u hb hl h1 h2'=>grind [bH.same]
  . cases h4 with
    | pure h=>cases h with
      |fn h1 h2' h3' h4'=>grind [bH.same]
    |fn h1 h2' h3' h4'=>grind [bH.same]
  grind
 case binOp op t x y _=>
  grind [de,bH.val,zX]
 case unOp op _ x=>
  grind [de,bH.val,Cw]
 case makeFunc fn first captured=>
  refine⟨trivial,?_⟩;split at h
  . obtain⟨xs,h1,h2⟩:=cA h;obtain⟨ys,h3,h4⟩:=cA h2;obtain⟨us,g1,g2⟩:=mr hF h1;obtain⟨vs,g3,g4⟩:=mr hF h3;simp only;rw[rb g1,rb g3];exact bH.same (.fn g2.1 g4.1 g2.2 g4.2) h4
  grind
 case fieldAddr st x f=>
  refine⟨trivial,?_⟩;obtain⟨fd,h1,h2⟩:=cA h;obtain⟨hck,h3⟩:=bZ h2;obtain⟨sv,v,h4,h5,h6⟩:=same1 h3;rw[rb (qU h1)];split at hck
  . rename_i n hn;rw[rb (show siz tab fd.type=_ from ro hn),rb (rc hck),de h4];split at h6
    . cases h5 with
      |pure h=>cases h
      |ptr hI=>exact bH.same (.ptr hI) h6
    . cases h5 with
      |pure h=>cases h
      |bN hI hc=>simp only[BC];exact bH.same (.bN hI hc) h6
    . cases h5 with
      | pure h=>cases h with
        |ch b base ca e sz ext bk u hb hl h1 h2'=>simp only[BC];exact bH.same (.pure (.ch b base ca e sz ext bk u hb hl h1 h2')) h6
    grind
  grind
 case field t x f=>
  refine⟨trivial,?_⟩;obtain⟨fd,h1,h2⟩:=cA h;obtain⟨sv,v,h4,h5,h6⟩:=same1 h2;rw[rb (qU h1),de h4];grind [jR,cA,pJ,rb,bH.same]
 case indexAddr t x ix=>
  refine⟨trivial,?_⟩;obtain⟨sj,vj,h1,h2,h3⟩:=same1 h;obtain⟨i,h4,h5⟩:=pV h3 h2;obtain⟨sv,v,h6,h7,h8⟩:=same1 h5;rw[de h1,rb h4];split at h8
  . rename_i len e b off hg;split at h8
    . rename_i n hn;obtain⟨g1,g2⟩:=bZ h8;rw[rb (show und tab t=_ from ro hg),de h6]
      cases h7 with
      |pure h=>cases h
      |ptr hI=>simp only;rw[rb (rc g1),rb (show siz tab e=_ from ro hn)];exact bH.same (.ptr hI) g2
    grind
  . rename_i e b off len cap hg;split at h8
    . rename_i n hn;obtain⟨g1,g2⟩:=bZ h8;rw[rb (show und tab t=_ from ro hg),de h6]
      cases h7 with
      |pure h=>cases h
      |sl hI=>simp only;rw[rb (rc g1),rb (show siz tab e=_ from ro hn)];exact bH.same (.ptr hI) g2
    grind
  . rename_i e X L enc hg;split at h8
    . rename_i n hn;obtain⟨x,g1,g2⟩:=cA h8;obtain⟨g2,g3⟩:=bZ g2;have g2:=Ab g2;have hi:=(Ao.1 g1).1;obtain⟨b,off,cap,cs,e',sz,ext,bk,rfl,hb,hs,hl,hsz,hc,hcell⟩:=sa (hZ h7 rfl) (by grind);obtain⟨sz0,ext0,hb,hx0⟩:=hb;have hszn:sz=n:=by rw[<-hsz i x g1];exact g2
      subst hszn;rw[rb (show und tab t=_ from ro hg),de h6];simp only;rw[rb (rc (by simp_all)),rb (show siz tab e=_ from ro hn)];refine bH.same (.pure ?_) g3;refine .ch b (off+i*sz) cs e' sz0 ext0 bk (fun j=>(cs[off+i*sz+j]?).getD (.bg [])) hb ?_ ?_ ?_
      . rw[g2];have:i*sz+sz<=L.length*sz:=by
         calc i*sz+sz=(i+1)*sz:=by rw[A1,BX]
          _<=L.length*sz:=AX _ hi
        omega
      all_goals grind
    grind
  . rename_i e b hg;split at h8
    . rename_i n X L enc e' hn hb;obtain⟨g1,g2⟩:=bZ h8;simp only[Ad]at g1;have hee:=Ab g1.1;subst hee;have hi:i<L.length:=by simp_all
      rw[rb (show und tab t=_ from ro hg),de h6]
      cases h7 with
      |pure h=>cases h
      | dh hI hc=>
        obtain⟨_,_,_,_,k5⟩:=H.at_ hb hI;rw[hc]at k5;omega
      | own hI hc=>
        rename_i I c;obtain⟨k1,k2,k3,_,k5⟩:=H.at_ hb hI;have hsz:I.sz=n:=by rw[hn]at k1;exact(Bi k1).symm
        simp only;rw[rb (rc (by rw[k3];simpa using hi)),rb (show siz tab e=_ from ro hn)];have hh:az C (.bN b i 0) (.ptr I.β (i*I.sz+0)):= .bN hI (by grind);rw[hsz,BO]at hh;rw[Bk];grind [bH.same]
    grind
  grind
 case index t x ix=>
  refine⟨trivial,?_⟩;obtain⟨sj,vj,h1,h2,h3⟩:=same1 h;obtain⟨i,h4,h5⟩:=pV h3 h2;obtain⟨sv,v,h6,h7,h8⟩:=same1 h5;rw[de h1,rb h4];split at h8
  . rename_i len e cs hg;split at h8
    . rename_i n hn;obtain⟨g1,g2⟩:=bZ h8;obtain⟨su,g3,g4⟩:=cA g2;obtain⟨us,rfl,g5⟩:=jR h7;obtain⟨u,g6,g7⟩:=pJ g5 g3;rw[rb (show und tab t=_ from ro hg),de h6];simp only;rw[rb (rc g1),rb (show siz tab e=_ from ro hn),rb g6];grind [bH.same]
    grind
  . rename_i c hg;obtain⟨b,g1,g2⟩:=cA h8;rw[rb (show und tab t=_ from ro hg),de h6,fi h7];simp only;rw[rb (ro g1)];exact bH.same (.pure (.int _ _)) g2
  grind
 case extract t i=>
  refine⟨trivial,?_⟩;obtain⟨sv,v,h6,h7,h8⟩:=same1 h;rw[de h6];split at h8
  . obtain⟨us,rfl,g5⟩:=rY h7;obtain⟨su,g3,g4⟩:=cA h8;obtain⟨u,g6,g7⟩:=g5.get g3;simp only;rw[rb (ro g6)];grind [bH.same]
  grind
 case slice t x lo hi mx=>
  cases mx with
  |some m=>exact h.elim
  | none=>
    refine⟨rfl,?_⟩;obtain⟨sv,v,h3,h4,h2⟩:=same1 h;rw[de h3];exact Gy hF H h4 hK h2
 case call c=>
  split at h
  . rename_i b hb;obtain⟨l,h1,h2⟩:=cA h;obtain⟨vs,g1,g2⟩:=mr hF h1;rw[hb]at hc⊢;simp only at hc⊢;rw[rb g1]
    cases b<;>simp only at hc⊢ <;>first|(rcases hc with hc|hc<;>cases hc;done)|skip
    case len=>exact⟨trivial,tO hF H g2 (.inl rfl) h2⟩
    case min=>exact⟨trivial,tO hF H g2 (.inr (.inl rfl)) h2⟩
    case max=>exact⟨trivial,tO hF H g2 (.inr (.inr rfl)) h2⟩
    case cap=>unfold nO at h2;exact h2.elim
  . exact h.elim
 case convert src dst x=>
  refine⟨trivial,?_⟩;obtain⟨k0,j0,e1,e2⟩:=Im hc;obtain⟨sv,v,h3,h4,h2⟩:=same1 h;rw[de h3];unfold sg at h2;split at h2
  . rename_i d k i n hs hd;rw[e2]at hd
    cases hd;rw[fR h4,xF e1 e2];exact bH.same (.pure (.int _ _)) h2
  all_goals first
    |exact h2.elim
    |(rename_i hd;rw[e2]at hd;cases hd;done)
 all_goals first|exact h.elim|(rcases hc with hc|hc<;>cases hc)
end
end
section
universe u v
variable [Inhabited aL]
section
variable {tab:bc} {view:TypeId->Option View} {C:Cx} {s:St} {ta:T AV} {a:AH}
def Made (tab:bc) (C:Cx) (s:St) (a:AH) (K:SV->St->Prop) (r:AH->R (AV×AH)):Prop:=
 ∃sv v so ao I,K sv (s.new so)/\(∀h':AH,h'.next=a.next->r h'= .ok (v,h'.new ao))/\I.β=a.next/\I.cap.isSome/\(∀C',C.le C'->C'.ρ s.h.next=some I->az C' sv v)/\ ∀(C':Cx) (a':AH),C.le C'->a'.get a.next=some ao->da tab C' I so a'
theorem Made.cells {cs:List SV} {ca:List AV} (hc:aJ C cs ca) {e n:Nat} (hn:tab.siz.get e=some n) {K:SV->St->Prop} {sv:SV} {f:Nat->AV} (hv:∀C':Cx,∀I:BI,C'.ρ s.h.next=some I->az C' sv (f I.β)) (hk:K sv (s.new (.cells cs e))) {r:AH->R (AV×AH)}
  (hr:∀h':AH,h'.next=a.next->r h'= .ok (f h'.next,h'.new (.cells ca e n false .rw))):Made tab C s a K r:=by
 refine⟨sv,f a.next, .cells cs e, .cells ca e n false .rw,⟨a.next,0,n,some (.lit 0)⟩,hk,fun h' hh=>by rw[hr h' hh,hh],rfl,rfl,fun C' _ hI=>hv C' _ hI,fun C' a' hle hg=>⟨rfl,ca,n,hg,hc.le hle,hn⟩⟩
theorem Jh (hF:FS C s.ts ta) {o:Oper} (hc:cls tab o= .alloc) {K:SV->St->Prop} (h:iG tab view s o K):Made tab C s a K fun h'=>dB tab ta h' o:=by
 obtain⟨dst,op,type,pos,after,guard⟩:=o;unfold iG at h;unfold dB;have same1:∀{x:Operand} {K':SV->Prop},so (dP s.ts x) K'->∃sv v,ev ta x= .ok v/\az C sv v/\K' sv:=by
  intro x K' h;obtain⟨sv,h1,h2⟩:=cA h;grind [iD]
 cases op<;>simp only at h⊢ <;>simp only[cls]at hc
 case alloc e=>
  obtain⟨n,hn,h⟩:=cA h;obtain⟨cs,h1,h2⟩:=cA h;obtain⟨zv,zc,g1,g2,g3⟩:=mn (C:=C) h1;exact Made.cells (f:=fun b=> .ptr b 0) g3 hn (fun C' I hI=> .ptr hI) h2 (fun h' _=>by rw[rb g1,rb g2,rb (fo hn _ _ _)])
 case box e x=>
  obtain⟨n,hn,h⟩:=cA h;obtain⟨sv,v,h3,h4,h2⟩:=same1 h;obtain⟨hk,h2⟩:=bZ h2;obtain⟨l,g1,g2⟩:=qQ h4 hk;exact Made.cells (f:=fun b=> .ptr b 0) g2 hn (fun C' I hI=> .ptr hI) h2 (fun h' _=>by rw[de h3,rb g1,rb (fo hn _ _ _)])
 case buildSlice t len ps=>
  obtain⟨l,h1,h2⟩:=cA h;obtain⟨vs,g1,g2,g3⟩:=qO hF h1;have:(fun h'=>(do let l<-iz ta ps.toList;Am.buildSlice tab h' t len l))=fun h'=>Am.buildSlice tab h' t len vs:=by
    funext h';rw[rb g1]
  rw[this];have h:=h2;clear h2;unfold qL at h;split at h
  . rename_i e hg;split at h
    . rename_i n z hn hz;obtain⟨hck,h1⟩:=bZ h;obtain⟨zv,zc,q1,q2,q3⟩:=mn (C:=C) hz;have hzl:(Nat.beq zc.length n)=true:=by rw[<-q3.1];grind
      have hb:∀(h':AH) (ca:List AV),fill (rep len zc) (vs.map fun(i,v)=>(i*n,n,v))= .ok ca->Am.buildSlice tab h' t len vs= .ok (.sl h'.next 0 len (.lit len),h'.new (.cells ca e n false .rw)):=by
        simp_all[Am.buildSlice,rb,und,ro,siz,rc,fo]
      by_cases hl0:len=0
      . subst hl0;obtain⟨hck2,h2⟩:=bZ h1;simp only[Ad,List.isEmpty_iff,AG]at hck2;obtain⟨rfl,hn0⟩:=hck2;have hn0:n≠0:=fun e=>by simp_all
        cases vs with
        |cons=>grind
        |nil=>
         split at h2
         . refine⟨_, .sl a.next 0 0 (.lit 0),_, .cells [] e n false .rw,⟨a.next,0,n,some (.lit 0)⟩,h2,fun h' hh=>(hb h' [] rfl).trans (by rw[hh]),rfl,rfl,fun C' _ hI=> .own hI rfl,fun C' a' hle hg=>⟨hn,by grind,rfl,fun i x hx=>by grind,[],false, .rw,hg,by simp,by simp, .inr ⟨rfl,rfl⟩,fun i x j v hx=>by grind⟩⟩
         grind
      . rw[eu hl0]at h1;obtain⟨cs,h2,hk⟩:=cA h1;obtain⟨ca,h3,h4⟩:=ri (qs:=vs.map fun x=>(x.1*n,n,x.2)) (Ch q3 len) (by
         have:=Az (List.map (fun i=>(i*n,n))) g2;grind [Function.comp_def]) (by grind [Function.comp_def]) h2
        exact Made.cells (f:=fun b=> .sl b 0 len (.lit len)) h4 hn (fun C' I hI=> .sl hI) hk (fun h' _=>hb h' ca h3)
    grind
  grind
 all_goals grind
end
end
section
universe u v
variable [Inhabited aL]
theorem qW:∀(l:List (Nat×Nat)) (h:SH) (p:Nat),(kN h l).get p=if ∃x∈l,x.2=p then none else h.get p:=by
 intro l;induction l with
 |nil=>grind [kN]
 |cons x l ih=>
  intro h p;obtain⟨i,b⟩:=x;simp only[kN,ih,SH.aO];by_cases h1:∃x∈l,x.2=p
  . rw[Ai h1,Ai];grind
  . rw[Ah h1];by_cases h2:p=b
    . rw[Ai h2,Ai ⟨(i,b),Aj,h2.symm⟩]
    grind
theorem GK:∀(l:List (Nat×Nat)) (h:SH),(kN h l).next=h.next:=by
 intro l;induction l with
 |nil=>intro h;rfl
 |cons x l ih=>grind [kN,SH.dg]
theorem mh (h0:SH) (log:List Ev):∀(l:List (Nat×Nat)) (h:SH) (p:Nat),(ik h h0 log l).get p=if ∃x∈l,x.2=p then fK (h0.get p) log else h.get p:=by
 intro l;induction l with
 |nil=>grind [ik]
 |cons x l ih=>
  intro h p;obtain⟨i,b⟩:=x;simp only[ik,ih,SH.aO];by_cases h1:∃x∈l,x.2=p
  . rw[Ai h1,Ai];grind
  . rw[Ah h1];by_cases h2:p=b
    . rw[Ai h2,Ai ⟨(i,b),Aj,h2.symm⟩,h2]
    grind
theorem GP (h0:SH) (log:List Ev):∀(l:List (Nat×Nat)) (h:SH),(ik h h0 log l).next=h.next:=by
 intro l;induction l with
 |nil=>intro h;rfl
 |cons x l ih=>grind [ik,SH.dg]
theorem yA (h:SH) (n:Nat):∀(l:List Nat) (p:Nat),(SH.mk n (lO h l)).get p=if p∈l then h.get p else none:=by
 intro l;induction l with
 |nil=>grind [lO,SH.get,look]
 |cons b l ih=>
  grind [SH.get,lO,gE]
open Classical in
theorem tl {a:AH} (hwf:∀i o,a.get i=some o->i<a.next) (P:Nat->Prop):∃a0:AH,a0.next=a.next/\ ∀i,a0.get i=if P i then a.get i else none:=by
 refine⟨fl a (((List.range a.next).filter fun i=>decide (¬P i)).map fun i=>(0,i)),fQ _ _,fun i=>?_⟩;rw[fm];by_cases hP:P i
 . rw[Ai hP,Ah];grind
 . rw[Ah hP];split
   . rfl
   . cases hg:a.get i with
     |none=>rfl
     |some o=>simp_all
section
variable {tab:bc} {C C':Cx} {h h0:SH} {a a0:AH}
theorem HS.part (H:HS tab C h a) (hn:h0.next=h.next) (hh:∀p o,h0.get p=some o->h.get p=some o) (hp:Part a0 a) (hn0:a0.next=a.next) (hf:∀i o,C.Fz i=some o->a0.get i=some o)
   (hb:∀p o I,h0.get p=some o->C.ρ p=some I->I.cap.isSome->a0.get I.β=a.get I.β):HS tab C h0 a0:=by
 refine⟨fun p o hp=>?_,fun p q o o' I J hp hq=>H.inj p q o o' I J (hh p o hp) (hh q o' hq),hf,fun p o I hp=>H.dj p o I (hh p o hp),fun p I hI=>by rw[hn];exact H.lt p I hI,fun i o hi=>by rw[hn0];exact H.wf i o (hp i o hi)⟩;obtain⟨I,hI,ho⟩:=H.obj p o (hh p o hp);refine⟨I,hI,?_⟩;by_cases hc:I.cap.isSome
 . exact ho.congr (hb p o I hp hI hc)
 . cases o with
   |cells cs t=>exact absurd ho.1 hc
   |arr X L enc t=>
    obtain⟨g1,g2,g3,g4,g5⟩:=ho;refine⟨g1,g2,g3,g4,?_⟩;grind
end
theorem JQ:∀{l:List AV},(∀(i:Nat) v,l[i]? =some v->AV.beq v v=true)->eU l l=true:=by
 intro l;induction l with
 |nil=>intro _;rfl
 |cons v l ih=>intro h;simp only[eU,Ad];exact⟨h 0 v rfl,ih fun i w hw=>h (i+1) w (by grind)⟩
theorem HY:∀{l:List SV},gq l=true->∀(i:Nat) (s:SV),l[i]? =some s->s.full=true:=by
 intro l;induction l with
 |nil=>grind
 |cons v l ih=>
  grind [gq]
theorem nN {l:List SV} {m:List AV} (hl:l.length=m.length) (hf:gq l=true) (h:∀(i:Nat) s v,l[i]? =some s->m[i]? =some v->s.full=true->AV.beq v v=true):eU m m=true:=by
 refine JQ fun i v hv=>?_
 have hi:=(Ao.1 hv).1;have hs:l[i]? =some l[i]:=Af (by omega);grind [HY]
theorem HZ {Fz:Nat->Option AO} {s:SV} {v:AV} (h:aG Fz s v) (hf:s.full=true):AV.beq v v=true:=by
 induction h with
 |any v=>cases hf
 |bR h0 hv=>rcases hv with rfl|⟨b,off,l,n,k,rfl⟩|⟨a,c,rfl⟩<;>simp[AV.beq]
 |fn h1 h2 _ _ ih3 ih4=>
  grind [SV.full,AV.beq,nN]
 |agg h1 _ ih=>grind [SV.full,AV.beq,nN]
 |bg h1 _ ih=>exact nN h1 hf ih
 |_=>simp[AV.beq]
theorem Js {C:Cx} {s:SV} {v:AV} (h:az C s v) (hf:s.full=true):AV.beq v v=true:=by
 induction h with
 |pure h=>grind [HZ]
 |fn h1 h2 _ _ ih3 ih4=>
  grind [SV.full,AV.beq,nN]
 |agg h1 _ ih=>exact nN h1 hf ih
 |bg h1 _ ih=>exact nN h1 hf ih
 |_=>simp[AV.beq]
def gW (C:Cx) (h:SH):List (Nat×Nat)->List (Nat×Nat)->Prop
 |[],[]=>True
 |(i,p)::l,(j,β)::m=>i=j/\(∃o I,h.get p=some o/\C.ρ p=some I/\I.cap.isSome/\I.β=β)/\gW C h l m
 |_,_=>False
theorem gW.filter {C:Cx} {h:SH} (f:Nat->Bool):∀{l m:List (Nat×Nat)},gW C h l m->gW C h (l.filter fun x=>f x.1) (m.filter fun x=>f x.1):=by
 intro l;induction l with
 |nil=>intro m hm;cases m with
  |nil=>exact hm
  |cons=>exact hm.elim
 | cons x l ih=>
  intro m hm;obtain⟨i,p⟩:=x
  cases m with
  |nil=>exact hm.elim
  |cons y m=>
   obtain⟨j,β⟩:=y;obtain⟨rfl,h1,h2⟩:=hm;simp only[Dj]
   cases f i
   . grind
   . simpa using⟨rfl,h1,ih h2⟩
theorem gW.mono {C C':Cx} {h h':SH}:∀{l m:List (Nat×Nat)},gW C h l m->(∀x∈l,∀o I,h.get x.2=some o->C.ρ x.2=some I->I.cap.isSome->∃o',h'.get x.2=some o'/\C'.ρ x.2=some I)->gW C' h' l m:=by
 intro l;induction l with
 |nil=>intro m hm _;cases m with
  |nil=>exact hm
  |cons=>exact hm.elim
 | cons x l ih=>
  intro m hm hk;obtain⟨i,p⟩:=x
  cases m with
  |nil=>exact hm.elim
  |cons y m=>
   obtain⟨j,β⟩:=y;obtain⟨rfl,⟨o,I,g1,g2,g3,g4⟩,h2⟩:=hm;obtain⟨o',k1,k2⟩:=hk (i,p) Aj o I g1 g2 g3;exact⟨rfl,⟨o',I,k1,k2,g3,g4⟩,ih h2 (fun x hx=>hk x (Au _ hx))⟩
theorem gW.left {C:Cx} {h:SH}:∀{l m:List (Nat×Nat)},gW C h l m->∀x∈l,∃o I,h.get x.2=some o/\C.ρ x.2=some I/\I.cap.isSome/\ ∃y∈m,y.2=I.β:=by
 intro l;induction l with
 |nil=>grind
 | cons x l ih=>
  intro m hm y hy;obtain⟨i,p⟩:=x
  cases m with
  |nil=>exact hm.elim
  |cons z m=>
   obtain⟨j,β⟩:=z;obtain⟨rfl,⟨o,I,g1,g2,g3,g4⟩,h2⟩:=hm;grind [List.mem_cons_self]
theorem gW.right {C:Cx} {h:SH}:∀{l m:List (Nat×Nat)},gW C h l m->∀y∈m,∃x∈l,∃o I,h.get x.2=some o/\C.ρ x.2=some I/\I.cap.isSome/\I.β=y.2:=by
 intro l;induction l with
 |nil=>intro m hm y hy;cases m with
  |nil=>cases hy
  |cons=>exact hm.elim
 | cons x l ih=>
  intro m hm y hy;obtain⟨i,p⟩:=x
  cases m with
  |nil=>grind
  |cons z m=>
   obtain⟨j,β⟩:=z;obtain⟨rfl,⟨o,I,g1,g2,g3,g4⟩,h2⟩:=hm;grind [List.mem_cons_self]
def nC (tab:bc) (ops:Array Oper) (C:Cx) (h:SH) (a:AH) (x:Nat×T AV×AV) (rs:List Nat):Prop:=
 ∃o a0 h1,ops[x.1]? =some o/\(cls tab o= .pure\/cls tab o= .read)/\ph o.op=true/\AV.beq x.2.2 x.2.2=true/\dB tab x.2.1 a0 o= .ok (x.2.2,h1)/\
  ∀β ob,a0.get β=some ob->C.Fz β=some ob\/(a.get β=some ob/\ ∃p∈rs,∃o' I,h.get p=some o'/\C.ρ p=some I/\I.cap.isSome/\I.β=β)
theorem nC.mono {tab:bc} {ops:Array Oper} {C C':Cx} {h h':SH} {a a':AH} {x:Nat×T AV×AV} {rs:List Nat} (hx:nC tab ops C h a x rs) (hf:∀i o,C.Fz i=some o->C'.Fz i=some o)
  (hk:∀p∈rs,∀o I,h.get p=some o->C.ρ p=some I->I.cap.isSome->a'.get I.β=a.get I.β/\ ∃o',h'.get p=some o'/\C'.ρ p=some I):nC tab ops C' h' a' x rs:=by
 obtain⟨o,a0,h1,g1,g2,g3,gb,g4,g5⟩:=hx;refine⟨o,a0,h1,g1,g2,g3,gb,g4,fun β ob hb=>?_⟩;grind
structure gf (tab:bc) (ops:Array Oper) (C:Cx) (d:SD) (e:DS):Prop where
 F:FS C d.s.ts e.ts
 H:HS tab C d.s.h e.h
 aC:d.aC=e.aC
 al:gW C d.s.h d.ar e.ar
 rd:∀x∈e.reads,∃rs,(x.1,rs)∈d.reads/\nC tab ops C d.s.h e.h x rs
structure Prog (C:Cx) (d:SD) (e:DS) (new:List Ev) (C':Cx) (d':SD) (e':DS):Prop where
 log:d'.s.log=d.s.log++new
 tr:Tr C new C'
 grow:Grow e.h e'.h
 bu:cw C d.s.h e.h new C' d'.s.h e'.h
end
section
universe u v
variable [Inhabited aL]
section
variable {tab:bc} {cfg:fy} {ops:Array Oper} {nt:Nat}
theorem qE (ts:T AV) (o:Oper) (v:AV):fk nt ts o v=eF nt ts o.dst v:=by
 grind [fk,eF]
theorem Prog.refl {C C':Cx} {d d':SD} {e e':DS} (hl:d'.s.log=d.s.log) (hh:d'.s.h=d.s.h) (he:e'.h=e.h) (hc:C'=C):Prog C d e [] C' d' e':=by
 subst hc;exact⟨by grind,Tr.refl _,by rw[he];exact Grow.refl _,by rw[hh,he];grind [cw.same]⟩
open Classical in
theorem Jq (htab:cfg.tab=tab) {C:Cx} {d:SD} {e:DS} {i:Nat} {o:Oper} {K:SD->Prop} (h:vN cfg ops nt i o d K) (S:gf tab ops C d e) (hi:ops[i]? =some o):
  ∃r d' C',pz tab ops nt i o e= .ok r/\K d'/\gf tab ops C' d' (r.getD e)/\Prog C d e [] C' d' (r.getD e):=by
 obtain⟨s,aC,reads,ar⟩:=d;obtain⟨hF,H,hanc,hal,hrd⟩:=S;simp only at hF H hanc hal hrd;simp only[vN]at h;rw[htab]at h;obtain⟨hok,h⟩:=bZ h;obtain⟨w,s1,h1,hw,hF1,eh,el⟩:=uz h hF;subst hanc;unfold pz
 rw[rb (rc hok)];rw[rb hw]
 cases w with
 |false=>
  have h2:=qV (jM h1);obtain⟨s2,k1,k2,k3,k4⟩:=nW (v:= .bg []) h2 hF1 (.pure (.bg rfl (fun i c v hc=>by grind)));refine⟨_,_,C,rfl,k1,⟨?_,?_,rfl,?_,?_⟩,Prog.refl ?_ ?_ rfl rfl⟩
  all_goals grind [qE]
 | true=>
  have Hs:HS tab C s1.h e.h:=by rw[eh];exact H
  have look:∀(hc:cls tab o= .pure\/cls tab o= .read),(gl (dk e.aC o) fun an=>kL (e.aC.set i (some an)) fun aC=>match s1 with
   | ⟨ts,h,log⟩=>gl (vu ts o) fun rs=>ck (rs.all fun b=>ar.all fun x=> !(Nat.beq x.2 b)) (iG tab cfg.view ⟨ts,⟨h.next,lO h rs⟩,[]⟩ o fun v s'=>ck (s'.log.isEmpty&&v.full) (fO nt ⟨ts,h,log⟩ o.dst v fun s'=>K ⟨s',aC,(i,rs)::reads,ar⟩)))->
     ∃ d' v,K d'/\(∀v' hx',dB tab e.ts {t:= .e,next:=0} o= .ok (v',hx')->v'=v/\hx'.next=0)/\dB tab e.ts (fl e.h e.ar) o= .ok (v,fl e.h e.ar)/\
       ∀rd',(rd'=e.reads\/rd'=(i,e.ts,v)::e.reads)->gf tab ops C d' {e with ts:=fk nt e.ts o v,aC:=e.aC.set i (some (dk e.aC o)),reads:=rd'}/\Prog C ⟨s,e.aC,reads,ar⟩ e [] C d' {e with ts:=fk nt e.ts o v,aC:=e.aC.set i (some (dk e.aC o)),reads:=rd'}:=by
   intro hc h;have h:=qV (jM h);obtain⟨ts,hh,log⟩:=s1;simp only at h eh el hF1 Hs;subst eh;have h:=jM h;generalize vu ts o=rs at h
   obtain⟨hdis,h⟩:=bZ h;obtain⟨a0,hn0,hg0⟩:=tl H.wf (fun i=>(∃ob,C.Fz i=some ob)\/ ∃p∈rs,∃o' I,s.h.get p=some o'/\C.ρ p=some I/\I.cap.isSome/\I.β=i);have hpart:Part a0 e.h:=by
     intro j ob hj;rw[hg0]at hj;grind
   have H0:HS tab C ⟨s.h.next,lO s.h rs⟩ a0:=by
     refine Hs.part rfl (fun p o' hp=>?_) hpart hn0 (fun j ob hj=>?_) (fun p o' I hp hI hcap=>?_)
     . rw[yA]at hp;split at hp
       . exact hp
       . cases hp
     . rw[hg0,Ai (.inl ⟨ob,hj⟩)];exact H.fz j ob hj
     grind [yA]
   obtain⟨hlk,sv,v,hk,hp,hv⟩:=Jg (s:=⟨ts,⟨s.h.next,lO s.h rs⟩,[]⟩) hF1 H0 hc (fun sv s1 hk=>by have:=(bZ hk).1;grind) h;obtain⟨hfull,hk⟩:=bZ hk;simp only[Ad]at hfull;have hbeq:=Js hv hfull.2;obtain⟨s2,k1,k2,k3,k4⟩:=nW hk hF1 hv;have hhid:Part a0 (fl e.h e.ar):=by
     intro β ob hβ;rw[fm,Ah]
     . exact hpart β ob hβ
     . rintro⟨y,hy,rfl⟩;obtain⟨x,hx,ox,Ix,x1,x2,x3,x4⟩:=hal.right y hy;rw[hg0]at hβ;split at hβ
       . rename_i hP;rcases hP with⟨ob',hP⟩|⟨p,hpm,op,Ip,p1,p2,p3,p4⟩
         . have:=H.dj x.2 ox Ix x1 x2 x3;rw[x4,hP]at this;grind
         . have:=H.inj p x.2 op ox Ip Ix p1 x1 p2 x2 p3 x3 (by rw[p4,x4]);have h5:=Aq.1 (Aq.1 hdis p hpm) x hx;rw[this]at h5;simp_all
       grind
   refine⟨_,v,k1,fun v' hx' hp'=>?_,tX hc hlk hhid hp,fun rd' hrd'=>⟨⟨?_,?_,rfl,?_,?_⟩,Prog.refl ?_ ?_ rfl rfl⟩⟩
   . have h5:=tX hc hlk (h0:={t:= .e,next:=0}) (h:=a0) (fun j ob hj=>by cases hj) hp';have h6:=qH ⟨by rcases hc with e|e<;>rw[e]<;>simp,by rcases hc with e|e<;>rw[e]<;>simp⟩ hp';rw[hp]at h5;grind
   . grind [qE]
   . grind
   . grind
   . rw[k3];intro x hx;rcases hrd' with rfl|rfl
     . obtain⟨rs',g1,g2⟩:=hrd x hx;grind
     . rcases As.1 hx with rfl|hx
       . refine⟨rs,Aj,o,a0,_,hi,hc,hlk,hbeq,hp,fun β ob hβ=>?_⟩;have hβ':=hpart β ob hβ;rw[hg0]at hβ;split at hβ
         . rename_i hP;rcases hP with⟨ob',hP⟩|hP
           . have:=H.fz _ _ hP;rw[hβ']at this;cases this;exact .inl hP
           . exact .inr ⟨hβ',hP⟩
         . cases hβ
       . obtain⟨rs',g1,g2⟩:=hrd x hx;exact⟨rs',Au _ g1,g2⟩
   all_goals grind
  cases hcl:cls tab o with
  |gL=>
   rw[hcl]at h1;exact⟨none,_,C,rfl,h1,⟨hF1,Hs,rfl,by rw[eh];exact hal,by rw[eh];exact hrd⟩,Prog.refl el eh rfl rfl⟩
  |pure=>
   obtain⟨d',v,g1,g2,g3,g4⟩:=look (.inl hcl) (by rw[hcl]at h1;exact h1)
   cases hp:dB tab e.ts {t:= .e,next:=0} o with
   | ok r=>
     obtain⟨v',hx'⟩:=r;obtain⟨rfl,hn⟩:=g2 v' hx' hp;simp only;rw[rb (rc (by rw[hn];rfl))];obtain⟨q1,q2⟩:=g4 e.reads (.inl rfl);exact⟨_,d',C,rfl,g1,q1,q2⟩
   | no _=>
     rw[g3];obtain⟨q1,q2⟩:=g4 _ (.inr rfl);exact⟨_,d',C,rfl,g1,q1,q2⟩
  |read=>
   obtain⟨d',v,g1,g2,g3,g4⟩:=look (.inr hcl) (by rw[hcl]at h1;exact h1);rw[g3];obtain⟨q1,q2⟩:=g4 _ (.inr rfl);exact⟨_,d',C,rfl,g1,q1,q2⟩
  |alloc=>
   rw[hcl]at h1;simp only at h1⊢;have h2:=qV (jM h1);clear h1 look;obtain⟨ts,hh,log⟩:=s1;subst eh;obtain⟨sv,v,so,ao,I,m1,m2,m3,m4,m5,m6⟩:=Jh (s:=⟨ts,s.h,[]⟩) (a:=e.h) hF1 hcl h2;simp only[St.new]at m1;obtain⟨_,m1⟩:=bZ m1;obtain⟨q1,q2⟩:=H.new (ao:=ao) (o:=so) I m3 (fun hle=>m6 _ _ hle (by rw[AH.aI,Ai rfl]));obtain⟨s2,k1,k2,k3,k4⟩:=nW (C:=C.put s.h.next I) m1 (FS.le q1 hF1) (m5 _ q1 (fx _ _ _));rw[rb (m2 {t:= .e,next:=e.h.next} rfl)];rw[rb (rc (by simp)),rb (ro (show AH.get _ _=some ao from by rw[AH.aI,Ai rfl]))];have hnew:∀p o',s.h.get p=some o'->(s.h.new so).get p=some o':=by
     intro p o' hp;obtain⟨J,hJ,_⟩:=H.obj p o' hp;have:=H.lt p J hJ;rw[SH.aI,Ah (by omega)];exact hp
   have hkeep:∀p o' J,s.h.get p=some o'->C.ρ p=some J->J.cap.isSome->(e.h.new ao).get J.β=e.h.get J.β:=by
     intro p o' J hp hJ hc;obtain⟨b,hb⟩:=(H.at_ hp hJ).live hc;have:=H.wf _ _ hb;rw[AH.aI,Ah (by omega)]
   refine⟨_,_,C.put s.h.next I,rfl,k1,⟨?_,?_,rfl,?_,?_⟩,⟨?_,q1.tr,?_,?_⟩⟩
   . rw[qE];exact k2
   . rw[k3];exact q2
   . rw[k3];refine⟨rfl,⟨so,I,by rw[SH.aI,Ai rfl],fx _ _ _,m4,m3⟩,hal.mono fun x hx o' J hp hJ hc=>⟨o',hnew _ _ hp,q1.1 _ _ hJ⟩⟩
   . rw[k3];intro x hx;obtain⟨rs,g1,g2⟩:=hrd x hx;exact⟨rs,g1,g2.mono q1.2 (fun p hp o' J hp hJ hc=>⟨hkeep p o' J hp hJ hc,o',hnew _ _ hp,q1.1 _ _ hJ⟩)⟩
   . simp only[A9];rw[k4];exact el
   . exact Grow.new _ _
   . rw[k3];exact cw.new H _ _ q1 (pC H _)
end
end
section
universe u v
variable [Inhabited aL]
section
variable {P:Program} {tab:bc} {cfg:fy} {ops:Array Oper} {nt:Nat} {rec:SM->(SV->St->Prop)->Prop}
theorem Prog.trans {C C' C'':Cx} {d d' d'':SD} {e e' e'':DS} {l m:List Ev} (p:Prog C d e l C' d' e') (q:Prog C' d' e' m C'' d'' e'') (H:∀i o,C'.Fz i=some o->e'.h.get i=some o) (H':∀i o,C''.Fz i=some o->e''.h.get i=some o):Prog C d e (l++m) C'' d'' e'':=
 ⟨by rw[q.log,p.log,Bw],p.tr.trans q.tr,p.grow.trans q.grow,p.bu.trans q.bu q.tr.fz H H'⟩
theorem Kk (htab:cfg.tab=tab):∀(l:List Oper) (k:Nat) (d:SD) (e:DS) (C:Cx) (K:SD->Prop),(∀j o,l[j]? =some o->ops[k+j]? =some o)->qd cfg ops nt k l d K->gf tab ops C d e->
  ∃e' d' C',gQ tab ops nt k l e= .ok e'/\K d'/\gf tab ops C' d' e'/\Prog C d e [] C' d' e':=by
 intro l;induction l with
 |nil=>
  intro k d e C K _ h S;exact⟨e,d,C,rfl,h,S,Prog.refl rfl rfl rfl rfl⟩
 |cons o l ih=>
  intro k d e C K hl h S;have hi:=hl 0 o rfl;have hl':∀j o,l[j]? =some o->ops[k+1+j]? =some o:=fun j o' hj=>by
    have:=hl (j+1) o' (by grind);rwa [show k+1+j=k+(j+1)from by omega]
  simp only[qd,S.aC]at h;simp only[gQ]
  cases hr:isReady e.aC k o
  . rw[hr]at h;grind
  . rw[hr]at h;simp only[BM]at h⊢;obtain⟨r,d1,C1,g1,g2,g3,g4⟩:=Jq htab h S (by omega);rw[rb g1];obtain⟨e',d',C',q1,q2,q3,q4⟩:=ih (k+1) d1 _ C1 K hl' g2 g3;refine⟨e',d',C',?_,q2,q3,?_⟩
    . cases r<;>exact q1
    . have:=g4.trans q4 g3.H.fz q3.H.fz;grind
theorem e9.mono {ts:T AV} {h0:AH} {o:Oper} {Θ Θ':AV->AH->Prop} (h:e9 P tab ts h0 o Θ) (hi:∀v h1,h0.next<=h1.next->Θ v h1->Θ' v h1):e9 P tab ts h0 o Θ':=by
 rcases h with⟨v,h1,k1,k2,k3⟩|⟨c',f,g,first,captured,args,fn,body,k1,k2,k3,k4,k5,k6,k7⟩
 . exact .inl ⟨v,h1,k1,k2,hi _ _ k2 k3⟩
 . exact .inr ⟨c',f,g,first,captured,args,fn,body,k1,k2,k3,k4,k5,k6,k7.mono fun v h1 ⟨a,b⟩=>⟨a,hi _ _ a b⟩⟩
theorem HN {h:AH}:∀{l:List (Nat×T AV×AV)},(∀x∈l,∃o h1,ops[x.1]? =some o/\dB tab x.2.1 h o= .ok (x.2.2,h1)/\AV.beq x.2.2 x.2.2=true)->reread tab ops h l= .ok ():=by
 intro l;induction l with
 |nil=>intro _;rfl
 |cons x l ih=>
  simp_all[reread,rb,ro,rc]
theorem xM:∀(log:List Ev) (s:SV) (b:Nat),(∀e∈log,e.id≠b)->(s= .own b\/s= .bN b 1 0\/s= .ptr b 0)->fG log s=s:=by
 intro log;induction log with
 |nil=>intro s b _ _;rfl
 | cons e l ih=>
  intro s b hb hs;have h1:=hb e Aj;have:s.on e=s:=by
   rcases hs with rfl|rfl|rfl<;>cases e<;>simp only[Ev.id]at h1<;>simp only[SV.on]<;>first|rfl|(rw[eu (fun h=>h1 h.symm)];rfl)
  grind [fG]
theorem Tr.same {C C':Cx} {log:List Ev} (hT:Tr C log C') {p:Nat} {I:BI} (hI:C.ρ p=some I) (hc:I.cap.isSome) (hm:∀e∈log,e.id≠p):C'.ρ p=some I:=by
 obtain⟨c,hc'⟩:=Bx.1 hc;have h1:=hT.val _ _ (.own hI hc');rw[xM log _ p hm (.inl rfl)]at h1;have h2:=hT.val _ _ (.bN (i:=1) (off:=0) hI hc);rw[xM log _ p hm (.inr (.inl rfl))]at h2;obtain⟨β,len,sz,cap⟩:=I;generalize hv1:AV.sl β 0 len c=v1 at h1
 generalize hv2:AV.ptr β (1*sz+0)=v2 at h2
 cases h1 with
 |pure h=>cases h
 |dh hJ hc=>grind
 | own hJ hc=>
  rename_i J c2
  cases h2 with
  |pure h=>cases h
  |bN hJ' hc2=>
   rw[hJ]at hJ'
   cases hJ'
   cases hv1;rw[hJ];obtain⟨β',len',sz',cap'⟩:=J;grind
theorem H7 (o:SO):∀(log:List Ev),∃o',fK (some o) log=some o'/\ ∀{C C':Cx} {I:BI} {a a':AH},Tr C log C'->a'.get I.β=a.get I.β->da tab C I o a->da tab C' I o' a':=by
 intro log
 cases o with
 | cells cs t=>
  have:∀(log:List Ev) (cs:List SV),fK (some (.cells cs t)) log=some (.cells (cs.map (fG log)) t):=by
   intro log;induction log with
   |nil=>intro cs;simp[fK];exact(List.map_id'' (fun _=>rfl) cs).symm
   |cons e l ih=>intro cs;simp only[fK,Bj,SO.on,ih,kK,DW];rfl
  refine⟨_,this log cs,fun hT hg ho=>?_⟩;obtain⟨g1,ca,sz,g2,g3,g4⟩:=ho;refine⟨g1,ca,sz,by rw[hg];exact g2,⟨by simpa using g3.1,fun i s v hs hv=>?_⟩,g4⟩;rw[AF]at hs;obtain⟨s0,h0,rfl⟩:=AA.1 hs;exact hT.val _ _ (g3.2 i s0 v h0 hv)
 | arr X L enc t=>
  have:∀(log:List Ev),fK (some (.arr X L enc t)) log=some (.arr X L enc t):=by
   intro log;induction log with
   |nil=>rfl
   |cons e l ih=>grind [fK,SO.on]
  refine⟨_,this log,fun{C C' I a a'} hT hg ho=>?_⟩;obtain⟨h1,h2,h3,h4,h5⟩:=ho;refine⟨h1,h2,h3,h4,?_⟩
  cases hcap:I.cap with
  |none=>rw[hcap]at h5;exact h5
  |some c=>
   rw[hcap]at h5;obtain⟨ca,ext,bk,g1,g2,g3,g4,g5⟩:=h5;refine⟨ca,ext,bk,by rw[hg];exact g1,g2,g3,g4,fun i x j v hx hv=>?_⟩;obtain⟨u,k1,k2⟩:=g5 i x j v hx hv;exact⟨u,k1,k2.mono hT.fz⟩
end
end
section
universe u v
variable [Inhabited aL]
section
variable {P:Program} {tab:bc} {cfg:fy} {ops:Array Oper} {nt:Nat} {rec:SM->(SV->St->Prop)->Prop}
theorem Hd {p:Nat}:∀{l:List Ev},p∈gF l->∃e∈l,e.id=p:=by
 intro l;induction l with
 |nil=>intro h;cases h
 | cons e l ih=>
  intro h
  cases e with
  |kill b=>
   rcases As.1 h with rfl|h
   . exact⟨_,Aj,rfl⟩
   grind
  |mod b=>
   rcases As.1 h with rfl|h
   . exact⟨_,Aj,rfl⟩
   grind
  |dM b X L enc=>obtain⟨e,h1,h2⟩:=ih h;grind
theorem Cb {log:List Ev} {b:Nat} (h:(!(bY b (log.map Ev.id)))=true):∀e∈log,e.id≠b:=by
 grind [df]
theorem HS.bare {C C':Cx} {h h':SH} {a h1:AH} {log:List Ev} {hid hidA:List (Nat×Nat)} (H:HS tab C h a) (hal:gW C h hid hidA) (hT:Tr C log C') (H':HS tab C' h' h1) (hG:Grow (fl a hidA) h1) (hm:∀x∈hid,∀e∈log,e.id≠x.2):
   HS tab C' (ik h' h log hid) (restore h1 a hidA)/\(∀i b,h1.get i=some b->(restore h1 a hidA).get i=h1.get i)/\(∀y∈hidA,h1.get y.2=none)/\(∀x∈hid,∀o I,h.get x.2=some o->C.ρ x.2=some I->I.cap.isSome->(restore h1 a hidA).get I.β=a.get I.β/\ ∃o',(ik h' h log hid).get x.2=some o'/\C'.ρ x.2=some I):=by
 have hlt:∀y∈hidA,y.2<a.next:=by
   intro y hy;obtain⟨x,hx,o,I,g1,g2,g3,g4⟩:=hal.right y hy;obtain⟨b,hb⟩:=(H.at_ g1 g2).live g3;rw[<-g4];exact H.wf _ _ hb
 have hnone:∀y∈hidA,h1.get y.2=none:=by
   intro y hy
   cases hz:h1.get y.2 with
   |none=>rfl
   | some b=>
     rcases hG.old _ _ hz with⟨o0,h0⟩|hge
     . rw[fm,Ai ⟨y,hy,rfl⟩]at h0;cases h0
     grind [fQ]
 have hlive:∀i b,h1.get i=some b->(restore h1 a hidA).get i=h1.get i:=by
   grind [kB]
 have hhid:∀x∈hid,∀o I,h.get x.2=some o->C.ρ x.2=some I->I.cap.isSome->(restore h1 a hidA).get I.β=a.get I.β/\h1.get I.β=none/\ ∃o',(ik h' h log hid).get x.2=some o'/\C'.ρ x.2=some I/\da tab C' I o' (restore h1 a hidA):=by
   intro x hx o I ho hI hc;obtain⟨o1,I1,g1,g2,g3,y,hy,g4⟩:=hal.left x hx;rw[hI]at g2;cases g2;have e1:(restore h1 a hidA).get I.β=a.get I.β:=by rw[kB,Ai ⟨y,hy,g4⟩]
   obtain⟨o',k1,k2⟩:=H7 o log;refine⟨e1,by rw[<-g4];grind,o',?_,hT.same hI hc (hm x hx),k2 hT e1 (H.at_ ho hI)⟩;rw[mh,Ai ⟨x,hx,rfl⟩,ho];exact k1
 refine⟨⟨?_,?_,?_,?_,?_,?_⟩,hlive,hnone,fun x hx o I ho hI hc=>?_⟩
 . intro p o hp;rw[mh]at hp;split at hp
   . rename_i hex;obtain⟨x,hx,rfl⟩:=hex;obtain⟨o1,I1,g1,g2,g3,_⟩:=hal.left x hx;obtain⟨_,_,o',k1,k2,k3⟩:=hhid x hx o1 I1 g1 g2 g3;rw[mh,Ai ⟨x,hx,rfl⟩,hp]at k1;grind
   . obtain⟨I,hI,ho⟩:=H'.obj p o hp;refine⟨I,hI,?_⟩;by_cases hc:I.cap.isSome
     . obtain⟨b,hb⟩:=ho.live hc;exact ho.congr (hlive _ _ hb)
     . cases o with
       |cells cs t=>exact absurd ho.1 hc
       |arr X L enc t=>
        obtain⟨g1,g2,g3,g4,g5⟩:=ho;refine⟨g1,g2,g3,g4,?_⟩;grind
 . have key:∀p q o' I J,(∃x∈hid,x.2=p)->h'.get q=some o'->C'.ρ p=some I->C'.ρ q=some J->I.cap.isSome->J.cap.isSome->I.β≠J.β:=by
     rintro p q o' I J ⟨x,hx,rfl⟩ hq hI hJ hc hc' e;obtain⟨o1,I1,g1,g2,g3,_⟩:=hal.left x hx;obtain⟨_,k0,_,_,k2,_⟩:=hhid x hx o1 I1 g1 g2 g3;rw[hI]at k2;cases k2;obtain⟨b,hb⟩:=(H'.at_ hq hJ).live hc';rw[<-e,k0]at hb;cases hb
   intro p q o o' I J hp hq hI hJ hc hc' e;rw[mh]at hp hq;split at hp
   . rename_i h3;split at hq
     . rename_i h4;obtain⟨x,hx,rfl⟩:=h3;obtain⟨z,hz,rfl⟩:=h4;obtain⟨o1,I1,g1,g2,g3,_⟩:=hal.left x hx;obtain⟨_,_,_,_,k2,_⟩:=hhid x hx o1 I1 g1 g2 g3;obtain⟨o2,I2,q1,q2,q3,_⟩:=hal.left z hz;obtain⟨_,_,_,_,k3,_⟩:=hhid z hz o2 I2 q1 q2 q3;rw[hI]at k2;cases k2;rw[hJ]at k3;cases k3;exact H.inj _ _ o1 o2 I J g1 q1 g2 q2 g3 q3 e
     grind
   . split at hq
     . grind
     . exact H'.inj p q o o' I J hp hq hI hJ hc hc' e
 . intro i o hi;have:=H'.fz i o hi;rw[hlive i o this];exact this
 . intro p o I hp hI hc;rw[mh]at hp;split at hp
   . rename_i h3;obtain⟨x,hx,rfl⟩:=h3;obtain⟨o1,I1,g1,g2,g3,_⟩:=hal.left x hx;obtain⟨_,k0,_,_,k2,_⟩:=hhid x hx o1 I1 g1 g2 g3;rw[hI]at k2;cases k2
     cases hz:C'.Fz I.β with
     |none=>rfl
     | some b=>
       have:=H'.fz _ _ hz;rw[k0]at this;cases this
   . exact H'.dj p o I hp hI hc
 . intro p I hI;rw[GP];exact H'.lt p I hI
 . intro i o hi;rw[qK];rw[kB]at hi;split at hi
   . have:=H.wf i o hi;have h2:=hG.next;rw[fQ]at h2;omega
   . exact H'.wf i o hi
 grind
end
end
section
universe u v
variable [Inhabited aL]
section
variable {P:Program} {tab:bc} {cfg:fy} {ops:Array Oper} {nt:Nat} {rec:SM->(SV->St->Prop)->Prop}
theorem K9 (htab:cfg.tab=tab) (hrec:kP P tab rec) (hcon:∀g C,cfg.fH g=some C->bX P tab g C) {C:Cx} {d:SD} {e:DS} {i:Nat} {o:Oper} {K:SD->Prop} (h:o6 cfg rec ops nt i o d K) (S:gf tab ops C d e):
   kg P tab ops nt i o e fun e'=>∃d' C' new,K d'/\gf tab ops C' d' e'/\Prog C d e new C' d' e':=by
 obtain⟨s,aC,reads,ar⟩:=d;obtain⟨hF,H,hanc,hal,hrd⟩:=S;subst hanc;obtain⟨hok,h⟩:=bZ h;obtain⟨w,s1,h1,hw,hF1,eh,el⟩:=uz h hF;obtain⟨rfl,h1⟩:=bZ h1;have h:=jM (jM (qV (jM h1)));obtain⟨ts,hh,log⟩:=s1;subst eh;have halh:=hal.filter (fun j=> !(bY j (dk e.aC o)));generalize hhd:(ar.filter fun x=> !(bY x.1 (dk e.aC o)))=hid at h halh
 generalize hhA:(e.ar.filter fun x=> !(bY x.1 (dk e.aC o)))=hidA at halh
 have hnot:∀p o' I,s.h.get p=some o'->C.ρ p=some I->I.cap.isSome->(¬∃x∈hid,x.2=p)->¬∃y∈hidA,y.2=I.β:=by
   rintro p o' I hp hI hc hn ⟨y,hy,hyb⟩;obtain⟨x,hx,ox,Ix,x1,x2,x3,x4⟩:=halh.right y hy;exact hn ⟨x,hx,(H.inj p x.2 o' ox I Ix hp x1 hI x2 hc x3 (by rw[x4,hyb])).symm⟩
 have hfz:∀j ob,C.Fz j=some ob->¬∃y∈hidA,y.2=j:=by
   rintro j ob hj ⟨y,hy,rfl⟩;obtain⟨x,hx,ox,Ix,x1,x2,x3,x4⟩:=halh.right y hy;have:=H.dj x.2 ox Ix x1 x2 x3;rw[x4,hj]at this;grind
 have Hh:HS tab C (kN s.h hid) (fl e.h hidA):=by
   refine H.part (GK _ _) (fun p o' hp=>?_) (fun j ob hj=>?_) (fQ _ _) (fun j ob hj=>?_) (fun p o' I hp hI hc=>?_)
   . rw[qW]at hp;split at hp
     . cases hp
     . exact hp
   . rw[fm]at hj;split at hj
     . cases hj
     . exact hj
   . rw[fm,Ah (hfz j ob hj)];exact H.fz j ob hj
   . rw[qW]at hp;split at hp
     all_goals grind [fm]
 have heff:=zo (s:=⟨ts,kN s.h hid,[]⟩) (ta:=e.ts) htab hrec hcon h hF1 Hh;refine⟨hok,hw,?_⟩;rw[hhA];refine heff.mono ?_;rintro v h1 hle ⟨sv,s',hk,⟨⟨C',new,e1,e2,e3,e4,e5,e6⟩,e7⟩⟩;obtain⟨ts',h',log'⟩:=s';subst e1;obtain⟨hck,hk⟩:=bZ hk;simp only[Ad,Aq]at hck;obtain⟨hck1,hck2⟩:=hck;obtain⟨B1,B2,B3,B4⟩:=H.bare halh e2 e4 e7 (fun x hx=>Cb (hck2 x hx));obtain⟨s2,k1,k2,k3,k4⟩:=nW (s:=⟨ts',ik h' s.h log' hid,log++log'⟩) hk e5 e3;have hread:∀x∈e.reads.filter (fun x=> !(bY x.1 (dk e.aC o))),∃rs,(x.1,rs)∈reads.filter (fun x=> !(bY x.1 (dk e.aC o)))/\nC tab ops C s.h e.h x rs/\
     ∀p∈rs,(∀e∈log',e.id≠p)/\(h'.get p).isSome/\ ¬∃y∈hid,y.2=p:=by
   intro x hx;obtain⟨hx1,hx2⟩:=Bc.1 hx;obtain⟨rs,g1,g2⟩:=hrd x hx1;have hm:(x.1,rs)∈reads.filter (fun x=> !(bY x.1 (dk e.aC o))):=Bc.2 ⟨g1,hx2⟩;refine⟨rs,hm,g2,fun p hp=>?_⟩;have h5:=hck1 _ hm p hp;refine⟨Cb h5.1.1,h5.1.2,?_⟩;rintro⟨y,hy,rfl⟩;have h6:=h5.2 y hy;simp at h6
 have hkeep:∀p o' I,s.h.get p=some o'->C.ρ p=some I->I.cap.isSome->(∀e∈log',e.id≠p)->(h'.get p).isSome->(¬∃y∈hid,y.2=p)->
     (restore h1 e.h hidA).get I.β=e.h.get I.β/\ ∃o',(ik h' s.h log' hid).get p=some o'/\C'.ρ p=some I:=by
   intro p o' I hp hI hc hm hs hn;obtain⟨k,_⟩:=e6 p o' I (by rw[qW,Ah hn];exact hp) hI hc (fun hmm=>by
     grind [Hd])
   rw[fm,Ah (hnot p o' I hp hI hc hn)]at k;obtain⟨o2,ho2⟩:=Bx.1 hs;refine⟨?_,o2,by rw[mh,Ah hn];exact ho2,e2.same hI hc hm⟩;rw[kB,Ah (hnot p o' I hp hI hc hn)];exact k
 have hstb:∀x∈e.reads.filter (fun x=> !(bY x.1 (dk e.aC o))),∃rs,(x.1,rs)∈reads.filter (fun x=> !(bY x.1 (dk e.aC o)))/\nC tab ops C' (ik h' s.h log' hid) (restore h1 e.h hidA) x rs:=by
   intro x hx;obtain⟨rs,g1,g2,g3⟩:=hread x hx;exact⟨rs,g1,g2.mono e2.fz fun p hp o' I hpo hI hc=>hkeep p o' I hpo hI hc (g3 p hp).1 (g3 p hp).2.1 (g3 p hp).2.2⟩
 refine⟨HN fun x hx=>?_,_,C',log',k1,⟨?_,?_,rfl,?_,?_⟩,⟨?_,e2,?_,?_⟩⟩
 . obtain⟨rs,g1,g2,g3⟩:=hread x hx;obtain⟨ox,a0,hx1,q1,q2,q3,qb,q4,q5⟩:=g2;refine⟨ox,_,q1,tX q2 q3 (h:=fl (restore h1 e.h hidA) hidA) (fun β ob hβ=>?_) q4,qb⟩;rcases q5 β ob hβ with hz|⟨hz,p,hp,o',I,p1,p2,p3,rfl⟩
   . rw[fm,Ah (hfz β ob hz),kB,Ah (hfz β ob hz)];exact e4.fz _ _ (e2.fz _ _ hz)
   . obtain⟨r1,r2,r3⟩:=g3 p hp;rw[fm,Ah (hnot p o' I p1 p2 p3 r3),(hkeep p o' I p1 p2 p3 r1 r2 r3).1];exact hz
 . rw[qE];exact k2
 . rw[k3];exact B1
 . rw[k3];exact halh.mono fun x hx o' I hp hI hc=>(B4 x hx o' I hp hI hc).2
 . rw[k3];exact hstb
 . grind
 . refine⟨?_,fun j ob hj=>?_⟩
   . rw[qK];have:=e7.next;rw[fQ]at this;exact this
   . rw[kB]at hj;split at hj
     . grind
     . rcases e7.old j ob hj with⟨o0,h0⟩|hge
       . rw[fm]at h0;split at h0
         . cases h0
         . exact .inl ⟨o0,h0⟩
       . rw[fQ]at hge;exact .inr hge
 . rw[k3];intro p o' I hp hI hc hm;by_cases hn:∃y∈hid,y.2=p
   . obtain⟨y,hy,rfl⟩:=hn;obtain⟨q1,q2⟩:=B4 y hy o' I hp hI hc;exact⟨q1, .inl q2⟩
   . obtain⟨q1,q2⟩:=e6 p o' I (by rw[qW,Ah hn];exact hp) hI hc hm;rw[fm,Ah (hnot p o' I hp hI hc hn)]at q1;refine⟨by rw[kB,Ah (hnot p o' I hp hI hc hn)];exact q1,?_⟩;rcases q2 with⟨o2,r1,r2⟩|r
     . exact .inl ⟨o2,by rw[mh,Ah hn];exact r1,r2⟩
     grind
theorem Ig (htab:cfg.tab=tab) (hrec:kP P tab rec) (hcon:∀g C,cfg.fH g=some C->bX P tab g C):vl P tab cfg rec:=by
 have main:∀(ops:Array Oper) (nt n:Nat) (d:SD) (e:DS) (C:Cx) (K:St->Prop),sh cfg rec ops nt n d K->gf tab ops C d e->
   dZ P tab ops nt (fun sF=>∃s' C' new,K s'/\s'.log=d.s.log++new/\Tr C new C'/\HS tab C' s'.h sF.h/\FS C' s'.ts sF.ts/\Grow e.h sF.h/\cw C d.s.h e.h new C' s'.h sF.h) n e:=by
  intro ops nt n;induction n with
  |zero=>intro d e C K h;exact h.elim
  |succ n ih=>
   intro d e C K h S;obtain⟨e1,d1,C1,g1,g2,g3,g4⟩:=Kk htab ops.toList 0 d e C _ (fun j o hj=>by grind) h S;refine⟨e1,g1,?_⟩;rw[g3.aC]at g2;split at g2
   . rename_i hc;obtain⟨_,hk⟩:=bZ g2;exact .inl ⟨hc,d1.s,C1,[],hk,g4.log,g4.tr,g3.H,g3.F,g4.grow,g4.bu⟩
   . rename_i c o hc;refine .inr ⟨c,o,hc,?_⟩;obtain⟨q1,q2,q3⟩:=K9 htab hrec hcon g2 g3;refine⟨q1,q2,q3.mono fun v h1 _ hΘ=>⟨hΘ.1,?_⟩⟩;obtain⟨d2,C2,new,k1,k2,k3⟩:=hΘ.2;refine dZ.mono ?_ _ _ (ih d2 _ C2 K k1 k2);rintro sF ⟨s',C',new',r1,r2,r3,r4,r5,r6,r7⟩;have p:=g4.trans k3 g3.H.fz k2.H.fz;simp only[DH]at p;exact⟨s',C',new++new',r1,by rw[r2,p.log,Bw],p.tr.trans r3,r4,r5,p.grow.trans r6,p.bu.trans r7 r3.fz k2.H.fz r4.fz⟩
   grind
 intro ops nt n s K ta a C h hF H;exact main ops nt n ⟨s, .e,[],[]⟩ {ts:=ta,h:=a,aC:= .e,reads:=[],ar:=[]} C K h ⟨hF,H,rfl,trivial,fun x hx=>by cases hx⟩
theorem Ng (pr:eR P tab) (htab:cfg.tab=tab) (hcon:∀g C,cfg.fH g=some C->bX P tab g C) (n:Nat):kP P tab (wp cfg n):=
 JZ pr htab hcon (fun _ hrec=>Ig htab hrec hcon) n
end
end
section
universe u v
variable [Inhabited aL]
section
variable (cfg:fy)
def mH (e v:SV) (s:St):Prop:=
 match s with
 |⟨_,h,_⟩=>match e,v with
  | .bg es, .bg vs=>cQ cfg 1000 es vs ⟨[],h,[]⟩ fun _=>True
  | .bg _,_=>False
  |e,v=>cQ cfg 1000 [e] [v] ⟨[],h,[]⟩ fun _=>True
end
section
variable {P:Program} {tab:bc} {cfg:fy}
theorem Kn (htab:cfg.tab=tab) {e v:SV} {s:St} (h:mH cfg e v s) {C:Cx} {a:AH} {av:AV} (H:HS tab C s.h a) (hv:az C v av):∃Fz':Nat->Option AO,(∀i o,C.Fz i=some o->Fz' i=some o)/\(∀i o,Fz' i=some o->a.get i=some o)/\aG Fz' e av:=by
 obtain⟨ts,hh,log⟩:=s;have one:∀(e v:SV),cQ cfg 1000 [e] [v] ⟨[],hh,[]⟩ (fun _=>True)->az C v av->∃Fz':Nat->Option AO,(∀i o,C.Fz i=some o->Fz' i=some o)/\(∀i o,Fz' i=some o->a.get i=some o)/\aG Fz' e av:=by
   intro e v h hv;obtain⟨C1,new,s1,g1,g2,g3,g4,g5,_,g7⟩:=u5 (ta:= .e) htab 1000 _ _ [av] _ C _ h (aJ.cons hv aJ.nil) (fun t s hs=>by grind [look]) H;exact⟨C1.Fz,g2.fz,g3.fz,g7.2 0 e av rfl rfl⟩
 simp only[mH]at h;split at h
 . obtain⟨us,rfl,hs⟩:=rY hv;obtain⟨C1,new,s1,g1,g2,g3,g4,g5,_,g7⟩:=u5 (ta:= .e) htab 1000 _ _ us _ C _ h hs (fun t s hs=>by grind [look]) H;exact⟨C1.Fz,g2.fz,g3.fz, .bg g7.1 g7.2⟩
 all_goals grind
end
end
section
universe u v
variable [Inhabited aL]
section
variable {P:Program} {tab:bc} {cfg:fy}
end
end
section
universe u v
variable [Inhabited aL]
section
variable {P:Program} {tab:bc}
theorem dm.shut (ok:bq P tab) {f:FuncId} {fn:Func} {body:Code} {avs:List AV} {Θ:AV->AH->Prop} (hfn:tab.fns.get f=some fn) (hb:fn.body=some body) (hgo:dm P {fr:=ae.enter fn f body avs .normal,cs:=[],h:=cG} Θ)
   (hargs:∀E E',aU E avs=aU E' avs) (hv:∀v h',Θ v h'->∀E E',ad E v=ad E' v) (a:AH):dm P {fr:=ae.enter fn f body avs .normal,cs:=[],h:=a} fun v a'=>a'=a/\ ∃h',Θ v h':=by
 intro D E K base frC csC w hR hB;have hP:=ok.fns f fn hfn;obtain⟨q1,q2,q3⟩:=hR.all E (ai.refl _ _);have hR0:Rel (fun _=>False) E (KS.old w.heap.size) {fr:=ae.enter fn f body avs .normal,cs:=[],h:=cG} base frC csC w:=by
   refine⟨fun E' _=>⟨Jk E' _ w (fun b h=>h) (fun b h=>h),?_,q3⟩,fun i h=>h.elim,hR.wf⟩;rw[<-q2];rw[<-ly hP hb,<-ly hP hb,hargs E' E]
 obtain⟨v,h',hΘ,fr',w',v',E',D',s1,s2,s3,s4,s5,s6,s7,s8,s9,s10⟩:=hgo _ E _ base frC csC w hR0 (fun b hb=>⟨q1.kb b (hB b hb).1,(hB b hb).2⟩);refine⟨v,a,⟨rfl,h',hΘ⟩,fr',w',v',E,D,s1,s2,s3,fun E'' he=>⟨?_,?_⟩,ai.refl _ _,fun _ h=>h,hR.dv,⟨s8.os,s8.tape,s8.output,s8.size,fun b hb'=>s8.block b (q1.kb b hb'),s8.drawn⟩,An _,fun i hi=> .inl hi⟩
 . obtain⟨g1,_,_⟩:=hR.all E'' he;refine⟨fun i o hi=>?_,g1.nk,g1.inj,g1.dv,fun b hb'=>A2 (g1.kb b hb') s8.size,g1.im,g1.k0⟩;obtain⟨c,h1,h2⟩:=g1.obj i o hi;refine⟨c,?_,h2⟩;rw[s8.block _ (Ak.1 h1).1];exact h1
 . rw[<-(s4 E' (ai.refl _ _)).2];grind
theorem bX.shut (pr:eR P tab) {f:FuncId} {C:aH} (h:∀fn body,tab.fns.get f=some fn->fn.body=some body->∀y,C.pre y->∀avs Fz,PL Fz (C.args y) avs->(∀E E',aU E avs=aU E' avs)/\ ∃Θ:AV->AH->Prop,dm P {fr:=ae.enter fn f body avs .normal,cs:=[],h:=cG} Θ/\ ∀v h',Θ v h'->(∀E E',ad E v=ad E' v)/\aG (fun _=>none) (C.res y) v):bX P tab f C:=by
 intro fn body hfn hb y hy Fz a avs hfz hwf hlen hav;obtain⟨h1,Θ,h2,h3⟩:=h fn body hfn hb y hy avs Fz ⟨hlen,hav⟩;refine(dm.shut pr.ok hfn hb h2 h1 (fun v h' hv=>(h3 v h' hv).1) a).mono ?_;rintro v a' ⟨rfl,h',hv⟩;exact⟨Fz,fun _ _ h=>h,hfz,(h3 v h' hv).2.mono (fun _ _ h=>by cases h),Grow.refl _,fun _ _ h=>h,hwf,fun _ _ h=> .inl h⟩
theorem dm.run (pr:eR P tab) {n:Nat} {m:AM} {outs:List (AV×AH)} (h:Am.run tab n m= .ok outs):dm P m fun v h'=>(v,h')∈outs:=by
 intro D E K base frC csC w hR hB;exact(Hw pr.ok pr.ext (fun sub hsub=>uc pr.ok hsub pr.ext pr.mix) n).1 m outs h D E K base frC csC w hR
end
end
section
universe u v
variable [Inhabited aL]
def cT (n:Nat):Value->AV
 | .bool b=> .bool b
 | .int k z=> .int k z
 | .string s=> .str s.data.toList
 | .pointer none=> .aF
 | .slice none 0 0=> .nils
 | .slice (some ⟨b,off,none⟩) (len+1) cap=>if b<n then .sl b off (len+1) (.lit cap)else .raw (.slice (some ⟨b,off,none⟩) (len+1) cap)
 | .map none=> .aW
 | .nilFunc=> .aZ
 |v=> .raw v
def ee (n:Nat):Value->AV
 | .agg cs=> .agg (cs.toList.map (cT n))
 |v=>cT n v
theorem ya {n:Nat} {E:Env} (hE:∀i,i<n->E.aK i=i) (v:Value):ad E (cT n v)=v:=by
 unfold cT;split<;>try (simp[ad];done)
 grind [ad,ew.val]
theorem xD {n:Nat} {E:Env} (hE:∀i,i<n->E.aK i=i) (l:List Value):aU E (l.map (cT n))=l:=by
 induction l with
 |nil=>rfl
 |cons v l ih=>simp_all[ya]
theorem GW {n:Nat} {E:Env} (hE:∀i,i<n->E.aK i=i) (v:Value):ad E (ee n v)=v:=by
 unfold ee;split
 all_goals simp_all[ad,xD,ya]
theorem GS {n:Nat} {E:Env} (hE:∀i,i<n->E.aK i=i) (l:List Value):aU E (l.map (ee n))=l:=by
 induction l with
 |nil=>rfl
 |cons v l ih=>simp_all[GW]
def iq (tab:bc) (w:World) (b:Nat):Option AO:=
 match w.heap[b]? with
 |some (.cells arr e _)=>some (.cells (arr.toList.map (cT w.heap.size)) e ((tab.siz.get e).getD 1) false .ro)
 |_=>none
def cJ (tab:bc) (w:World):AH:=ofFn w.heap.size (iq tab w)
theorem yF {tab:bc} {w:World} {b:Nat} {o:AO} (h:iq tab w b=some o):∃arr e fz,w.heap[b]? =some (.cells arr e fz)/\o= .cells (arr.toList.map (cT w.heap.size)) e ((tab.siz.get e).getD 1) false .ro:=by
 grind [iq]
theorem uW {tab:bc} {w:World} {b:Nat}:(cJ tab w).get b=iq tab w b:=by
 grind [cJ,mm,iq]
theorem zW (tab:bc) (w:World) {E:Env} (hE:∀i,i<w.heap.size->E.aK i=i):bl E (cJ tab w) (KS.old w.heap.size) w:=by
 have hro:∀i o,(cJ tab w).get i=some o->o.ro/\i<w.heap.size:=by
   intro i o hi;rw[uW]at hi;obtain⟨arr,e,fz,hb,rfl⟩:=yF hi;exact⟨trivial,(Ak.1 hb).1⟩
 refine⟨fun i o hi=>?_,fun i o hi hr=>absurd (hro i o hi).1 hr,fun i j oi oj hi hj hr=>absurd (hro i oi hi).1 hr,fun i o hi=>(hro i o hi).2,fun b hb=>hb,fun i o hi _=>?_,fun b hb=>hb⟩
 . rw[uW]at hi;obtain⟨arr,e,fz,hb,rfl⟩:=yF hi;have hlt:=(Ak.1 hb).1;refine⟨_,by rw[hE i hlt];exact hb,arr,fz,rfl,⟨[],by grind [xD]⟩,by simp,trivial⟩
 grind
theorem yT (n:Nat) (a:Addr) (c:Nat):cT n (.slice (some a) 0 c)= .raw (.slice (some a) 0 c):=by
 simp_all[cT]
theorem JP {n b off len cap:Nat} (h:len≠0) (hb:b<n):cT n (.slice (some ⟨b,off,none⟩) len cap)= .sl b off len (.lit cap):=by
 cases len with
 |zero=>omega
 |succ len=>grind [cT]
theorem zG {tab:bc} {w:World} {X:Type} {L:List X} {enc:X->List SV} {b off len cap:Nat} {arr:Array Value} {e:TypeId} {fz:Nat×Nat} {sz:Nat} (hb:w.heap[b]? =some (.cells arr e fz))
   (h0:0<sz) (hn:∀x∈L,(enc x).length=sz) (hl:off+L.length*sz<=arr.size) (hlen:len=L.length) (hcap:len<=cap)
   (hc:∀(i:Nat) x (j:Nat) v,L[i]? =some x->(enc x)[j]? =some v->∃u,arr[off+i*sz+j]? =some u/\aG (cJ tab w).get v (cT w.heap.size u)):
   aG (cJ tab w).get (.ax X L enc) (cT w.heap.size (.slice (some ⟨b,off,none⟩) len cap)):=by
 have hlt:=(Ak.1 hb).1;have hg:(cJ tab w).get b=some (.cells (arr.toList.map (cT w.heap.size)) e ((tab.siz.get e).getD 1) false .ro):=by
   rw[uW];grind [iq]
 subst hlen;by_cases hL:L.length=0
 . rw[hL,yT];exact .bR hL (.inr (.inr ⟨_,_,rfl⟩))
 rw[JP hL hlt];refine .ax b off (.lit cap) _ e sz false .ro (fun i j=>cT w.heap.size (arr[off+i*sz+j]?.getD (.bool false))) ⟨_,false,hg,fun h=>by cases h⟩ h0 (by grind) (fun i x hx=>hn x (Bv hx)) hcap ?_ ?_
 . intro i x j v hx hv;obtain⟨u,hu,_⟩:=hc i x j v hx hv;simp[hu]
 . intro i x j v hx hv;obtain⟨u,hu,hs⟩:=hc i x j v hx hv;simp only[hu,DA];exact hs
section
variable {P:Program} {tab:bc} {cfg:fy}
end
end
section
universe u v
variable [Inhabited aL]
abbrev aj (a b:Int):Prop:=a=b
theorem af {b:Bool} {p q:Prop}:br b p q↔(b=true->p)/\(b=false->q):=by
 cases b<;>simp[br]
theorem aP {b:Bool} {p q:Prop} (h:b=true->p) (k:b=false->q):br b p q:=af.2 ⟨h,k⟩
theorem ag {b:Bool} {p:Prop}:ck b p↔b=true/\p:=by
 cases b<;>simp[ck]
theorem au {α:Type u} {x:Option α} {k:α->Prop}:so x k↔∃a,x=some a/\k a:=by
 cases x<;>simp[so]
theorem iX (n:Int):nn n=decide (0<=n):=by
 rw[Aw]
 cases n with
 |ofNat a=>grind [nn]
 |negSucc a=>grind [nn]
theorem dQ (n:Int):aX .i64 n=true↔ -9223372036854775808<=n/\n<=9223372036854775807:=by
 grind [aX,tD,tw,dN]
def bx {C:aH} (cfg:C.Y->fy) (n:Nat) (f:FuncId):Prop:=∀y:C.Y,C.pre y->ask (cfg y) n f (C.args y) (mH (cfg y) (C.res y))
theorem bO {P:Program} {tab:bc} {C:aH} {cfg:C.Y->fy} (pr:eR P tab) (htab:∀y,(cfg y).tab=tab) (hcon:∀y g C',(cfg y).fH g=some C'->bX P tab g C') {n:Nat} {f:FuncId} (h:bx cfg n f):bX P tab f C:=by
 refine bX.of fun fn body hfn hb y hy C0 a avs hρ H hlen hav=>?_
 have h1:=h y hy;unfold ask at h1;rw[htab y,hfn]at h1;simp only[hb]at h1;refine(Ng pr (htab y) (hcon y) n f fn body (C.args y) ⟨0,[]⟩ a C0 avs _ hfn hb h1 H ⟨hlen,fun i s v hs hv=> .pure (hav i s v hs hv)⟩).mono ?_;rintro v a' ⟨sv,s',C',k1,k2,k3,k4⟩;exact⟨sv,s',C',fun C1 a1 av H1 hv1=>Kn (htab y) k1 H1 hv1,k2,k3,k4⟩
theorem bM {P:Program} {tab:bc} {fH:FuncId->Option aH} {k:FuncId} {c:aH} (hc:bX P tab k c) (h:∀g C,fH g=some C->bX P tab g C):∀g C,(bif Nat.beq g k then some c else fH g)=some C->bX P tab g C:=by
 grind [Nat.eq_of_beq_eq_true]
theorem q8 {P:Program} {tab:bc}:∀g C,(none:Option aH)=some C->bX P tab g C:=fun _ _ h=>by cases h
end
end Go.Sy
namespace Go.Proofs
open Go Go.Am Go.RowKit Go.Sy
abbrev Bs:=List UInt8
def nB (b:UInt8):Int:=Int.ofNat b.toNat
def cI (s:Bs):List SV:=[.str s]
def bP (s:Bs) (c:Int):Option Nat:=s.findIdx? (fun b=>nB b==c)
def eG (s:Bs) (c:Int):Int:=match bP s c with|some i=>(i:Int)|none=> -1
def bV (s:Bs) (c:Int):Bs×Bs×Bool:=match bP s c with|some i=>(s.take i,s.drop (i+1),true)|none=>(s,[],false)
def aB:Bs->Int->List Bs
 |[],_=>[[]]
 |b::s,c=>if nB b=c then[]::aB s c else match aB s c with
  |h::t=>(b::h)::t
  |[]=>[[b]]
def cy (b:UInt8):Bool:=decide (48<=nB b)&&decide (nB b<=57)
def cm (s:Bs):Nat:=(s.takeWhile cy).length
def bB (n:Int) (b:UInt8):Int:=min (n*10+(nB b - 48)) 1099511627776
def bS (s:Bs):Bool:=match s with|b::_=>nB b==45|[]=>false
def ak (s:Bs):Bs:=if bS s then s.drop 1 else s
def aS (s:Bs):Int×Bool:=if ak s=[]\/cm (ak s)<(ak s).length then(0,false)else((if bS s then -1 else 1)*(ak s).foldl bB 0,true)
def ij:Nat->Nat->Bs
 |0,_=>[]
 |k+1,n=>if n<=9 then[UInt8.ofNat (48+n)]else ij k (n / 10)++[UInt8.ofNat (48+n % 10)]
def fU (n:Nat):Bs:=ij 40 n
def eT (b:UInt8):Bool:=(decide (97<=nB b)&&decide (nB b<=122))||(decide (48<=nB b)&&decide (nB b<=57))||nB b==45||nB b==95
def eI (c:Int) (e:Bool):Bool:=if c=45 then !e else(decide (97<=c)&&decide (c<=122))||(decide (48<=c)&&decide (c<=57))||c==95
def di (s:Bs):Bool:=s !=[]&&decide (s.length<=63)&&s.all eT&&s.head? !=some 45&&s.getLast? !=some 45
def eP (p:Bs):Bool:=p !=[]&&decide (cm p=p.length)&&decide ((aS p).1<=255)&& !(decide (1<p.length)&&p.head? ==some 48)
def dO (s:Bs):Bool:=decide ((aB s 46).length=4)&&(aB s 46).all eP
def cg (b:UInt8):Bool:=(decide (48<=nB b)&&decide (nB b<=57))||(decide (97<=nB b)&&decide (nB b<=102))||nB b==58||nB b==46
def dK (s:Bs):Bool:=decide (4<=s.length)&&decide (s.length<=47)&&s.head? ==some 91&&s.getLast? ==some 93&&((s.drop 1).take (s.length - 2)).all cg
def eX (s:Bs):Bool:=dO s||dK s
def bU (s:Bs):Bool:=decide (s.length<=256)&& !dO s&&(aB s 46).all di
def bG (s:Bs):Bs×Bool×Bool:=if(s.take 2)=[42,46]then(s.drop 2,true,false)else if s.take 1=[33]then(s.drop 1,false,true)else(s,false,false)
def cX (s:Bs):Bool:=bU (bG s).1&&(!(bG s).2.2||decide (1<(aB (bG s).1 46).length))
theorem lI {a b:UInt8} (h:nB a=nB b):a=b:=by
 unfold nB at h;exact Dl.1 (Int.ofNat.inj h)
theorem dF {s:Bs} {c:Int} {i:Nat}:bP s c=some i↔∃h:i<s.length,nB s[i]=c/\ ∀j (hj:j<i),nB (s[j]'(by omega))≠c:=by
 unfold bP;rw[List.findIdx?_eq_some_iff_getElem];constructor
 . rintro⟨h,h1,h2⟩;exact⟨h,by simpa using h1,fun j hj=>by simpa using h2 j hj⟩
 . rintro⟨h,h1,h2⟩;exact⟨h,by simpa using h1,fun j hj=>by simpa using h2 j hj⟩
theorem fB {s:Bs} {c:Int}:bP s c=none↔∀j (hj:j<s.length),nB s[j]≠c:=by
 unfold bP;rw[List.findIdx?_eq_none_iff];constructor
 . intro h j hj;simpa using h s[j] (Av hj)
 . intro h x hx;obtain⟨j,hj,rfl⟩:=By hx;simpa using h j hj
theorem lv (s:Bs) (c:Int):aB s c≠[]:=by
 cases s with
 |nil=>simp[aB]
 |cons b s=>
  simp only[aB];split
  . simp
  . split<;>simp
theorem nH (s:Bs) (c:Int):aB s c=match bP s c with|some i=>s.take i::aB (s.drop (i+1)) c|none=>[s]:=by
 induction s with
 |nil=>simp[aB,bP]
 |cons b s ih=>
  by_cases hb:nB b=c
  . simp[aB,bP,B7,hb]
  . have h2:bP (b::s) c=(bP s c).map (· +1):=by simp[bP,B7,hb]
    simp only[aB,Ah hb,h2];rw[ih]
    cases hp:bP s c with
    |none=>simp
    |some i=>simp
theorem kI (s:Bs) (c:Int):(aB s c).length<=s.length+1:=by
 induction s with
 |nil=>simp[aB]
 |cons b s ih=>
  simp only[aB];split
  . simp;omega
  . split
    . rename_i h t he;rw[he]at ih;simp at ih⊢;omega
    . simp
theorem xq (s:Bs) (c:Int):∀p∈aB s c,p.length<=s.length:=by
 induction s with
 |nil=>simp[aB]
 |cons b s ih=>
  intro p hp;simp only[aB]at hp;split at hp
  . rcases As.1 hp with rfl|hp
    . simp
    . have:=ih p hp;simp;omega
  . split at hp
    . rename_i h t he;rw[he]at ih;rcases As.1 hp with rfl|hp
      . have:=ih h Aj;simp;omega
      . have:=ih p (Au _ hp);simp;omega
    . simp at hp;subst hp;simp
theorem q9 (s:Bs):cm s<=s.length:=(D5 _).length_le
theorem qT {s:Bs} (h:¬cm s<s.length):∀b∈s,cy b=true:=by
 have h1:cm s=s.length:=DG (q9 s) (Dh h);unfold cm at h1;have h2:s.takeWhile cy=s:=List.IsPrefix.eq_of_length (D5 _) h1;intro b hb;rw[<-h2]at hb;exact Aq.1 (List.all_takeWhile ..) b hb
theorem yd {s:Bs} {j:Nat} (hj:j<cm s):∃h:j<s.length,cy s[j]=true:=by
 induction s generalizing j with
 |nil=>simp[cm]at hj
 |cons b s ih=>
  by_cases hb:cy b=true
  . have hd:cm (b::s)=cm s+1:=by simp[cm,B0,hb]
    cases j with
    |zero=>exact⟨by simp,by simpa using hb⟩
    |succ j=>
     obtain⟨h1,h2⟩:=ih (j:=j) (by omega);exact⟨by simpa using h1,by simpa using h2⟩
  . have hd:cm (b::s)=0:=by simp[cm,B0,hb]
    omega
theorem uR {s:Bs} (h:cm s<s.length):cy (s[cm s])=false:=by
 induction s with
 |nil=>simp at h
 |cons b s ih=>
  by_cases hb:cy b=true
  . have hd:cm (b::s)=cm s+1:=by simp[cm,B0,hb]
    simp only[hd,List.getElem_cons_succ];exact ih (by rw[hd]at h;simpa using h)
  . have hd:cm (b::s)=0:=by simp[cm,B0,hb]
    simp only[hd,List.getElem_cons_zero];exact Ap.2 hb
theorem lr (b:UInt8):cy b=true↔48<=nB b/\nB b<=57:=by simp[cy]
theorem GB {n:Int} {b:UInt8} (hn:0<=n) (hb:cy b=true):0<=bB n b/\bB n b<=1099511627776:=by
 rw[lr]at hb;unfold bB;omega
theorem xB (s:Bs) (h:∀b∈s,cy b=true):∀n:Int,0<=n->n<=1099511627776->0<=s.foldl bB n/\s.foldl bB n<=1099511627776:=by
 induction s with
 |nil=>intro n h1 h2;exact⟨h1,h2⟩
 |cons b s ih=>
  intro n h1 h2;have:=GB h1 (h b Aj);exact ih (fun c hc=>h c (Au _ hc)) _ this.1 this.2
end Go.Proofs
namespace Go.Proofs
open Go Go.Am Go.RowKit
section
variable [Inhabited aL]
theorem Tryz.o9:Tryz.tab.fns.get 169=some Tryz.f169:=by kernel_rfl
theorem Mn:Extern.findNext Tryz.f169=none:=by kernel_rfl
theorem Mj:Extern.find Tryz.f169=some (iZ 1 Tryz.f169):=by kernel_rfl
theorem Tryz.pa:Tryz.tab.fns.get 201=some Tryz.f201:=by kernel_rfl
theorem Mo:Extern.findNext Tryz.f201=none:=by kernel_rfl
theorem Mk:Extern.find Tryz.f201=some (iZ 6 Tryz.f201):=by kernel_rfl
theorem Tryz.pb:Tryz.tab.fns.get 326=some Tryz.f326:=by kernel_rfl
theorem Mq:Extern.findNext Tryz.f326=none:=by kernel_rfl
theorem Ml:Extern.find Tryz.f326=some (iZ 5 Tryz.f326):=by kernel_rfl
theorem MI:eJ Tryz.prog Tryz.tab:=My [(169,1),(201,6),(326,5)] rfl (by
 intro x hx;simp only[As,BV,De]at hx;rcases hx with rfl|rfl|rfl
 . exact⟨_,Tryz.o9,Mn,Mj⟩
 . exact⟨_,Tryz.pa,Mo,Mk⟩
 . exact⟨_,Tryz.pb,Mq,Ml⟩)
theorem Tryz.mix:Tryz.prog.follows .mixedOrders=true:=by kernel_rfl
theorem bD:Go.Sy.eR Tryz.prog Tryz.tab:=⟨Tryz.lQ,La Tryz.lQ MI,Tryz.mix⟩
end
end Go.Proofs
namespace Go.Proofs.YtggljmdeadplkaaGreat.auditItems
open Go.ChangeShapes Go.WideShapes Go.ChangeAt Go.RowKit
theorem j9:(Rows.auditItemsRow.inPlace==Tryz.prog.inPlace 3)=true:=by kernel_rfl
theorem EU:(Rows.auditItemsRow.unfollowed==Tryz.prog.unfollowed 3)=true:=by kernel_rfl
theorem EV:(Rows.auditItemsRow.recurses==Tryz.prog.recurses 3)=true:=by kernel_rfl
theorem EW:(Rows.auditItemsRow.named==Tryz.prog.varsNamed 3)=true:=by kernel_rfl
end Go.Proofs.YtggljmdeadplkaaGreat.auditItems
