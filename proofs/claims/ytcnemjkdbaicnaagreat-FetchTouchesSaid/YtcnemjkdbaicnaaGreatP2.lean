/- Part 2: an evaluator, proved sound, and its use at this seat; no condition. -/
import Derived.Test.YtcnemjkdbaicnaaGreatP0
import Derived.Test.YtcnemjkdbaicnaaGreatP1
set_option linter.unusedSimpArgs false
set_option linter.unusedVariables false
set_option linter.unusedSectionVars false
set_option linter.deprecated false
set_option maxRecDepth 100000
namespace Go.Sy
open Go.Am
section
universe u v
inductive SV:Type 1 where
 |bool (b:Bool)
 |int (k:IntKind) (n:Int)
 |str (s:List UInt8)
 |bj
 |wp (a:Addr)
 |ptr (b off:Nat)
 |cu (b i off:Nat)
 |cU (cs:List SV) (off:Nat)
 |nils
 |sl (b off len cap:Nat)
 |own (b:Nat)
 |bh (X:Type) (L:List X) (enc:X->List SV)
 |bw
 |map (b:Nat)
 |bB
 |fn (f:FuncId) (first captured:List SV)
 |agg (cs:List SV)
 |bA (vs:List SV)
 |any
inductive SO:Type 1 where
 |cells (cs:List SV) (elem:TypeId)
 |arr (X:Type) (L:List X) (enc:X->List SV) (elem:TypeId)
def so {α:Type u} (x:Option α) (k:α->Prop):Prop:=match x with|some a=>k a|none=>False
def br (b:Bool) (p q:Prop):Prop:=match b with|true=>p|false=>q
def ck (b:Bool) (p:Prop):Prop:=match b with|true=>p|false=>False
def look {α:Type u}:List (Nat×α)->Nat->Option α
 |[],_=>none
 |(k,v)::l,n=>bif Nat.beq k n then some v else look l n
abbrev Fr:=List (Nat×SV)
structure SH:Type 1 where
 next:Nat
 os:List (Nat×Option SO)
def SH.get (h:SH) (b:Nat):Option SO:=match look h.os b with|some (some o)=>some o|_=>none
def SH.set:SH->Nat->Option SO->SH
 |⟨n,os⟩,b,o=>⟨n,(b,o)::os⟩
def SH.new:SH->SO->SH
 |⟨n,os⟩,o=>⟨n+1,(n,some o)::os⟩
def Fr.of:List SV->Nat->Fr
 |[],_=>[]
 |v::l,n=>(n,v)::Fr.of l (n+1)
def uX:Value->Option SV
 | .bool b=>some (.bool b)
 | .int k n=>some (.int k n)
 | .string s=>some (.str s.data.toList)
 | .pointer none=>some .bj
 | .slice none 0 0=>some .nils
 | .map none=>some .bw
 | .nilFunc=>some .bB
 |_=>none
def jh {α:Type u} {β:Type v} (f:α->Option β):List α->Option (List β)
 |[]=>some []
 |x::l=>match f x,jh f l with|some y,some m=>some (y::m)|_,_=>none
def CX:Value->Option SV
 | .agg cs=>(jh uX cs.toList).map .agg
 | .tuple vs=>(jh uX vs.toList).map .bA
 |v=>uX v
def kQ:AV->Option SV
 | .bool b=>some (.bool b)
 | .int k n=>some (.int k n)
 | .str s=>some (.str s)
 | .bj=>some .bj
 | .nils=>some .nils
 | .bw=>some .bw
 | .bB=>some .bB
 |_=>none
def FX:AV->Option (List SV)
 | .agg cs=>jh kQ cs
 |v=>(kQ v).map fun x=>[x]
def fy (ts:Fr):Operand->Option SV
 | .tmp t=>look ts t
 | .const v=>CX v
 | .func f=>some (.fn f [] [])
 | .global _=>none
def kZ (ts:Fr) (l:List Operand):Option (List SV):=jh (fy ts) l
def SV.cells:SV->List SV
 | .agg cs=>cs
 |v=>[v]
def nS:SV->Bool
 | .bool _| .int _ _| .str _| .bj| .wp _| .nils| .bw| .bB| .bh _ _ _=>true
 |_=>false
def SV.known:SV->Bool
 | .any=>false
 |_=>true
def isScalar:SV->Bool
 | .agg _| .bA _| .any=>false
 |_=>true
section
variable (tab:bm)
def mQ (t:TypeId) (cs:List SV) (off:Nat):Option SV:=
 match tab.agg.get t with
 |some true=>match tab.siz.get t with
  |some n=>bif Nat.ble (off+n) cs.length then some (.agg ((cs.drop off).take n))else none
  |none=>none
 |some false=>cs[off]?
 |none=>none
def uG (cs:List SV) (off:Nat) (vs:List SV):List SV:=cs.take off++(vs++cs.drop (off+vs.length))
def yQ (h:SH) (t:TypeId) (p:SV) (k:SV->Prop):Prop:=
 match p with
 | .ptr b off=>match h.get b with
  |some (.cells cs _)=>so (mQ tab t cs off) k
  |_=>False
 | .cu b i off=>match h.get b with
  |some (.arr _ L enc _)=>so (L[i]?) fun x=>so (mQ tab t (enc x) off) k
  |_=>False
 | .cU cs off=>so (mQ tab t cs off) k
 |_=>False
def FB (h:SH) (t:TypeId) (p v:SV) (k:SH->Prop):Prop:=
 match tab.siz.get t with
 | some n=>ck (!(Nat.beq n 0)&&v.known&&Nat.beq v.cells.length n&&v.cells.all isScalar) (match p with
  | .ptr b off=>match h.get b with
   |some (.cells cs e)=>ck (Nat.ble (off+n) cs.length) (k (h.set b (some (.cells (uG cs off v.cells) e))))
   |_=>False
  |_=>False)
 |none=>False
end
end
section
universe u v
inductive Ev:Type 1 where
 |kill (b:Nat)
 |mod (b:Nat)
 |ft (b:Nat) (X:Type) (L:List X) (enc:X->List SV)
def kT:List Ev->List Nat
 |[]=>[]
 | .mod b::l=>b::kT l
 | .kill b::l=>b::kT l
 |_::l=>kT l
mutual
def SV.on (e:Ev):SV->SV
 | .cu b i off=>match e with
  | .kill c=>bif Nat.beq b c then .any else .cu b i off
  | .ft c _ L enc=>bif Nat.beq b c then(match L[i]? with|some x=> .cU (enc x) off|none=> .any)else .cu b i off
  | .mod _=> .cu b i off
 | .own b=>match e with
  | .kill c=>bif Nat.beq b c then .any else .own b
  | .ft c X L enc=>bif Nat.beq b c then .bh X L enc else .own b
  | .mod _=> .own b
 | .sl b off len cap=>match e with
  | .kill c=>bif Nat.beq b c then .any else .sl b off len cap
  | .ft c _ _ _=>bif Nat.beq b c then .any else .sl b off len cap
  | .mod _=> .sl b off len cap
 | .ptr b off=>match e with
  | .kill c=>bif Nat.beq b c then .any else .ptr b off
  | .ft c _ _ _=>bif Nat.beq b c then .any else .ptr b off
  | .mod _=> .ptr b off
 | .fn f xs ys=> .fn f (fE e xs) (fE e ys)
 | .agg cs=> .agg (fE e cs)
 | .bA cs=> .bA (fE e cs)
 |v=>v
def fE (e:Ev):List SV->List SV
 |[]=>[]
 |v::l=>SV.on e v::fE e l
end
def SO.on (e:Ev):SO->SO
 | .cells cs t=> .cells (fE e cs) t
 |o=>o
def ju (e:Ev):List (Nat×Option SO)->List (Nat×Option SO)
 |[]=>[]
 |(b,none)::l=>(b,none)::ju e l
 |(b,some o)::l=>(b,some (o.on e))::ju e l
def qx (e:Ev):Fr->Fr
 |[]=>[]
 |(t,v)::l=>(t,v.on e)::qx e l
structure St:Type 1 where
 ts:Fr
 h:SH
 log:List Ev
def St.note:St->Ev->St
 |⟨ts,h,log⟩,e=>⟨ts,h,log++[e]⟩
def St.ev:St->Ev->St
 |⟨ts,⟨n,os⟩,log⟩,e=>⟨qx e ts,⟨n,ju e os⟩,log++[e]⟩
def St.new:St->SO->St
 |⟨ts,h,log⟩,o=>⟨ts,h.new o,log⟩
def St.aU:St->Nat->SO->St
 |⟨ts,h,log⟩,b,o=>⟨ts,h.set b (some o),log⟩
def St.del:St->Nat->St
 |⟨ts,h,log⟩,b=>⟨ts,h.set b none,log⟩
def St.Oi:St->SH->List Ev->St
 |⟨ts,_,log⟩,h,l=>⟨ts,h,log++l⟩
def kv {α:Type u}:List α->(List α->Prop)->Prop
 |[],K=>K []
 |x::l,K=>kv l fun l'=>K (x::l')
def Fv (v:SV) (K:SV->Prop):Prop:=
 match v with
 | .bool b=>K (.bool b)
 | .int k n=>K (.int k n)
 | .str s=>K (.str s)
 | .bj=>K .bj
 | .wp a=>K (.wp a)
 | .ptr b off=>K (.ptr b off)
 | .cu b i off=>K (.cu b i off)
 | .cU cs off=>kv cs fun cs=>K (.cU cs off)
 | .nils=>K .nils
 | .sl b off n c=>K (.sl b off n c)
 | .own b=>K (.own b)
 | .bh X L enc=>K (.bh X L enc)
 | .bw=>K .bw
 | .map b=>K (.map b)
 | .bB=>K .bB
 | .fn f xs ys=>kv xs fun xs=>kv ys fun ys=>K (.fn f xs ys)
 | .agg cs=>kv cs fun cs=>K (.agg cs)
 | .bA cs=>kv cs fun cs=>K (.bA cs)
 | .any=>K .any
def Na (o:SO) (K:SO->Prop):Prop:=
 match o with
 | .cells cs t=>kv cs fun cs=>K (.cells cs t)
 | .arr X L enc t=>K (.arr X L enc t)
def vb (h:SH) (K:SH->Prop):Prop:=
 match h with
 |⟨n,os⟩=>match os with
  |(b,some o)::l=>Na o fun o=>K ⟨n,(b,some o)::l⟩
  |l=>K ⟨n,l⟩
def o6 {α:Type}:T α->(T α->Prop)->Prop
 | .e,K=>K .e
 | .n v l r,K=>o6 l fun l=>o6 r fun r=>match v with
  |some a=>K (.n (some a) l r)
  |none=>K (.n none l r)
structure View:Type 1 where
 X:Type
 enc:X->List SV
def vH (tab:bm) (t:TypeId):Option (List SV):=(tab.lV.get t).bind FX
def vM:R AV->Option SV
 | .ok v=>kQ v
 | .no _=>none
def bK (x y:Int):Bool:=
 match x with
 | .ofNat a=>match y with
  | .ofNat b=>Nat.blt a b
  | .negSucc _=>false
 | .negSucc a=>match y with
  | .ofNat _=>true
  | .negSucc b=>Nat.blt b a
def bO (x y:Int):Bool:=
 match x with
 | .ofNat a=>match y with
  | .ofNat b=>Nat.ble a b
  | .negSucc _=>false
 | .negSucc a=>match y with
  | .ofNat _=>true
  | .negSucc b=>Nat.ble b a
def zo:IntKind->Int
 | .i8=> .negSucc 127| .i16=> .negSucc 32767| .i32=> .negSucc 2147483647| .i64=> .negSucc 9223372036854775807
 |_=> .ofNat 0
def zk:IntKind->Int
 | .i8=> .ofNat 127| .i16=> .ofNat 32767| .i32=> .ofNat 2147483647| .i64=> .ofNat 9223372036854775807
 | .u8=> .ofNat 255| .u16=> .ofNat 65535| .u32=> .ofNat 4294967295| .u64=> .ofNat 18446744073709551615
def bD (k:IntKind) (n:Int):Bool:=bO (zo k) n&&bO n (zk k)
def nn (n:Int):Bool:=match n with| .ofNat _=>true| .negSucc _=>false
def mD (v:SV) (k:Nat->Prop):Prop:=
 match v with
 | .int _ n=>ck (nn n) (k n.toNat)
 |_=>False
section
variable (tab:bm) (view:TypeId->Option View)
def lI (eq:TypeId->SV->SV->Option Bool):List Field->List SV->List SV->Option Bool
 |[],_,_=>some true
 | f::fs,xs,ys=>
  bif decide (f.name= "_")then lI eq fs xs ys else
   match mQ tab f.type xs f.offset,mQ tab f.type ys f.offset with
   |some a,some b=>match eq f.type a b,lI eq fs xs ys with
    |some p,some q=>some (p&&q)
    |_,_=>none
   |_,_=>none
def gr:Nat->TypeId->SV->SV->Option Bool
 |0,_,_,_=>none
 | d+1,t,x,y=>
  match tab.und.get t,x,y with
  |some .bool, .bool a, .bool b=>some (a==b)
  |some (.int _), .int k a, .int j b=>bif decide (k=j)then some (a==b)else none
  |some .string, .str a, .str b=>some (a==b)
  |some (.pointer _), .bj, .bj=>some true
  |some (.pointer _), .bj, .ptr _ _=>some false
  |some (.pointer _), .ptr _ _, .bj=>some false
  |some (.pointer _), .wp _, .bj=>some false
  |some (.pointer _), .bj, .wp _=>some false
  |some (.slice _), .nils, .nils=>some true
  |some (.map _ _), .bw, .bw=>some true
  |some (.map _ _), .bw, .map _=>some false
  |some (.map _ _), .map _, .bw=>some false
  |some (.func _ _ _), .bB, .bB=>some true
  |some (.func _ _ _), .bB, .fn .. =>some false
  |some (.func _ _ _), .fn .., .bB=>some false
  |some (.struct fs), .agg xs, .agg ys=>
   match tab.held.get t with
   |some false=>lI tab (gr d) fs.toList xs ys
   |_=>none
  |_,_,_=>none
def cQ (b:UInt8):List SV:=[.int .u8 (.ofNat b.toNat)]
def qW (c:List UInt8):List SV:=c.map fun b=> .int .u8 (.ofNat b.toNat)
def FE (op:BinOp) (k:IntKind) (x y:Int) (K:SV->Prop):Prop:=
 let fit (n:Int):Prop:=bif k.signed then ck (bD k n) (K (.int k n))else K (.int k (k.wrap n))
 match op with
 | .add=>fit (x+y)
 | .sub=>fit (x - y)
 | .mul=>fit (x*y)
 | .quo=>ck (!(y==0)) (fit (x.tdiv y))
 | .rem=>ck (!(y==0)) (K (.int k (x.tmod y)))
 | .eql=>K (.bool (x==y))
 | .neq=>K (.bool (!(x==y)))
 | .lss=>K (.bool (bK x y))
 | .leq=>K (.bool (bO x y))
 | .gtr=>K (.bool (bK y x))
 | .geq=>K (.bool (bO y x))
 |op=>so (vM (intOp op k x y)) K
def rl (op:BinOp) (t:TypeId) (x y:SV) (K:SV->Prop):Prop:=
 match op,x,y with
 | .shl, .int k a, .int _ b=>ck (nn b) (so (vM (.ok (.int k (k.wrap (a*2 ^ (min b.toNat k.bits)))))) K)
 | .shr, .int k a, .int _ b=>ck (nn b) (so (vM (.ok (.int k (a.fdiv (2 ^ (min b.toNat k.bits)))))) K)
 |op, .int k a, .int j b=>ck (decide (k=j)) (FE op k a b K)
 | .add, .str a, .str b=>ck (Nat.ble (a.length+b.length) 1048576) (K (.str (a++b)))
 | .eql, .str a, .str b=>K (.bool (a==b))
 | .neq, .str a, .str b=>K (.bool (!(a==b)))
 | .lss, .str a, .str b=>K (.bool (Op.bytesLess a b))
 | .leq, .str a, .str b=>K (.bool (Op.bytesLess a b||a==b))
 | .gtr, .str a, .str b=>K (.bool (!(Op.bytesLess a b||a==b)))
 | .geq, .str a, .str b=>K (.bool (!Op.bytesLess a b))
 | .eql, .agg a, .agg b=>match tab.lJ.get t with|some false=>so (gr tab 8 t (.agg a) (.agg b)) fun p=>K (.bool p)|_=>False
 | .neq, .agg a, .agg b=>match tab.lJ.get t with|some false=>so (gr tab 8 t (.agg a) (.agg b)) fun p=>K (.bool (!p))|_=>False
 | .eql,x,y=>so (gr tab 8 t x y) fun p=>K (.bool p)
 | .neq,x,y=>so (gr tab 8 t x y) fun p=>K (.bool (!p))
 |_,_,_=>False
def Gv (op:UnOp) (x:SV) (K:SV->Prop):Prop:=
 match op,x with
 | .neg, .int k n=>bif k.signed then ck (bD k (0 - n)) (K (.int k (0 - n)))else K (.int k (k.wrap (0 - n)))
 | .xor, .int k n=>so (vM (unOp .xor (.int k n))) K
 | .not, .bool b=>K (.bool (!b))
 |_,_=>False
def re (cs:List SV):List (Nat×Nat×SV)->Option (List SV)
 |[]=>some cs
 |(off,n,v)::rest=>bif v.known&&Nat.beq v.cells.length n&&Nat.ble (off+n) cs.length then re (uG cs off v.cells) rest else none
def uS (fs:Array Field):List (Nat×SV)->Option (List (Nat×Nat×SV))
 |[]=>some []
 | (i,v)::rest=>match fs[i]? with
  |some f=>match tab.siz.get f.type,uS fs rest with
   |some n,some r=>some ((f.offset,n,v)::r)
   |_,_=>none
  |none=>none
def th (ts:Fr):List (Nat×Operand)->Option (List (Nat×SV))
 |[]=>some []
 |(i,x)::l=>match fy ts x,th ts l with
  |some v,some r=>some ((i,v)::r)
  |_,_=>none
def Fm (t:TypeId) (ps:List (Nat×SV)):Option SV:=
 match vH tab t,tab.und.get t with
 | some z,some (.struct fs)=>bif fs.toList.all (fun f=>(tab.siz.get f.type).isSome)then
   match uS tab fs ps with
   |some q=>(re z q).map .agg
   |none=>none
  else none
 |some z,some (.array _ e)=>match tab.siz.get e with
  |some n=>(re z (ps.map fun(i,v)=>(i*n,n,v))).map .agg
  |none=>none
 |_,_=>none
def ri:Nat->List SV->List SV
 |0,_=>[]
 |n+1,l=>l++ri n l
def wu (s:St) (t:TypeId) (len:Nat) (ps:List (Nat×SV)) (K:SV->St->Prop):Prop:=
 match tab.und.get t with
 | some (.slice e)=>match tab.siz.get e,vH tab e with
  | some n,some z=>ck (Nat.ble (len*n) 16777216&&Nat.beq z.length n) (bif Nat.beq len 0 then
    ck (ps.isEmpty&& !(Nat.beq n 0)) (match view e with
    |some V=>K (.own s.h.next) (s.new (.arr V.X [] V.enc e))
    |none=>False)
   else so (re (ri len z) (ps.map fun(i,v)=>(i*n,n,v))) fun cs=>K (.sl s.h.next 0 len len) (s.new (.cells cs e)))
  |_,_=>False
 |_=>False
def oG (ts:Fr) (x:Option Operand) (K:Option Nat->Prop):Prop:=
 match x with
 |none=>K none
 |some y=>so (fy ts y) fun v=>mD v fun n=>K (some n)
def mw {α:Type u} (l:List α) (lo hi:Option Nat) (K:List α->Prop):Prop:=
 match lo,hi with
 |none,none=>K l
 |some a,none=>ck (Nat.ble a l.length) (K (l.drop a))
 |none,some b=>ck (Nat.ble b l.length) (K (l.take b))
 |some a,some b=>ck (Nat.ble a b&&Nat.ble b l.length) (K ((l.drop a).take (b - a)))
def FA (s:St) (t:TypeId) (x:SV) (lo hi:Option Operand) (K:SV->St->Prop):Prop:=
 oG s.ts lo fun l=>oG s.ts hi fun u=>
 match tab.und.get t,x with
 |some .string, .str c=>mw c l u fun c'=>K (.str c') s
 |some (.slice e), .bh X L enc=>match tab.siz.get e with
  |some n=>(∀x:X,(enc x).length=n)/\mw L l u fun L'=>K (.bh X L' enc) s
  |none=>False
 |some (.slice e), .own b=>match s.h.get b,tab.siz.get e with
  |some (.arr X L enc _),some n=>(∀x:X,(enc x).length=n)/\mw L l u fun L'=>K (.bh X L' enc) ((s.ev (.ft b X L enc)).del b)
  |_,_=>False
 | some (.slice e), .sl b off len cap=>match tab.siz.get e with
  |some n=>let a:=l.getD 0
   let c:=u.getD len
   ck (Nat.ble a c&&Nat.ble c cap) (K (.sl b (bif Nat.beq cap a then off else off+a*n) (c - a) (cap - a)) s)
  |none=>False
 |_,_=>False
def yT (s:St) (src dst:TypeId) (x:SV) (K:SV->St->Prop):Prop:=
 match tab.und.get src,tab.und.get dst,x with
 |some _,some (.int k), .int _ n=>K (.int k (k.wrap n)) s
 |some _,some .string, .str c=>K (.str c) s
 |some _,some (.slice e), .str c=>match tab.und.get e,tab.siz.get e with
  |some (.int .u8),some 1=>K (.bh UInt8 c cQ) s
  |_,_=>False
 |some (.slice e),some .string, .nils=>match tab.und.get e with
  |some (.int .u8)=>K (.str []) s
  |_=>False
 |some (.slice e),some .string, .bh X L enc=>match tab.und.get e with
  |some (.int .u8)=>∃c:List UInt8,SV.bh X L enc=SV.bh UInt8 c cQ/\K (.str c) s
  |_=>False
 |some (.slice e),some .string, .own b=>match tab.und.get e,s.h.get b with
  |some (.int .u8),some (.arr X L enc _)=>∃c:List UInt8,SV.bh X L enc=SV.bh UInt8 c cQ/\K (.str c) s
  |_,_=>False
 |some (.slice e),some .string, .sl b off len _=>match tab.und.get e,s.h.get b with
  |some (.int .u8),some (.cells cs _)=>ck (Nat.ble (off+len) cs.length) (∃c:List UInt8,(cs.drop off).take len=qW c/\K (.str c) s)
  |_,_=>False
 |_,_,_=>False
def yd (t:TypeId) (f:Nat):Option Field:=
 match tab.und.get t with
 |some (.struct fs)=>fs[f]?
 |_=>none
def chunk (n:Nat):Nat->List SV->List (List SV)
 |0,_=>[]
 |m+1,l=>l.take n::chunk n m (l.drop n)
def wj {X:Type} (enc:X->List SV):List (List SV)->(List X->Prop)->Prop
 |[],K=>K []
 |c::cs,K=>∃x:X,enc x=c/\wj enc cs fun l=>K (x::l)
def iF:List SV->St->St
 |[],s=>s
 | .own b::l,s=>match s.h.get b with
  |some (.arr X L enc _)=>iF l ((s.ev (.ft b X L enc)).del b)
  |_=>iF l s
 |_::l,s=>iF l s
def ov (s:St) (e n by_:Nat) (x:SV) (Y:Type) (M:List Y) (enc':Y->List SV) (K:SV->St->Prop):Prop:=
 match x with
 | .nils=>(∀x:Y,(enc' x).length=n/\(enc' x).all nS=true)/\ck (Nat.ble (M.length*by_) 16777216&&Nat.ble M.length 16777216) (K (.own s.h.next) (s.new (.arr Y M enc' e)))
 | .own d=>match s.h.get d with
  |some (.arr X L enc e')=>ck (Nat.beq e e') ((∀x:Y,(enc' x).length=n/\(enc' x).all nS=true)/\ ∃M':List X,SV.bh Y M enc'=SV.bh X M' enc/\ck (Nat.ble ((L.length+M'.length)*by_) 16777216&&Nat.ble (L.length+M'.length) 16777216) (K (.own d) (((s.ev (.kill d)).aU d (.arr X (L++M') enc e)).note (.mod d))))
  |_=>False
 |_=>False
def qj (s:St) (e n by_ m:Nat) (x:SV) (cs:List SV) (K:SV->St->Prop):Prop:=
 match x with
 | .nils=>match view e with
  |some V=>wj V.enc (chunk n m cs) fun l=>ck (Nat.ble (l.length*by_) 16777216&&Nat.ble l.length 16777216) (K (.own s.h.next) (s.new (.arr V.X l V.enc e)))
  |none=>False
 | .own d=>match s.h.get d with
  |some (.arr X L enc e')=>ck (Nat.beq e e') (wj enc (chunk n m cs) fun l=>ck (Nat.ble ((L.length+l.length)*by_) 16777216&&Nat.ble (L.length+l.length) 16777216) (K (.own d) (((s.ev (.kill d)).aU d (.arr X (L++l) enc e)).note (.mod d))))
  |_=>False
 |_=>False
def EZ (s:St) (e:TypeId) (x y:SV) (K:SV->St->Prop):Prop:=
 match tab.siz.get e,tab.byt.get e with
 | some n,some by_=>
  ck (!(Nat.beq n 0)&&(match vH tab e with|some z=>Nat.beq z.length n|none=>false))
  (match y with
  | .sl b off m _=>match s.h.get b with
   |some (.cells cs0 _)=>
    match(iF ((cs0.drop off).take (m*n)) s).h.get b with
    |some (.cells cs _)=>ck (Nat.ble (off+m*n) cs.length&&((cs.drop off).take (m*n)).all nS) (qj view (iF ((cs0.drop off).take (m*n)) s) e n by_ m x ((cs.drop off).take (m*n)) K)
    |_=>False
   |_=>False
  | .bh Y M enc'=>ov s e n by_ x Y M enc' K
  | .own b=>match s.h.get b with
   |some (.arr Y M enc' _)=>ov ((s.ev (.ft b Y M enc')).del b) e n by_ x Y M enc' K
   |_=>False
  | .nils=>match x with
   | .nils=>K .nils s
   |_=>False
  |_=>False)
 |_,_=>False
def oF (k:IntKind):Int->List SV->Option SV
 |x,[]=>some (.int k x)
 |x, .int _ y::l=>oF k (if y<x then y else x) l
 |_,_=>none
def oE (k:IntKind):Int->List SV->Option SV
 |x,[]=>some (.int k x)
 |x, .int _ y::l=>oE k (if y>x then y else x) l
 |_,_=>none
def qv (s:St) (x:SV):Option Nat:=
 match x with
 | .nils=>some 0
 | .bh _ L _=>some L.length
 | .sl _ _ n _=>some n
 | .own b=>match s.h.get b with
  |some (.arr _ L _ _)=>some L.length
  |_=>none
 |_=>none
def sK (s:St) (b:Builtin) (ats:Array TypeId) (args:List SV) (K:SV->St->Prop):Prop:=
 match b,args with
 | .len,[x]=>match(ats[0]?).bind tab.und.get with
  |some .string=>match x with| .str c=>K (.int .i64 (.ofNat c.length)) s|_=>False
  |some (.slice _)=>so (qv s x) fun n=>K (.int .i64 (.ofNat n)) s
  |_=>False
 | .append,[x,y]=>match(ats[0]?).bind tab.und.get,(ats[1]?).bind tab.und.get with
  |some (.slice e),some (.slice _)=>EZ tab view s e x y K
  |_,_=>False
 | .min, .int k x::l=>so (oF k x l) fun v=>K v s
 | .max, .int k x::l=>so (oE k x l) fun v=>K v s
 |_,_=>False
def yP:SV->List Ev
 | .ptr b _=>[.mod b]
 |_=>[]
def mj (s:St) (o:Oper) (K:SV->St->Prop):Prop:=
 match o.op with
 | .move x=>so (fy s.ts x) fun v=>K v s
 | .assign x=>so (fy s.ts x) fun v=>K v s
 | .pick c a b=>match fy s.ts c with
  |some (.bool p)=>match fy s.ts a,fy s.ts b with
   |some (.bool x),some (.bool y)=>K (.bool (bif p then x else y)) s
   |u,v=>br p (so u fun v=>K v s) (so v fun v=>K v s)
  |_=>False
 | .alloc e=>so (tab.siz.get e) fun _=>so (vH tab e) fun cs=>K (.ptr s.h.next 0) (s.new (.cells cs e))
 | .box e x=>so (tab.siz.get e) fun _=>so (fy s.ts x) fun v=>ck v.known (K (.ptr s.h.next 0) (s.new (.cells v.cells e)))
 | .build t ps=>so (th s.ts ps.toList) fun l=>so (Fm tab t l) fun v=>K v s
 | .buildSlice t n ps=>so (th s.ts ps.toList) fun l=>wu tab view s t n l K
 | .load t a=>so (fy s.ts a) fun p=>yQ tab s.h t p fun v=>K v s
 | .store t a x=>so (fy s.ts a) fun p=>so (fy s.ts x) fun v=>FB tab s.h t p v fun h'=>K (.bA []) (s.Oi h' (yP p))
 | .nilCheck x=>so (fy s.ts x) fun v=>match v with
  | .ptr .. | .cu .. | .cU .. | .fn .. =>K v s
  |_=>False
 | .binOp op t x y _=>so (fy s.ts x) fun a=>so (fy s.ts y) fun b=>rl tab op t a b fun v=>K v s
 | .unOp op _ x=>so (fy s.ts x) fun a=>Gv op a fun v=>K v s
 | .convert a b x=>so (fy s.ts x) fun v=>yT tab s a b v K
 | .makeFunc fn first captured=>match fn with
  | .func f=>so (kZ s.ts first.toList) fun xs=>so (kZ s.ts captured.toList) fun ys=>K (.fn f xs ys) s
  |_=>False
 | .slice t x lo hi none=>so (fy s.ts x) fun v=>FA tab s t v lo hi K
 | .fieldAddr st x f=>so (yd tab st f) fun fd=>ck (match tab.siz.get fd.type with|some n=> !(Nat.beq n 0)|none=>false) (so (fy s.ts x) fun v=>match v with
  | .ptr b off=>K (.ptr b (off+fd.offset)) s
  | .cu b i off=>K (.cu b i (off+fd.offset)) s
  | .cU cs off=>K (.cU cs (off+fd.offset)) s
  |_=>False)
 | .field t x f=>so (yd tab t f) fun fd=>so (fy s.ts x) fun v=>match v with
  | .agg cs=>so (mQ tab fd.type cs fd.offset) fun u=>K u s
  |_=>False
 | .indexAddr t x ix=>so (fy s.ts ix) fun j=>mD j fun i=>so (fy s.ts x) fun v=>match tab.und.get t,v with
  |some (.array len e), .ptr b off=>match tab.siz.get e with
   |some n=>ck (Nat.blt i len) (K (.ptr b (off+i*n)) s)
   |none=>False
  |some (.slice e), .sl b off len _=>match tab.siz.get e with
   |some n=>ck (Nat.blt i len) (K (.ptr b (off+i*n)) s)
   |none=>False
  |some (.slice e), .bh _ L enc=>match tab.siz.get e with
   |some n=>so (L[i]?) fun x=>ck (Nat.beq (enc x).length n) (K (.cU (enc x) 0) s)
   |none=>False
  |some (.slice e), .own b=>match tab.siz.get e,s.h.get b with
   |some _,some (.arr _ L _ e')=>ck (Nat.beq e e'&&Nat.blt i L.length) (K (.cu b i 0) s)
   |_,_=>False
  |_,_=>False
 | .index t x ix=>so (fy s.ts ix) fun j=>mD j fun i=>so (fy s.ts x) fun v=>match tab.und.get t,v with
  |some (.array len e), .agg cs=>match tab.siz.get e with
   |some n=>ck (Nat.blt i len) (so (mQ tab e cs (i*n)) fun u=>K u s)
   |none=>False
  |some .string, .str c=>so (c[i]?) fun b=>K (.int .u8 (.ofNat b.toNat)) s
  |_,_=>False
 | .extract t i=>so (fy s.ts t) fun v=>match v with
  | .bA vs=>so (vs[i]?) fun u=>K u s
  |_=>False
 | .call c=>match c.callee with
  | .builtin b=>so (kZ s.ts c.args.toList) fun l=>sK tab view s b c.argTypes l K
  |_=>False
 |_=>False
end
end
section
universe u v
structure aK:Type 1 where
 Y:Type
 pre:Y->Prop
 args:Y->List SV
 res:Y->SV
structure aL:Type 1 where
 α:Type
 ok:α->Prop
 μ:α->Nat
 bn:List Nat
 bc:α->List (Nat×SV)
 bV:α->List (Nat×SO)
 ft:List Nat:=[]
 link:Option (α->α->Prop):=none
structure iw:Type 1 where
 tab:bm
 view:TypeId->Option View
 gL:FuncId->Option aK
 l5:FuncId->Nat->Option aL
inductive eE:Type 1 where
 |code (c:Code)
 |inBlock (id:Nat)
 |inLoop (body:Code)
 |head (iS:Fr->SH->List Ev->Prop)
 |inScope (body:Code)
 |inRegion (ops:Array Oper) (l:List Nat)
structure SM:Type 1 where
 fn:FuncId
 nt:Nat
 base:Nat
 todo:List eE
 s:St
mutual
def SV.lt (n:Nat):SV->Bool
 | .ptr b _=>Nat.blt b n
 | .cu b _ _=>Nat.blt b n
 | .own b=>Nat.blt b n
 | .sl b _ _ _=>Nat.blt b n
 | .map b=>Nat.blt b n
 | .fn _ xs ys=>ib n xs&&ib n ys
 | .agg cs=>ib n cs
 | .bA cs=>ib n cs
 |_=>true
def ib (n:Nat):List SV->Bool
 |[]=>true
 |v::l=>SV.lt n v&&ib n l
end
mutual
def SV.full:SV->Bool
 | .any=>false
 | .fn _ xs ys=>kF xs&&kF ys
 | .agg cs=>kF cs
 | .bA cs=>kF cs
 |_=>true
def kF:List SV->Bool
 |[]=>true
 |v::l=>SV.full v&&kF l
end
def SO.lt (n:Nat):SO->Bool
 | .cells cs _=>ib n cs
 | .arr .. =>true
def Ev.id:Ev->Nat
 | .kill b=>b
 | .mod b=>b
 | .ft b _ _ _=>b
def wi (v e:SV):Prop:=
 match v,e with
 | .bool a, .bool b=>a=b
 | .int k a, .int j b=>ck (decide (k=j)) (a=b)
 | .str a, .str b=>a=b
 | .ptr a i, .ptr b j=>ck (Nat.beq a b&&Nat.beq i j) True
 | .own a, .own b=>ck (Nat.beq a b) True
 | .bj, .bj=>True
 | .nils, .nils=>True
 | .bw, .bw=>True
 | .bB, .bB=>True
 | .nils, .bh _ L _=>L=[]
 |_, .any=>True
 |v,e=>v=e
def qp:List SV->List SV->Prop
 |[],[]=>True
 |a::l,b::m=>wi a b/\qp l m
 |_,_=>False
def tP (o e:SO):Prop:=
 match o,e with
 | .cells a t, .cells b u=>ck (Nat.beq t u) (qp a b)
 | .arr X L enc t, .arr X' L' enc' u=>ck (Nat.beq t u) (SV.bh X L enc=SV.bh X' L' enc')
 |_,_=>False
def tQ (tab:bm) (next p:Nat) (o e:Option SO):Prop:=
 match e,o with
 |none,_=>True
 |some (.arr X L enc t),some o=>tP o (.arr X L enc t)
 |some (.arr X L enc t),none=>ck (Nat.ble next p) (L=[]/\so (tab.siz.get t) fun n=>ck (!(Nat.beq n 0)) (∀x:X,(enc x).length=n))
 |some e,some o=>tP o e
 |some _,none=>False
def F8 (tab:bm) (h e:SH):Nat->Prop
 |0=>True
 |n+1=>tQ tab h.next n (h.get n) (e.get n)/\F8 tab h e n
def mB (tab:bm) (h e:SH):Prop:=F8 tab h e e.next
def qt (h eh:SH) (v e:SV):Prop:=
 match e,v with
 | .own b, .nils=>match h.get b,eh.get b with|none,some (.arr ..)=>True|_,_=>False
 |e,v=>wi v e
def kO (ts:Fr) (h eh:SH):Fr->Prop
 |[]=>True
 |(t,e)::l=>so (look ts t) (fun v=>qt h eh v e)/\kO ts h eh l
def stay (n:Nat) (h eh:SH):Bool:=(List.range n).all fun p=>match h.get p,eh.get p with|some _,none=>false|_,_=>true
def E2 (ts:Fr) (e:Fr):List Nat->Fr
 |[]=>e
 |t::l=>match look ts t with|some v=>(t,v)::E2 ts e l|none=>E2 ts e l
def ud:SH->List (Nat×SO)->SH
 |h,[]=>h
 |⟨n,os⟩,(b,o)::l=>ud ⟨Nat.max n (b+1),(b,some o)::os⟩ l
def aL.at (A:aL) (s:St) (x:A.α):Fr×SH:=(E2 s.ts (A.bc x) A.bn,ud s.h (A.bV x))
def low (ts:Fr) (h:SH):Bool:=ts.all (fun x=>x.2.lt h.next)&&h.os.all (fun x=>Nat.blt x.1 h.next&&(match x.2 with|some o=>o.lt h.next|none=>true))
def nI:Code->Option Nat
 | .region id _ _=>some id
 | .seq a b=>match nI a with|some r=>some r|none=>nI b
 | .cond _ a b=>match nI a with|some r=>some r|none=>nI b
 | .block _ b=>nI b
 | .loop b=>nI b
 | .scope b=>nI b
 | .rangeFunc _ _ a b=>match nI a with|some r=>some r|none=>nI b
 |_=>none
def od (id:Nat):List eE->Option (List eE)
 | .inBlock j::k=>bif Nat.beq j id then some k else od id k
 |_::k=>od id k
 |[]=>none
section
variable (cfg:iw)
def dX:Nat->List SV->List SV->St->(St->Prop)->Prop
 |0,_,_,_,_=>False
 |_+1,[],[],s,K=>K s
 | n+1,f::fs,a::as1,s,K=>
  match f,a with
  | .any,_=>dX n fs as1 s K
  | .bool x, .bool y=>y=x/\dX n fs as1 s K
  | .int k x, .int j y=>ck (decide (k=j)) (y=x/\dX n fs as1 s K)
  | .str x, .str y=>y=x/\dX n fs as1 s K
  | .bj, .bj=>dX n fs as1 s K
  | .wp x, .wp y=>y=x/\dX n fs as1 s K
  | .nils, .nils=>dX n fs as1 s K
  | .bw, .bw=>dX n fs as1 s K
  | .bB, .bB=>dX n fs as1 s K
  | .bh X L enc, .bh X' L' enc'=>SV.bh X' L' enc'=SV.bh X L enc/\dX n fs as1 s K
  | .bh _ L _, .nils=>L=[]/\dX n fs as1 s K
  | .bh X L enc, .own b=>match s.h.get b with
   |some (.arr X' L' enc' _)=>SV.bh X' L' enc'=SV.bh X L enc/\dX n fs (fE (.ft b X' L' enc') as1) ((s.ev (.ft b X' L' enc')).del b) K
   |_=>False
  | .bh X L enc, .sl b off m c=>match s.h.get b with
   |some (.cells cs e)=>match cfg.tab.siz.get e with
    |some r=>ck (!(Nat.beq r 0)&&Nat.ble m c&&Nat.ble (off+m*r) cs.length&&((cs.drop off).take (m*r)).all nS) (chunk r m ((cs.drop off).take (m*r))=L.map enc/\dX n fs (fE (.kill b) as1) ((s.ev (.kill b)).del b) K)
    |none=>False
   |_=>False
  | .agg xs, .agg ys=>ck (Nat.beq xs.length ys.length) (dX n (xs++fs) (ys++as1) s K)
  | .fn f xs us, .fn g ys vs=>ck (Nat.beq f g&&Nat.beq xs.length ys.length&&Nat.beq us.length vs.length) (dX n (xs++(us++fs)) (ys++(vs++as1)) s K)
  |_,_=>False
 |_,_,_,_,_=>False
def tE:List Ev->Fr->Fr
 |[],ts=>ts
 |e::l,ts=>tE l (qx e ts)
def FL (rec:SM->(SV->St->Prop)->Prop) (f:FuncId) (args:List SV) (s:St) (K:SV->St->Prop):Prop:=
 match cfg.tab.fns.get f with
 | some fn=>match fn.body with
  | some body=>match cfg.gL f with
   |some C=>∃y:C.Y,dX cfg 1000 (C.args y) args s fun s=>C.pre y/\K (C.res y) s
   | none=>match s with
    |⟨ts,h,log⟩=>rec ⟨f,Nat.max fn.ntmps args.length,h.next,[.code body],⟨Fr.of args 0,h,[]⟩⟩ fun v s'=>
     match s' with
     |⟨_,h',log'⟩=>K v ⟨tE log' ts,h',log++log'⟩
  |none=>False
 |none=>False
def jJ (nt:Nat) (s:St) (d:Option Tmp) (v:SV) (K:St->Prop):Prop:=
 match s,d with
 |⟨ts,h,log⟩,some d=>bif Nat.blt d nt then Fv v fun v=>vb h fun h=>K ⟨(d,v)::ts,h,log⟩else K ⟨ts,h,log⟩
 |⟨ts,h,log⟩,none=>vb h fun h=>K ⟨ts,h,log⟩
def ve (ops:Array Oper) (o:Oper) (s:St) (K:Bool->St->Prop):Prop:=
 match o.guard with
 |none=>K true s
 | some (j,w)=>
  match(ops[j]?).bind (·.dst)with
  | some d=>match s with
   |⟨ts,h,log⟩=>match look ts d with
    |some (.bool p)=>br p (K w ⟨(d, .bool true)::ts,h,log⟩) (K (!w) ⟨(d, .bool false)::ts,h,log⟩)
    |some (.bA _)=>K false ⟨ts,h,log⟩
    |_=>False
  |none=>K false s
def yV (rec:SM->(SV->St->Prop)->Prop) (s:St) (o:Oper) (K:SV->St->Prop):Prop:=
 match o.op with
 | .call c=>match c.callee with
  | .value f=>so (kZ s.ts c.args.toList) fun args=>so (fy s.ts f) fun v=>match v with
   | .fn g first captured=>FL cfg rec g (first++args++captured) s K
   |_=>False
  |_=>mj cfg.tab cfg.view s o K
 |_=>mj cfg.tab cfg.view s o K
structure SD:Type 1 where
 s:St
 aM:T (List Nat)
 reads:List (Nat×List Nat)
 aC:List (Nat×Nat)
def o9:SH->List (Nat×Nat)->SH
 |h,[]=>h
 |h,(_,b)::l=>o9 (h.set b none) l
def jE (o:Option SO):List Ev->Option SO
 |[]=>o
 |e::l=>jE (o.map (SO.on e)) l
def lR (h h0:SH) (log:List Ev):List (Nat×Nat)->SH
 |[]=>h
 |(_,b)::l=>lR (h.set b (jE (h0.get b) log)) h0 log l
def Fc (ts:Fr) (o:Oper):List Nat:=
 match o.op with
 | .load _ a=>match fy ts a with
  |some (.ptr b _)=>[b]
  |some (.cu b _ _)=>[b]
  |_=>[]
 | .indexAddr _ x _=>match fy ts x with
  |some (.own b)=>[b]
  |_=>[]
 | .call c=>match c.args.toList with
  |[x]=>match fy ts x with
   |some (.own b)=>[b]
   |_=>[]
  |_=>[]
 |_=>[]
def p9 (h:SH):List Nat->List (Nat×Option SO)
 |[]=>[]
 |b::l=>(b,h.get b)::p9 h l
def Fu (ops:Array Oper) (nt i:Nat) (o:Oper) (d:SD) (K:SD->Prop):Prop:=
 match d with
 |⟨s,aM,reads,aC⟩=>
 ck (jH aM ops i o) (ve ops o s fun w s=>
  bif !w then kv (eO aM o) fun an=>o6 (aM.set i (some an)) fun aM=>jJ nt s o.dst (.bA []) fun s=>K ⟨s,aM,reads,aC⟩
  else match cls cfg.tab o with
  | .lk=>K ⟨s,aM,reads,aC⟩
  | .alloc=>kv (eO aM o) fun an=>o6 (aM.set i (some an)) fun anc'=>match s with
   |⟨ts,h,log⟩=>mj cfg.tab cfg.view ⟨ts,h,[]⟩ o fun v s'=>match s' with
    |⟨ts',h',log'⟩=>ck log'.isEmpty (jJ nt ⟨ts',h',log⟩ o.dst v fun s'=>K ⟨s',anc',reads,(i,h.next)::aC⟩)
  |_=>kv (eO aM o) fun an=>o6 (aM.set i (some an)) fun aM=>match s with
   |⟨ts,h,log⟩=>kv (Fc ts o) fun rs=>ck (rs.all fun b=>aC.all fun x=> !(Nat.beq x.2 b)) (mj cfg.tab cfg.view ⟨ts,⟨h.next,p9 h rs⟩,[]⟩ o fun v s'=>ck (s'.log.isEmpty&&v.full) (jJ nt ⟨ts,h,log⟩ o.dst v fun s'=>K ⟨s',aM,(i,rs)::reads,aC⟩)))
def vD (ops:Array Oper) (nt:Nat):Nat->List Oper->SD->(SD->Prop)->Prop
 |_,[],d,K=>K d
 |i,o::l,d,K=>
  bif isReady d.aM i o then Fu cfg ops nt i o d fun d'=>vD ops nt (i+1) l d' K
  else vD ops nt (i+1) l d K
def tO (rec:SM->(SV->St->Prop)->Prop) (ops:Array Oper) (nt i:Nat) (o:Oper) (d:SD) (K:SD->Prop):Prop:=
 match d with
 |⟨s,aM,reads,aC⟩=>
 ck (jH aM ops i o) (ve ops o s fun w s=>
  ck w (kv (eO aM o) fun an=>o6 (aM.set i (some an)) fun aM=>
   kv (aC.filter fun x=> !(cM x.1 an)) fun hid=>kv (reads.filter fun x=> !(cM x.1 an)) fun reads=>match s with
   | ⟨ts,h,log⟩=>yV cfg rec ⟨ts,o9 h hid,[]⟩ o fun v s'=>match s' with
    |⟨ts',h',log'⟩=>ck ((reads.all fun x=>x.2.all fun b=> !(cM b (log'.map Ev.id))&&(h'.get b).isSome&&hid.all fun y=> !(Nat.beq y.2 b))&&hid.all fun x=> !(cM x.2 (log'.map Ev.id)))
     (jJ nt ⟨ts',lR h' h log' hid,log++log'⟩ o.dst v fun s'=>K ⟨s',aM,reads,hid⟩)))
def yU (rec:SM->(SV->St->Prop)->Prop) (ops:Array Oper) (nt:Nat):Nat->SD->(St->Prop)->Prop
 |0,_,_=>False
 |n+1,d,K=>vD cfg ops nt 0 ops.toList d fun d1=>
  match jP d1.aM 0 ops.toList with
  |[]=>ck ((List.range ops.size).all fun i=>(d1.aM.get i).isSome) (K d1.s)
  |[(i,o)]=>tO cfg rec ops nt i o d1 fun d2=>yU rec ops nt n d2 K
  |_=>False
def mR (s:St):List ResultVar->(List SV->Prop)->Prop
 |[],K=>K []
 | .tmp t::l,K=>so (look s.ts t) fun v=>mR s l fun vs=>K (v::vs)
 | .cell a t::l,K=>so (look s.ts a) fun p=>yQ cfg.tab s.h t p fun v=>mR s l fun vs=>K (v::vs)
def pf (fn:FuncId) (s:St) (Q:SV->St->Prop):Prop:=
 match cfg.tab.fns.get fn with
 |some fn=>mR cfg s fn.results.toList fun vs=>Q (match vs with|[v]=>v|vs=> .bA vs) s
 |none=>False
def fixC (s:St) (c:Operand) (p:Bool):St:=
 match s,c with
 |⟨ts,h,log⟩, .tmp t=>⟨(t, .bool p)::ts,h,log⟩
 |s,_=>s
def mC (ts:Fr):List Nat->List SV
 |[]=>[]
 |t::l=>match look ts t with|some v=>v::mC ts l|none=>mC ts l
def dP (A:aL) (s:St):St:=iF (mC s.ts A.ft) s
def FU (A:aL) (s:St) (base:Nat) (x:A.α) (ts:Fr) (h:SH) (log:List Ev):Prop:=
 match dP A ⟨ts,h,log⟩with
 |⟨ts,h,log⟩=>ck (log.all fun e=>Nat.ble base e.id) (∃y:A.α,A.ok y/\A.μ y<A.μ x/\kO ts h (A.at s y).2 (A.at s y).1/\mB cfg.tab h (A.at s y).2/\ck (stay base h (A.at s y).2) True)
def Pe (A:aL) (s:St) (base:Nat) (cont:(Fr->SH->List Ev->Prop)->St->Prop):Prop:=
 match dP A s with
 |⟨ts,h,log⟩=>(∃x:A.α,A.ok x/\kO ts h (A.at ⟨ts,h,log⟩ x).2 (A.at ⟨ts,h,log⟩ x).1/\mB cfg.tab h (A.at ⟨ts,h,log⟩ x).2/\ck (stay base h (A.at ⟨ts,h,log⟩ x).2) True)/\
  ∀x:A.α,A.ok x->ck (log.all (fun e=>Nat.ble base e.id)&&(low (A.at ⟨ts,h,log⟩ x).1 (A.at ⟨ts,h,log⟩ x).2&&Nat.ble base (A.at ⟨ts,h,log⟩ x).2.next)) (cont (FU cfg A ⟨ts,h,log⟩ base x) ⟨(A.at ⟨ts,h,log⟩ x).1,(A.at ⟨ts,h,log⟩ x).2,log⟩)
def aL.when (A:aL) (R:A.α->A.α->Prop) (x0:A.α):aL:={α:=A.α,ok:=fun x=>A.ok x/\R x0 x,μ:=A.μ,bn:=A.bn,bc:=A.bc,bV:=A.bV,ft:=A.ft}
def FV (A:aL) (K:aL->Prop):Prop:=
 match A.link with
 |none=>K A
 |some R=>∃x0:A.α,K (A.when R x0)
theorem Wh {A:aL} {K:aL->Prop} (h:FV A K):∃A',K A':=by
 grind [FV]
def wp:Nat->SM->(SV->St->Prop)->Prop
 |0,_,_=>False
 | n+1,⟨fn,nt,base,todo,s⟩,Q=>
  match todo with
  |[]=>pf cfg fn s Q
  | .code .ret::_=>pf cfg fn s Q
  | .code .skip::k=>wp n ⟨fn,nt,base,k,s⟩ Q
  | .code (.label _)::k=>wp n ⟨fn,nt,base,k,s⟩ Q
  | .inBlock _::k=>wp n ⟨fn,nt,base,k,s⟩ Q
  | .inScope _::k=>wp n ⟨fn,nt,base,k,s⟩ Q
  | .code (.seq a b)::k=>wp n ⟨fn,nt,base, .code a:: .code b::k,s⟩ Q
  | .code (.cond c a b)::k=>match fy s.ts c with
   |some (.bool p)=>br p (wp n ⟨fn,nt,base, .code a::k,fixC s c true⟩ Q) (wp n ⟨fn,nt,base, .code b::k,fixC s c false⟩ Q)
   |_=>False
  | .code (.block id b)::k=>wp n ⟨fn,nt,base, .code b:: .inBlock id::k,s⟩ Q
  | .code (.scope b)::k=>wp n ⟨fn,nt,base, .code b:: .inScope b::k,s⟩ Q
  | .code (.loop b)::k=>match(nI b).bind (cfg.l5 fn)with
   |none=>wp n ⟨fn,nt,base, .code b:: .inLoop b::k,s⟩ Q
   |some A=>FV A fun A=>Pe cfg A s base fun iS s'=>wp n ⟨fn,nt,base, .code b:: .head iS::k,s'⟩ Q
  | .inLoop b::k=>wp n ⟨fn,nt,base, .code b:: .inLoop b::k,s⟩ Q
  | .head iS::_=>iS s.ts s.h s.log
  | .code (.exit id)::k=>match od id k with
   |some k'=>wp n ⟨fn,nt,base,k',s⟩ Q
   |none=>False
  | .code (.region _ ops false)::k=>wp n ⟨fn,nt,base, .inRegion ops (List.range ops.size)::k,s⟩ Q
  | .code (.region _ ops true)::k=>ck (qa 0 ops.toList) (yU cfg (wp n) ops nt (ops.size+1) ⟨s, .e,[],[]⟩ fun s=>wp n ⟨fn,nt,base,k,s⟩ Q)
  | .inRegion _ []::k=>wp n ⟨fn,nt,base,k,s⟩ Q
  | .inRegion ops (i::rest)::k=>match ops[i]? with
   |some o=>ve ops o s fun w s=>
    bif w then yV cfg (wp n) s o fun v s'=>jJ nt s' o.dst v fun s'=>wp n ⟨fn,nt,base, .inRegion ops rest::k,s'⟩ Q
    else jJ nt s o.dst (.bA []) fun s'=>wp n ⟨fn,nt,base, .inRegion ops rest::k,s'⟩ Q
   |none=>False
  |_=>False
def ask (n:Nat) (f:FuncId) (args:List SV) (Q:SV->St->Prop):Prop:=
 match cfg.tab.fns.get f with
 |some fn=>match fn.body with
  |some body=>wp cfg n ⟨f,Nat.max fn.ntmps args.length,0,[.code body],⟨Fr.of args 0,⟨0,[]⟩,[]⟩⟩ Q
  |none=>False
 |none=>False
end
end
end Go.Sy
namespace Go.Sy
open Go.Am Go.RowKit
section
variable [Inhabited aF]
theorem _root_.Go.Am.eS.rest {E:Env} {h h0:AH} {K:KS} {w:World} (hB:eS K w):eS (Am.Rest E h h0 K) w:=fun b hb=>⟨.inl (hB b hb).1,(hB b hb).2⟩
def cI (w:World):Prop:=∀b,b<(default:aF).old.size->w.heap[b]? =(default:aF).old[b]?
theorem cI.lt {w:World} (h:cI w) {b:Nat} (hb:b<(default:aF).old.size):b<w.heap.size:=by
 have:=h b hb;rw[AY hb]at this;grind
theorem cI.lj {w:World} (h:cI w):eS (KS.old w.heap.size) w:=fun b hb=>⟨h.lt hb,h b hb⟩
theorem cI.below {w w':World} (h:cI w) (hb:Below w.heap.size w w'):cI w':=fun b hb'=>by rw[hb.block b (h.lt hb')];exact h b hb'
theorem cI.oI (h:(default:aF).old.size=0) (w:World):cI w:=fun b hb=>by omega
theorem _root_.Go.Am.eS.oI (h:(default:aF).old.size=0) (K:KS) (w:World):eS K w:=fun b hb=>by omega
def eR (P:Program) (m:AM) (Ψ:AV->AH->Prop):Prop:=
 ∀(D:Nat->Prop) (E:Env) (K:KS) (base:List Frame) (frC:Frame) (csC:List Frame) (w:World),Rel D E K m base frC csC w->eS K w->
  ∃v h',Ψ v h'/\Am.Ends P m.h.next (lone frC csC w) D E K v h' base (bot m.fr m.cs) w
structure fU (P:Program) (tab:bm):Prop where
 ok:bN P tab
 ext:lC P tab
 mix:P.follows .mixedOrders=true
theorem eR.mono {P:Program} {m:AM} {Ψ Φ:AV->AH->Prop} (h:eR P m Ψ) (hi:∀v h',Ψ v h'->Φ v h'):eR P m Φ:=by
 intro D E K base frC csC w hR hB;obtain⟨v,h',h1,h2⟩:=h D E K base frC csC w hR hB;grind
def sub0:FuncId->List AV->AH->R (List (AV×AH)):=fun _ _ _=> .no "sub0"
theorem xY {P:Program} {tab:bm}:lD P tab sub0:=by
 intro f fn body args h outs _ _ ho
 cases ho
section
variable {P:Program} {tab:bm} (pr:fU P tab) {Ψ:AV->AH->Prop}
include pr
theorem eR.next {m m':AM} (hs:Am.step tab sub0 m= .ok (.next m')) (h:eR P m' Ψ):eR P m Ψ:=by
 intro D E K base frC csC w hR hB;obtain⟨hb,fr',cs',w',E',D',s1,s2,s3,s4,s5,s6,s7⟩:=Cd pr.ok xY pr.ext (zS pr.ok xY pr.ext pr.mix) hs hR;obtain⟨v,h',h1,h2⟩:=h D' E' K base fr' cs' w' s2 (hB.kept s5);rw[hb]at h2;grind [Am.Ends.trans]
theorem eR.done {m:AM} {v:AV} {h:AH} (hs:Am.step tab sub0 m= .ok (.done v h)) (hv:Ψ v h):eR P m Ψ:=by
 intro D E K base frC csC w hR hB;exact⟨v,h,hv,Cd pr.ok xY pr.ext (zS pr.ok xY pr.ext pr.mix) hs hR⟩
end
def iy (P:Program) (tab:bm) (ts:T AV) (h0:AH) (o:Oper) (Θ:AV->AH->Prop):Prop:=
 (∃v h1,fb tab ts h0 o= .ok (v,h1)/\h0.next<=h1.next/\Θ v h1)\/
 (∃c f g first captured args fn body,o.op= .call c/\c.callee= .value f/\ev ts f= .ok (.fn (.func g) first captured)/\kt ts c.args.toList= .ok args/\
  tab.fns.get g=some fn/\fn.body=some body/\eR P {fr:=ag.enter fn g body (first++args++captured) .normal,cs:=[],h:=h0} fun v h1=>h0.next<=h1.next/\Θ v h1)
theorem iy.congr {P:Program} {tab:bm} {ts ts':T AV} {h0:AH} {o:Oper} {Θ:AV->AH->Prop} (hops:∀x∈o.op.operands,ev ts x=ev ts' x) (hp:iy P tab ts h0 o Θ):iy P tab ts' h0 o Θ:=by
 rcases hp with⟨v,h1,hp,hle,hΘ⟩|⟨c,f,g,first,captured,args,fn,body,hc,hcf,hu,hargs,hfn,hb',hgo⟩
 . exact .inl ⟨v,h1,by rw[<-uh o hops];exact hp,hle,hΘ⟩
 . refine .inr ⟨c,f,g,first,captured,args,fn,body,hc,hcf,?_,?_,hfn,hb',hgo⟩
   all_goals grind [Op.operands,Call.operands,uu]
section
variable {P:Program} {tab:bm} (pr:fU P tab)
variable {D:Nat->Prop} {E:Env} {K:KS} {base:List Frame} {frC:Frame} {csC:List Frame} {w:World}
variable {fr:ag} {cs:List ag} {h h0:AH} {ops:Array Oper} {i:Nat} {rest:List Nat} {o:Oper}
include pr
theorem JP {Θ:AV->AH->Prop} (hR:Rel D E K {fr,cs,h} base frC csC w) (hB:eS K w) (a:iZ frC ops i rest o) (hp:iy P tab fr.tmps h0 o Θ)
   (hs:∀i o,h0.get i=some o->h.get i=some o) (hd0:∀i o,h0.get i=some o->i<h0.next) (hltD:∀i,D i->i<h0.next):
   ∃ v h1,Θ v h1/\h0.next<=h1.next/\ ∀fr' h2,fr.finish v= .ok fr'->(∀i o,h2.get i=some o->h1.get i=some o\/(h.get i=some o/\h0.get i=none))->
     (∀i o,h2.get i=some o->i<h2.next\/(h1.get i=some o/\h1.next<=h2.next))->h2.next=h1.next->gH P h0.next (lone frC csC w) D E K {fr:=fr',cs,h:=h2} base w:=by
 rcases hp with⟨v,h1,hp,hle,hΘ⟩|⟨c,f,g,first,captured,args,fn,body,hc,hcf,hu,hargs,hfn,hb,hgo⟩
 . refine⟨v,h1,hΘ,hle,fun fr' h2 hf hg hd2 hnx=>?_⟩;refine Gi (uy pr.ok hR a hp hf hs hd0 hg hd2 (fun i=>i=h0.next/\h0.next<h1.next) (fun h=>⟨rfl,h⟩) (fun i hi=>⟨hi.1,fun hd=>by have:=hltD i hd;omega⟩) ?_) (by simp only;omega) (fun i hi=>by omega);rintro i (hi|hi)
   . have:=hltD i hi;omega
   . omega
 . have ok:=pr.ok;have hρ:∀E',ak D E E'->∀x u,ev fr.tmps x= .ok u->frC.eval x=af E' u:=by
     intro E' he x u hx;rw[<-(hR.all E' he).2.1];exact pM hR.wf.1 E' hx
   have hd:qL (.fn (.func g) first captured) args= .ok {target:= .fn (.func g) captured,args:=first++args}:=rfl;have hres:∀E',ak D E E'->Deferred.ofValue (frC.eval f) (c.args.map frC.eval)=pure (eu E' {target:= .fn (.func g) captured,args:=first++args}):=by
     intro E' he;rw[<-si hd E',hρ E' he _ _ hu,<-qO (hρ E' he) _ _ hargs];congr 1
     simp[<-Array.toList_inj]
   have hrob:=uo hres;have hnd:∀c',o.op≠ .defer c':=by rw[hc];intro c' e;cases e
   have hctx:Ctx P (lone frC csC w) frC csC w .normal (eu E {target:= .fn (.func g) captured,args:=first++args}):=CC a (.inr hnd) (by simp[execOp,hc,resolve,hcf,hres E (ak.refl _ _)]);have hinv:∀E',ak D E E'->invoke (eu E {target:= .fn (.func g) captured,args:=first++args}).target (eu E {target:= .fn (.func g) captured,args:=first++args}).args=callFunc g (bp E' (first++args++captured)).toArray:=by
     grind [eu,nZ,invoke,ee]
   have hP:=ok.fns g fn hfn;have hn:fn.name≠ "runtime.NumGoroutine" :=by simpa using ok.wk g fn hfn
   have hrun:∀a,(callFunc g a).run P w= .ok (.enter g a) w:=by
     intro a;simp[callFunc,hP,hn,hb]
   have hstep:∀E',ak D E E'->Go.step P (lone frC csC w)= .next (lone (Frame.enter P g (bp E' (first++args++captured)).toArray .normal) (frC::csC) w):=fun E' he=>
     hctx.enter _ _ _ (by rw[hinv E' he,hrun])
   have hargsC:∀E',ak D E E'->(bp E' (first++args++captured)).toArray=(bp E (first++args++captured)).toArray:=by
     intro E' he;have h4:=hrun (bp E' (first++args++captured)).toArray;rw[<-hinv E' he,hinv E (ak.refl _ _),hrun]at h4;simpa using h4.symm
   have hRc:Rel D E (Am.Rest E h h0 K) {fr:=ag.enter fn g body (first++args++captured) .normal,cs:=[],h:=h0} (frC::csC) (Frame.enter P g (bp E (first++args++captured)).toArray .normal) (frC::csC) w:=by
     refine⟨fun E' he=>⟨?_,?_,rfl⟩,hltD,qI _ _ _ _ _,fun f hf=>by cases hf⟩
     . rw[<-hR.fp he];exact(hR.all E' he).1.part hs hd0
     . rw[<-hargsC E' he,mH hP hb]
   obtain⟨v,h1,⟨hle,hΘ⟩,he2⟩:=hgo D E (Am.Rest E h h0 K) (frC::csC) _ _ w hRc hB.rest;refine⟨v,h1,hΘ,hle,fun fr' h2 hf hg hd2 hnx=>?_⟩;have hfc:=lq hf;obtain⟨fr1,w',vC,E',D',s1,s2,s3,s4,s5,s6,s7,s8,s9,s10⟩:=he2;refine⟨frC.finish vC,csC,w',E',D',?_,⟨?_,?_,?_⟩,s5,s6,s8.part,by grind,s10⟩
   . exact(Steps.head (hstep E (ak.refl _ _)) s1).trans (.one (step_leave_returned s3))
   . intro E'' he';obtain⟨g1,g2⟩:=s4 E'' he';have hag:=s5.trans he' s6;obtain⟨k1,k2,k3⟩:=hR.all E'' hag;refine⟨k1.join (by rw[hR.fp hag];exact g1) (by rw[hR.fp hag];exact s8) hg (fun i o hi=>(hd2 i o hi).elim id (fun h=>AR (g1.ey i o h.1) h.2)),?_,k3⟩;rw[<-(hfc E'').1,<-g2,<-k2]
   . intro i hi;have:=s7 i hi;simp only;omega
   . exact⟨(hfc E).2.1 hR.wf.1,hR.wf.2⟩
theorem P3 {Θ:AV->AH->Prop} {Ψ:AV->AH->Prop} {k:List bF} (hm:fr.mode= .run) (ht:fr.todo= .inRegion ops (i::rest)::k) (ho:ops[i]? =some o) (hw:wanted ops o fr.tmps= .ok true) (hp:iy P tab fr.tmps h o Θ)
  (hfin:∀v,∃fr',fr.finish v= .ok fr') (hk:∀v h1,Θ v h1->∀fr',fr.finish v= .ok fr'->eR P {fr:=fr',cs,h:=h1} Ψ):eR P {fr,cs,h} Ψ:=by
 intro D E K base frC csC w hR hB;have hdom:=(hR.all E (ak.refl _ _)).1.ey;obtain⟨v,h1,hΘ,hle,hgets⟩:=JP pr hR hB (mq hR hm ht ho hw) hp (fun _ _ h=>h) hdom (fun i hi=>hR.ey i hi);obtain⟨fr',hf⟩:=hfin v;obtain⟨frC',csC',w',E',D',s1,s2,s3,s4,s5,s6,s7⟩:=hgets fr' h1 hf (fun _ _ h=> .inl h) (fun _ _ h=> .inr ⟨h,Ad _⟩) rfl;obtain⟨v',h',g1,g2⟩:=hk v h1 hΘ fr' hf D' E' K base frC' csC' w' s2 (hB.kept s5);refine⟨v',h',g1,?_⟩;have hb:=il (lq hf E).2.2 cs;rw[hb]at g2;grind [Am.Ends.trans]
end
end
section
variable [Inhabited aF]
def oq (P:Program) (tab:bm) (ops:Array Oper) (nt i:Nat) (o:Oper) (s:DS) (Φ:DS->Prop):Prop:=
 jH s.aM ops i o=true/\wanted ops o s.ts= .ok true/\
 iy P tab s.ts (iX s.h (s.aC.filter fun x=> !(cM x.1 (eO s.aM o)))) o fun v h1=>
  reread tab ops (iX (restore h1 s.h (s.aC.filter fun x=> !(cM x.1 (eO s.aM o)))) (s.aC.filter fun x=> !(cM x.1 (eO s.aM o)))) (s.reads.filter fun x=> !(cM x.1 (eO s.aM o)))= .ok ()/\
  Φ {ts:=iW nt s.ts o v,h:=restore h1 s.h (s.aC.filter fun x=> !(cM x.1 (eO s.aM o))),aM:=s.aM.set i (some (eO s.aM o)),reads:=s.reads.filter fun x=> !(cM x.1 (eO s.aM o)),aC:=s.aC.filter fun x=> !(cM x.1 (eO s.aM o))}
def fR (P:Program) (tab:bm) (ops:Array Oper) (nt:Nat) (G:DS->Prop):Nat->DS->Prop
 |0,_=>False
 |n+1,s=>∃s1,lv tab ops nt 0 ops.toList s= .ok s1/\((jP s1.aM 0 ops.toList=[]/\G s1)\/
  ∃c o,jP s1.aM 0 ops.toList=[(c,o)]/\oq P tab ops nt c o s1 (fR P tab ops nt G n))
def yN (P:Program) (tab:bm) (ops:Array Oper) (nt:Nat) (G:DS->Prop) (n:Nat) (s1:DS):Prop:=
 (jP s1.aM 0 ops.toList=[]/\G s1)\/ ∃c o,jP s1.aM 0 ops.toList=[(c,o)]/\oq P tab ops nt c o s1 (fR P tab ops nt G n)
section
variable {P:Program} {tab:bm} (pr:fU P tab)
variable {D:Nat->Prop} {E:Env} {K:KS} {base:List Frame} {frC:Frame} {csC:List Frame} {w:World}
variable {ops:Array Oper} {fr0:ag} {cs:List ag} {k:List bF} {lo:Nat} {s:DS} {Φ:DS->Prop} {X:Nat->Prop} {tsR:T AV} {hR:AH} {j:Nat} {l:List Nat} {o:Oper}
open Classical in
include pr in
theorem Ut (H:dg tab ops fr0.nt fr0.tmps lo s X) (Q:eP ops fr0 cs k base s X D E K tsR hR (j::l) frC csC w) (hB:eS K w) (hm:fr0.mode= .run) (ho:ops[j]? =some o) (hr:isReady s.aM j o=true)
   (hd:oq P tab ops fr0.nt j o s Φ) (hready:∀p∈iJ o,X p):∃s2,Φ s2/\dg tab ops fr0.nt fr0.tmps lo s2 (fun i=>X i\/i=j)/\tk P ops fr0 cs k base s2 (fun i=>X i\/i=j) D E K lo l frC csC w:=by
 obtain⟨hok,hb,hp⟩:=hd;obtain⟨hnone,hpre⟩:=pI hr;obtain⟨hok1,hok2⟩:=xO hok;have hxj:¬X j:=fun h=>by have:=H.cx j h;rw[hnone]at this;grind
 have hanX:∀p∈eO s.aM o,X p:=by
   intro p hp;rcases fF.1 hp with h|⟨q,hq,ap,h1,h2⟩
   . grind
   . exact H.rp q ap (hready q hq) h1 p h2
 generalize hhid:(s.aC.filter fun x=> !(cM x.1 (eO s.aM o)))=hid at*
 have hidm:∀x,x∈hid↔x∈s.aC/\x.1∉eO s.aM o:=by
   grind [eM]
 have hidj:∀x∈hid,x.1≠j:=by
   intro x hx e;have:=(H.al x ((hidm x).1 hx).1).2.1;rw[e,hnone]at this;grind
 have hl:∀t∈looks ops o,tsR.get t=s.ts.get t:=by
   intro t ht;by_cases hw:∃jj oj,ops[jj]? =some oj/\oj.dst=some t/\(s.aM.get jj).isSome
   . obtain⟨jj,oj,g1,g2,g3⟩:=hw;exact Q.pt jj oj t (hready jj (hok1 t ht jj oj g1 g2 g3)) g1 g2
   . rw[Q.po t (fun jj oj hx hoj hd=>hw ⟨jj,oj,hoj,hd,H.cx jj hx⟩),H.qc t (fun jj oj hc hoj hd=>hw ⟨jj,oj,hoj,hd,hc⟩)]
 obtain⟨hops,hwant⟩:=zV hl;have a:=mq Q.rel hm rfl ho (by rw[hwant];exact hb);obtain⟨v,h1,⟨hrr,hΦ⟩,hle,hgets0⟩:=JP pr Q.rel hB a (h0:=iX s.h hid) (hp.congr (fun x hx=>(hops x hx).symm))
   (by
     intro i ob h;rw[iU]at h;split at h
     . cases h
     . refine(Q.hr i ob).2 ⟨h,fun x hx e=>?_⟩;grind)
   (by
     intro i ob h;rw[iU]at h;split at h
     . cases h
     . rw[jM];exact H.hd i ob h)
   (by intro i hi;rw[jM,<-Q.hn];exact Q.rel.ey i hi)
 rw[jM]at hle;have hfin:=zC (fr0:=fr0) (tsR:=tsR) (l:=l) (k:=k) ho v;let h2:=restore h1 s.h hid
 let pd:=hid.filter fun x=>decide (¬(X x.1\/x.1=j))
 let hR2:=iX h2 pd
 have hg2:∀i,h2.get i=if ∃x∈hid,x.2=i then s.h.get i else h1.get i:=fun i=>oM _ _ _ _
 have hn2:h2.next=h1.next:=wE _ _ _;have hchar:∀i ob,hR2.get i=some ob↔h2.get i=some ob/\ ∀x∈hid,x.2=i->X x.1\/x.1=j:=by
   intro i ob;simp only[hR2,iU];constructor
   . intro h;split at h
     . cases h
     . refine⟨h,fun x hx e=>?_⟩;grind
   grind
 have hR2n:hR2.next=h1.next:=(jM _ _).trans hn2;have hgets:=hgets0 _ hR2 hfin
   (by
     intro i ob h;obtain⟨h3,h4⟩:=(hchar i ob).1 h;rw[hg2]at h3;split at h3
     . rename_i hex;right;refine⟨(Q.hr i ob).2 ⟨h3,fun x hx e=>?_⟩,by rw[iU,Al hex]⟩;grind
     grind)
   (by
     intro i ob h;obtain⟨h3,_⟩:=(hchar i ob).1 h;rw[hg2]at h3;rw[hR2n];split at h3
     . have:=H.hd i ob h3;omega
     grind)
   hR2n
 obtain⟨frC',csC',w',E1,D1,s1,rel1,ag1,dd1,kp1,_,new1⟩:=hgets;rw[jM]at new1;have hdom2:∀i ob,h2.get i=some ob->i<h2.next:=by
   intro i ob h;rw[hn2];rw[hg2]at h;split at h
   . have:=H.hd i ob h;omega
   . rename_i hne;have h3:=(hchar i ob).2 ⟨by rw[hg2,An hne];exact h,fun x hx e=>absurd ⟨x,hx,e⟩ hne⟩;have:=(rel1.all E1 (ak.refl _ _)).1.ey i ob h3;rw[<-hR2n];omega
 refine⟨_,hΦ,?_,iW fr0.nt tsR o v,hR2,frC',csC',w',D1,E1,s1,⟨rel1,hchar,hR2n.trans hn2.symm,?_,?_,?_⟩,ag1,dd1,kp1,?_⟩
 . refine H.lk ho hr hok hanX rfl rfl (by grind) (fun x hx=>((hidm x).1 hx).1) (fun x hx hn=>(hidm x).2 ⟨hx,hn⟩) ?_ hdom2 ?_
   . intro x hx;rw[hg2,Al ⟨x,hx,rfl⟩]
   . intro j' oj tj vj hmr hjan hoj hce hca;have hmf:(j',tj,vj)∈s.reads.filter (fun x=> !(cM x.1 (eO s.aM o))):=by
       rw[As];refine⟨hmr,?_⟩
       cases hb:cM j' (eO s.aM o)with
       |true=>exact absurd (eM.1 hb) hjan
       |false=>rfl
     refine⟨hmf,?_⟩;obtain⟨oj',hr',g1,g2⟩:=Kl _ hrr _ _ _ hmf;rw[hoj]at g1
     cases g1;have hsame:=wy ⟨hce,hca⟩ g2;subst hsame;refine⟨_,g2,?_⟩;intro b ob hg;rw[iU]at hg;split at hg
     all_goals grind [jM]
 . intro i oi t hi hoi hd;rw[lp,lp];by_cases hc:o.dst=some t/\t<fr0.nt
   . rw[Al hc,Al hc]
   . rw[An hc,An hc];rcases hi with hi|rfl
     . exact Q.pt i oi t hi hoi hd
     . rw[ho]at hoi
       cases hoi;have hge:fr0.nt<=t:=DG (fun hlt=>hc ⟨hd,hlt⟩);rw[H.tF t hge];exact Q.rel.wf.1 t hge
 . intro t ht;rw[lp,An (fun h=>ht j o (.inr rfl) ho h.1)];exact Q.po t (fun i oi hi hoi=>ht i oi (.inl hi) hoi)
 . intro x hx hnx hD;have hxm:=((hidm x).1 hx).1;rcases new1 x.2 hD with hd|hd
   . exact Q.dp x hxm (fun h=>hnx (.inl h)) hd
   . have:=(H.al x hxm).1;omega
 . intro i hi;rcases new1 i hi with h|h
   . grind
   . exact .inr (Ar H.nx h)
end
section
variable {P:Program} {tab:bm} (pr:fU P tab)
variable {K:KS} {base:List Frame}
variable {ops:Array Oper} {fr0:ag} {cs:List ag} {k:List bF} {lo:Nat}
def qg (P:Program) (fr0:ag) (cs:List ag) (k:List bF) (base:List Frame) (K:KS) (lo:Nat) (G:DS->Prop) (D:Nat->Prop) (E:Env) (frC:Frame) (csC:List Frame) (w:World):Prop:=
 ∃sF frC' csC' w' D' E',G sF/\Steps P (lone frC csC w) (lone frC' csC' w')/\Rel D' E' K {fr:={fr0 with tmps:=sF.ts,todo:=k},cs,h:=sF.h} base frC' csC' w'/\ak D E E'/\(∀i,D i->D' i)/\Kept K w w'/\(∀i,D' i->D i\/lo<=i)/\lo<=sF.h.next
include pr in
theorem zq (hm:fr0.mode= .run) (hlt:qa 0 ops.toList=true):∀(fuel t:Nat) (listed:Array Bool) (s:DS) (G:DS->Prop) (n:Nat) (D:Nat->Prop) (E:Env) (tsR:T AV) (hR:AH) (frC:Frame) (csC:List Frame) (w:World),
  listed.size=ops.size->oo ops.size listed<=fuel->yN P tab ops fr0.nt G n s->dg tab ops fr0.nt fr0.tmps lo s (eG listed)->
  eP ops fr0 cs k base s (eG listed) D E K tsR hR (Region.linearise.go .any ops fuel t listed []) frC csC w->eS K w->qg P fr0 cs k base K lo G D E frC csC w:=by
 have hend:∀(listed:Array Bool) (s:DS) (G:DS->Prop) (n:Nat) (D:Nat->Prop) (E:Env) (tsR:T AV) (hR:AH) (frC:Frame) (csC:List Frame) (w:World),(∀j,j<ops.size->eG listed j)->
    yN P tab ops fr0.nt G n s->dg tab ops fr0.nt fr0.tmps lo s (eG listed)->eP ops fr0 cs k base s (eG listed) D E K tsR hR [] frC csC w->qg P fr0 cs k base K lo G D E frC csC w:=by
  intro listed s G n D E tsR hR frC csC w hall htodo H Q;rcases htodo with⟨_,hG⟩|⟨c,o,hc,_⟩
  . have hts:∀t,tsR.get t=s.ts.get t:=by
      intro t;by_cases hw:∃(j:Nat) (oj:Oper),ops[j]? =some oj/\oj.dst=some t
      . obtain⟨j,oj,h1,h2⟩:=hw;exact Q.pt j oj t (hall j (Ab.1 h1).1) h1 h2
      . rw[Q.po t (fun j oj _ h1 h2=>hw ⟨j,oj,h1,h2⟩),H.qc t (fun j oj _ h1 h2=>hw ⟨j,oj,h1,h2⟩)]
    have hst:∀E',Go.step P (lone (bq E' {fr0 with tmps:=tsR,todo:= .inRegion ops []::k}) csC w)= .next (lone (bq E' {fr0 with tmps:=tsR,todo:=k}) csC w):=
      fun E'=>step_lone_go (by simp[stepG,stepG.exec,bq,hm,fo,dJ])
    have hconc:∀E',bq E' {fr0 with tmps:=s.ts,todo:=k}=bq E' {fr0 with tmps:=tsR,todo:=k}:=by
      simp_all[iD,vF,bq]
    have hfr:=(Q.rel.all E (ak.refl _ _)).2.1;refine⟨s,bq E {fr0 with tmps:=tsR,todo:=k},csC,w,D,E,hG, .one (by rw[<-hfr];grind),⟨fun E' he=>?_,fun i hi=>?_,?_,Q.rel.wf.2⟩,ak.refl _ _,fun _ h=>h,Kept.refl K w,fun i hi=> .inl hi,H.nx⟩
    . obtain⟨g1,g2,g3⟩:=Q.rel.all E' he;refine⟨g1.same (fun i ob h=>(Q.hr i ob).2 ⟨h,fun x hx _=>?_⟩) (by simp only;rw[Q.hn];omega),?_,g3⟩
      . obtain⟨o,ho⟩:=H.op _ (H.al x hx).2.1;grind
      grind [sQ]
    . have:=Q.rel.ey i hi;rw[Q.hn]at this;omega
    . intro t ht;have:=Q.rel.wf.1 t ht;grind
  . have hcm:(c,o)∈jP s.aM 0 ops.toList:=by rw[hc];grind
    obtain⟨j',h1,h2,h3⟩:=IX _ _ _ _ _ hcm;have hlt':c<ops.size:=by
      have:=(Ae.1 h2).1;grind
    have:=H.cx c (hall c hlt');rw[(pI h3).1]at this;grind
 intro fuel;induction fuel with
 |zero=>
  grind [Lm,Region.linearise.go]
 | succ fuel ih=>
  intro t listed s G n D E tsR hR frC csC w hsz hu htodo H Q hB;change eP ops fr0 cs k base s (eG listed) D E K tsR hR (match(Region.ready .any ops listed)[t % (Region.ready .any ops listed).length]? with
    |some i=>Region.linearise.go .any ops fuel (t / (Region.ready .any ops listed).length) (listed.setIfInBounds i true) [i]
    |none=>[].reverse) frC csC w at Q
  have hget:∀j,j<ops.size->(listed.getD j true=false↔¬eG listed j):=by
    grind [eG]
  cases hi:(Region.ready .any ops listed)[t % (Region.ready .any ops listed).length]? with
  | none=>
    rw[hi]at Q;have hnil:Region.ready .any ops listed=[]:=by
      cases hr:Region.ready .any ops listed with
      |nil=>rfl
      | cons x xs=>
        rw[hr]at hi;have hlt:t % (x::xs).length<(x::xs).length:=Nat.mod_lt _ (by simp);rw[DC]at hi;omega
    have hall:∀j,j<ops.size->eG listed j:=by
      intro j;induction j using Nat.strongRecOn with
      | _ j ihj=>
        intro hj;by_cases hx:eG listed j
        . exact hx
        . have hm':j∈Region.ready .any ops listed:=by
           rw[mem_ready];refine⟨(hget j hj).2 hx,ops[j],AY hj,?_⟩;intro e he hb;have hp:e.on∈iJ ops[j]:=Aw.2 ⟨e,As.2 ⟨by grind,hb⟩,rfl⟩;have hlt':=Ly ops.toList 0 hlt j ops[j] (by grind) e.on hp;grind
          rw[hnil]at hm';grind
    grind
  | some i =>
    rw[hi]at Q;simp only at Q;rw[linearise_go_acc,Ez,DN]at Q;obtain⟨hl1,o,ho,hdeps⟩:=mem_ready.1 (Bv hi);have hin:i<ops.size:=(Ab.1 ho).1;have hx:=(hget i hin).1 hl1;have hready:∀p∈iJ o,eG listed p:=by
      intro p hp;obtain⟨e,he,rfl⟩:=Aw.1 hp;grind
    have hsz':(listed.setIfInBounds i true).size=ops.size:=by grind
    have hu':oo ops.size (listed.setIfInBounds i true)<=fuel:=by
      have:=Mq hin (by omega) hx;omega
    have hX':eG (listed.setIfInBounds i true)=fun j=>eG listed j\/j=i:=EY (by omega)
    have hfin:∀(s':DS) (n':Nat),yN P tab ops fr0.nt G n' s'->dg tab ops fr0.nt fr0.tmps lo s' (fun j=>eG listed j\/j=i)->
        tk P ops fr0 cs k base s' (fun j=>eG listed j\/j=i) D E K lo (Region.linearise.go .any ops fuel (t / (Region.ready .any ops listed).length) (listed.setIfInBounds i true) []) frC csC w->qg P fr0 cs k base K lo G D E frC csC w:=by
      intro s' n' htd H' hc;obtain⟨tsR',hR',frC',csC',w',D',E',c1,c2,c3,c4,c5,c6⟩:=hc;obtain⟨sF,frF,cSF,wF,DF,EF,f0,f1,f2,f3,f4,f5,f6,f7⟩:=ih _ (listed.setIfInBounds i true) s' G n' D' E' tsR' hR' frC' csC' w' hsz' hu' htd (by rw[hX'];exact H') (by rw[hX'];exact c2) (hB.kept c5);exact⟨sF,frF,cSF,wF,DF,EF,f0,c1.trans f1,f2,c3.trans f3 c4,fun x hx=>f4 x (c4 x hx),c5.trans f5,fun x hx=>(f6 x hx).elim (c6 x) .inr,f7⟩
    by_cases hC:(s.aM.get i).isSome=true
    . exact hfin s n htodo (H.tM hC ho hready) (JQ pr.ok H Q hm ho hC hx hready)
    . have hr:isReady s.aM i o=true:=by
        unfold isReady;simp only[Ac,AB];exact⟨by simp_all,fun p hp=>H.cx p (hready p hp)⟩
      have hcm:(i,o)∈jP s.aM 0 ops.toList:=by
        have:=K6 ops.toList 0 s.aM i o (by grind) (by grind);grind
      rcases htodo with⟨hc,_⟩|⟨c,o',hc,hd⟩
      . rw[hc]at hcm;grind
      . rw [hc]at hcm;rcases Ap.1 hcm with e|hcm
        . cases e;obtain⟨s2,hloop,H2,tsR',hR',frC',csC',w',D',E',c1,c2,c3,c4,c5,c6⟩:=Ut pr H Q hB hm ho hr hd hready
          cases n with
          |zero=>exact hloop.elim
          | succ n=>
           obtain⟨s3,hpass,htd3⟩:=hloop;have hpl:∀j o,ops.toList[j]? =some o->ops[0+j]? =some o:=by
            intro j o hj;simpa using hj
           obtain⟨hR3,Q3⟩:=xa ops.toList 0 s2 s3 hR' hpl hpass H2 c2;exact hfin s3 n htd3 (wx ops.toList 0 s2 s3 hpl hpass H2) ⟨tsR',hR3,frC',csC',w',D',E',c1,Q3,c3,c4,c5,c6⟩
        . cases hcm
include pr in
theorem QM {Ψ:AV->AH->Prop} {h:AH} {id:Nat} {n:Nat} (hm:fr0.mode= .run) (ht:fr0.todo= .code (.region id ops true)::k) (hlt:qa 0 ops.toList=true)
  (hd:fR P tab ops fr0.nt (fun sF=>eR P {fr:={fr0 with tmps:=sF.ts,todo:=k},cs,h:=sF.h} Ψ) n {ts:=fr0.tmps,h,aM:= .e,reads:=[],aC:=[]}):eR P {fr:=fr0,cs,h} Ψ:=by
 intro D E K base frC csC w hR hB;obtain⟨n,rfl⟩:∃n',n=n'+1:=by
  cases n with
  |zero=>exact hd.elim
  |succ n=>grind
 obtain⟨s1,hpass,htodo⟩:=hd;let s0:DS:={ts:=fr0.tmps,h,aM:= .e,reads:=[],aC:=[]}
 let ord:=w.tape w.drawn (.order frC.fn id)
 let l:=Go.Region.linearise.go .any ops ops.size ord (Array.replicate ops.size false) []
 have hstep:∀E',ak D E E'->Go.step P (lone frC csC w)= .next (lone (bq E' {fr0 with tmps:=fr0.tmps,todo:= .inRegion ops l::k}) csC w.drew):=by
  intro E' he;have e1:=(hR.all E' he).2.1;refine step_lone_go ?_;have hmC:frC.mode= .run:=by rw[<-e1];grind [bq,fo]
  have htC:frC.todo= .code (.region id ops true)::k.map (dJ E'):=by rw[<-e1];grind [bq,dJ]
  have hrun:(choose (.order frC.fn id)).run P w= .ok ord w.drew:=by
   rfl
  have hsch:Go.Region.schedule (P.follows .mixedOrders) ops ord=l:=by
   simp only[Go.Region.schedule,pr.mix,D9,BB];rfl
  have hgoal:bq E' {fr0 with tmps:=fr0.tmps,todo:= .inRegion ops l::k}={frC with todo:= .inRegion ops l::k.map (dJ E')}:=by
   rw[<-e1];rfl
  rw[hgoal];grind [stepG,stepG.exec,GStep.bare_go]
 have hdom:=(hR.all E (ak.refl _ _)).1.ey;have H0:dg tab ops fr0.nt fr0.tmps h.next s0 (eG (Array.replicate ops.size false)):=by
  have hnone:∀j,s0.aM.get j=none:=fun _=>rfl
  refine⟨fun j hj=>absurd hj (sH _ _),fun j a hj=>absurd hj (sH _ _),?_,?_,?_,fun _ _=>rfl,?_,fun x hx=>(by cases hx),Ad _,hR.wf.1,fun x hx=>(by cases hx),hdom⟩
  all_goals grind
 have Q0:eP ops fr0 cs k base s0 (eG (Array.replicate ops.size false)) D E K fr0.tmps h l (bq E {fr0 with tmps:=fr0.tmps,todo:= .inRegion ops l::k}) csC w.drew:=by
  refine⟨⟨fun E' he=>?_,hR.ey,hR.wf⟩,fun i ob=>⟨fun h=>⟨h,fun x hx=>(by cases hx)⟩,fun h=>h.1⟩,rfl,fun j o t hx=>absurd hx (sH _ _),fun _ _=>rfl,fun x hx=>by cases hx⟩;obtain⟨g1,g2,g3⟩:=hR.all E' he;refine⟨g1.drew,?_,g3⟩;have h1:=hstep E' he;rw[hstep E (ak.refl _ _)]at h1;grind [sQ]
 have htodo:yN P tab ops fr0.nt (fun sF=>eR P {fr:={fr0 with tmps:=sF.ts,todo:=k},cs,h:=sF.h} Ψ) n s1:=htodo;have hpl:∀j o,ops.toList[j]? =some o->ops[0+j]? =some o:=by
  grind
 obtain⟨hR1,Q1⟩:=xa ops.toList 0 s0 s1 h hpl hpass H0 Q0;have H1:=wx ops.toList 0 s0 s1 hpl hpass H0;obtain⟨sF,frC',csC',w',D',E',f0,f1,f2,f3,f4,f5,f6,f7⟩:=zq pr hm hlt ops.size ord (Array.replicate ops.size false) s1 _ n D E fr0.tmps hR1 _ csC w.drew (by simp)
  (by grind [oo]) htodo H1 Q1 hB
 obtain⟨v,h',g1,g2⟩:=f0 D' E' K base frC' csC' w' f2 (eS.kept (w:=w.drew) hB f5);have hb:bot {fr0 with tmps:=sF.ts,todo:=k} cs=bot fr0 cs:=il (fr:=fr0) (fr':={fr0 with tmps:=sF.ts,todo:=k}) rfl cs;rw[hb]at g2;exact⟨v,h',g1,Am.Ends.trans (Steps.head (hstep E (ak.refl _ _)) f1) f3 f4 ((Kept.drew K w).trans f5) f7 f6 g2⟩
end
end
section
universe u v
variable [Inhabited aF]
structure BI where
 β:Nat
 len:Nat
 sz:Nat
 cap:Option gB
structure Cx where
 ρ:Nat->Option BI
 Fz:Nat->Option AO
def tt (cap:gB) (off n sz:Nat) (ext:Bool):Prop:=
 match cap with
 | .lit m=>n<=m
 | .tail k=>ext=true/\off=k*sz
def eU (Fz:Nat->Option AO) (b:Nat) (cs:List AV) (e:TypeId) (sz:Nat) (ext:Bool) (bk:BK):Prop:=
 ∃sz0 ext0,Fz b=some (.cells cs e sz0 ext0 bk)/\(ext=true->sz0=sz/\ext0=true)
theorem eU.of {Fz:Nat->Option AO} {b:Nat} {cs:List AV} {e:TypeId} {sz:Nat} {ext:Bool} {bk:BK} (h:Fz b=some (.cells cs e sz ext bk)):eU Fz b cs e sz ext bk:=⟨sz,ext,h,fun h=>⟨rfl,h⟩⟩
theorem eU.mono {Fz Fz':Nat->Option AO} (hf:∀i o,Fz i=some o->Fz' i=some o) {b:Nat} {cs:List AV} {e:TypeId} {sz:Nat} {ext:Bool} {bk:BK} (h:eU Fz b cs e sz ext bk):eU Fz' b cs e sz ext bk:=by
 obtain⟨s,x,h1,h2⟩:=h;exact⟨s,x,hf _ _ h1,h2⟩
inductive aO (Fz:Nat->Option AO):SV->AV->Prop
 |bool (b:Bool):aO Fz (.bool b) (.bool b)
 |int (k:IntKind) (n:Int):aO Fz (.int k n) (.int k n)
 |str (s:List UInt8):aO Fz (.str s) (.str s)
 |bj:aO Fz .bj .bj
 |wp (a:Addr):aO Fz (.wp a) (.raw (.pointer (some a)))
 |nils:aO Fz .nils .nils
 |bw:aO Fz .bw .bw
 |bB:aO Fz .bB .bB
 |any (v:AV):aO Fz .any v
 |bP {X:Type} {L:List X} {enc:X->List SV} {v:AV} (h0:L.length=0) (hv:v= .nils\/(∃b off l n k,v= .emp b off l n k)\/ ∃a c,v= .raw (.slice a 0 c)):aO Fz (.bh X L enc) v
 |bh {X:Type} {L:List X} {enc:X->List SV} (b off:Nat) (cap:gB) (cs:List AV) (e:TypeId) (sz:Nat) (ext:Bool) (bk:BK) (u:Nat->Nat->AV)
  (hb:eU Fz b cs e sz ext bk) (hs:0<sz) (hl:off+L.length*sz<=cs.length) (hn:∀(i:Nat) x,L[i]? =some x->(enc x).length=sz) (hc:tt cap off L.length sz ext)
  (h1:∀(i:Nat) x (j:Nat) v,L[i]? =some x->(enc x)[j]? =some v->cs[off+i*sz+j]? =some (u i j)) (h2:∀(i:Nat) x (j:Nat) v,L[i]? =some x->(enc x)[j]? =some v->aO Fz v (u i j)):aO Fz (.bh X L enc) (.sl b off L.length cap)
 |cU {cs:List SV} {off:Nat} (b base:Nat) (ca:List AV) (e:TypeId) (sz:Nat) (ext:Bool) (bk:BK) (u:Nat->AV) (hb:Fz b=some (.cells ca e sz ext bk)) (hl:base+cs.length<=ca.length)
  (h1:∀(j:Nat) v,cs[j]? =some v->ca[base+j]? =some (u j)) (h2:∀(j:Nat) v,cs[j]? =some v->aO Fz v (u j)):aO Fz (.cU cs off) (.ptr b (base+off))
 |fn {f:FuncId} {xs ys:List SV} {us vs:List AV} (h1:xs.length=us.length) (h2:ys.length=vs.length) (h3:∀(i:Nat) x u,xs[i]? =some x->us[i]? =some u->aO Fz x u) (h4:∀(i:Nat) x u,ys[i]? =some x->vs[i]? =some u->aO Fz x u):aO Fz (.fn f xs ys) (.fn (.func f) us vs)
 |agg {cs:List SV} {vs:List AV} (h1:cs.length=vs.length) (h2:∀(i:Nat) c v,cs[i]? =some c->vs[i]? =some v->aO Fz c v):aO Fz (.agg cs) (.agg vs)
 |bA {cs:List SV} {vs:List AV} (h1:cs.length=vs.length) (h2:∀(i:Nat) c v,cs[i]? =some c->vs[i]? =some v->aO Fz c v):aO Fz (.bA cs) (.bA vs)
inductive aJ (C:Cx):SV->AV->Prop
 |pure {s:SV} {v:AV} (h:aO C.Fz s v):aJ C s v
 |ptr {b off:Nat} {I:BI} (h:C.ρ b=some I):aJ C (.ptr b off) (.ptr I.β off)
 |cu {b i off:Nat} {I:BI} (h:C.ρ b=some I) (hc:I.cap.isSome):aJ C (.cu b i off) (.ptr I.β (i*I.sz+off))
 |eo {b:Nat} {I:BI} (h:C.ρ b=some I) (hc:I.cap=none):aJ C (.own b) .nils
 |own {b:Nat} {I:BI} {c:gB} (h:C.ρ b=some I) (hc:I.cap=some c):aJ C (.own b) (.sl I.β 0 I.len c)
 |sl {b off n c:Nat} {I:BI} (h:C.ρ b=some I):aJ C (.sl b off n c) (.sl I.β off n (.lit c))
 |fn {f:FuncId} {xs ys:List SV} {us vs:List AV} (h1:xs.length=us.length) (h2:ys.length=vs.length) (h3:∀(i:Nat) x u,xs[i]? =some x->us[i]? =some u->aJ C x u) (h4:∀(i:Nat) x u,ys[i]? =some x->vs[i]? =some u->aJ C x u):aJ C (.fn f xs ys) (.fn (.func f) us vs)
 |agg {cs:List SV} {vs:List AV} (h1:cs.length=vs.length) (h2:∀(i:Nat) c v,cs[i]? =some c->vs[i]? =some v->aJ C c v):aJ C (.agg cs) (.agg vs)
 |bA {cs:List SV} {vs:List AV} (h1:cs.length=vs.length) (h2:∀(i:Nat) c v,cs[i]? =some c->vs[i]? =some v->aJ C c v):aJ C (.bA cs) (.bA vs)
theorem gp {b c:Nat} (h:¬b=c):Nat.beq b c=false:=Ao.2 fun e=>h (Af e)
def aV (C:Cx) (l:List SV) (m:List AV):Prop:=l.length=m.length/\ ∀(i:Nat) s v,l[i]? =some s->m[i]? =some v->aJ C s v
theorem aV.nil {C:Cx}:aV C [] []:=⟨rfl,fun i s v h=>by grind⟩
theorem aV.cons {C:Cx} {s:SV} {v:AV} {l:List SV} {m:List AV} (h:aJ C s v) (t:aV C l m):aV C (s::l) (v::m):=by
 refine⟨by simp[t.1],fun i a b ha hb=>?_⟩
 cases i with
 |zero=>grind
 |succ i=>exact t.2 i a b (by grind) (by grind)
theorem aV.head {C:Cx} {s:SV} {v:AV} {l:List SV} {m:List AV} (h:aV C (s::l) (v::m)):aJ C s v/\aV C l m:=
 ⟨h.2 0 s v rfl rfl,by simpa using h.1,fun i a b ha hb=>h.2 (i+1) a b (by grind) (by grind)⟩
theorem aV.append {C:Cx} {l l':List SV} {m m':List AV} (h:aV C l m) (h':aV C l' m'):aV C (l++l') (m++m'):=by
 refine⟨by simp[h.1,h'.1],fun i a b ha hb=>?_⟩;by_cases hi:i<l.length
 . rw[AX hi]at ha;rw[AX (by rw[<-h.1];exact hi)]at hb;exact h.2 i a b ha hb
 . rw[Bd (by omega)]at ha;rw[Bd (by rw[<-h.1];omega),<-h.1]at hb;exact h'.2 _ a b ha hb
theorem aV.take {C:Cx} {l:List SV} {m:List AV} (h:aV C l m) (n:Nat):aV C (l.take n) (m.take n):=by
 refine⟨by simp[h.1],fun i a b ha hb=>?_⟩;rw[A4]at ha hb;split at ha
 . rename_i hi;rw[Al hi]at hb;exact h.2 i a b ha hb
 grind
theorem aV.drop {C:Cx} {l:List SV} {m:List AV} (h:aV C l m) (n:Nat):aV C (l.drop n) (m.drop n):=by
 refine⟨by simp[h.1],fun i a b ha hb=>?_⟩;rw[Dk]at ha hb;exact h.2 _ a b ha hb
theorem aO.mono {Fz Fz':Nat->Option AO} (hf:∀i o,Fz i=some o->Fz' i=some o) {s:SV} {v:AV} (h:aO Fz s v):aO Fz' s v:=by
 induction h with
 |bool b=>grind [bool]
 |int k n=>grind [int]
 |str s=>grind [str]
 |bj=>exact .bj
 |wp a=>grind [wp]
 |nils=>exact .nils
 |bw=>exact .bw
 |bB=>exact .bB
 |any v=>grind [any]
 |bP h0 hv=>grind [bP]
 |bh b off cap cs e sz ext bk u hb hs hl hn hc h1 _ ih=>exact .bh b off cap cs e sz ext bk u (hb.mono hf) hs hl hn hc h1 ih
 |cU b base ca e sz ext bk u hb hl h1 _ ih=>exact .cU b base ca e sz ext bk u (hf _ _ hb) hl h1 ih
 |fn h1 h2 _ _ ih3 ih4=>grind [fn]
 |agg h1 _ ih=>grind [agg]
 |bA h1 _ ih=>grind [bA]
theorem oX (e:Ev) (l:List SV):fE e l=l.map (SV.on e):=by
 induction l with
 |nil=>simp[fE]
 |cons a l ih=>grind [fE]
theorem aO.on {Fz:Nat->Option AO} {s:SV} {v:AV} (h:aO Fz s v) (e:Ev):aO Fz (s.on e) v:=by
 induction h with
 |bool b=>grind [SV.on,bool]
 |int k n=>grind [SV.on,int]
 |str s=>grind [SV.on,str]
 |bj=>grind [SV.on,bj]
 |wp a=>grind [SV.on,wp]
 |nils=>grind [SV.on,nils]
 |bw=>grind [SV.on,bw]
 |bB=>grind [SV.on,bB]
 |any v=>grind [SV.on,any]
 |bP h0 hv=>grind [SV.on,bP]
 |bh b off cap cs e sz ext bk u hb hs hl hn hc h1 h2 _=>exact .bh b off cap cs e sz ext bk u hb hs hl hn hc h1 h2
 |cU b base ca e sz ext bk u hb hl h1 h2 _=>exact .cU b base ca e sz ext bk u hb hl h1 h2
 |fn h1 h2 _ _ ih3 ih4=>
  grind [SV.on,oX,fn]
 |agg h1 _ ih=>
  grind [SV.on,oX,agg]
 |bA h1 _ ih=>
  grind [SV.on,oX,bA]
def dq (C:Cx) (e:Ev) (C':Cx):Prop:=
 (∀i o,C.Fz i=some o->C'.Fz i=some o)/\
 match e with
 | .mod _=>∀p I,C.ρ p=some I->C'.ρ p=some I
 | .kill b=>∀p I,p≠b->C.ρ p=some I->C'.ρ p=some I
 | .ft b X L enc=>(∀p I,p≠b->C.ρ p=some I->C'.ρ p=some I)/\ ∀I,C.ρ b=some I->
  (∀v,aJ C (.own b) v->aO C'.Fz (.bh X L enc) v)/\(∀(i:Nat) off v x,L[i]? =some x->aJ C (.cu b i off) v->aO C'.Fz (.cU (enc x) off) v)
theorem aJ.turns {C C':Cx} {e:Ev} (ht:dq C e C') {s:SV} {v:AV} (h:aJ C s v):aJ C' (s.on e) v:=by
 induction h with
 |pure h=>exact .pure ((h.mono ht.1).on e)
 | @ptr b off I h=>
  simp only[SV.on]
  cases e with
  |mod c=>exact .ptr (ht.2 _ _ h)
  |kill c=>
   by_cases hb:b=c
   . simp[hb];exact .pure (.any _)
   . simp only[gp hb,Bf];exact .ptr (ht.2 _ _ hb h)
  |ft c X L enc=>
   by_cases hb:b=c
   . simp[hb];exact .pure (.any _)
   . simp only[gp hb,Bf];exact .ptr (ht.2.1 _ _ hb h)
 | @cu b i off I h hc=>
  simp only[SV.on]
  cases e with
  |mod c=>exact .cu (ht.2 _ _ h) hc
  |kill c=>
   by_cases hb:b=c
   . simp[hb];exact .pure (.any _)
   . simp only[gp hb,Bf];exact .cu (ht.2 _ _ hb h) hc
  |ft c X L enc=>
   by_cases hb:b=c
   . subst hb;simp only[Dc,BZ];split
     . rename_i x hx;exact .pure ((ht.2.2 I h).2 i off _ x hx (.cu h hc))
     . exact .pure (.any _)
   . simp only[gp hb,Bf];exact .cu (ht.2.1 _ _ hb h) hc
 | @eo b I h hc=>
  simp only[SV.on]
  cases e with
  |mod c=>exact .eo (ht.2 _ _ h) hc
  |kill c=>
   by_cases hb:b=c
   . simp[hb];exact .pure (.any _)
   . simp only[gp hb,Bf];exact .eo (ht.2 _ _ hb h) hc
  |ft c X L enc=>
   by_cases hb:b=c
   . subst hb;simp only[Dc,BZ];exact .pure ((ht.2.2 I h).1 _ (.eo h hc))
   . simp only[gp hb,Bf];exact .eo (ht.2.1 _ _ hb h) hc
 | @own b I c' h hc=>
  simp only[SV.on]
  cases e with
  |mod c=>exact .own (ht.2 _ _ h) hc
  |kill c=>
   by_cases hb:b=c
   . simp[hb];exact .pure (.any _)
   . simp only[gp hb,Bf];exact .own (ht.2 _ _ hb h) hc
  |ft c X L enc=>
   by_cases hb:b=c
   . subst hb;simp only[Dc,BZ];exact .pure ((ht.2.2 I h).1 _ (.own h hc))
   . simp only[gp hb,Bf];exact .own (ht.2.1 _ _ hb h) hc
 | @sl b off n c' I h=>
  simp only[SV.on]
  cases e with
  |mod c=>exact .sl (ht.2 _ _ h)
  |kill c=>
   by_cases hb:b=c
   . simp[hb];exact .pure (.any _)
   . simp only[gp hb,Bf];exact .sl (ht.2 _ _ hb h)
  |ft c X L enc=>
   by_cases hb:b=c
   . simp[hb];exact .pure (.any _)
   . simp only[gp hb,Bf];exact .sl (ht.2.1 _ _ hb h)
 |fn h1 h2 _ _ ih3 ih4=>
  grind [SV.on,oX,fn]
 |agg h1 _ ih=>
  grind [SV.on,oX,agg]
 |bA h1 _ ih=>
  grind [SV.on,oX,bA]
def jB:List Ev->SV->SV
 |[],s=>s
 |e::l,s=>jB l (s.on e)
theorem wD (l m:List Ev) (s:SV):jB (l++m) s=jB m (jB l s):=by
 induction l generalizing s with
 |nil=>rfl
 |cons e l ih=>exact ih _
structure Tr (C:Cx) (log:List Ev) (C':Cx):Prop where
 val:∀s v,aJ C s v->aJ C' (jB log s) v
 fz:∀i o,C.Fz i=some o->C'.Fz i=some o
theorem Tr.refl (C:Cx):Tr C [] C:=⟨fun _ _ h=>h,fun _ _ h=>h⟩
theorem Tr.trans {C C' C'':Cx} {l m:List Ev} (h:Tr C l C') (k:Tr C' m C''):Tr C (l++m) C'':=
 ⟨fun s v hs=>by rw[wD];exact k.val _ _ (h.val _ _ hs),fun i o hi=>k.fz i o (h.fz i o hi)⟩
theorem dq.tr {C C':Cx} {e:Ev} (h:dq C e C'):Tr C [e] C':=⟨fun _ _ hs=>hs.turns h,h.1⟩
def Cx.le (C C':Cx):Prop:=(∀p I,C.ρ p=some I->C'.ρ p=some I)/\ ∀i o,C.Fz i=some o->C'.Fz i=some o
theorem aJ.le {C C':Cx} (hc:C.le C') {s:SV} {v:AV} (h:aJ C s v):aJ C' s v:=by
 induction h with
 |pure h=>exact .pure (h.mono hc.2)
 |ptr h=>exact .ptr (hc.1 _ _ h)
 |cu h hs=>exact .cu (hc.1 _ _ h) hs
 |eo h hs=>exact .eo (hc.1 _ _ h) hs
 |own h hs=>exact .own (hc.1 _ _ h) hs
 |sl h=>exact .sl (hc.1 _ _ h)
 |fn h1 h2 _ _ ih3 ih4=>grind [fn]
 |agg h1 _ ih=>grind [agg]
 |bA h1 _ ih=>grind [bA]
theorem Cx.le.tr {C C':Cx} (h:C.le C'):Tr C [] C':=⟨fun _ _ hs=>hs.le h,h.2⟩
theorem Cx.le_refl (C:Cx):C.le C:=⟨fun _ _ h=>h,fun _ _ h=>h⟩
def eF (tab:bm) (C:Cx) (I:BI) (o:SO) (a:AH):Prop:=
 match o with
 | .cells cs e=>I.cap.isSome/\ ∃ca sz,a.get I.β=some (.cells ca e sz false .rw)/\aV C cs ca/\tab.siz.get e=some sz
 | .arr X L enc e=>tab.siz.get e=some I.sz/\0<I.sz/\I.len=L.length/\(∀(i:Nat) x,L[i]? =some x->(enc x).length=I.sz)/\
  match I.cap with
  |none=>L.length=0
  |some c=>∃ca ext bk,a.get I.β=some (.cells ca e I.sz ext bk)/\(bk≠ .ro/\bk≠ .cold)/\ca.length=L.length*I.sz/\((c= .tail 0/\ext=true)\/(c= .lit 0/\L.length=0))/\
   ∀(i:Nat) x (j:Nat) v,L[i]? =some x->(enc x)[j]? =some v->∃u,ca[i*I.sz+j]? =some u/\aO C.Fz v u
structure HS (tab:bm) (C:Cx) (h:SH) (a:AH):Prop where
 obj:∀p o,h.get p=some o->∃I,C.ρ p=some I/\eF tab C I o a
 inj:∀p q o o' I J,h.get p=some o->h.get q=some o'->C.ρ p=some I->C.ρ q=some J->I.cap.isSome->J.cap.isSome->I.β=J.β->p=q
 fz:∀i o,C.Fz i=some o->a.get i=some o
 dj:∀p o I,h.get p=some o->C.ρ p=some I->I.cap.isSome->C.Fz I.β=none
 lt:∀p I,C.ρ p=some I->p<h.next
 wf:∀i o,a.get i=some o->i<a.next
def FS (C:Cx) (ts:Fr) (ta:T AV):Prop:=∀t s,look ts t=some s->aJ C s ((ta.get t).getD (.bA []))
end
section
universe u v
variable [Inhabited aF]
theorem kJ {α:Type u} (k:Nat) (v:α) (l:List (Nat×α)) (n:Nat):look ((k,v)::l) n=if n=k then some v else look l n:=by
 simp only[look];by_cases h:n=k
 . simp_all
 grind [gp]
theorem SH.aZ (h:SH) (b p:Nat) (o:Option SO):(h.set b o).get p=if p=b then o else h.get p:=by
 obtain⟨n,os⟩:=h;simp only[SH.set,SH.get,kJ];by_cases e:p=b
 . simp[e];cases o<;>rfl
 grind
theorem SH.aT (h:SH) (p:Nat) (o:SO):(h.new o).get p=if p=h.next then some o else h.get p:=by
 obtain⟨n,os⟩:=h;grind [SH.new,SH.get,kJ]
theorem SH.eN (h:SH) (b:Nat) (o:Option SO):(h.set b o).next=h.next:=by obtain⟨n,os⟩:=h;rfl
theorem SH.cE (h:SH) (o:SO):(h.new o).next=h.next+1:=by obtain⟨n,os⟩:=h;rfl
theorem Wj (e:Ev) (os:List (Nat×Option SO)) (p:Nat):look (ju e os) p=(look os p).map fun o=>o.map (SO.on e):=by
 induction os with
 |nil=>rfl
 |cons x l ih=>
  obtain⟨b,o⟩:=x
  cases o with
  |none=>grind [ju,kJ]
  |some o=>grind [ju,kJ]
theorem sU (e:Ev) (n:Nat) (os:List (Nat×Option SO)) (p:Nat):(SH.mk n (ju e os)).get p=((SH.mk n os).get p).map (SO.on e):=by
 simp only[SH.get,Wj]
 cases h:look os p with
 |none=>rfl
 |some o=>cases o<;>rfl
theorem Ks (e:Ev) (ts:Fr) (t:Nat):look (qx e ts) t=(look ts t).map (SV.on e):=by
 induction ts with
 |nil=>rfl
 |cons x l ih=>
  grind [qx,kJ]
theorem FS.turns {C C':Cx} {e:Ev} (ht:dq C e C') {ts:Fr} {ta:T AV} (h:FS C ts ta):FS C' (qx e ts) ta:=by
 intro t s hs;rw[Ks]at hs;obtain⟨s0,h0,rfl⟩:=AU.1 hs;exact(h t s0 h0).turns ht
theorem FS.le {C C':Cx} (hc:C.le C') {ts:Fr} {ta:T AV} (h:FS C ts ta):FS C' ts ta:=fun t s hs=>(h t s hs).le hc
theorem FS.log {C C':Cx} {log:List Ev} (ht:Tr C log C') {ts:Fr} {ta:T AV} (h:FS C ts ta):FS C' (tE log ts) ta:=by
 have key:∀(log:List Ev) (ts:Fr) (t:Nat),look (tE log ts) t=(look ts t).map (jB log):=by
  intro log;induction log with
  |nil=>intro ts t;simp[tE];cases look ts t<;>rfl
  |cons e l ih=>
   intro ts t;simp only[tE,ih,Ks,Option.map_map];rfl
 intro t s hs;rw[key]at hs;obtain⟨s0,h0,rfl⟩:=AU.1 hs;exact ht.val _ _ (h t s0 h0)
theorem FS.put {C:Cx} {ts:Fr} {ta:T AV} (h:FS C ts ta) {t:Nat} {s:SV} {v:AV} (hv:aJ C s v):FS C ((t,s)::ts) (ta.set t (some v)):=by
 intro t' s' hs;rw[kJ]at hs;rw[T.aZ];split at hs
 . grind
 . rename_i e;simpa [e]using h t' s' hs
theorem aV.le {C C':Cx} (hc:C.le C') {l:List SV} {m:List AV} (h:aV C l m):aV C' l m:=⟨h.1,fun i s v hs hv=>(h.2 i s v hs hv).le hc⟩
theorem aV.turns {C C':Cx} {e:Ev} (ht:dq C e C') {l:List SV} {m:List AV} (h:aV C l m):aV C' (fE e l) m:=by
 rw[oX];refine⟨by simp[h.1],fun i s v hs hv=>?_⟩;rw[AE]at hs;obtain⟨s0,h0,rfl⟩:=AU.1 hs;exact(h.2 i s0 v h0 hv).turns ht
section
variable {tab:bm} {C C':Cx} {I:BI} {o:SO} {a a':AH} {h:SH}
theorem eF.congr (hg:a'.get I.β=a.get I.β) (ho:eF tab C I o a):eF tab C I o a':=by
 simp_all[eF]
theorem eF.le (hc:C.le C') (ho:eF tab C I o a):eF tab C' I o a:=by
 cases o with
 |cells cs e=>
  obtain⟨h1,ca,sz,h2,h3,h4⟩:=ho;exact⟨h1,ca,sz,h2,h3.le hc,h4⟩
 | arr X L enc e=>
  obtain⟨h1,h2,h3,h4,h5⟩:=ho;refine⟨h1,h2,h3,h4,?_⟩
  cases hcap:I.cap with
  |none=>rw[hcap]at h5;exact h5
  |some c=>
   rw[hcap]at h5;obtain⟨ca,ext,bk,g1,g2,g3,g4,g5⟩:=h5;refine⟨ca,ext,bk,g1,g2,g3,g4,fun i x j v hx hv=>?_⟩;obtain⟨u,k1,k2⟩:=g5 i x j v hx hv;exact⟨u,k1,k2.mono hc.2⟩
theorem eF.turns {e:Ev} (ht:dq C e C') (ho:eF tab C I o a):eF tab C' I (o.on e) a:=by
 cases o with
 |cells cs t=>
  obtain⟨h1,ca,sz,h2,h3,h4⟩:=ho;exact⟨h1,ca,sz,h2,h3.turns ht,h4⟩
 | arr X L enc t=>
  obtain⟨h1,h2,h3,h4,h5⟩:=ho;refine⟨h1,h2,h3,h4,?_⟩
  cases hcap:I.cap with
  |none=>rw[hcap]at h5;exact h5
  |some c=>
   rw[hcap]at h5;obtain⟨ca,ext,bk,g1,g2,g3,g4,g5⟩:=h5;refine⟨ca,ext,bk,g1,g2,g3,g4,fun i x j v hx hv=>?_⟩;obtain⟨u,k1,k2⟩:=g5 i x j v hx hv;exact⟨u,k1,k2.mono ht.1⟩
theorem eF.live (ho:eF tab C I o a) (hc:I.cap.isSome):∃b,a.get I.β=some b:=by
 cases o with
 |cells cs e=>
  obtain⟨_,ca,sz,h2,_⟩:=ho;grind
 |arr X L enc e=>
  obtain⟨_,_,_,_,h5⟩:=ho;grind
open Classical in
noncomputable def Cx.put (C:Cx) (p:Nat) (I:BI):Cx:={C with ρ:=fun q=>if q=p then some I else C.ρ q}
theorem jr (C:Cx) (p:Nat) (I:BI):(C.put p I).ρ p=some I:=by simp[Cx.put]
theorem kg (C:Cx) {p q:Nat} (I:BI) (h:q≠p):(C.put p I).ρ q=C.ρ q:=by grind [Cx.put]
structure Grow (a a':AH):Prop where
 next:a.next<=a'.next
 old:∀i o,a'.get i=some o->(∃o0,a.get i=some o0)\/a.next<=i
theorem Grow.refl (a:AH):Grow a a:=⟨Ad _,fun i o h=> .inl ⟨o,h⟩⟩
theorem Grow.trans {a b c:AH} (h:Grow a b) (k:Grow b c):Grow a c:=
 ⟨Ar h.next k.next,fun i o hi=>(k.old i o hi).elim (fun⟨o',ho⟩=>h.old i o' ho) (fun hl=> .inr (Ar h.next hl))⟩
theorem Grow.new (a:AH) (o:AO):Grow a (a.new o):=⟨by simp,fun i o' hi=>by
 rw[AH.aT]at hi;grind⟩
theorem HS.new (H:HS tab C h a) {ao:AO} {o:SO} (I:BI) (hI:I.β=a.next) (ho:C.le (C.put h.next I)->eF tab (C.put h.next I) I o (a.new ao)):
   C.le (C.put h.next I)/\HS tab (C.put h.next I) (h.new o) (a.new ao):=by
 have hle:C.le (C.put h.next I):=by
   refine⟨fun p J hp=>?_,fun i o h=>h⟩;have:=H.lt p J hp;rw[kg _ _ (by omega)];exact hp
 refine⟨hle,?_⟩;have hold:∀p o',(h.new o).get p=some o'->p≠h.next->h.get p=some o':=by
   grind [SH.aT]
 have hne:∀p o',h.get p=some o'->p≠h.next:=by
   intro p o' hp e;obtain⟨J,hJ,_⟩:=H.obj p o' hp;have:=H.lt p J hJ;omega
 have hblk:∀p o' J,h.get p=some o'->C.ρ p=some J->J.cap.isSome->J.β<a.next:=by
   intro p o' J hp hJ hc;obtain⟨J',hJ',hs⟩:=H.obj p o' hp;rw[hJ]at hJ';cases hJ';obtain⟨b,hb⟩:=hs.live hc;exact H.wf _ _ hb
 refine⟨?_,?_,?_,?_,?_,?_⟩
 . intro p o' hp;by_cases e:p=h.next
   . grind [SH.aT,jr]
   . have hp':=hold p o' hp e;obtain⟨J,hJ,hs⟩:=H.obj p o' hp';refine⟨J,hle.1 _ _ hJ,?_⟩;have hs':=hs.le hle;by_cases hc:J.cap.isSome
     . refine hs'.congr ?_;have:=hblk p o' J hp' hJ hc;rw[AH.aT,An (by omega)]
     . cases o' with
       |cells cs t=>exact absurd hs.1 hc
       |arr X L enc t=>
        obtain⟨h1,h2,h3,h4,h5⟩:=hs';refine⟨h1,h2,h3,h4,?_⟩;grind
 . intro p q o1 o2 J J' hp hq hJ hJ' hc hc' e;by_cases e1:p=h.next
   . grind [jr,kg]
   . rw[kg _ _ e1]at hJ;by_cases e2:q=h.next
     . grind [jr]
     . rw[kg _ _ e2]at hJ';exact H.inj p q o1 o2 J J' (hold p o1 hp e1) (hold q o2 hq e2) hJ hJ' hc hc' e
 . intro i o' hi;have:=H.fz i o' hi;have hl:=H.wf _ _ this;rw[AH.aT,An (by omega)];omega
 . intro p o' J hp hJ hc;by_cases e:p=h.next
   . subst e;rw[jr]at hJ;cases hJ;rw[hI]
     cases hz:(C.put h.next I).Fz a.next with
     |none=>rfl
     | some o2=>
       have:=H.wf _ _ (H.fz _ _ hz);omega
   . rw[kg _ _ e]at hJ;exact H.dj p o' J (hold p o' hp e) hJ hc
 . intro p J hJ;rw[SH.cE];by_cases e:p=h.next
   . omega
   . rw[kg _ _ e]at hJ;have:=H.lt p J hJ;omega
 . intro i o' hi;rw[AH.aT]at hi;simp only[AH.cE];split at hi
   . omega
   . have:=H.wf i o' hi;omega
theorem HS.zr (H:HS tab C h a) {o:SO} (I:BI) (hI:I.cap=none) (ho:C.le (C.put h.next I)->eF tab (C.put h.next I) I o a):
   C.le (C.put h.next I)/\HS tab (C.put h.next I) (h.new o) a:=by
 have hle:C.le (C.put h.next I):=by
   refine⟨fun p J hp=>?_,fun i o h=>h⟩;have:=H.lt p J hp;rw[kg _ _ (by omega)];exact hp
 refine⟨hle,?_⟩;have hold:∀p o',(h.new o).get p=some o'->p≠h.next->h.get p=some o':=by
   grind [SH.aT]
 refine⟨?_,?_,H.fz,?_,?_,H.wf⟩
 . intro p o' hp;by_cases e:p=h.next
   . grind [SH.aT,jr]
   . obtain⟨J,hJ,hs⟩:=H.obj p o' (hold p o' hp e);exact⟨J,hle.1 _ _ hJ,hs.le hle⟩
 . intro p q o1 o2 J J' hp hq hJ hJ' hc hc' e;by_cases e1:p=h.next
   . grind [jr]
   . rw[kg _ _ e1]at hJ;by_cases e2:q=h.next
     . grind [jr]
     . rw[kg _ _ e2]at hJ';exact H.inj p q o1 o2 J J' (hold p o1 hp e1) (hold q o2 hq e2) hJ hJ' hc hc' e
 . intro p o' J hp hJ hc;by_cases e:p=h.next
   . grind [jr]
   . rw[kg _ _ e]at hJ;exact H.dj p o' J (hold p o' hp e) hJ hc
 . intro p J hJ;rw[SH.cE];by_cases e:p=h.next
   . omega
   . rw[kg _ _ e]at hJ;have:=H.lt p J hJ;omega
theorem HS.renew (H:HS tab C h a) {d:Nat} {o0:SO} {I0:BI} (hd:h.get d=some o0) (hI0:C.ρ d=some I0) (I:BI) {o:SO}
   (hold:∀i b,(I0.cap.isSome->i≠I0.β)->a.get i=some b->a'.get i=some b) (hwf:∀i b,a'.get i=some b->i<a'.next)
   (hnew:I.cap.isSome->a.next<=I.β\/(I0.cap.isSome/\I.β=I0.β)) (hn:a.next<=a'.next) (ho:dq C (.kill d) (C.put d I)->eF tab (C.put d I) I o a'):
   dq C (.kill d) (C.put d I)/\HS tab (C.put d I) ⟨h.next,(d,some o)::ju (.kill d) h.os⟩ a':=by
 have hT:dq C (.kill d) (C.put d I):=⟨fun i o h=>h,fun p J hp hJ=>by rw[kg _ _ hp];exact hJ⟩;refine⟨hT,?_⟩;have hget:∀p,(SH.mk h.next ((d,some o)::ju (.kill d) h.os)).get p=if p=d then some o else(h.get p).map (SO.on (.kill d)):=by
   intro p;have h1:=sU (.kill d) h.next h.os p;grind [SH.get,kJ]
 have hback:∀p o',(SH.mk h.next ((d,some o)::ju (.kill d) h.os)).get p=some o'->p≠d->∃o1,h.get p=some o1/\o'=o1.on (.kill d):=by
   grind [Option.map_eq_some_iff]
 have hlive:∀p o1 J,h.get p=some o1->C.ρ p=some J->eF tab C J o1 a:=by
   intro p o1 J hp hJ;obtain⟨J',hJ',hs⟩:=H.obj p o1 hp;rw[hJ]at hJ';grind
 have hne:∀p o1 J,h.get p=some o1->C.ρ p=some J->J.cap.isSome->p≠d->(I0.cap.isSome->J.β≠I0.β):=by
   intro p o1 J hp hJ hc hpd hc0 e;exact hpd (H.inj p d o1 o0 J I0 hp hd hJ hI0 hc hc0 e)
 refine⟨?_,?_,?_,?_,?_,hwf⟩
 . intro p o' hp;by_cases e:p=d
   . grind [jr]
   . obtain⟨o1,h1,rfl⟩:=hback p o' hp e;obtain⟨J,hJ,hs⟩:=H.obj p o1 h1;refine⟨J,hT.2 p J e hJ,?_⟩;have hs':=hs.turns hT;by_cases hc:J.cap.isSome
     . obtain⟨b,hb⟩:=hs.live hc;exact hs'.congr ((hold _ _ (hne p o1 J h1 hJ hc e) hb).trans hb.symm)
     . cases o1 with
       |cells cs t=>exact absurd hs.1 hc
       |arr X L enc t=>
        obtain⟨g1,g2,g3,g4,g5⟩:=hs';refine⟨g1,g2,g3,g4,?_⟩;grind
 . have key:∀q o2 J,(SH.mk h.next ((d,some o)::ju (.kill d) h.os)).get q=some o2->q≠d->(C.put d I).ρ q=some J->J.cap.isSome->I.cap.isSome->I.β≠J.β:=by
     intro q o2 J hq e2 hJ' hc' hc e;rw[kg _ _ e2]at hJ';obtain⟨o3,h3,rfl⟩:=hback q o2 hq e2;obtain⟨b,hb⟩:=(hlive q o3 J h3 hJ').live hc';have hlt:=H.wf _ _ hb;grind
   intro p q o1 o2 J J' hp hq hJ hJ' hc hc' e;by_cases e1:p=d
   . grind [jr]
   . by_cases e2:q=d
     . grind [jr]
     . rw[kg _ _ e1]at hJ;rw[kg _ _ e2]at hJ';obtain⟨o3,h3,_⟩:=hback p o1 hp e1;obtain⟨o4,h4,_⟩:=hback q o2 hq e2;exact H.inj p q o3 o4 J J' h3 h4 hJ hJ' hc hc' e
 . intro i b hi;have h1:=H.fz i b hi;refine hold i b (fun hc e=>?_) h1;subst e;have:=H.dj d o0 I0 hd hI0 hc;rw[show C.Fz I0.β=some b from hi]at this;grind
 . intro p o' J hp hJ hc;by_cases e:p=d
   . subst e;rw[jr]at hJ;cases hJ;rcases hnew hc with hge|⟨h0,he⟩
     . cases hz:C.Fz I.β with
       |none=>exact hz
       |some o2=>
        have:=H.wf _ _ (H.fz _ _ hz);omega
     . rw[he];exact H.dj p o0 I0 hd hI0 h0
   . rw[kg _ _ e]at hJ;obtain⟨o3,h3,_⟩:=hback p o' hp e;exact H.dj p o3 J h3 hJ hc
 . intro p J hJ;by_cases e:p=d
   . subst e;exact H.lt p I0 hI0
   . rw[kg _ _ e]at hJ;exact H.lt p J hJ
end
end
section
universe u v
variable [Inhabited aF]
section
variable {tab:bm} {C C':Cx} {I:BI} {o:SO} {a a':AH} {h:SH}
theorem HS.at_ (H:HS tab C h a) {p:Nat} {o:SO} {I:BI} (hp:h.get p=some o) (hI:C.ρ p=some I):eF tab C I o a:=by
 obtain⟨J,hJ,hs⟩:=H.obj p o hp;rw[hI]at hJ;grind
theorem HS.mod (H:HS tab C h a) {d:Nat} {o0:SO} {I0:BI} (hd:h.get d=some o0) (hI0:C.ρ d=some I0) (hb:I0.cap.isSome) {o:SO} {ao:AO} (ho:eF tab C I0 o (a.set I0.β ao)):
   HS tab C (h.set d (some o)) (a.set I0.β ao):=by
 have hback:∀p o',(h.set d (some o)).get p=some o'->p≠d->h.get p=some o':=by
   grind [SH.aZ]
 have hany:∀p o',(h.set d (some o)).get p=some o'->∃o1,h.get p=some o1:=by
   grind
 have hlt:=H.wf _ _ ((H.at_ hd hI0).live hb).choose_spec;refine⟨?_,?_,?_,?_,?_,?_⟩
 . intro p o' hp;by_cases e:p=d
   . grind [SH.aZ]
   . have hp':=hback p o' hp e;obtain⟨J,hJ,hs⟩:=H.obj p o' hp';refine⟨J,hJ,?_⟩;by_cases hc:J.cap.isSome
     . refine hs.congr ?_;rw[AH.aZ,An];intro e';exact e (H.inj p d o' o0 J I0 hp' hd hJ hI0 hc hb e')
     . cases o' with
       |cells cs t=>exact absurd hs.1 hc
       |arr X L enc t=>
        obtain⟨g1,g2,g3,g4,g5⟩:=hs;refine⟨g1,g2,g3,g4,?_⟩;grind
 . intro p q o1 o2 J J' hp hq hJ hJ' hc hc' e;obtain⟨o3,h3⟩:=hany p o1 hp;obtain⟨o4,h4⟩:=hany q o2 hq;exact H.inj p q o3 o4 J J' h3 h4 hJ hJ' hc hc' e
 . intro i b hi;have h1:=H.fz i b hi;rw[AH.aZ,An]
   . exact h1
   . intro e;subst e;have:=H.dj d o0 I0 hd hI0 hb;rw[hi]at this;grind
 . intro p o' J hp hJ hc;obtain⟨o3,h3⟩:=hany p o' hp;exact H.dj p o3 J h3 hJ hc
 . intro p J hJ;rw[SH.eN];exact H.lt p J hJ
 . intro i b hi;rw[AH.aZ]at hi;simp only[AH.eN];split at hi
   . omega
   . exact H.wf i b hi
open Classical in
noncomputable def Cx.freeze (C:Cx) (β:Nat) (p:Prop) (o:Option AO):Cx:={C with Fz:=fun i=>if p/\i=β then o else C.Fz i}
theorem HS.freeze (H:HS tab C h a) {d:Nat} {o0:SO} {I0:BI} (hd:h.get d=some o0) (hI0:C.ρ d=some I0) {e:Ev} (he:∀C':Cx,(∀i o,C.Fz i=some o->C'.Fz i=some o)->(∀p I,C.ρ p=some I->C'.ρ p=some I)->
     (I0.cap.isSome->C'.Fz I0.β=a.get I0.β)->dq C e C'):
   ∃C',dq C e C'/\HS tab C' ⟨h.next,(d,none)::ju e h.os⟩ a/\(I0.cap.isSome->C'.Fz I0.β=a.get I0.β)/\C'.ρ=C.ρ:=by
 classical
 let C':Cx:=C.freeze I0.β (I0.cap.isSome=true) (a.get I0.β)
 have hfz:∀i o,C.Fz i=some o->C'.Fz i=some o:=by
   intro i o hi;simp only[C',Cx.freeze];split
   . rename_i hc;obtain⟨hb,rfl⟩:=hc;have:=H.dj d o0 I0 hd hI0 hb;rw[hi]at this;grind
   omega
 have hfb:I0.cap.isSome->C'.Fz I0.β=a.get I0.β:=by
   grind [Cx.freeze]
 have hback':∀i o,C'.Fz i=some o->C.Fz i=some o\/(I0.cap.isSome/\i=I0.β/\a.get i=some o):=by
   grind [Cx.freeze]
 have hT:=he C' hfz (fun p I h=>h) hfb;refine⟨C',hT,?_,hfb,rfl⟩;have hget:∀p,(SH.mk h.next ((d,none)::ju e h.os)).get p=if p=d then none else(h.get p).map (SO.on e):=by
   intro p;have h1:=sU e h.next h.os p;grind [SH.get,kJ]
 have hback:∀p o',(SH.mk h.next ((d,none)::ju e h.os)).get p=some o'->p≠d/\ ∃o1,h.get p=some o1/\o'=o1.on e:=by
   simp_all
 refine⟨?_,?_,?_,?_,H.lt,H.wf⟩
 . intro p o' hp;obtain⟨hne,o1,h1,rfl⟩:=hback p o' hp;obtain⟨J,hJ,hs⟩:=H.obj p o1 h1;exact⟨J,hJ,hs.turns hT⟩
 . intro p q o1 o2 J J' hp hq hJ hJ' hc hc' e;obtain⟨_,o3,h3,_⟩:=hback p o1 hp;obtain⟨_,o4,h4,_⟩:=hback q o2 hq;exact H.inj p q o3 o4 J J' h3 h4 hJ hJ' hc hc' e
 . intro i b hi;rcases hback' i b hi with h1|⟨_,_,h1⟩
   . exact H.fz i b h1
   omega
 . intro p o' J hp hJ hc;obtain⟨hne,o3,h3,_⟩:=hback p o' hp
   cases hz:C'.Fz J.β with
   |none=>rfl
   | some b=>
     rcases hback' _ b hz with h1|⟨hb,h1,_⟩
     . have:=H.dj p o3 J h3 hJ hc;rw[h1]at this;omega
     . exact absurd (H.inj p d o3 o0 J I0 h3 hd hJ hI0 hc hb h1) hne
theorem UA (H:HS tab C h a) {d:Nat} {X:Type} {L:List X} {enc:X->List SV} {t:TypeId} {I0:BI} (hd:h.get d=some (.arr X L enc t)) (hI0:C.ρ d=some I0) (C':Cx)
   (hfz:∀i o,C.Fz i=some o->C'.Fz i=some o) (hρ:∀p I,C.ρ p=some I->C'.ρ p=some I) (hb:I0.cap.isSome->C'.Fz I0.β=a.get I0.β):dq C (.ft d X L enc) C':=by
 refine⟨hfz,fun p I _ h=>hρ p I h,fun I hI=>?_⟩;rw[hI0]at hI;cases hI;obtain⟨g1,g2,g3,g4,g5⟩:=H.at_ hd hI0;constructor
 . intro v hv
   cases hv with
   |pure h=>cases h
   |eo hI hc=>
    rw[hI0]at hI;cases hI;rw[hc]at g5;exact .bP g5 (.inl rfl)
   |own hI hc=>
    rw[hI0]at hI;cases hI;rw[hc]at g5;obtain⟨ca,ext,bk,k1,k2,k3,k4,k5⟩:=g5;rw[g3];refine .bh I0.β 0 _ ca t I0.sz ext bk (fun i j=>(ca[0+i*I0.sz+j]?).getD (.bA [])) (.of (by rw[hb (by grind),k1])) g2 (by omega) g4 ?_ ?_ ?_
    . grind [tt]
    . grind
    . intro i x j v hx hv;obtain⟨u,k6,k7⟩:=k5 i x j v hx hv;rw[Ax,k6];exact k7.mono hfz
 . intro i off v x hx hv
   cases hv with
   |pure h=>cases h
   |cu hI hc=>
    rw[hI0]at hI;cases hI;obtain⟨c,hc'⟩:=Bp.1 hc;rw[hc']at g5;obtain⟨ca,ext,bk,k1,k2,k3,k4,k5⟩:=g5;refine .cU I0.β (i*I0.sz) ca t I0.sz ext bk (fun j=>(ca[i*I0.sz+j]?).getD (.bA [])) (by rw[hb hc,k1]) ?_ ?_ ?_
    . have hlt:=(Ae.1 hx).1;rw[k3,g4 i x hx]
      calc i*I0.sz+I0.sz=(i+1)*I0.sz:=by rw[Be,Dr]
       _<=L.length*I0.sz:=A9 _ hlt
    . grind
    . intro j v hv;obtain⟨u,k6,k7⟩:=k5 i x j v hx hv;rw[k6];exact k7.mono hfz
theorem TP {d:Nat} (C':Cx) (hfz:∀i o,C.Fz i=some o->C'.Fz i=some o) (hρ:∀p I,C.ρ p=some I->C'.ρ p=some I):dq C (.kill d) C':=⟨hfz,fun p I _ h=>hρ p I h⟩
end
def cY (C:Cx) (h:SH) (a:AH) (new:List Ev) (C':Cx) (h':SH) (a':AH):Prop:=∀p o I,h.get p=some o->C.ρ p=some I->I.cap.isSome->p∉kT new->
 a'.get I.β=a.get I.β/\((∃o',h'.get p=some o'/\C'.ρ p=some I)\/ ∃b,C'.Fz I.β=some b)
theorem cY.same (C:Cx) (h:SH) (a:AH) (new:List Ev):cY C h a new C h a:=fun _ o _ hp hI _ _=>⟨rfl, .inl ⟨o,hp,hI⟩⟩
theorem cY.new {tab:bm} {C C':Cx} {h h':SH} {a:AH} (H:HS tab C h a) (o:AO) (new:List Ev) (hle:C.le C') (hh:∀p o,h.get p=some o->∃o',h'.get p=some o'):cY C h a new C' h' (a.new o):=by
 intro p o' I hp hI hc _;obtain⟨b,hb⟩:=(H.at_ hp hI).live hc;have:=H.wf _ _ hb;obtain⟨o2,h2⟩:=hh p o' hp;exact⟨by rw[AH.aT,An (by omega)], .inl ⟨o2,h2,hle.1 _ _ hI⟩⟩
theorem uA {tab:bm} {C:Cx} {h:SH} {a:AH} (H:HS tab C h a) (o:SO):∀p o',h.get p=some o'->∃o2,(h.new o).get p=some o2:=by
 grind [SH.aT]
structure pH (tab:bm) (C:Cx) (s:St) (ta:T AV) (a:AH) (sv:SV) (s':St) (v:AV) (a':AH):Prop where
 ex:∃C' new,s'.log=s.log++new/\Tr C new C'/\aJ C' sv v/\HS tab C' s'.h a'/\FS C' s'.ts ta/\cY C s.h a new C' s'.h a'
 grow:Grow a a'
theorem pH.same {tab:bm} {C:Cx} {s:St} {ta:T AV} {a:AH} {sv:SV} {v:AV} (hF:FS C s.ts ta) (H:HS tab C s.h a) (hv:aJ C sv v):pH tab C s ta a sv s v a:=
 ⟨⟨C,[],by simp,Tr.refl C,hv,H,hF,cY.same _ _ _ _⟩,Grow.refl a⟩
def dM (C:Cx) (h:SH) (a:AH) (C1:Cx) (h1:SH):Prop:=∀p o I,h.get p=some o->C.ρ p=some I->I.cap.isSome->(∃o',h1.get p=some o'/\C1.ρ p=some I)\/ ∃b,a.get I.β=some b/\C1.Fz I.β=some b
theorem dM.refl (C:Cx) (h:SH) (a:AH):dM C h a C h:=fun p o I hp hI _=> .inl ⟨o,hp,hI⟩
theorem dM.trans {C C1 C2:Cx} {h h1 h2:SH} {a:AH} (k:dM C h a C1 h1) (k':dM C1 h1 a C2 h2) (hf:∀i o,C1.Fz i=some o->C2.Fz i=some o):dM C h a C2 h2:=by
 intro p o I hp hI hc;rcases k p o I hp hI hc with⟨o',h1,h2⟩|⟨b,h1,h2⟩
 . exact k' p o' I h1 h2 hc
 grind
theorem dM.bn {C C1:Cx} {h h1:SH} {a:AH} (k:dM C h a C1 h1) (new:List Ev):cY C h a new C1 h1 a:=
 fun p o I hp hI hc _=>⟨rfl,(k p o I hp hI hc).imp id (fun⟨b,_,h⟩=>⟨b,h⟩)⟩
theorem l3 {tab:bm} {C:Cx} {s:St} {ta:T AV} {a:AH} (hF:FS C s.ts ta) (H:HS tab C s.h a) {d:Nat} {X:Type} {L:List X} {enc:X->List SV} {t:TypeId} (hd:s.h.get d=some (.arr X L enc t)):
   ∃C',((s.ev (.ft d X L enc)).del d).log=s.log++[.ft d X L enc]/\Tr C [.ft d X L enc] C'/\HS tab C' ((s.ev (.ft d X L enc)).del d).h a/\FS C' ((s.ev (.ft d X L enc)).del d).ts ta/\
    (∀v,aJ C (.own d) v->aO C'.Fz (.bh X L enc) v)/\dM C s.h a C' ((s.ev (.ft d X L enc)).del d).h:=by
 obtain⟨ts,⟨n,os⟩,log⟩:=s;obtain⟨I,hI,ho⟩:=H.obj d _ hd;obtain⟨C',hT,H',hfb,hρ⟩:=H.freeze hd hI (UA H hd hI);refine⟨C',rfl,hT.tr,H',hF.turns hT,(hT.2.2 I hI).1,?_⟩;intro p o J hp hJ hc;by_cases e:p=d
 . subst e;rw[hI]at hJ;cases hJ;obtain⟨b,hb⟩:=(H.at_ hp hI).live hc;grind
 simp_all[St.ev,St.del,SH.aZ,sU]
end
section
universe u v
variable [Inhabited aF]
theorem rb {α β:Type} {x:R α} {a:α} (h:x= .ok a) (f:α->R β):(x>>=f)=f a:=by rw[h];rfl
theorem ro {α:Type} {s:String} {x:Option α} {a:α} (h:x=some a):R.of s x= .ok a:=by rw[h];rfl
theorem rc {s:String} {b:Bool} (h:b=true):R.check s b= .ok ():=by rw[h];rfl
theorem dx {α:Type u} {x:Option α} {k:α->Prop} (h:so x k):∃a,x=some a/\k a:=by
 cases x with
 |none=>exact h.elim
 |some a=>exact⟨a,rfl,h⟩
theorem cO {b:Bool} {p:Prop} (h:ck b p):b=true/\p:=by
 cases b with
 |false=>exact h.elim
 |true=>exact⟨rfl,h⟩
theorem yz {b:Bool} {p q:Prop} (h:br b p q):(b=true/\p)\/(b=false/\q):=by
 cases b with
 |false=>exact .inr ⟨rfl,h⟩
 |true=>exact .inl ⟨rfl,h⟩
theorem Fh {α:Type u} {β:Type v} {f:α->Option β}:∀{l:List α} {m:List β},jh f l=some m->l.length=m.length/\ ∀(i:Nat) a b,l[i]? =some a->m[i]? =some b->f a=some b:=by
 intro l;induction l with
 |nil=>grind [jh]
 |cons x l ih=>
  grind [jh]
section
variable {tab:bm} {C:Cx}
theorem zX {v:Value} {s:SV} (h:uX v=some s):aJ C s (pT v):=by
 unfold uX at h;split at h<;>cases h<;>simp only[pT]<;>exact .pure (by constructor)
theorem SS {v:Value} {s:SV} (h:CX v=some s):aJ C s (ofConst v):=by
 unfold CX at h;split at h
 . obtain⟨l,hl,rfl⟩:=AU.1 h;obtain⟨h1,h2⟩:=Fh hl;refine .agg (by grind) (fun i c v hc hv=>?_);rw[AE]at hv;grind [zX]
 . obtain⟨l,hl,rfl⟩:=AU.1 h;obtain⟨h1,h2⟩:=Fh hl;refine .bA (by grind) (fun i c v hc hv=>?_);rw[AE]at hv;grind [zX]
 grind [ofConst,zX]
theorem Mm {v:AV} {s:SV} (h:kQ v=some s):aJ C s v:=by
 unfold kQ at h;split at h<;>cases h<;>exact .pure (by constructor)
theorem mf {ts:Fr} {ta:T AV} (hF:FS C ts ta) {x:Operand} {s:SV} (h:fy ts x=some s):∃v,ev ta x= .ok v/\aJ C s v:=by
 cases x with
 |tmp t=>exact⟨_,rfl,hF t s h⟩
 |const v=>exact⟨_,rfl,SS h⟩
 |func f=>
  simp only[fy,Bo]at h;subst h;exact⟨_,rfl, .fn rfl rfl (fun i x u hx=>by grind) (fun i x u hx=>by grind)⟩
 |global g=>cases h
theorem qP {ts:Fr} {ta:T AV} (hF:FS C ts ta):∀{l:List Operand} {m:List SV},kZ ts l=some m->∃vs,kt ta l= .ok vs/\aV C m vs:=by
 intro l;induction l with
 |nil=>intro m h;simp only[kZ,jh,Bo]at h;subst h;exact⟨[],rfl,aV.nil⟩
 |cons x l ih=>
  intro m h;simp only[kZ,jh]at h;split at h
  . rename_i y m' hy hm
    cases h;obtain⟨v,hv,h1⟩:=mf hF hy;obtain⟨vs,hvs,h2⟩:=ih hm;simp_all[aV.cons,kt,rb]
  grind
theorem aV.get {cs:List SV} {ca:List AV} (h:aV C cs ca) {i:Nat} {s:SV} (hs:cs[i]? =some s):∃v,ca[i]? =some v/\aJ C s v:=by
 have hlt:i<ca.length:=by rw[<-h.1];grind
 exact⟨ca[i],Ag hlt,h.2 i s _ hs (Ag hlt)⟩
theorem uI {cs:List SV} {ca:List AV} (hc:aV C cs ca) {t off:Nat} {s:SV} (h:mQ tab t cs off=some s):∃v,Am.part tab t ca off= .ok v/\aJ C s v:=by
 unfold mQ at h;unfold Am.part;split at h
 . rename_i hg;split at h
   . rename_i n hn
     cases hb:Nat.ble (off+n) cs.length
     . rw[hb]at h;cases h
     . rw[hb]at h;cases h;refine⟨.agg ((ca.drop off).take n),?_, .agg ((hc.drop off).take n).1 ((hc.drop off).take n).2⟩;rw[rb (show Am.isAgg tab t= .ok true from ro hg)];simp_all[rb,siz,ro]
   grind
 . obtain⟨v,h1,h2⟩:=hc.get h;simp_all[rb,Am.isAgg,ro]
 grind
theorem IQ {cs vs:List SV} {ca va:List AV} (hc:aV C cs ca) (hv:aV C vs va) (off:Nat):aV C (uG cs off vs) (nN ca off va):=by
 unfold uG nN;rw[hv.1];exact(hc.take off).append (hv.append (hc.drop _))
theorem xf {s:SV} {v:AV} (h:aJ C s v) (hk:s.known=true):∃l,v.cells= .ok l/\aV C s.cells l:=by
 have one:∀{s:SV} {v:AV},aJ C s v->aV C [s] [v]:=fun h=>aV.cons h aV.nil
 cases h with
 | pure h=>
  cases h with
  |any v=>cases hk
  |agg h1 h2=>exact⟨_,rfl,h1,fun i s v hs hv=> .pure (h2 i s v hs hv)⟩
  |bool b=>exact⟨_,rfl,one (.pure (.bool b))⟩
  |int k n=>exact⟨_,rfl,one (.pure (.int k n))⟩
  |str s=>exact⟨_,rfl,one (.pure (.str s))⟩
  |bj=>exact⟨_,rfl,one (.pure .bj)⟩
  |wp a=>exact⟨_,rfl,one (.pure (.wp a))⟩
  |nils=>exact⟨_,rfl,one (.pure .nils)⟩
  |bw=>exact⟨_,rfl,one (.pure .bw)⟩
  |bB=>exact⟨_,rfl,one (.pure .bB)⟩
  |bP h0 hv=>
   rcases hv with rfl|⟨b,off,l,n,k,rfl⟩|⟨a,c,rfl⟩
   . exact⟨_,rfl,one (.pure (.bP h0 (.inl rfl)))⟩
   . exact⟨_,rfl,one (.pure (.bP h0 (.inr (.inl ⟨_,_,_,_,_,rfl⟩))))⟩
   . exact⟨_,rfl,one (.pure (.bP h0 (.inr (.inr ⟨_,_,rfl⟩))))⟩
  |bh b off cap cs e sz ext bk u hb hs hl hn hc h1 h2=>exact⟨_,rfl,one (.pure (.bh b off cap cs e sz ext bk u hb hs hl hn hc h1 h2))⟩
  |cU b base ca e sz ext bk u hb hl h1 h2=>exact⟨_,rfl,one (.pure (.cU b base ca e sz ext bk u hb hl h1 h2))⟩
  |fn h1 h2 h3 h4=>exact⟨_,rfl,one (.pure (.fn h1 h2 h3 h4))⟩
  |bA h1 h2=>exact⟨_,rfl,one (.pure (.bA h1 h2))⟩
 |ptr h=>exact⟨_,rfl,one (.ptr h)⟩
 |cu h hc=>exact⟨_,rfl,one (.cu h hc)⟩
 |eo h hc=>exact⟨_,rfl,one (.eo h hc)⟩
 |own h hc=>exact⟨_,rfl,one (.own h hc)⟩
 |sl h=>exact⟨_,rfl,one (.sl h)⟩
 |fn h1 h2 h3 h4=>exact⟨_,rfl,one (.fn h1 h2 h3 h4)⟩
 |agg h1 h2=>exact⟨_,rfl,h1,h2⟩
 |bA h1 h2=>exact⟨_,rfl,one (.bA h1 h2)⟩
theorem Kn {s:SV} {v:AV} (h:aJ C s v) (hk:isScalar s=true):mc v=true:=by
 cases h with
 |pure h=>
  cases h with
  |any v=>cases hk
  |agg h1 h2=>cases hk
  |bA h1 h2=>cases hk
  |bP h0 hv=>rcases hv with rfl|⟨b,off,l,n,k,rfl⟩|⟨a,c,rfl⟩<;>rfl
  |_=>rfl
 |agg h1 h2=>cases hk
 |bA h1 h2=>cases hk
 |_=>rfl
theorem I7 {cs:List SV} {ca:List AV} (hc:aV C cs ca) (h:cs.all isScalar=true):ca.all mc=true:=by
 rw[AB]at h⊢;intro v hv;obtain⟨i,hi⟩:=Ba.1 hv;have hlt:i<cs.length:=by rw[hc.1];grind
 exact Kn (hc.2 i _ v (Ag hlt) hi) (h _ (AN hlt))
theorem qM {t:TypeId} {z:List SV} (h:vH tab t=some z):∃zv zc,zero tab t= .ok zv/\zv.cells= .ok zc/\aV C z zc:=by
 obtain⟨zv,h1,h2⟩:=DE.1 h;refine⟨zv,?_⟩
 cases zv with
 |agg cs=>
  obtain⟨g1,g2⟩:=Fh h2;exact⟨cs,ro h1,rfl,g1.symm,fun i s v hs hv=>Mm (g2 i v s hv hs)⟩
 |raw v=>grind [FX,kQ]
 | _=>
  simp only[FX,kQ,Bz,BP,Bo]at h2
  first
   |(cases h2;done)
   |(subst h2;exact⟨_,ro h1,rfl,aV.cons (.pure (by constructor)) aV.nil⟩)
end
end
section
universe u v
variable [Inhabited aF]
section
variable {tab:bm} {C:Cx} {h:SH} {a:AH}
theorem iT {b:Nat} {ca:List AV} {e:TypeId} {sz:Nat} {ext:Bool} {bk:BK} (hb:a.get b=some (.cells ca e sz ext bk)):lr a b= .ok (ca,e,sz,ext,bk):=by
 grind [lr]
theorem Fb {b base:Nat} {ca:List AV} {e:TypeId} {sz:Nat} {ext:Bool} {bk:BK} (hb:a.get b=some (.cells ca e sz ext bk)) {cs:List SV} (hl:base+cs.length<=ca.length)
   (hc:∀(j:Nat) s,cs[j]? =some s->∃u,ca[base+j]? =some u/\aJ C s u) {t off:Nat} {sv:SV} (hp:mQ tab t cs off=some sv):∃u,Am.loadVar tab a t b (base+off)= .ok u/\aJ C sv u:=by
 unfold mQ at hp;unfold Am.loadVar;split at hp
 . rename_i hg;split at hp
   . rename_i n hn
     cases hle:Nat.ble (off+n) cs.length
     . rw[hle]at hp;cases hp
     . rw[hle]at hp;cases hp;have hle:=Ak hle;rw[rb (show Am.isAgg tab t= .ok true from ro hg)];rw[rb (show siz tab t= .ok n from ro hn)];have hr:readN a b (base+off) n= .ok ((ca.drop (base+off)).take n):=by
        unfold readN;rw[rb (iT hb)];simp only;rw[rb (rc (by simp only[AF];omega))]
       rw[rb hr];refine⟨_,rfl, .agg (by simp;omega) (fun i s u hs hu=>?_)⟩;rw[A4]at hs hu;grind
   grind
 . rename_i hg;obtain⟨u,hu,hsim⟩:=hc off sv hp;rw[rb (show Am.isAgg tab t= .ok false from ro hg)];rw[rb (iT hb)];exact⟨u,ro hu,hsim⟩
 grind
theorem CU (H:HS tab C h a) {p:SV} {v:AV} (hv:aJ C p v) {t:TypeId} {K:SV->Prop} (hl:yQ tab h t p K):∃b off u sv,v= .ptr b off/\Am.loadVar tab a t b off= .ok u/\aJ C sv u/\K sv:=by
 unfold yQ at hl;split at hl
 . split at hl
   . rename_i cs e hb;obtain⟨sv,hp,hk⟩:=dx hl
     cases hv with
     |pure h=>cases h
     |ptr hI=>
      obtain⟨_,ca,sz,h2,h3,_⟩:=H.at_ hb hI;obtain⟨u,h4,h5⟩:=Fb h2 (base:=0) (cs:=cs) (by rw[h3.1];omega) (fun j s hs=>by rw[Ax];exact h3.get hs) hp;rw[Ax]at h4;grind
   grind
 . rename_i b i off;split at hl
   . rename_i X L enc e hb;obtain⟨x,hx,hl⟩:=dx hl;obtain⟨sv,hp,hk⟩:=dx hl
     cases hv with
     |pure h=>cases h
     | cu hI hc=>
      rename_i I;obtain⟨g1,g2,g3,g4,g5⟩:=H.at_ hb hI;obtain⟨c,hc'⟩:=Bp.1 hc;rw[hc']at g5;obtain⟨ca,ext,bk,k1,k2,k3,k4,k5⟩:=g5;have hlt:=(Ae.1 hx).1;obtain⟨u,h4,h5⟩:=Fb k1 (base:=i*I.sz) (cs:=enc x) (by
       rw[k3,g4 i x hx,<-Nat.succ_mul];exact A9 _ hlt) (fun j s hs=>by
       obtain⟨u,q1,q2⟩:=k5 i x j s hx hs;exact⟨u,q1, .pure q2⟩) hp
      grind
   grind
 . rename_i cs off;obtain⟨sv,hp,hk⟩:=dx hl
   cases hv with
   | pure h=>
     cases h with
     |cU b base ca e sz ext bk u hb hl h1 h2=>
      obtain⟨w,h4,h5⟩:=Fb (H.fz _ _ hb) (base:=base) (cs:=cs) hl (fun j s hs=>⟨_,h1 j s hs, .pure (h2 j s hs)⟩) hp;grind
 grind
theorem lN {s:SV} {v:AV} (h:aJ C s v) (hp:nS s=true):aO C.Fz s v:=by
 cases h with
 |pure h=>exact h
 |_=>cases hp
theorem Ss {t:TypeId} {b off n:Nat} {v:AV} {l ca:List AV} {e:TypeId} {sz:Nat} {ext:Bool} {bk:BK} (hn:tab.siz.get t=some n) (hv:v.cells= .ok l) (hl:l.length=n) (hn0:n≠0)
  (hb:a.get b=some (.cells ca e sz ext bk)) (hbk:(bk≠ .ro/\bk≠ .cold)) (hr:off+n<=ca.length) (h1:l.all mc=true):Am.storeVar tab a t b off v= .ok (a.set b (.cells (nN ca off l) e sz ext bk)):=by
 unfold Am.storeVar;rw[rb (show siz tab t= .ok n from ro hn),rb hv,rb (rc (by simp_all))];unfold writeN
 cases l with
 |nil=>grind
 |cons x l=>
  simp only;rw[rb (iT hb)];rw[rb (rc (by simpa using hbk)),rb (rc (by rw[hl];simp only[AF];exact hr)),rb (rc h1)]
theorem UU (H:HS tab C h a) {p s:SV} {v w:AV} (hv:aJ C p v) (hw:aJ C s w) {t:TypeId} {K:SH->Prop} (hl:FB tab h t p s K):
   ∃b off a' h',v= .ptr b off/\Am.storeVar tab a t b off w= .ok a'/\HS tab C h' a'/\K h'/\Grow a a'/\cY C h a (yP p) C h' a':=by
 unfold FB at hl;split at hl
 . rename_i n hn;obtain⟨hck,hl⟩:=cO hl;simp only[Ac,A0]at hck;obtain⟨⟨⟨hn0,hkn⟩,hlen⟩,hsc⟩:=hck;have hn0:n≠0:=fun e=>by simp_all
   have hlen:=Af hlen;obtain⟨l,hl1,hl2⟩:=xf hw hkn;have hone:=I7 hl2 hsc;have hll:l.length=n:=by rw[<-hl2.1,hlen]
   split at hl
   . rename_i b off _;split at hl
     . rename_i cs e hb;obtain⟨hr,hk⟩:=cO hl;have hr:=Ak hr
       cases hv with
       |pure h=>cases h
       |ptr hI=>
        rename_i I;obtain⟨hc,ca,sz,h2,h3,h3s⟩:=H.at_ hb hI;refine⟨_,_,_,_,rfl,Ss hn hl1 hll hn0 h2 (by simp) (by rw[<-h3.1];exact hr) hone,H.mod hb hI hc (o:= .cells (uG cs off s.cells) e) ⟨hc,_,sz,by rw[AH.aZ,Al rfl],IQ h3 hl2 off,h3s⟩,hk,⟨by simp,fun i o hi=>?_⟩,?_⟩
        . rw[AH.aZ]at hi;split at hi
          . rename_i e';exact .inl ⟨_,e'▸h2⟩
          . exact .inl ⟨_,hi⟩
        . intro q o J hq hJ hcJ hn;have hqb:q≠b:=fun e'=>hn (by grind [yP,kT])
          refine⟨?_, .inl ⟨o,by rw[SH.aZ,An hqb];exact hq,hJ⟩⟩;rw[AH.aZ,An];intro e';exact hqb (H.inj q _ o _ J I hq hb hJ hI hcJ hc e')
     grind
   grind
 grind
end
end
section
universe u v
variable [Inhabited aF]
section
variable {tab:bm} {C:Cx} {h:SH} {a:AH}
theorem YC:∀(d:Nat) (t:TypeId) (x y:SV) (u w:AV) (p:Bool),gr tab d t x y=some p->aJ C x u->aJ C y w->eqT tab d t u w= .ok p:=by
 intro d;induction d with
 |zero=>simp_all[gr]
 | succ d ih=>
  have hgo:∀(fs:List Field) (xs ys:List SV) (us ws:List AV) (p:Bool),lI tab (gr tab d) fs xs ys=some p->aV C xs us->aV C ys ws->eqFields tab (eqT tab d) us ws fs= .ok p:=by
   intro fs;induction fs with
   |nil=>intro xs ys us ws p h _ _;simp only[lI,Bo]at h;subst h;rfl
   | cons f fs ihf=>
     grind [lI,eqFields,uI,rb]
  intro t x y u w p h hx hy;unfold gr at h;split at h
  all_goals first
   |(cases h;done)
   |skip
  all_goals (rename_i hg)
  case h_1=> 
   cases h;cases hx with
   | pure hx=>cases hx with
     | bool=>cases hy with
      |pure hy=>cases hy with
       |bool=>simp_all[eqT,rb,und,ro]
  case h_2=>
   rename_i k1 a1 k2 a2
   cases hk:decide (k1=k2)
   . rw[hk]at h;cases h
   . rw [hk]at h;cases h;have hk:=Bw hk
     cases hx with
     | pure hx=>cases hx with
      | int=>cases hy with
       |pure hy=>cases hy with
        |int=>simp_all[eqT,rb,und,ro]
  case h_3=>
   cases h;cases hx with
   | pure hx=>cases hx with
     | str=>cases hy with
      |pure hy=>cases hy with
       |str=>simp_all[eqT,rb,und,ro]
  case h_4=>
   cases h;cases hx with
   | pure hx=>cases hx with
     | bj=>cases hy with
      |pure hy=>cases hy with
       |bj=>simp_all[eqT,rb,und,ro]
  case h_5=>
   cases h;cases hx with
   | pure hx=>cases hx with
     |bj=>cases hy with
      |pure hy=>cases hy
      |ptr hI=>simp_all[eqT,rb,und,ro]
  case h_6=>
   cases h;cases hx with
   |pure hx=>cases hx
   | ptr hI=>cases hy with
     |pure hy=>cases hy with
      |bj=>simp_all[eqT,rb,und,ro]
  case h_7=>
   cases h;cases hx with
   | pure hx=>cases hx with
     | wp=>cases hy with
      |pure hy=>cases hy with
       |bj=>simp_all[eqT,rb,und,ro]
  case h_8=>
   cases h;cases hx with
   | pure hx=>cases hx with
     | bj=>cases hy with
      |pure hy=>cases hy with
       |wp=>simp_all[eqT,rb,und,ro]
  case h_9=>
   cases h;cases hx with
   | pure hx=>cases hx with
     | nils=>cases hy with
      |pure hy=>cases hy with
       |nils=>simp_all[eqT,rb,und,ro]
  case h_10=>
   cases h;cases hx with
   | pure hx=>cases hx with
     | bw=>cases hy with
      |pure hy=>cases hy with
       |bw=>simp_all[eqT,rb,und,ro]
  case h_11=>cases hy with
   |pure hy=>cases hy
  case h_12=>cases hx with
   |pure hx=>cases hx
  case h_13=>
   cases h;cases hx with
   | pure hx=>cases hx with
     | bB=>cases hy with
      |pure hy=>cases hy with
       |bB=>simp_all[eqT,rb,und,ro]
  case h_14=>
   cases h;cases hx with
   | pure hx=>cases hx with
     | bB=>cases hy with
      |pure hy=>cases hy with
       |fn=>simp_all[eqT,rb,und,ro]
      |fn=>simp_all[eqT,rb,und,ro]
  case h_15=>
   cases h;cases hy with
   | pure hy=>cases hy with
     | bB=>cases hx with
      |pure hx=>cases hx with
       |fn=>simp_all[eqT,rb,und,ro]
      |fn=>simp_all[eqT,rb,und,ro]
  case h_16=>
   split at h
   . rename_i hh;have hA:∀{cs:List SV} {v:AV},aJ C (.agg cs) v->∃us,v= .agg us/\aV C cs us:=by
      intro cs v hv
      cases hv with
      |pure hv=>cases hv with
       |agg h1 h2=>exact⟨_,rfl,h1,fun i s v hs hv=> .pure (h2 i s v hs hv)⟩
      |agg h1 h2=>exact⟨_,rfl,h1,h2⟩
     obtain⟨us,e1,h1⟩:=hA hx;obtain⟨ws,e2,h2⟩:=hA hy;subst e1;subst e2;simp only[eqT];rw[rb (show und tab t=_ from ro hg)];grind
   grind
theorem nP {cs:List SV} {v:AV} (hv:aJ C (.agg cs) v):∃us,v= .agg us/\aV C cs us:=by
 cases hv with
 |pure hv=>cases hv with
  |agg h1 h2=>exact⟨_,rfl,h1,fun i s v hs hv=> .pure (h2 i s v hs hv)⟩
 |agg h1 h2=>exact⟨_,rfl,h1,h2⟩
theorem yo {cs:List SV} {v:AV} (hv:aJ C (.bA cs) v):∃us,v= .bA us/\aV C cs us:=by
 cases hv with
 |pure hv=>cases hv with
  |bA h1 h2=>exact⟨_,rfl,h1,fun i s v hs hv=> .pure (h2 i s v hs hv)⟩
 |bA h1 h2=>exact⟨_,rfl,h1,h2⟩
theorem jN {k:IntKind} {n:Int} {v:AV} (hv:aJ C (.int k n) v):v= .int k n:=by
 cases hv with
 |pure hv=>cases hv;rfl
theorem iH {s:List UInt8} {v:AV} (hv:aJ C (.str s) v):v= .str s:=by
 cases hv with
 |pure hv=>cases hv;rfl
theorem oR {b:Bool} {v:AV} (hv:aJ C (.bool b) v):v= .bool b:=by
 cases hv with
 |pure hv=>cases hv;rfl
theorem oT {v:AV} (hv:aJ C .nils v):v= .nils:=by
 cases hv with
 |pure hv=>cases hv;rfl
theorem ch (x y:Int):bK x y=decide (x<y):=by
 rw[AA,Aa];unfold bK
 cases x with
 |ofNat a=>cases y with
  |ofNat b=>simp
  |negSucc b=>grind
 |negSucc a=>cases y with
  |ofNat b=>grind
  |negSucc b=>simp;omega
theorem ed (x y:Int):bO x y=decide (x<=y):=by
 rw[AA,Aa];unfold bO
 cases x with
 |ofNat a=>cases y with
  |ofNat b=>simp
  |negSucc b=>grind
 |negSucc a=>cases y with
  |ofNat b=>grind
  |negSucc b=>simp;omega
theorem Mt {k:IntKind} {n:Int} (h:bD k n=true):k.wrap n=n:=by
 unfold bD at h;rw[ed,ed]at h;simp only[Ac,Aa]at h;obtain⟨h1,h2⟩:=h
 cases k<;>simp only[zo,zk,IntKind.wrap,IntKind.signed,IntKind.bits]at* <;>simp at* <;>omega
theorem yj {r:R AV} {s:SV} (h:vM r=some s):∃v,r= .ok v/\aJ C s v:=by
 cases r with
 |no w=>cases h
 |ok v=>exact⟨v,rfl,Mm h⟩
theorem YA {t:TypeId} {x y:SV} {u w:AV} {p:Bool} (h:gr tab 8 t x y=some p) (hx:aJ C x u) (hy:aJ C y w) (hg:∀a b,x= .agg a->y= .agg b->tab.lJ.get t=some false):eqOp tab a t u w= .ok p:=by
 have hh:=YC 8 t x y u w p h hx hy;have e:∀(u w:AV),(∀b i c j,u= .ptr b i->w= .ptr c j->False)->(∀a b,u= .agg a->w= .agg b->False)->(u= .gN->w= .gN->False)->eqOp tab a t u w=eqT tab 8 t u w:=by
  grind [eqOp]
 have h0:=h;unfold gr at h;split at h
 case h_17=>cases h
 case h_16=>
  grind [nP,eqOp]
 all_goals
  rw[e u w ?_ ?_ ?_]
  . exact hh
  all_goals (intros;subst_vars)
  all_goals first
    | (cases hx with
     |pure hx=>cases hx
     |_=>(cases hy with
      |pure hy=>cases hy))
    |(cases hx with
     |pure hx=>cases hx)
    |(cases hy with
     |pure hy=>cases hy)
    |skip
end
end
section
universe u v
variable [Inhabited aF]
section
variable {tab:bm} {C:Cx} {h:SH} {a:AH}
def fV (C:Cx) (K:SV->Prop) (r:R AV):Prop:=∃s v,r= .ok v/\aJ C s v/\K s
theorem fV.pure {K:SV->Prop} {s:SV} {v:AV} (h:aO C.Fz s v) (hk:K s):fV C K (.ok v):=⟨s,v,rfl, .pure h,hk⟩
theorem Va {op:BinOp} {k:IntKind} {x y:Int} {K:SV->Prop} (h:FE op k x y K):fV C K (intOp op k x y):=by
 have fit:∀n:Int,(bif k.signed then ck (bD k n) (K (.int k n))else K (.int k (k.wrap n)))->fV C K (.ok (.int k (k.wrap n))):=by
  intro n hn
  cases hs:k.signed
  . rw[hs]at hn;exact fV.pure (.int k _) hn
  . rw[hs]at hn;obtain⟨h1,h2⟩:=cO hn;rw[Mt h1];exact fV.pure (.int k _) h2
 unfold FE at h
 cases op
 case add=>exact fit _ h
 case sub=>exact fit _ h
 case mul=>exact fit _ h
 case quo=>
  grind [cO,intOp]
 case rem=>
  obtain⟨h1,h2⟩:=cO h;have hy:¬y=0:=by grind
  simp only[intOp,An hy];exact fV.pure (.int k _) h2
 case eql=>exact fV.pure (.bool _) h
 case neq=>exact fV.pure (.bool _) h
 case lss=>have h:K (.bool (bK x y)):=h;rw[ch]at h;exact fV.pure (.bool _) h
 case leq=>have h:K (.bool (bO x y)):=h;rw[ed]at h;exact fV.pure (.bool _) h
 case gtr=>have h:K (.bool (bK y x)):=h;rw[ch]at h;exact fV.pure (.bool _) h
 case geq=>have h:K (.bool (bO y x)):=h;rw[ed]at h;exact fV.pure (.bool _) h
 all_goals
  obtain⟨s,h1,h2⟩:=dx h;obtain⟨v,h3,h4⟩:=yj h1;exact⟨s,v,h3,h4,h2⟩
theorem KL {t:TypeId} {x y:SV} {p:Bool} {u w:AV} (h:gr tab 8 t x y=some p) (hx:aJ C x u) (hy:aJ C y w):
  (∃k m j n,x= .int k m/\y= .int j n)\/(∃s s',x= .str s/\y= .str s')\/
   (Am.binOp tab a .eql t u w=(do .ok (.bool (<-eqOp tab a t u w)):R AV)/\Am.binOp tab a .neq t u w=(do .ok (.bool (!(<-eqOp tab a t u w))):R AV)):=by
 have key:(∀k m j n,u= .int k m->w= .int j n->False)->(∀s s',u= .str s->w= .str s'->False)->
   (Am.binOp tab a .eql t u w=(do .ok (.bool (<-eqOp tab a t u w)):R AV)/\Am.binOp tab a .neq t u w=(do .ok (.bool (!(<-eqOp tab a t u w))):R AV)):=by
  grind [Am.binOp]
 unfold gr at h;split at h
 case h_2=>grind
 case h_3=>grind
 case h_17=>cases h
 all_goals
  refine .inr (.inr (key ?_ ?_))
  all_goals (intros;subst_vars)
  all_goals first
   |(cases hx with
    |pure hx=>cases hx)
   |(cases hy with
    |pure hy=>cases hy)
   |(cases hx)
   |skip
theorem Md {op:BinOp} {t:TypeId} {x y:SV} {K:SV->Prop} {u w:AV} (h:rl tab op t x y K) (hx:aJ C x u) (hy:aJ C y w):fV C K (Am.binOp tab a op t u w):=by
 have eqK:∀{p:Bool},gr tab 8 t x y=some p->(∀a b,x= .agg a->y= .agg b->tab.lJ.get t=some false)->eqOp tab a t u w= .ok p:=fun h1 h2=>YA h1 hx hy h2
 unfold rl at h;split at h
 ·
   rw[jN hx,jN hy];rename_i k a1 j b1;obtain⟨h1,h2⟩:=cO h;obtain⟨s,h3,h4⟩:=dx h2
   cases b1 with
   |negSucc m=>cases h1
   | ofNat m=>
     obtain⟨v,h5,h6⟩:=yj (C:=C) h3
     cases h5;refine⟨s,_,?_,h6,h4⟩;grind [Am.binOp,shiftOp]
 ·
   rw[jN hx,jN hy];rename_i k a1 j b1;obtain⟨h1,h2⟩:=cO h;obtain⟨s,h3,h4⟩:=dx h2
   cases b1 with
   |negSucc m=>cases h1
   | ofNat m=>
     obtain⟨v,h5,h6⟩:=yj (C:=C) h3
     cases h5;refine⟨s,_,?_,h6,h4⟩;grind [Am.binOp,shiftOp]
 ·
   rw[jN hx,jN hy];grind [cO,Va,Am.binOp]
 . obtain⟨h1,h2⟩:=cO h;rw[iH hx,iH hy];simp only[Am.binOp,strOp];rw[Al (Ak h1)];exact fV.pure (.str _) h2
 . rw[iH hx,iH hy];exact fV.pure (.bool _) h
 . rw[iH hx,iH hy];exact fV.pure (.bool _) h
 . rw[iH hx,iH hy];exact fV.pure (.bool _) h
 . rw[iH hx,iH hy];exact fV.pure (.bool _) h
 . rw[iH hx,iH hy];exact fV.pure (.bool _) h
 . rw[iH hx,iH hy];exact fV.pure (.bool _) h
 . split at h
   . rename_i hg;obtain⟨p,h1,h2⟩:=dx h;have he:=eqK h1 (fun _ _ _ _=>hg);obtain⟨us,rfl,_⟩:=nP hx;obtain⟨ws,rfl,_⟩:=nP hy;simp only[Am.binOp];rw[rb he];exact fV.pure (.bool _) h2
   grind
 . split at h
   . rename_i hg;obtain⟨p,h1,h2⟩:=dx h;have he:=eqK h1 (fun _ _ _ _=>hg);obtain⟨us,rfl,_⟩:=nP hx;obtain⟨ws,rfl,_⟩:=nP hy;simp only[Am.binOp];rw[rb he];exact fV.pure (.bool _) h2
   grind
 . rename_i n1 n2 n3;obtain⟨p,h1,h2⟩:=dx h;have he:=eqK h1 (fun a b e1 e2=>(n3 a b e1 e2).elim);have hb:Am.binOp tab a .eql t u w=(do .ok (.bool (<-eqOp tab a t u w)):R AV):=by
     grind [KL]
   rw[hb,rb he];exact fV.pure (.bool _) h2
 . rename_i n1 n2 n3;obtain⟨p,h1,h2⟩:=dx h;have he:=eqK h1 (fun a b e1 e2=>(n3 a b e1 e2).elim);have hb:Am.binOp tab a .neq t u w=(do .ok (.bool (!(<-eqOp tab a t u w))):R AV):=by
     rcases KL h1 hx hy with⟨k,m,j,n,rfl,rfl⟩|⟨s1,s2,rfl,rfl⟩|hne
     . grind
     . grind
     . exact hne.2
   rw[hb,rb he];exact fV.pure (.bool _) h2
 grind
end
end
section
universe u v
variable [Inhabited aF]
section
variable {tab:bm} {C:Cx} {h:SH} {a:AH}
theorem MJ {op:UnOp} {x:SV} {K:SV->Prop} {u:AV} (h:Gv op x K) (hx:aJ C x u):fV C K (Am.unOp op u):=by
 unfold Gv at h;split at h
 . rename_i k n;rw[jN hx];simp only[Am.unOp]
   cases hs:k.signed
   . rw[hs]at h;exact fV.pure (.int k _) h
   . rw[hs]at h;obtain⟨h1,h2⟩:=cO h;rw[Mt h1];exact fV.pure (.int k _) h2
 . rw[jN hx];obtain⟨s,h1,h2⟩:=dx h;obtain⟨v,h3,h4⟩:=yj h1;exact⟨s,v,h3,h4,h2⟩
 . rw[oR hx];exact fV.pure (.bool _) h
 grind
theorem uW {x:SV} {K:Nat->Prop} {u:AV} (h:mD x K) (hx:aJ C x u):∃n,asNat u= .ok n/\K n:=by
 unfold mD at h;split at h
 . rename_i k n;obtain⟨h1,h2⟩:=cO h;rw[jN hx]
   cases n with
   |negSucc m=>cases h1
   |ofNat m=>exact⟨m,rfl,h2⟩
 grind
theorem wZ {ts:Fr} {ta:T AV} (hF:FS C ts ta):∀{l:List (Nat×Operand)} {m:List (Nat×SV)},th ts l=some m->∃vs,l9 ta l= .ok vs/\vs.map (·.1)=m.map (·.1)/\aV C (m.map (·.2)) (vs.map (·.2)):=by
 intro l;induction l with
 |nil=>intro m h;simp only[th,Bo]at h;subst h;exact⟨[],rfl,rfl,aV.nil⟩
 |cons x l ih=>
  obtain⟨i,x⟩:=x;intro m h;simp only[th]at h;split at h
  . rename_i s r h1 h2
    cases h;obtain⟨v,hv,g1⟩:=mf hF h1;obtain⟨vs,hvs,g2,g3⟩:=ih h2;grind [aV.cons,l9,rb]
  grind
theorem xD:∀{ps:List (Nat×Nat×SV)} {qs:List (Nat×Nat×AV)} {cs:List SV} {ca:List AV} {r:List SV},aV C cs ca->qs.map (fun x=>(x.1,x.2.1))=ps.map (fun x=>(x.1,x.2.1))->aV C (ps.map (·.2.2)) (qs.map (·.2.2))->re cs ps=some r->
  ∃ra,fill ca qs= .ok ra/\aV C r ra:=by
 intro ps;induction ps with
 |nil=>
  intro qs cs ca r hc hq _ h;simp only[re,Bo]at h;subst h
  cases qs with
  |nil=>exact⟨ca,rfl,hc⟩
  |cons q qs=>grind
 | cons x ps ih=>
  intro qs cs ca r hc hq hs h
  cases qs with
  |nil=>grind
  |cons q qs=>
   obtain⟨off,n,s⟩:=x;obtain⟨off',n',v⟩:=q;simp only[AW,Dj,DV]at hq;obtain⟨⟨rfl,rfl⟩,hq⟩:=hq;obtain⟨hv,hs⟩:=hs.head;simp only[re]at h
   cases hb:(s.known&&Nat.beq s.cells.length n'&&Nat.ble (off'+n') cs.length)
   . rw[hb]at h;cases h
   . rw[hb]at h;simp only[Ac]at hb;obtain⟨⟨hk,hl⟩,hr⟩:=hb;obtain⟨l,h1,h2⟩:=xf hv hk;obtain⟨ra,h3,h4⟩:=ih (IQ hc h2 off') hq hs h;refine⟨ra,?_,h4⟩;simp only[fill];rw[rb h1,rb (rc (by rw[<-h2.1,hl,<-hc.1,hr];rfl))];exact h3
theorem Uf (fs:Array Field):∀{ps:List (Nat×SV)} {vs:List (Nat×AV)} {r:List (Nat×Nat×SV)},vs.map (·.1)=ps.map (·.1)->aV C (ps.map (·.2)) (vs.map (·.2))->uS tab fs ps=some r->
  ∃ra,sA tab fs vs= .ok ra/\ra.map (fun x=>(x.1,x.2.1))=r.map (fun x=>(x.1,x.2.1))/\aV C (r.map (·.2.2)) (ra.map (·.2.2)):=by
 intro ps;induction ps with
 |nil=>
  intro vs r hv _ h;simp only[uS,Bo]at h;subst h
  cases vs with
  |nil=>exact⟨[],rfl,rfl,aV.nil⟩
  |cons q qs=>grind
 | cons x ps ih=>
  intro vs r hv hs h
  cases vs with
  |nil=>grind
  |cons q vs=>
   obtain⟨i,s⟩:=x;obtain⟨i',v⟩:=q;simp only[AW,Dj]at hv;obtain⟨rfl,hv⟩:=hv;obtain⟨hsv,hs⟩:=hs.head;simp only[uS]at h;split at h
   . split at h
     . rename_i n r' hn hr
       cases h;obtain⟨ra,h1,h2,h3⟩:=ih hv hs hr;simp_all[aV.cons,sA,rb,ro,siz]
     grind
   grind
theorem J4 {t:TypeId} {ps:List (Nat×SV)} {vs:List (Nat×AV)} {s:SV} (hv:vs.map (·.1)=ps.map (·.1)) (hs:aV C (ps.map (·.2)) (vs.map (·.2))) (h:Fm tab t ps=some s):∃v,Am.build tab t vs= .ok v/\aJ C s v:=by
 unfold Fm at h;unfold Am.build;split at h
 . rename_i z fs hz hu;obtain⟨zv,zc,g1,g2,g3⟩:=qM (C:=C) hz;rw[rb g1,rb g2,rb (show und tab t=_ from ro hu)]
   cases hb:fs.toList.all (fun f=>(tab.siz.get f.type).isSome)
   . rw[hb]at h;cases h
   . rw[hb]at h;split at h
     . rename_i q hq;obtain⟨r,hr,rfl⟩:=AU.1 h;obtain⟨ra,h1,h2,h3⟩:=Uf fs hv hs hq;obtain⟨rb',h4,h5⟩:=xD g3 h2 h3 hr;simp only;rw[rb (rc hb),rb h1,rb h4];exact⟨_,rfl, .agg h5.1 h5.2⟩
     grind
 . rename_i z n e hz hu;split at h
   . rename_i m hm;obtain⟨r,hr,rfl⟩:=AU.1 h;obtain⟨zv,zc,g1,g2,g3⟩:=qM (C:=C) hz;rw[rb g1,rb g2,rb (show und tab t=_ from ro hu)];simp only;rw[rb (show siz tab e=_ from ro hm)];obtain⟨rb',h4,h5⟩:=xD (qs:=vs.map fun x=>(x.1*m,m,x.2)) g3 (by
       have:=Aj (List.map (fun i=>(i*m,m))) hv;grind [Function.comp_def]) (by grind [Function.comp_def]) hr
     rw[rb h4];exact⟨_,rfl, .agg h5.1 h5.2⟩
   grind
 grind
def kR (o:Option Nat) (d:R Nat):R Nat:=match o with|none=>d|some n=> .ok n
theorem xN {ts:Fr} {ta:T AV} (hF:FS C ts ta) {x:Option Operand} {K:Option Nat->Prop} (h:oG ts x K):∃o,K o/\ ∀d:R Nat,fH ta d x=kR o d/\(x=none↔o=none):=by
 unfold oG at h;split at h
 . exact⟨none,h,fun d=>⟨rfl,by simp⟩⟩
 . obtain⟨v,h1,h2⟩:=dx h;obtain⟨u,h3,h4⟩:=mf hF h1;obtain⟨n,h5,h6⟩:=uW h2 h4;refine⟨some n,h6,fun d=>⟨?_,by simp⟩⟩;simp only[fH];rw[rb h3];exact h5
end
end
end Go.Sy
namespace Go.Sy
open Go.Am Go.RowKit
universe u v
variable [Inhabited aF]
section
variable {tab:bm} {C:Cx} {h:SH} {a:AH}
theorem sT {α:Type u} {l:List α} {lo hi:Option Nat} {K:List α->Prop} (h:mw l lo hi K):lo.getD 0<=hi.getD l.length/\hi.getD l.length<=l.length/\K ((l.drop (lo.getD 0)).take (hi.getD l.length - lo.getD 0)):=by
 unfold mw at h;split at h
 . grind
 . obtain⟨h1,h2⟩:=cO h;have h1:=Ak h1;grind [List.take_of_length_le]
 . grind [cO,Nat.le_of_ble_eq_true]
 . obtain⟨h1,h2⟩:=cO h;simp_all
theorem yb {X:Type} {L:List X} {enc:X->List SV} {v:AV} {Fz:Nat->Option AO} (hv:aO Fz (.bh X L enc) v) (hL:L≠[]):∃b off cap cs e sz ext bk,v= .sl b off L.length cap/\eU Fz b cs e sz ext bk/\0<sz/\off+L.length*sz<=cs.length/\
  (∀(i:Nat) x,L[i]? =some x->(enc x).length=sz)/\tt cap off L.length sz ext/\ ∀(i:Nat) x (j:Nat) v,L[i]? =some x->(enc x)[j]? =some v->∃u,cs[off+i*sz+j]? =some u/\aO Fz v u:=by
 cases hv with
 |bP h0 _=>grind
 |bh b off cap cs e sz ext bk u hb hs hl hn hc h1 h2=>grind
theorem ya {X:Type} {L:List X} {enc:X->List SV} {Fz:Nat->Option AO} (b off:Nat) (cap:gB) (cs:List AV) (e:TypeId) (sz:Nat) (ext:Bool) (bk:BK) (n:Nat) (hn':n=L.length)
  (hb:eU Fz b cs e sz ext bk) (hs:0<sz) (hl:off+L.length*sz<=cs.length) (hn:∀(i:Nat) x,L[i]? =some x->(enc x).length=sz) (hc:tt cap off L.length sz ext)
  (h1:∀(i:Nat) x (j:Nat) v,L[i]? =some x->(enc x)[j]? =some v->∃u,cs[off+i*sz+j]? =some u/\aO Fz v u):aO Fz (.bh X L enc) (.sl b off n cap):=by
 subst hn';refine .bh b off cap cs e sz ext bk (fun i j=>(cs[off+i*sz+j]?).getD (.bA [])) hb hs hl hn hc ?_ ?_
 all_goals grind
theorem xd {ta:T AV} {t e n:Nat} (hu:tab.und.get t=some (.slice e)) (hn:tab.siz.get e=some n) {X:Type} {L:List X} {enc:X->List SV} {v:AV} {Fz:Nat->Option AO} (hfz:∀i o,Fz i=some o->a.get i=some o) (hv:aO Fz (.bh X L enc) v)
  (hlen:∀x:X,(enc x).length=n) {lo hi:Option Operand} {l u:Option Nat} (h1:∀d:R Nat,fH ta d lo=kR l d) (h2:∀d:R Nat,fH ta d hi=kR u d)
  (hle:l.getD 0<=u.getD L.length) (hle2:u.getD L.length<=L.length):∃w,jU tab ta a t v lo hi none= .ok (w,a)/\aO Fz (.bh X ((L.drop (l.getD 0)).take (u.getD L.length - l.getD 0)) enc) w:=by
 by_cases hL:0<L.length
 case neg=>
  have hL0:L.length=0:=by omega
  have o1:fH ta (.ok 0) lo= .ok (l.getD 0):=by rw[h1];cases l<;>rfl
  have o2:∀d,fH ta (.ok d) hi= .ok (u.getD d):=by intro d;rw[h2];cases u<;>rfl
  rw[hL0]at hle hle2;have hu0:u.getD 0=0:=by omega
  have hl0:l.getD 0=0:=by omega
  have hr:((L.drop (l.getD 0)).take (u.getD L.length - l.getD 0)).length=0:=by grind
  rw[hl0]at o1;unfold jU;rw[rb (show und tab t=_ from ro hu)]
  cases hv with
  |bP h0 hv=>
   rcases hv with rfl|⟨b,off,l1,n1,k,rfl⟩|⟨a',c,rfl⟩
   . refine⟨.nils,?_, .bP hr (.inl rfl)⟩;simp only;rw[rb (show siz tab e= .ok n from ro hn),rb o1,rb (o2 0),hu0];rfl
   . refine⟨.emp b off l1 n1 k,?_, .bP hr (.inr (.inl ⟨_,_,_,_,_,rfl⟩))⟩;simp only;rw[rb (show siz tab e= .ok n from ro hn),rb o1,rb (o2 0),hu0];rfl
   . refine⟨.raw (.slice a' 0 c),?_, .bP hr (.inr (.inr ⟨_,_,rfl⟩))⟩;simp only;rw[rb (show siz tab e= .ok n from ro hn),rb o1,rb (o2 0),hu0];rfl
  | bh b off cap cs e' sz ext bk w hb hs hl hn' hc h1' h2'=>
   obtain⟨sz0,ext0,hb0,hx0⟩:=id hb;have hcl:=iT (hfz _ _ hb0);rw[hL0]at hc⊢;simp only
   cases cap with
   | lit m=>
     rw[rb (show capLow a b (.lit m)= .ok m from rfl),rb (show siz tab e= .ok n from ro hn),rb o1,rb (o2 0),hu0];simp only;rw[rb (rc (by simp))];refine⟨_,rfl,?_⟩;have:(aO Fz (.bh X ((L.drop (l.getD 0)).take (0 - l.getD 0)) enc) (.sl b off ((L.drop (l.getD 0)).take (0 - l.getD 0)).length (.lit m))):=by
       refine .bh b off (.lit m) cs e' sz ext bk w hb hs (by grind) (fun i x hx=>?_) (by grind) (fun i x j v hx=>?_) (fun i x j v hx=>?_)
       all_goals grind
     grind
   | tail k=>
     obtain⟨hext,hoff⟩:=hc;subst hext;obtain⟨hz1,hz2⟩:=hx0 rfl;have hz1:=hz1.symm;subst hz1;have hcap:capLow a b (.tail k)= .ok (cs.length / sz - k):=by
       simp only[capLow];rw[rb hcl];rw[rb (rc (by grind [gp]))];rfl
     rw[rb hcap,rb (show siz tab e= .ok n from ro hn),rb o1,rb (o2 0),hu0];simp only;rw[rb (rc (by simp))];refine⟨_,rfl,?_⟩;have:(aO Fz (.bh X ((L.drop (l.getD 0)).take (0 - l.getD 0)) enc) (.sl b off ((L.drop (l.getD 0)).take (0 - l.getD 0)).length (.tail k))):=by
       refine .bh b off (.tail k) cs e' sz true bk w hb hs (by grind) (fun i x hx=>?_) ⟨rfl,hoff⟩ (fun i x j v hx=>?_) (fun i x j v hx=>?_)
       all_goals grind
     grind
 case pos=>
  obtain⟨b,off,cap,cs,e',sz,ext,bk,rfl,hb,hs,hl,hsz,hc,hcell⟩:=yb hv (by grind);have hszn:sz=n:=by
   rw[<-hsz 0 _ (Ag hL),hlen]
  subst hszn;have o1:fH ta (.ok 0) lo= .ok (l.getD 0):=by rw[h1];cases l<;>rfl
  have o2:∀d,fH ta (.ok d) hi= .ok (u.getD d):=by intro d;rw[h2];cases u<;>rfl
  obtain⟨sz0,ext0,hb0,hx0⟩:=id hb;have hcl:=iT (hfz _ _ hb0);generalize l.getD 0=i at*
  generalize hj:u.getD L.length=j at*
  have hLl:((L.drop i).take (j - i)).length=j - i:=by grind
  have hget:∀(q:Nat) x,((L.drop i).take (j - i))[q]? =some x->L[i+q]? =some x/\q<j - i:=by
   grind
  have hmul:∀q,off+i*sz+q*sz=off+(i+q)*sz:=by grind
  have hbound:off+i*sz+(j - i)*sz<=cs.length:=by
   rw[hmul];have:(i+(j - i))*sz<=L.length*sz:=A9 _ (by omega);omega
  have mk:∀cap',tt cap' (off+i*sz) (j - i) sz ext->aO Fz (.bh X ((L.drop i).take (j - i)) enc) (.sl b (off+i*sz) (j - i) cap'):=by
   grind [ya]
  have empty:j - i=0->∀w,(w= .nils\/(∃b off l n k,w= .emp b off l n k)\/ ∃a c,w= .raw (.slice a 0 c))->aO Fz (.bh X ((L.drop i).take (j - i)) enc) w:=fun h0 w hw=> .bP (by rw[hLl,h0]) hw
  unfold jU;rw[rb (show und tab t=_ from ro hu)];simp only
  cases cap with
  |lit m=>
   have hcm:L.length<=m:=hc;rw[rb (show capLow a b (.lit m)= .ok m from rfl),rb (show siz tab e= .ok sz from ro hn),rb o1,rb (o2 _),hj];simp only;rw[rb (rc (by grind [Nat.ble_eq]))];grind [ya,tt,gp]
  |tail k=>
   obtain⟨hext,hoff⟩:=hc;subst hext;obtain⟨hz1,hz2⟩:=hx0 rfl;have hz1:=hz1.symm;subst hz1;subst hz2;have hcap:capLow a b (.tail k)= .ok (cs.length / sz - k):=by
     simp only[capLow];rw[rb hcl];rw[rb (rc (by simp only[Bq,A0];exact gp (by omega)))];rfl
   have hge:L.length<=cs.length / sz - k:=by
     have:(k+L.length)*sz<=cs.length:=by rw[Be,<-hoff];exact hl
     have:=(Nat.le_div_iff_mul_le hs).2 this;omega
   rw[rb hcap,rb (show siz tab e= .ok sz from ro hn),rb o1,rb (o2 _),hj];simp only;rw[rb (rc (by simp only[Ac,AF];omega))];by_cases hi0:i=0
   . subst hi0;have:=mk (.tail k) ⟨rfl,by omega⟩;exact⟨_,rfl,by simpa using this⟩
   . rw[gp hi0];by_cases hlt:i<cs.length / sz - k
     . rw[show Nat.blt i (cs.length / sz - k)=true from by simpa using hlt];exact⟨_,rfl,mk _ ⟨rfl,by rw[Be,hoff]⟩⟩
     . rw[show Nat.blt i (cs.length / sz - k)=false from Ao.2 fun e=>hlt (by simpa using e)];exact⟨_,rfl,empty (by omega) _ (.inr (.inl ⟨_,_,_,_,_,rfl⟩))⟩
 end
 end Go.Sy
namespace Go.Sy
open Go.Am Go.RowKit
section
universe u v
variable [Inhabited aF]
section
variable {tab:bm} {view:TypeId->Option View} {C:Cx} {s:St} {ta:T AV} {a:AH}
def aP (tab:bm) (C:Cx) (s:St) (ta:T AV) (a:AH) (K:SV->St->Prop) (r:R (AV×AH)):Prop:=∃sv s' v a',K sv s'/\r= .ok (v,a')/\pH tab C s ta a sv s' v a'
theorem aP.same {K:SV->St->Prop} (hF:FS C s.ts ta) (H:HS tab C s.h a) {sv:SV} {v:AV} (hv:aJ C sv v) (hk:K sv s):aP tab C s ta a K (.ok (v,a)):=⟨sv,s,v,a,hk,rfl,pH.same hF H hv⟩
theorem aP.val {K:SV->St->Prop} (hF:FS C s.ts ta) (H:HS tab C s.h a) {r:R AV} (h:fV C (fun v=>K v s) r):aP tab C s ta a K (do .ok (<-r,a)):=by
 obtain⟨sv,v,h1,h2,h3⟩:=h;rw[rb h1];grind [aP.same]
theorem UQ (hF:FS C s.ts ta) (H:HS tab C s.h a) {t:TypeId} {x:SV} {v:AV} (hv:aJ C x v) {lo hi:Option Operand} {K:SV->St->Prop} (h:FA tab s t x lo hi K):aP tab C s ta a K (jU tab ta a t v lo hi none):=by
 obtain⟨l,h1,hl⟩:=xN hF h;obtain⟨u,h2,hu⟩:=xN hF h1;clear h h1;have h:=h2;have o1:∀d:R Nat,fH ta d lo=kR l d:=fun d=>(hl d).1
 have o2:∀d:R Nat,fH ta d hi=kR u d:=fun d=>(hu d).1
 split at h
 . rename_i c hg;rw[iH hv];obtain⟨h1,h2,h3⟩:=sT h;unfold jU;rw[rb (show und tab t=_ from ro hg)];simp only;rw[rb (show R.check "slice: max" (none:Option Operand).isNone= .ok ()from rfl),rb (show fH ta (.ok 0) lo= .ok (l.getD 0)from by rw[o1];cases l<;>rfl),rb (show fH ta (.ok c.length) hi= .ok (u.getD c.length)from by rw[o2];cases u<;>rfl),
     rb (rc (by simp_all))]
   exact aP.same hF H (.pure (.str _)) h3
 . rename_i e X L enc hg;split at h
   . rename_i n hn;obtain⟨hlen,h⟩:=h;obtain⟨h1,h2,h3⟩:=sT h;obtain⟨w,h4,h5⟩:=xd hg hn H.fz (lN hv rfl) hlen o1 o2 h1 h2;rw[h4];exact aP.same hF H (.pure h5) h3
   grind
 . rename_i e b hg;split at h
   . rename_i X L enc t' n hb hn;obtain⟨hlen,h⟩:=h;obtain⟨h1,h2,h3⟩:=sT h;obtain⟨C',e1,e2,e3,e4,e5,e6⟩:=l3 hF H hb;obtain⟨w,h4,h5⟩:=xd hg hn e3.fz (e5 v hv) hlen o1 o2 h1 h2;exact⟨_,_,w,a,h3,h4,⟨C',_,e1,e2, .pure h5,e3,e4,e6.bn _⟩,Grow.refl a⟩
   grind
 . rename_i e b off len cap hg;split at h
   . rename_i n hn;obtain⟨h1,h2⟩:=cO h
     cases hv with
     |pure hv=>cases hv
     | sl hI=>
      unfold jU;rw[rb (show und tab t=_ from ro hg)];simp only;rw[rb (show capLow a _ (.lit cap)= .ok cap from rfl),rb (show siz tab e= .ok n from ro hn),rb (show fH ta (.ok 0) lo= .ok (l.getD 0)from by rw[o1];cases l<;>rfl),
       rb (show fH ta (.ok len) hi= .ok (u.getD len)from by rw[o2];cases u<;>rfl),
       rb (rc (by grind))]
      exact aP.same hF H (.sl hI) h2
   grind
 grind
theorem HS.fresh (H:HS tab C s.h a) (ca:List AV) (e:TypeId) (sz:Nat) (ext:Bool) (bk:BK):∃C':Cx,C.le C'/\C'.Fz a.next=some (.cells ca e sz ext bk)/\HS tab C' s.h (a.new (.cells ca e sz ext bk)):=by
 classical
 let C':Cx:={C with Fz:=fun i=>if i=a.next then some (.cells ca e sz ext bk)else C.Fz i}
 have hfz:∀i o,C.Fz i=some o->C'.Fz i=some o:=by
   intro i o hi;have:=H.wf _ _ (H.fz i o hi);grind
 have hle:C.le C':=⟨fun _ _ h=>h,hfz⟩;have hblk:∀p o I,s.h.get p=some o->C.ρ p=some I->I.cap.isSome->I.β≠a.next:=by
   intro p o I hp hI hc;obtain⟨b,hb⟩:=(H.at_ hp hI).live hc;have:=H.wf _ _ hb;omega
 refine⟨C',hle,by grind,⟨?_,H.inj,?_,?_,H.lt,?_⟩⟩
 . intro p o hp;obtain⟨I,hI,ho⟩:=H.obj p o hp;refine⟨I,hI,?_⟩;have ho':=ho.le hle;by_cases hc:I.cap.isSome
   . exact ho'.congr (by rw[AH.aT,An (hblk p o I hp hI hc)])
   . cases o with
     |cells cs t=>exact absurd ho.1 hc
     |arr X L enc t=>
      obtain⟨g1,g2,g3,g4,g5⟩:=ho';refine⟨g1,g2,g3,g4,?_⟩;grind
 . intro i o hi;simp only[C']at hi;rw[AH.aT];split at hi
   . grind
   . rename_i e;rw[An e];exact H.fz i o hi
 . intro p o I hp hI hc;simp only[C'];rw[An (hblk p o I hp hI hc)];exact H.dj p o I hp hI hc
 . intro i o hi;rw[AH.aT]at hi;simp only[AH.cE];split at hi
   . omega
   . have:=H.wf i o hi;omega
theorem jm {e n:Nat} (hn:tab.siz.get e=some n) (cs:List AV) (ext:Bool) (bk:BK):Am.newRow tab a e cs ext bk= .ok (a.new (.cells cs e n ext bk),a.next):=by
 simp_all[Am.newRow,rb,siz,ro]
theorem WE {c:List UInt8} {i:Nat} {x:UInt8} (hx:c[i]? =some x) {j:Nat} {v:SV} (hv:(cQ x)[j]? =some v):j=0/\v= .int .u8 (.ofNat x.toNat):=by
 grind [cQ]
theorem uw:∀{c:List UInt8},bytesOf (c.map fun b=>AV.int .u8 (.ofNat b.toNat))= .ok c:=by
 intro c;induction c with
 |nil=>rfl
 |cons x c ih=>
  simp_all[bytesOf,rb]
theorem JC {Fz:Nat->Option AO} (hfz:∀i o,Fz i=some o->a.get i=some o) {c:List UInt8} {v:AV} (hv:aO Fz (.bh UInt8 c cQ) v):
  v= .nils/\c=[]\/((∃b off l n k,v= .emp b off l n k)\/ ∃a c,v= .raw (.slice a 0 c))/\c=[]\/ ∃b off cap,v= .sl b off c.length cap/\readN a b off c.length= .ok (c.map fun b=>AV.int .u8 (.ofNat b.toNat)):=by
 cases hv with
 |bP h0 hv=>
  have:=AL h0;grind
 |bh b off cap cs e sz ext bk u hb hs hl hn hc h1 h2=>
  refine .inr (.inr ⟨b,off,cap,rfl,?_⟩);obtain⟨sz0,ext0,hb,hx0⟩:=hb;have hsz:c≠[]->sz=1:=by
    intro hc0
    cases c with
    |nil=>grind
    |cons x c=>rw[<-hn 0 x rfl];rfl
  unfold readN;rw[rb (iT (hfz _ _ hb))];simp only;have hle:off+c.length<=cs.length:=by
    by_cases h0:c=[]
    all_goals grind
  rw[rb (rc (by simp_all))];congr 1
  apply BG
  intro i;rw[A4,AE];by_cases hi:i<c.length
  . rw[Al hi,Dk];have hx:=Ag hi;have h0:c≠[]:=by grind
    have g1:=h1 i _ 0 _ hx rfl;have g2:=h2 i _ 0 _ hx rfl;rw[hsz h0]at g1;simp only[Nat.mul_one,Bx]at g1;rw[g1,hx]
    cases g2h:u i 0 with
    |int k n=>
     rw[g2h]at g2
     cases g2;rfl
    |_=>rw[g2h]at g2;cases g2
  grind
theorem Wy (hF:FS C s.ts ta) (H:HS tab C s.h a) {src dst:TypeId} {x:SV} {v:AV} (hv:aJ C x v) {K:SV->St->Prop} (h:yT tab s src dst x K):aP tab C s ta a K (oK tab a src dst v):=by
 have hnu:∀{d:TypeDesc},tab.und.get dst=some d->(d≠ .unsafePointer)->(∀u,d≠ .pointer u)->oK tab a src dst v=Am.convert tab a src dst v:=by
   intro d hd h1 h2;unfold oK;rw[rb (show und tab dst=_ from ro hd)]
   cases d<;>first|rfl|exact absurd rfl h1|grind
 unfold yT at h;split at h
 . rename_i d k j n hs hd;rw[hnu hd (by simp) (by simp),jN hv];unfold Am.convert;rw[rb (show und tab src=_ from ro hs),rb (show und tab dst=_ from ro hd)];exact aP.same hF H (.pure (.int _ _)) h
 . rename_i d c hs hd;rw[hnu hd (by simp) (by simp),iH hv];unfold Am.convert;rw[rb (show und tab src=_ from ro hs),rb (show und tab dst=_ from ro hd)];exact aP.same hF H (.pure (.str _)) h
 . rename_i d e c hs hd;split at h
   . rename_i he hz;rw[hnu hd (by simp) (by simp),iH hv];unfold Am.convert;rw[rb (show und tab src=_ from ro hs),rb (show und tab dst=_ from ro hd)];obtain⟨C',g1,g2,g3⟩:=H.fresh (ofBytes c) e 1 true .mark;have hsim:aO C'.Fz (.bh UInt8 c cQ) (.sl a.next 0 c.length (.tail 0)):=by
       refine ya a.next 0 _ (ofBytes c) e 1 true .mark _ rfl (.of g2) (by omega) (by simp[ofBytes]) (fun i x _=>rfl) ⟨rfl,rfl⟩ ?_;intro i x j w hx hw;obtain⟨rfl,rfl⟩:=WE hx hw;refine⟨_,?_, .int _ _⟩;grind [ofBytes]
     have hr:Am.newRow tab a e (ofBytes c) true .mark= .ok (a.new (.cells (ofBytes c) e 1 true .mark),a.next):=jm hz _ _ _;have:aP tab C s ta a K (.ok (.sl a.next 0 c.length (.tail 0),a.new (.cells (ofBytes c) e 1 true .mark))):=
       ⟨_,s,_,_,h,rfl,⟨C',[],by simp,g1.tr, .pure hsim,g3,hF.le g1,cY.new H _ _ g1 (fun p o h=>⟨o,h⟩)⟩,Grow.new a _⟩
     cases d<;>simp only<;>(rw[rb (show und tab e=_ from ro he)];simp only;rw[rb (show siz tab e= .ok 1 from ro hz),rb (show R.check "convert: size" (Nat.beq 1 1)= .ok ()from rfl),rb hr];exact this)
   grind
 . rename_i e hs hd;split at h
   . rename_i he;rw[hnu hd (by simp) (by simp),oT hv];unfold Am.convert;rw[rb (show und tab src=_ from ro hs),rb (show und tab dst=_ from ro hd)];simp only;rw[rb (show und tab e=_ from ro he)];exact aP.same hF H (.pure (.str _)) h
   grind
 . rename_i e X L enc hs hd;split at h
   . rename_i he;obtain⟨c,h1,h2⟩:=h;rw[h1]at hv;rw[hnu hd (by simp) (by simp)];unfold Am.convert;rw[rb (show und tab src=_ from ro hs),rb (show und tab dst=_ from ro hd)];rcases JC H.fz (lN hv rfl)with⟨rfl,rfl⟩|⟨⟨b,off,l,n,k,rfl⟩|⟨a1,c1,rfl⟩,rfl⟩|⟨b,off,cap,rfl,hr⟩
     . simp only;rw[rb (show und tab e=_ from ro he)];exact aP.same hF H (.pure (.str _)) h2
     . simp only;rw[rb (show und tab e=_ from ro he)];exact aP.same hF H (.pure (.str _)) h2
     . simp only;rw[rb (show und tab e=_ from ro he)];exact aP.same hF H (.pure (.str _)) h2
     . simp only;rw[rb (show und tab e=_ from ro he)];simp only;rw[rb hr,rb uw];exact aP.same hF H (.pure (.str _)) h2
   grind
 . rename_i e b hs hd;split at h
   . rename_i X L enc t' he hb;obtain⟨c,h1,h2⟩:=h;obtain⟨C',e1,e2,e3,e4,e5,_⟩:=l3 hF H hb;have hv':=e5 v hv;rw[h1]at hv';rw[hnu hd (by simp) (by simp)];unfold Am.convert;rw[rb (show und tab src=_ from ro hs),rb (show und tab dst=_ from ro hd)];rcases JC e3.fz hv' with⟨rfl,rfl⟩|⟨⟨b,off,l,n,k,rfl⟩|⟨a1,c1,rfl⟩,rfl⟩|⟨b,off,cap,rfl,hr⟩
     . simp only;rw[rb (show und tab e=_ from ro he)];exact aP.same hF H (.pure (.str _)) h2
     . simp only;rw[rb (show und tab e=_ from ro he)];exact aP.same hF H (.pure (.str _)) h2
     . simp only;rw[rb (show und tab e=_ from ro he)];exact aP.same hF H (.pure (.str _)) h2
     . simp only;rw[rb (show und tab e=_ from ro he)];simp only;rw[rb hr,rb uw];exact aP.same hF H (.pure (.str _)) h2
   grind
 . rename_i e b off len cap hs hd;split at h
   . rename_i cs t' he hb;obtain⟨hle,c,h1,h2⟩:=cO h;have hle:=Ak hle;rw[hnu hd (by simp) (by simp)]
     cases hv with
     |pure hv=>cases hv
     | @sl _ _ _ _ I hI=>
       obtain⟨_,ca,sz,g1,g2,_⟩:=H.at_ hb hI;have hcl:=g2.1;have hr:readN a I.β off len= .ok (c.map fun b=>AV.int .u8 (.ofNat b.toNat)):=by
        unfold readN;rw[rb (iT g1)];simp only;rw[rb (rc (by grind))];congr 1
        apply BG
        intro i;have hS:=(g2.drop off).take len;rw[h1]at hS
        cases hq:(qW c)[i]? with
        |none=>
         have hn:=DC.1 hq;rw[BC (by rw[<-hS.1];exact hn),BC (by grind [qW])]
        |some v=>
         have hlt:=(Ae.1 hq).1;have hlt2:i<(List.take len (List.drop off ca)).length:=by rw[<-hS.1];omega
         have hsv:=hS.2 i v _ hq (Ag hlt2);grind [qW,jN]
       unfold Am.convert;rw[rb (show und tab src=_ from ro hs),rb (show und tab dst=_ from ro hd)];simp only;rw[rb (show und tab e=_ from ro he)];simp only;rw[rb hr,rb uw];exact aP.same hF H (.pure (.str _)) h2
   grind
 grind
end
end
section
universe u v
variable [Inhabited aF]
section
variable {tab:bm} {view:TypeId->Option View} {C:Cx} {s:St} {ta:T AV} {a:AH} {h:SH}
structure Told (Fz:Nat->Option AO) (X:Type) (l:List X) (enc:X->List SV) (n:Nat) (news:List AV):Prop where
 len:news.length=l.length*n
 each:∀(i:Nat) x,l[i]? =some x->(enc x).length=n
 cell:∀(i:Nat) x (j:Nat) v,l[i]? =some x->(enc x)[j]? =some v->∃u,news[i*n+j]? =some u/\aO Fz v u
 one:news.all mc=true
theorem Ik {s:SV} (h:nS s=true):isScalar s=true:=by cases s<;>first|rfl|cases h
theorem U0 {Fz:Nat->Option AO} {s:SV} {v:AV} (h:aO Fz s v) (hp:nS s=true):mc v=true:=Kn (C:=⟨fun _=>none,Fz⟩) (.pure h) (Ik hp)
theorem Tp {news:List AV} {n:Nat} (hn:n≠0) {m:Nat} (hl:news.length=m*n) (h:∀i j,i<m->j<n->∀u,news[i*n+j]? =some u->mc u=true):news.all mc=true:=by
 rw[AB];intro v hv;obtain⟨q,hq⟩:=Ba.1 hv;have hlt:q<m*n:=by rw[<-hl];grind
 have h1:q / n<m:=by
  apply (Nat.div_lt_iff_lt_mul (by omega)).2;omega
 have h2:q % n<n:=Nat.mod_lt _ (by omega);grind [Nat.div_add_mod]
theorem I9 {X:Type} {L:List X} {enc:X->List SV} {v:AV} {Fz:Nat->Option AO} {n:Nat} (hfz:∀i o,Fz i=some o->a.get i=some o) (hv:aO Fz (.bh X L enc) v) (hn:n≠0) (he:∀x:X,(enc x).length=n/\(enc x).all nS=true):
   ∃news,source a n v= .ok (L.length,news)/\Told Fz X L enc n news:=by
 by_cases hL:L=[]
 . subst hL;have ht:Told Fz X [] enc n []:=⟨by simp,fun i x hx=>by grind,fun i x j v hx=>by grind,rfl⟩
   cases hv with
   | bP h0 hv=>
     rcases hv with rfl|⟨b,off,l,k,c,rfl⟩|⟨a,c,rfl⟩
     . exact⟨[],rfl,ht⟩
     . exact⟨[],rfl,ht⟩
     . exact⟨[],rfl,ht⟩
   | bh b off cap cs e sz ext bk u hb hs hl hsz hc h1 h2=>
     obtain⟨sz0,ext0,hb,hx0⟩:=hb;refine⟨[],?_,ht⟩;simp only[source,Bt,Nat.zero_mul];unfold readN;rw[rb (iT (hfz _ _ hb))];grind [rb,rc,Nat.ble_eq]
 . obtain⟨b,off,cap,cs,e',sz,ext,bk,rfl,hb,hs,hl,hsz,hc,hcell⟩:=yb hv hL;obtain⟨sz0,ext0,hb,hx0⟩:=hb;have hszn:sz=n:=by
     obtain⟨x,hx⟩:∃x,L[0]? =some x:=⟨L[0]'(by grind),by simp⟩;rw[<-hsz 0 x hx,(he x).1]
   subst hszn;have hr:readN a b off (L.length*sz)= .ok ((cs.drop off).take (L.length*sz)):=by
     unfold readN;rw[rb (iT (hfz _ _ hb))];grind [rb,rc,Nat.ble_eq]
   have hlen:((cs.drop off).take (L.length*sz)).length=L.length*sz:=by grind
   have hget:∀(i j:Nat),i<L.length->j<sz->((cs.drop off).take (L.length*sz))[i*sz+j]? =cs[off+i*sz+j]? :=by
     intro i j hi hj;rw[A4,Al,Dk,Dh]
     calc i*sz+j<i*sz+sz:=by omega
       _=(i+1)*sz:=by rw[Be,Dr]
       _<=L.length*sz:=A9 _ hi
   have hcell':∀(i:Nat) x (j:Nat) v,L[i]? =some x->(enc x)[j]? =some v->∃u,((cs.drop off).take (L.length*sz))[i*sz+j]? =some u/\aO Fz v u:=by
     grind
   refine⟨_,?_,hlen,hsz,hcell',Tp (by omega) hlen ?_⟩
   . grind [source,rb]
   . intro i j hi hj u hu;have hx:=Ag hi;have hjl:j<(enc L[i]).length:=by rw[(he _).1];exact hj
     have hv:=Ag hjl;grind [U0]
theorem JI (n:Nat):∀(m:Nat) (l:List SV) (i:Nat),i<m->(chunk n m l)[i]? =some ((l.drop (i*n)).take n):=by
 intro m;induction m with
 |zero=>omega
 | succ m ih=>
  intro l i h
  cases i with
  |zero=>simp[chunk]
  |succ i=>
   grind [chunk,List.drop_drop,Nat.add_mul]
theorem uq (n:Nat):∀(m:Nat) (l:List SV),(chunk n m l).length=m:=by
 intro m;induction m with
 |zero=>intro l;rfl
 |succ m ih=>grind [chunk]
theorem M8 {X:Type} {enc:X->List SV}:∀{c:List (List SV)} {K:List X->Prop},wj enc c K->∃l,l.length=c.length/\(∀(i:Nat) x q,l[i]? =some x->c[i]? =some q->enc x=q)/\K l:=by
 intro c;induction c with
 |nil=>intro K h;exact⟨[],rfl,fun i x q h=>by grind,h⟩
 |cons q c ih=>
  intro K h;obtain⟨x,hx,h⟩:=h;grind
theorem zQ {X:Type} {enc:X->List SV} {n m:Nat} (hn:n≠0) {cs:List SV} {ca:List AV} (hc:aV C cs ca) (hl:cs.length=m*n) (hp:cs.all nS=true) {l:List X} (hll:l.length=m)
   (he:∀(i:Nat) x q,l[i]? =some x->(chunk n m cs)[i]? =some q->enc x=q):Told C.Fz X l enc n ca:=by
 have hsub:∀i,i<m->i*n+n<=m*n:=by
   intro i hi
   calc i*n+n=(i+1)*n:=by rw[Be,Dr]
     _<=m*n:=A9 _ hi
 refine⟨by rw[<-hc.1,hl,hll],?_,?_,?_⟩
 . intro i x hx;have hi:i<m:=by rw[<-hll];grind
   rw[he i x _ hx (JI n m cs i hi)];have:=hsub i hi;grind
 . intro i x j v hx hv;have hi:i<m:=by rw[<-hll];grind
   rw[he i x _ hx (JI n m cs i hi),A4]at hv;split at hv
   . rw[Dk]at hv;obtain⟨u,h1,h2⟩:=hc.get hv;grind [lN]
   grind
 grind [I7,Ik]
theorem WY {X:Type} {L M:List X} {enc:X->List SV} {n:Nat} {ca news:List AV} {Fz:Nat->Option AO} (hl:ca.length=L.length*n) (hL:∀(i:Nat) x,L[i]? =some x->(enc x).length=n)
   (hc:∀(i:Nat) x (j:Nat) v,L[i]? =some x->(enc x)[j]? =some v->∃u,ca[i*n+j]? =some u/\aO Fz v u) (hM:Told Fz X M enc n news):
   (ca++news).length=(L++M).length*n/\(∀(i:Nat) x,(L++M)[i]? =some x->(enc x).length=n)/\
     ∀(i:Nat) x (j:Nat) v,(L++M)[i]? =some x->(enc x)[j]? =some v->∃u,(ca++news)[i*n+j]? =some u/\aO Fz v u:=by
 have hlt:∀i j,i<L.length->j<n->i*n+j<L.length*n:=by
   intro i j hi hj
   calc i*n+j<(i+1)*n:=by rw[Be,Dr];omega
     _<=L.length*n:=A9 _ hi
 refine⟨by rw[Bu,Bu,hl,hM.len,Be],?_,?_⟩
 . intro i x hx;by_cases hi:i<L.length
   . rw[AX hi]at hx;grind
   . rw[Bd (by omega)]at hx;exact hM.each _ x hx
 . intro i x j v hx hv;by_cases hi:i<L.length
   . rw[AX hi]at hx;have hj:j<n:=by rw[<-hL i x hx];grind
     grind
   . rw[Bd (by omega)]at hx;obtain⟨u,h1,h2⟩:=hM.cell _ x j v hx hv;refine⟨u,?_,h2⟩;have hge:L.length*n<=i*n:=A9 _ (by omega);rw[Bd (by rw[hl];omega),hl];rw[Nat.sub_mul]at h1;rw[<-h1];grind
def ti (by_ m:Nat):Prop:=(Nat.ble (m*by_) 16777216&&Nat.ble m 16777216)=true
theorem Ry (H:HS tab C h a) {d:Nat} {X:Type} {L M:List X} {enc:X->List SV} {e n by_:Nat} {u:AV} {news:List AV} (hd:h.get d=some (.arr X L enc e)) (hv:aJ C (.own d) u) (hn:tab.siz.get e=some n) (hn0:n≠0)
   (hz:mN tab e n= .ok ()) (hroom:ti by_ (L.length+M.length)) (hM:Told C.Fz X M enc n news):
   ∃I v a',Am.bI tab a e n by_ u M.length news= .ok (v,a')/\dq C (.kill d) (C.put d I)/\HS tab (C.put d I) ⟨h.next,(d,some (.arr X (L++M) enc e))::ju (.kill d) h.os⟩ a'/\aJ (C.put d I) (.own d) v/\Grow a a'/\cY C h a [.kill d, .mod d] (C.put d I) ⟨h.next,(d,some (.arr X (L++M) enc e))::ju (.kill d) h.os⟩ a':=by
 have hpk:∀(I:BI) (o2:SO) p o J,h.get p=some o->C.ρ p=some J->p≠d->∃o',(SH.mk h.next ((d,some o2)::ju (.kill d) h.os)).get p=some o'/\(C.put d I).ρ p=some J:=by
   intro I o2 p o J hp hJ hpd;refine⟨o.on (.kill d),?_,by rw[kg _ _ hpd];exact hJ⟩;have h1:=sU (.kill d) h.next h.os p;grind [SH.get,kJ]
 obtain⟨I0,hI0,ho⟩:=H.obj d _ hd;have ho':=ho;obtain⟨g1,g2,g3,g4,g5⟩:=ho;have hsz:I0.sz=n:=by rw[hn]at g1;grind
 have hlt:∀b i,C.Fz i=some b->i<a.next:=fun b i hi=>H.wf _ _ (H.fz _ _ hi)
 by_cases hm:M.length=0
 . have hM0:=AL hm;subst hM0;have hnews:news=[]:=AL (by rw[hM.len];simp);subst hnews;rw[BQ];obtain⟨hT,H'⟩:=H.renew hd hI0 I0 (o:= .arr X L enc e) (a':=a) (fun i b _ h=>h) H.wf (fun hc=> .inr ⟨hc,rfl⟩) (Ad _) (fun hT=>by
     have:=ho'.turns hT;exact this)
   refine⟨I0,u,a,?_,hT,H',?_,Grow.refl a,fun p o J hp hJ hc hnd=>⟨rfl, .inl (hpk I0 _ p o J hp hJ (fun e=>hnd (by grind [kT])))⟩⟩
   . cases hv with
     |pure hv=>cases hv
     |eo hI hc=>simp[Am.bI]
     | own hI hc=>
       rw [hI0]at hI;cases hI;rw[hc]at g5;obtain⟨ca,ext,bk,k1,k2,k3,k4,k5⟩:=g5;rename_i c';have hlow:capLow a I0.β c'= .ok (I0.len):=by
        rcases k4 with⟨rfl,rfl⟩|⟨rfl,h0⟩
        . simp only[capLow];rw[rb (iT k1)];rw[rb (rc (by grind [gp]))];rw[k3,g3];congr 1
          exact Nat.mul_div_cancel _ (by omega)
        grind [capLow]
       simp only[Am.bI];rw[rb hlow,rb (iT k1)];rw[rb (rc (by simp_all)),rb (rc (by rw[g3];exact hroom)),Bt,Bx,show Nat.ble I0.len I0.len=true from by simp];rfl
   . cases hv with
     |pure hv=>cases hv
     |eo hI hc=>exact .eo (jr _ _ _) (by rw[hI0]at hI;grind)
     |own hI hc=>rw[hI0]at hI;cases hI;exact .own (jr _ _ _) hc
 . have hbm:Nat.beq M.length 0=false:=gp hm;have hpos:0<n:=by omega
   have newrow:∀(ca:List AV) (a1:AH) (bk:BK),a1.next=a.next->(∀i o,a1.get i=some o->a.get i=some o)->(∀i b,(I0.cap.isSome->i≠I0.β)->a.get i=some b->a1.get i=some b)->(bk≠ .ro/\bk≠ .cold)->ca.length=L.length*n->
       (∀(i:Nat) x (j:Nat) v,L[i]? =some x->(enc x)[j]? =some v->∃u,ca[i*n+j]? =some u/\aO C.Fz v u)->
       ∃I,dq C (.kill d) (C.put d I)/\HS tab (C.put d I) ⟨h.next,(d,some (.arr X (L++M) enc e))::ju (.kill d) h.os⟩ (a1.new (.cells (ca++news) e n true bk))/\aJ (C.put d I) (.own d) (.sl a.next 0 (L.length+M.length) (.tail 0))/\Grow a (a1.new (.cells (ca++news) e n true bk))/\cY C h a [.kill d, .mod d] (C.put d I) ⟨h.next,(d,some (.arr X (L++M) enc e))::ju (.kill d) h.os⟩ (a1.new (.cells (ca++news) e n true bk)):=by
     intro ca a1 bk hn1 hold1 hkeep hbk hcl hcc;let I:BI:=⟨a.next,L.length+M.length,n,some (.tail 0)⟩
     obtain⟨r1,r2,r3⟩:=WY hcl (fun i x hx=>by rw[<-hsz];grind) hcc hM;obtain⟨hT,H'⟩:=H.renew hd hI0 I (o:= .arr X (L++M) enc e) (a':=a1.new (.cells (ca++news) e n true bk)) (fun i b hi hb=>by
        rw[AH.aT,An (by have:=H.wf _ _ hb;omega)];grind)
       (fun i b hi=>by
        rw[AH.aT]at hi;simp only[AH.cE];split at hi
        . omega
        . have:=H.wf _ _ (hold1 i b hi);omega)
       (fun _=> .inl (Ad _)) (by grind [AH.cE])
       (fun hT=>by
        refine⟨hn,hpos,by simp[I],r2,?_⟩;refine⟨ca++news,true,bk,by rw[AH.aT,Al (by rw[hn1])],hbk,r1, .inl ⟨rfl,rfl⟩,fun i x j v hx hv=>?_⟩;obtain⟨w,w1,w2⟩:=r3 i x j v hx hv;exact⟨w,w1,w2.mono hT.1⟩)
     refine⟨I,hT,H', .own (I:=I) (jr _ _ _) rfl,⟨by grind [AH.cE],fun i o hi=>?_⟩,?_⟩
     . rw[AH.aT]at hi;grind
     . intro p o J hp hJ hc hnd;have hpd:p≠d:=fun e=>hnd (by grind [kT])
       obtain⟨b,hb⟩:=(H.at_ hp hJ).live hc;have hlt:=H.wf _ _ hb;refine⟨?_, .inl (hpk I _ p o J hp hJ hpd)⟩;rw[AH.aT,An (by omega),hkeep J.β b (fun hc0 e=>hpd (H.inj p d o _ J I0 hp hd hJ hI0 hc hc0 e)) hb,hb]
   cases hv with
   |pure hv=>cases hv
   | eo hI hc=>
     rw[hI0]at hI;cases hI;rw[hc]at g5;have hL0:=AL g5;subst hL0;obtain⟨I,q1,q2,q3,q4,q5⟩:=newrow [] a .rw rfl (fun i o h=>h) (fun i b _ h=>h) (by simp) (by simp) (fun i x j v hx=>by grind);grind [Am.bI,ti,rb,rc,jm]
   | own hI hc=>
     rw[hI0]at hI;cases hI;rw[hc]at g5;obtain⟨ca,ext,bk,k1,k2,k3,k4,k5⟩:=g5;rw[hsz]at k1 k3 k5;rcases k4 with⟨rfl,rfl⟩|⟨rfl,h0⟩
     . obtain⟨I,q1,q2,q3,q4,q5⟩:=newrow ca (a.kill I0.β) bk.grown rfl (fun i o hi=>by
          rw[nz]at hi;grind) (fun i b hi hb=>by rw[nz,An (hi (by grind))];exact hb) (by cases bk<;>simp[BK.grown]) k3 k5
       refine⟨I,_,_,?_,q1,q2,q3,q4,q5⟩;have hlow:capLow a I0.β (.tail 0)= .ok L.length:=by
        simp only[capLow];rw[rb (iT k1)];rw[rb (rc (by simp only[Bq,A0];exact gp hn0))];rw[k3];congr 1
        exact Nat.mul_div_cancel _ hpos
       simp only[Am.bI];rw[rb hlow,rb (iT k1)];rw[rb (rc (by simp)),g3,rb (rc hroom),show Nat.ble (L.length+M.length) L.length=false from Ao.2 fun e=>by have:=Ak e;omega];rw[rb (rc (by simp only[Ax,AF];omega)),rb hz,rb (rc (by
        simp only[Dc,Bq,Ac];exact⟨by simpa using k2,hM.one⟩)),show ca.take (L.length*n)=ca from Ay (by omega)]
       rw[rb (jm hn _ _ _)];rfl
     . have hL0:=AL h0;subst hL0;obtain⟨I,q1,q2,q3,q4,q5⟩:=newrow [] a .rw rfl (fun i o h=>h) (fun i b _ h=>h) (by simp) (by simp) (fun i x j v hx=>by simp at hx);simp only[BA,Bt,Ax]at q2 q3 q4;refine⟨I,_,_,?_,q1,q2,q3,q4,q5⟩;have hlen0:I0.len=0:=by rw[g3];rfl
       simp only[Am.bI];rw[rb (show capLow a I0.β (.lit 0)= .ok 0 from rfl),rb (iT k1)];rw[rb (rc (by simp)),hlen0,rb (rc (by have:=hroom;unfold ti at this;simpa using this)),show Nat.ble (0+M.length) 0=false from Ao.2 fun e=>by have:=Ak e;omega];simp only[Bf];rw[rb (rc (by simp)),rb hz];simp only[Nat.zero_mul,DQ,BA,Ax];rw[rb (jm hn _ _ _)]
theorem Rx (H:HS tab C h a) {X:Type} {M:List X} {enc:X->List SV} {e n by_:Nat} {news:List AV} (hn:tab.siz.get e=some n) (hn0:n≠0)
   (hz:mN tab e n= .ok ()) (hroom:ti by_ M.length) (hM:Told C.Fz X M enc n news):
   ∃I v a',Am.bI tab a e n by_ .nils M.length news= .ok (v,a')/\C.le (C.put h.next I)/\HS tab (C.put h.next I) (h.new (.arr X M enc e)) a'/\aJ (C.put h.next I) (.own h.next) v/\Grow a a'/\cY C h a [] (C.put h.next I) (h.new (.arr X M enc e)) a':=by
 by_cases hm:M.length=0
 . let I:BI:=⟨0,0,n,none⟩
   obtain⟨h1,h2⟩:=H.zr (o:= .arr X M enc e) I rfl (fun hle=>⟨hn,by grind,by grind,hM.each,hm⟩);exact⟨I, .nils,a,by simp[Am.bI,hm],h1,h2, .eo (I:=I) (jr _ _ _) rfl,Grow.refl a,fun p o J hp hJ hc _=>⟨rfl, .inl (by obtain⟨o2,g2⟩:=uA H (.arr X M enc e) p o hp;exact⟨o2,g2,h1.1 _ _ hJ⟩)⟩⟩
 . let I:BI:=⟨a.next,M.length,n,some (.tail 0)⟩
   obtain⟨h1,h2⟩:=H.new (ao:= .cells news e n true .rw) (o:= .arr X M enc e) I rfl (fun hle=>⟨hn,by grind,rfl,hM.each,news,true, .rw,by rw[AH.aT,Al rfl],by simp,hM.len, .inl ⟨rfl,rfl⟩,fun i x j v hx hv=>by
    obtain⟨u,g1,g2⟩:=hM.cell i x j v hx hv;exact⟨u,g1,g2.mono hle.2⟩⟩)
   refine⟨I, .sl a.next 0 M.length (.tail 0),a.new (.cells news e n true .rw),?_,h1,h2, .own (I:=I) (jr _ _ _) rfl,Grow.new a _,cY.new H _ _ h1 (uA H _)⟩;simp only[Am.bI,gp hm,Bf];rw[rb (rc hroom),rb hz,rb (jm hn _ _ _)]
end
end
section
universe u v
variable [Inhabited aF]
section
variable {tab:bm} {view:TypeId->Option View} {C:Cx} {s:St} {ta:T AV} {a:AH} {h:SH}
theorem Ff (s:St) (b p:Nat) (X:Type) (L:List X) (enc:X->List SV):((s.ev (.ft b X L enc)).del b).h.get p=if p=b then none else(s.h.get p).map (SO.on (.ft b X L enc)):=by
 simp_all[St.ev,St.del,SH.aZ,sU]
theorem Sx:∀(l:List SV) (s:St) (p:Nat),s.h.get p=none->(iF l s).h.get p=none:=by
 intro l;induction l with
 |nil=>intro s p h;exact h
 | cons x l ih=>
  intro s p h
  cases x with
  |own b=>
   grind [iF,Ff]
  |_=>exact ih s p h
theorem JU:∀(l:List SV) (s:St) (C:Cx),FS C s.ts ta->HS tab C s.h a->∃C' new,(iF l s).log=s.log++new/\Tr C new C'/\HS tab C' (iF l s).h a/\FS C' (iF l s).ts ta/\
  dM C s.h a C' (iF l s).h/\jB new .nils= .nils/\ ∀d o,(iF l s).h.get d=some o->jB new (.own d)= .own d/\ ∀off n c,jB new (.sl d off n c)= .sl d off n c:=by
 intro l;induction l with
 |nil=>intro s C hF H;exact⟨C,[],by simp[iF],Tr.refl C,H,hF,dM.refl _ _ _,rfl,fun d o _=>⟨rfl,fun _ _ _=>rfl⟩⟩
 | cons x l ih=>
  intro s C hF H;have skip:iF (x::l) s=iF l s->∃C' new,(iF (x::l) s).log=s.log++new/\Tr C new C'/\HS tab C' (iF (x::l) s).h a/\FS C' (iF (x::l) s).ts ta/\
     dM C s.h a C' (iF (x::l) s).h/\jB new .nils= .nils/\ ∀d o,(iF (x::l) s).h.get d=some o->jB new (.own d)= .own d/\ ∀off n c,jB new (.sl d off n c)= .sl d off n c:=by
   intro e;rw[e];exact ih s C hF H
  cases x with
  |own b=>
   simp only[iF]at skip⊢;split
   . rename_i X L enc t hb;obtain⟨C1,e1,e2,e3,e4,_,e6⟩:=l3 hF H hb;obtain⟨C2,new,f1,f2,f3,f4,f7,f5,f6⟩:=ih _ C1 e4 e3;refine⟨C2,_,by rw[f1,e1,BH],e2.trans f2,f3,f4,e6.trans f7 f2.fz,?_,fun d o hd=>?_⟩
     . rw[wD];exact f5
     . have hne:d≠b:=by
         intro e;subst e;rw[Sx l _ d (by rw[Ff,Al rfl])]at hd;cases hd
       obtain⟨g1,g2⟩:=f6 d o hd;constructor
       . rw[wD];simp only[jB,SV.on,gp hne,Bf];exact g1
       . intro off n c;rw[wD];simp only[jB,SV.on,gp hne,Bf];exact g2 off n c
   grind
  |_=>exact skip rfl
theorem UN (s:St) (d:Nat) (o:SO):(((s.ev (.kill d)).aU d o).note (.mod d)).log=s.log++[.kill d, .mod d]/\(((s.ev (.kill d)).aU d o).note (.mod d)).h=⟨s.h.next,(d,some o)::ju (.kill d) s.h.os⟩/\
  (((s.ev (.kill d)).aU d o).note (.mod d)).ts=qx (.kill d) s.ts:=by
 obtain⟨ts,⟨n,os⟩,log⟩:=s;exact⟨by simp[St.ev,St.aU,St.note],rfl,rfl⟩
theorem St.mE (s:St) (o:SO):(s.new o).h=s.h.new o/\(s.new o).ts=s.ts/\(s.new o).log=s.log:=by
 obtain⟨ts,h,log⟩:=s;exact⟨rfl,rfl,rfl⟩
theorem dq.oD {C C':Cx} {d:Nat} (h:dq C (.kill d) C'):Tr C [.kill d, .mod d] C':=
 h.tr.trans (l:=[.kill d]) (dq.tr (e:= .mod d) ⟨fun _ _ h=>h,fun _ _ h=>h⟩)
theorem K2 (hF:FS C s.ts ta) (H:HS tab C s.h a) {d:Nat} {X:Type} {L M:List X} {enc:X->List SV} {e n by_:Nat} {u:AV} {news:List AV} {K:SV->St->Prop} (hd:s.h.get d=some (.arr X L enc e)) (hv:aJ C (.own d) u) (hn:tab.siz.get e=some n) (hn0:n≠0)
  (hz:mN tab e n= .ok ()) (hroom:ti by_ (L.length+M.length)) (hM:Told C.Fz X M enc n news) (hk:K (.own d) (((s.ev (.kill d)).aU d (.arr X (L++M) enc e)).note (.mod d))):
  aP tab C s ta a K (Am.bI tab a e n by_ u M.length news):=by
 obtain⟨I,v,a',h1,h2,h3,h4,h5,h6⟩:=Ry H hd hv hn hn0 hz hroom hM;obtain⟨e1,e2,e3⟩:=UN s d (.arr X (L++M) enc e);exact⟨_,_,v,a',hk,h1,⟨C.put d I,_,e1,h2.oD,h4,by rw[e2];exact h3,by rw[e3];exact hF.turns h2,by rw[e2];exact h6⟩,h5⟩
theorem IS (hF:FS C s.ts ta) (H:HS tab C s.h a) {X:Type} {M:List X} {enc:X->List SV} {e n by_:Nat} {news:List AV} {K:SV->St->Prop} (hn:tab.siz.get e=some n) (hn0:n≠0)
  (hz:mN tab e n= .ok ()) (hroom:ti by_ M.length) (hM:Told C.Fz X M enc n news) (hk:K (.own s.h.next) (s.new (.arr X M enc e))):aP tab C s ta a K (Am.bI tab a e n by_ .nils M.length news):=by
 obtain⟨I,v,a',h1,h2,h3,h4,h5,h6⟩:=Rx H hn hn0 hz hroom hM;obtain⟨e1,e2,e3⟩:=s.mE (.arr X M enc e);exact⟨_,_,v,a',hk,h1,⟨_,[],by rw[e3];simp,h2.tr,h4,by rw[e1];exact h3,by rw[e2];exact hF.le h2,by rw[e1];exact h6⟩,h5⟩
theorem Im (l m:List Ev):kT (l++m)=kT l++kT m:=by
 induction l with
 |nil=>rfl
 |cons e l ih=>cases e<;>simp[kT,ih]
theorem aP.later {C1:Cx} {s1:St} {new:List Ev} {K:SV->St->Prop} {r:R (AV×AH)} (hl:s1.log=s.log++new) (ht:Tr C new C1) (hk:dM C s.h a C1 s1.h) (h:aP tab C1 s1 ta a K r):aP tab C s ta a K r:=by
 obtain⟨sv,s',v,a',h1,h2,⟨C',new',g1,g2,g3,g4,g5,g6⟩,h4⟩:=h;refine⟨sv,s',v,a',h1,h2,⟨C',new++new',by rw[g1,hl,BH],ht.trans g2,g3,g4,g5,?_⟩,h4⟩;intro p o I hp hI hc hn;rw[Im]at hn;rcases hk p o I hp hI hc with⟨o',q1,q2⟩|⟨b,q1,q2⟩
 . exact g6 p o' I q1 q2 hc (fun e=>hn (DO _ e))
 . exact⟨by rw[q1];exact g4.fz _ _ (g2.fz _ _ q2), .inr ⟨b,g2.fz _ _ q2⟩⟩
theorem Jx (hF:FS C s.ts ta) (H:HS tab C s.h a) {e n by_:Nat} (hn:tab.siz.get e=some n) (hn0:n≠0) (hz:mN tab e n= .ok ()) {x:SV} {u w:AV} (hx:x= .nils->aJ C x u) (hx':∀d o,x= .own d->s.h.get d=some o->aJ C x u) {Y:Type} {M:List Y} {enc':Y->List SV} (hy:aO C.Fz (.bh Y M enc') w)
   {K:SV->St->Prop} (h:ov s e n by_ x Y M enc' K):∃m news,source a n w= .ok (m,news)/\aP tab C s ta a K (Am.bI tab a e n by_ u m news):=by
 unfold ov at h;split at h
 . obtain⟨he,h1⟩:=h;obtain⟨hr,hk⟩:=cO h1;obtain⟨news,g1,g2⟩:=I9 H.fz hy hn0 he;rw[oT (hx rfl)];exact⟨_,_,g1,IS hF H hn hn0 hz hr g2 hk⟩
 . rename_i d;split at h
   . rename_i X L enc e' hd;obtain⟨hee,h1⟩:=cO h;have hee:=Af hee;subst hee;obtain⟨he,M',hM',h2⟩:=h1;obtain⟨hr,hk⟩:=cO h2;obtain⟨news,g1,g2⟩:=I9 H.fz hy hn0 he
     cases hM';exact⟨_,_,g1,K2 hF H hd (hx' d _ rfl hd) hn hn0 hz hr g2 hk⟩
   grind
 grind
theorem Td (hF:FS C s.ts ta) (H:HS tab C s.h a) {e n by_ m:Nat} (hn:tab.siz.get e=some n) (hn0:n≠0) (hz:mN tab e n= .ok ()) {x:SV} {u:AV} (hx:x= .nils->aJ C x u) (hx':∀d o,x= .own d->s.h.get d=some o->aJ C x u) {cs:List SV} {ca:List AV} (hc:aV C cs ca)
   (hl:cs.length=m*n) (hp:cs.all nS=true) {K:SV->St->Prop} (h:qj view s e n by_ m x cs K):aP tab C s ta a K (Am.bI tab a e n by_ u m ca):=by
 unfold qj at h;split at h
 . split at h
   . obtain⟨l,h1,h2,h3⟩:=M8 h;obtain⟨hr,hk⟩:=cO h3;rw[uq]at h1;have:=IS hF H hn hn0 hz hr (zQ hn0 hc hl hp h1 h2) hk;rw[h1]at this;rw[oT (hx rfl)];omega
   grind
 . rename_i d;split at h
   . rename_i X L enc e' hd;obtain⟨hee,h1⟩:=cO h;have hee:=Af hee;subst hee;obtain⟨l,h1,h2,h3⟩:=M8 h1;obtain⟨hr,hk⟩:=cO h3;rw[uq]at h1;have:=K2 hF H hd (hx' d _ rfl hd) hn hn0 hz hr (zQ hn0 hc hl hp h1 h2) hk;rw[h1]at this;omega
   grind
 grind
theorem Tf (hF:FS C s.ts ta) (H:HS tab C s.h a) {e:TypeId} {x y:SV} {u w:AV} (hx:aJ C x u) (hy:aJ C y w) {K:SV->St->Prop} (h:EZ tab view s e x y K):
   ∃n by_,tab.siz.get e=some n/\tab.byt.get e=some by_/\n≠0/\ ∃m news,source a n w= .ok (m,news)/\aP tab C s ta a K (Am.bI tab a e n by_ u m news):=by
 unfold EZ at h;split at h
 . rename_i n by_ hn hby;refine⟨n,by_,hn,hby,?_⟩;obtain⟨hck,hh⟩:=cO h;simp only[Ac,A0]at hck;obtain⟨hn0,hzz⟩:=hck;have hn0:n≠0:=fun e=>by simp_all
   refine⟨hn0,?_⟩;have hz:mN tab e n= .ok ():=by
     split at hzz
     . rename_i z hz;obtain⟨zv,zc,g1,g2,g3⟩:=qM (C:=C) hz;unfold mN;rw[rb g1,rb g2];exact rc (by rw[<-g3.1];omega)
     grind
   split at hh
   ·
     rename_i b off m cap;split at hh
     . rename_i cs0 t0 hb0;obtain⟨C1,new,f1,f2,f3,f4,f7,f5,f6⟩:=JU ((cs0.drop off).take (m*n)) s C hF H;have hx1:=f2.val _ _ hx;have hy1:=f2.val _ _ hy;split at hh
       . rename_i cs t1 hb1;obtain⟨hck,hh⟩:=cO hh;simp only[Ac]at hck;have hle:=Ak hck.1;rw[(f6 b _ hb1).2]at hy1
         cases hy1 with
         |pure hy1=>cases hy1
         | sl hI=>
          rename_i I;obtain⟨hcap,ca,sz,k1,k2,_⟩:=f3.at_ hb1 hI;have hsub:=(k2.drop off).take (m*n);have hsrc:source a n (.sl I.β off m (.lit cap))= .ok (m,(ca.drop off).take (m*n)):=by
           have hr:readN a I.β off (m*n)= .ok ((ca.drop off).take (m*n)):=by
            unfold readN;rw[rb (iT k1)];simp only;rw[rb (rc (by simp only[AF];rw[<-k2.1];omega))]
           grind [source,rb]
          refine⟨m,_,hsrc,aP.later f1 f2 f7 (Td f4 f3 hn hn0 hz (fun e=>?_) (fun d o e hd=>?_) hsub (by simp;omega) hck.2 hh)⟩
          all_goals grind
       grind
     grind
   . exact Jx hF H hn hn0 hz (fun _=>hx) (fun _ _ _ _=>hx) (lN hy rfl) hh
   ·
     split at hh
     . rename_i Y M enc' t' hb;obtain⟨C1,e1,e2,e3,e4,e5,e6⟩:=l3 hF H hb;have hx1:=e2.val _ _ hx;obtain⟨m,news,g1,g2⟩:=Jx (u:=u) e4 e3 hn hn0 hz (fun e=>by subst e;exact hx1) (fun d o e hd=>by
         grind [Ff,jB,SV.on,gp]) (e5 w hy) hh
       exact⟨m,news,g1,g2.later e1 e2 e6⟩
     grind
   . split at hh
     . rw[oT hy,oT hx];exact⟨0,[],rfl,by simpa [Am.bI]using aP.same hF H (.pure .nils) hh⟩
     grind
   grind
 grind
end
end
section
universe u v
variable [Inhabited aF]
section
variable {tab:bm} {view:TypeId->Option View} {C:Cx} {s:St} {ta:T AV} {a:AH} {h:SH}
theorem Mi {k:IntKind}:∀{l:List SV} {m:List AV} {x:Int} {sv:SV},aV C l m->oF k x l=some sv->∃v,te k x m= .ok v/\aJ C sv v:=by
 intro l;induction l with
 |nil=>intro m x sv hs h;cases m with
  |nil=>cases h;exact⟨_,rfl, .pure (.int _ _)⟩
  |cons=>have:=hs.1;grind
 | cons y l ih=>intro m x sv hs h;cases m with
  |nil=>have:=hs.1;grind
  |cons w m=>
   cases y<;>simp only[oF]at h<;>first|(cases h;done)|skip
   obtain⟨h1,h2⟩:=hs.head;rw[jN h1];grind [te]
theorem Mh {k:IntKind}:∀{l:List SV} {m:List AV} {x:Int} {sv:SV},aV C l m->oE k x l=some sv->∃v,tb k x m= .ok v/\aJ C sv v:=by
 intro l;induction l with
 |nil=>intro m x sv hs h;cases m with
  |nil=>cases h;exact⟨_,rfl, .pure (.int _ _)⟩
  |cons=>have:=hs.1;grind
 | cons y l ih=>intro m x sv hs h;cases m with
  |nil=>have:=hs.1;grind
  |cons w m=>
   cases y<;>simp only[oE]at h<;>first|(cases h;done)|skip
   obtain⟨h1,h2⟩:=hs.head;rw[jN h1];grind [tb]
theorem Mf (H:HS tab C s.h a) {e:TypeId} {x:SV} {v:AV} (hx:aJ C x v) {n:Nat} (hn:qv s x=some n):lenOf a (.slice e) v= .ok n:=by
 unfold qv at hn;split at hn
 . cases hn;rw[oT hx];rfl
 . cases hn
   cases hx with
   | pure hx=>cases hx with
     |bP h0 hv=>
      rw[h0];rcases hv with rfl|⟨b,off,l,n,k,rfl⟩|⟨a,c,rfl⟩<;>rfl
     |bh b off cap cs e sz ext bk u hb hs hl hn hc h1 h2=>rfl
 . cases hn
   cases hx with
   |pure hx=>cases hx
   |sl hI=>rfl
 . split at hn
   . rename_i X L enc t hb
     cases hn
     cases hx with
     |pure hx=>cases hx
     |eo hI hc=>
      obtain⟨_,_,g3,_,g5⟩:=H.at_ hb hI;rw[hc]at g5;rw[g5];rfl
     |own hI hc=>
      obtain⟨_,_,g3,_,g5⟩:=H.at_ hb hI;grind [lenOf]
   grind
 grind
theorem RV (hF:FS C s.ts ta) (H:HS tab C s.h a) {b:Builtin} {ats:Array TypeId} {l:List SV} {vs:List AV} (hl:aV C l vs) {K:SV->St->Prop} (h:sK tab view s b ats l K):aP tab C s ta a K (Am.builtin tab b ats vs a):=by
 unfold sK at h;split at h
 ·
  rename_i x;have hv:∃v,vs=[v]/\aJ C x v:=by
   cases vs with
   |nil=>have:=hl.1;grind
   | cons v vs=>cases vs with
     |nil=>exact⟨v,rfl,hl.head.1⟩
     |cons=>have:=hl.1;grind
  obtain⟨v,rfl,hx⟩:=hv;unfold Am.builtin;simp only
  cases ht:ats[0]? with
  |none=>rw[ht]at h;grind
  |some t=>
   rw[ht]at h;rw[rb (ro rfl)];split at h
   . rename_i hg;split at h
     . rw[iH hx,rb (show und tab t=_ from ro hg)];exact aP.same hF H (.pure (.int _ _)) h
     grind
   . rename_i e hg;obtain⟨n,h1,h2⟩:=dx h;rw[rb (show und tab t=_ from ro hg)];simp only;rw[rb (Mf H hx h1)];exact aP.same hF H (.pure (.int _ _)) h2
   grind
 ·
  rename_i x y;have hv:∃u w,vs=[u,w]/\aJ C x u/\aJ C y w:=by
   cases vs with
   |nil=>have:=hl.1;grind
   | cons v vs=>cases vs with
     |nil=>have:=hl.1;grind
     | cons w vs=>cases vs with
       |nil=>exact⟨v,w,rfl,hl.head.1,hl.head.2.head.1⟩
       |cons=>have:=hl.1;grind
  obtain⟨u,w,rfl,hx,hy⟩:=hv
  cases ht:ats[0]? with
  |none=>rw[ht]at h;grind
  |some t=>
   cases ht1:ats[1]? with
   |none=>rw[ht,ht1]at h;grind
   | some t1=>
     rw[ht,ht1]at h;split at h
     . rename_i e e' hg hg';obtain⟨n,by_,hn,hby,hn0,m,news,h1,h2⟩:=Tf hF H hx hy h;unfold Am.builtin;simp only;rw[ht,ht1,rb (show R.of "append" (some t)= .ok t from rfl),rb (show R.of "append" (some t1)= .ok t1 from rfl),rb (show und tab t1=_ from ro hg')];simp_all[rb,und,siz,R.of,rc,gp]
     grind
 ·
  cases vs with
  |nil=>have:=hl.1;grind
  |cons v vs=>
   obtain⟨h1,h2⟩:=hl.head;rw[jN h1];obtain⟨sv,h3,h4⟩:=dx h;grind [Mi,Am.builtin,rb,aP.same]
 ·
  cases vs with
  |nil=>have:=hl.1;grind
  |cons v vs=>
   obtain⟨h1,h2⟩:=hl.head;rw[jN h1];obtain⟨sv,h3,h4⟩:=dx h;grind [Mh,Am.builtin,rb,aP.same]
 grind
theorem CW (hF:FS C s.ts ta) (H:HS tab C s.h a) {cs:List SV} {ca:List AV} (hc:aV C cs ca) (e n:Nat) (hn:tab.siz.get e=some n) {K:SV->St->Prop} {sv:SV} {v:AV} (hv:∀C':Cx,∀I,C'.ρ s.h.next=some I->I.β=a.next->aJ C' sv v) (hk:K sv (s.new (.cells cs e))):
  aP tab C s ta a K (.ok (v,a.new (.cells ca e n false .rw))):=by
 let I:BI:=⟨a.next,0,n,some (.lit 0)⟩
 obtain⟨h1,h2⟩:=H.new (ao:= .cells ca e n false .rw) (o:= .cells cs e) I rfl (fun hle=>⟨rfl,ca,n,by rw[AH.aT,Al rfl],hc.le hle,hn⟩);obtain⟨e1,e2,e3⟩:=s.mE (.cells cs e);exact⟨sv,_,v,_,hk,rfl,⟨C.put s.h.next I,[],by rw[e3];simp,h1.tr,hv _ I (jr _ _ _) rfl,by rw[e1];exact h2,by rw[e2];exact hF.le h1,by rw[e1];exact cY.new H _ _ h1 (uA H _)⟩,Grow.new a _⟩
theorem Ma {l:List SV} {m:List AV} (h:aV C l m):∀n,aV C (ri n l) (rep n m):=by
 intro n;induction n with
 |zero=>exact aV.nil
 |succ n ih=>exact h.append ih
theorem Q8 (hF:FS C s.ts ta) (H:HS tab C s.h a) {t:TypeId} {len:Nat} {ps:List (Nat×SV)} {vs:List (Nat×AV)} (hv:vs.map (·.1)=ps.map (·.1)) (hs:aV C (ps.map (·.2)) (vs.map (·.2))) {K:SV->St->Prop} (h:wu tab view s t len ps K):
   aP tab C s ta a K (Am.buildSlice tab a t len vs):=by
 unfold wu at h;split at h
 . rename_i e hg;split at h
   . rename_i n z hn hz;obtain⟨hck,h1⟩:=cO h;simp only[Ac]at hck;obtain⟨zv,zc,g1,g2,g3⟩:=qM (C:=C) hz;have hzl:(Nat.beq zc.length n)=true:=by rw[<-g3.1];grind
     unfold Am.buildSlice;rw[rb (show und tab t=_ from ro hg)];simp only;rw[rb (show siz tab e=_ from ro hn),rb (rc hck.1),rb g1,rb g2,rb (rc hzl)];by_cases hl0:len=0
     . subst hl0;obtain⟨hck2,h2⟩:=cO h1;simp only[Ac,List.isEmpty_iff,A0]at hck2;obtain⟨rfl,hn0⟩:=hck2;have hn0:n≠0:=fun e=>by simp_all
       cases vs with
       |cons=>grind
       |nil=>
        split at h2
        . rename_i V hV;simp only[D6,rep,fill];rw[rb (show(R.ok ([]:List AV))= .ok []from rfl),rb (jm hn _ _ _)];let I:BI:=⟨a.next,0,n,some (.lit 0)⟩
          obtain⟨q1,q2⟩:=H.new (ao:= .cells [] e n false .rw) (o:= .arr V.X [] V.enc e) I rfl (fun hle=>⟨hn,by grind,rfl,fun i x hx=>by grind,[],false, .rw,by rw[AH.aT,Al rfl],by simp,by simp, .inr ⟨rfl,rfl⟩,fun i x j v hx=>by grind⟩);obtain⟨e1,e2,e3⟩:=s.mE (.arr V.X [] V.enc e);exact⟨_,_,_,_,h2,rfl,⟨C.put s.h.next I,[],by rw[e3];simp,q1.tr, .own (I:=I) (jr _ _ _) rfl,by rw[e1];exact q2,by rw[e2];exact hF.le q1,by rw[e1];exact cY.new H _ _ q1 (uA H _)⟩,Grow.new a _⟩
        grind
     . rw[gp hl0]at h1;obtain⟨cs,h2,hk⟩:=dx h1;obtain⟨ca,h3,h4⟩:=xD (qs:=vs.map fun x=>(x.1*n,n,x.2)) (Ma g3 len) (by
        have:=Aj (List.map (fun i=>(i*n,n))) hv;grind [Function.comp_def]) (by grind [Function.comp_def]) h2
       rw[rb h3,rb (jm hn _ _ _)];exact CW hF H h4 e n hn (fun C' I hI hb=>by rw[<-hb];exact .sl hI) hk
   grind
 grind
theorem eJ {ts:T AV} {x:Operand} {v:AV} (h:ev ts x= .ok v) {β:Type} (f:AV->R β):(ev ts x>>=f)=f v:=rb h f
theorem Pf (b:Nat) (C:Cx):Tr C [.mod b] C:=dq.tr (e:= .mod b) ⟨fun _ _ h=>h,fun _ _ h=>h⟩
theorem xj {t:TypeId} {f:Nat} {fd:Field} (h:yd tab t f=some fd):u6 tab t f= .ok fd:=by
 unfold yd at h;unfold u6;split at h
 all_goals simp_all[rb,und,ro]
theorem qzP (hF:FS C s.ts ta) (H:HS tab C s.h a) {o:Oper} {K:SV->St->Prop} (h:mj tab view s o K):aP tab C s ta a K (fb tab ta a o):=by
 obtain⟨dst,op,type,pos,after,guard⟩:=o;unfold mj at h;unfold fb;have same1:∀{x:Operand} {K':SV->Prop},so (fy s.ts x) K'->∃sv v,ev ta x= .ok v/\aJ C sv v/\K' sv:=by
  intro x K' h;obtain⟨sv,h1,h2⟩:=dx h;grind [mf]
 cases op<;>simp only at h⊢
 case move x=>
  grind [eJ,aP.same]
 case assign x=>
  grind [eJ,aP.same]
 case pick c x y=>
  grind [mf,oR,eJ,aP.same,yz]
 case alloc e=>
  obtain⟨n,hn,h⟩:=dx h;obtain⟨cs,h1,h2⟩:=dx h;obtain⟨zv,zc,g1,g2,g3⟩:=qM (C:=C) h1;rw[rb g1,rb g2,rb (jm hn _ _ _)];exact CW hF H g3 e n hn (fun C' I hI hb=>by rw[<-hb];exact .ptr hI) h2
 case box e x=>
  obtain⟨n,hn,h⟩:=dx h;obtain⟨sv,v,h3,h4,h2⟩:=same1 h;obtain⟨hk,h2⟩:=cO h2;obtain⟨l,g1,g2⟩:=xf h4 hk;rw[eJ h3,rb g1,rb (jm hn _ _ _)];exact CW hF H g2 e n hn (fun C' I hI hb=>by rw[<-hb];exact .ptr hI) h2
 case build t ps=>
  obtain⟨l,h1,h2⟩:=dx h;obtain⟨sv,h3,h4⟩:=dx h2;grind [wZ,J4,rb,aP.same]
 case buildSlice t n ps=>
  obtain⟨l,h1,h2⟩:=dx h;grind [wZ,rb,Q8]
 case load t x=>
  grind [CU,rb,aP.same]
 case store t x y=>
  obtain⟨sv,v,h3,h4,h2⟩:=same1 h;obtain⟨sw,w,g3,g4,g2⟩:=same1 h2;obtain⟨b,off,a',h',rfl,k1,k2,k3,k4,k5⟩:=UU H h4 g4 g2;rw[eJ h3];simp only;rw[eJ g3,rb k1];obtain⟨ts,hh,log⟩:=s;refine⟨_,_,_,_,k3,rfl,⟨C,yP sv,rfl,?_, .pure (.bA rfl (fun i c v hc=>by grind)),k2,hF,k5⟩,k4⟩
  cases sv<;>first|exact Pf _ C|exact Tr.refl C
 case nilCheck x=>
  obtain⟨sv,v,h3,h4,h2⟩:=same1 h;rw[eJ h3];split at h2
  . cases h4 with
    |pure h=>cases h
    |ptr hI=>grind [aP.same]
  . cases h4 with
    |pure h=>cases h
    |cu hI hc=>grind [aP.same]
  . cases h4 with
    | pure h=>cases h with
      |cU b base ca e sz ext bk u hb hl h1 h2'=>grind [aP.same]
  . cases h4 with
    | pure h=>cases h with
      |fn h1 h2' h3' h4'=>grind [aP.same]
    |fn h1 h2' h3' h4'=>grind [aP.same]
  grind
 case binOp op t x y _=>
  grind [eJ,aP.val,Md]
 case unOp op _ x=>
  grind [eJ,aP.val,MJ]
 case convert x y z=>
  obtain⟨sv,v,h3,h4,h2⟩:=same1 h;rw[eJ h3];exact Wy hF H h4 h2
 case makeFunc fn first captured=>
  split at h
  . obtain⟨xs,h1,h2⟩:=dx h;obtain⟨ys,h3,h4⟩:=dx h2;obtain⟨us,g1,g2⟩:=qP hF h1;obtain⟨vs,g3,g4⟩:=qP hF h3;simp only;rw[rb g1,rb g3];exact aP.same hF H (.fn g2.1 g4.1 g2.2 g4.2) h4
  . exact h.elim
 case slice t x lo hi mx=>
  grind [eJ,UQ]
 case fieldAddr st x f=>
  obtain⟨fd,h1,h2⟩:=dx h;obtain⟨hck,h3⟩:=cO h2;obtain⟨sv,v,h4,h5,h6⟩:=same1 h3;rw[rb (xj h1)];split at hck
  . rename_i n hn;rw[rb (show siz tab fd.type=_ from ro hn),rb (rc hck),eJ h4];split at h6
    . cases h5 with
      |pure h=>cases h
      |ptr hI=>exact aP.same hF H (.ptr hI) h6
    . cases h5 with
      |pure h=>cases h
      |cu hI hc=>simp only[Dh];exact aP.same hF H (.cu hI hc) h6
    . cases h5 with
      | pure h=>cases h with
        |cU b base ca e sz ext bk u hb hl h1 h2'=>simp only[Dh];exact aP.same hF H (.pure (.cU b base ca e sz ext bk u hb hl h1 h2')) h6
    grind
  grind
 case field t x f=>
  obtain⟨fd,h1,h2⟩:=dx h;obtain⟨sv,v,h4,h5,h6⟩:=same1 h2;rw[rb (xj h1),eJ h4];grind [nP,dx,uI,rb,aP.same]
 case indexAddr t x ix=>
  obtain⟨sj,vj,h1,h2,h3⟩:=same1 h;obtain⟨i,h4,h5⟩:=uW h3 h2;obtain⟨sv,v,h6,h7,h8⟩:=same1 h5;rw[eJ h1,rb h4];split at h8
  . rename_i len e b off hg;split at h8
    . rename_i n hn;obtain⟨g1,g2⟩:=cO h8;rw[rb (show und tab t=_ from ro hg),eJ h6]
      cases h7 with
      |pure h=>cases h
      |ptr hI=>simp only;rw[rb (rc g1),rb (show siz tab e=_ from ro hn)];exact aP.same hF H (.ptr hI) g2
    grind
  . rename_i e b off len cap hg;split at h8
    . rename_i n hn;obtain⟨g1,g2⟩:=cO h8;rw[rb (show und tab t=_ from ro hg),eJ h6]
      cases h7 with
      |pure h=>cases h
      |sl hI=>simp only;rw[rb (rc g1),rb (show siz tab e=_ from ro hn)];exact aP.same hF H (.ptr hI) g2
    grind
  . rename_i e X L enc hg;split at h8
    . rename_i n hn;obtain⟨x,g1,g2⟩:=dx h8;obtain⟨g2,g3⟩:=cO g2;have g2:=Af g2;have hi:=(Ae.1 g1).1;obtain⟨b,off,cap,cs,e',sz,ext,bk,rfl,hb,hs,hl,hsz,hc,hcell⟩:=yb (lN h7 rfl) (by grind);obtain⟨sz0,ext0,hb,hx0⟩:=hb;have hszn:sz=n:=by rw[<-hsz i x g1];exact g2
      subst hszn;rw[rb (show und tab t=_ from ro hg),eJ h6];simp only;rw[rb (rc (by simpa using hi)),rb (show siz tab e=_ from ro hn)];refine aP.same hF H (.pure ?_) g3;refine .cU b (off+i*sz) cs e' sz0 ext0 bk (fun j=>(cs[off+i*sz+j]?).getD (.bA [])) hb ?_ ?_ ?_
      . rw[g2];have:i*sz+sz<=L.length*sz:=by
         calc i*sz+sz=(i+1)*sz:=by rw[Be,Dr]
          _<=L.length*sz:=A9 _ hi
        omega
      . intro j v hv;obtain⟨u,q1,_⟩:=hcell i x j v g1 hv;rw[q1];rfl
      . intro j v hv;obtain⟨u,q1,q2⟩:=hcell i x j v g1 hv;rw[q1];exact q2
    grind
  . rename_i e b hg;split at h8
    . rename_i n X L enc e' hn hb;obtain⟨g1,g2⟩:=cO h8;simp only[Ac]at g1;have hee:=Af g1.1;subst hee;have hi:i<L.length:=by simpa using g1.2
      rw[rb (show und tab t=_ from ro hg),eJ h6]
      cases h7 with
      |pure h=>cases h
      | eo hI hc=>
        obtain⟨_,_,_,_,k5⟩:=H.at_ hb hI;rw[hc]at k5;omega
      | own hI hc=>
        rename_i I c;obtain⟨k1,k2,k3,_,k5⟩:=H.at_ hb hI;have hsz:I.sz=n:=by rw[hn]at k1;grind
        simp only;rw[rb (rc (by rw[k3];simpa using hi)),rb (show siz tab e=_ from ro hn)];have hh:aJ C (.cu b i 0) (.ptr I.β (i*I.sz+0)):= .cu hI (by simp[hc]);rw[hsz,Bx]at hh;rw[Ax];exact aP.same hF H hh g2
    grind
  . exact h8.elim
 case index t x ix=>
  obtain⟨sj,vj,h1,h2,h3⟩:=same1 h;obtain⟨i,h4,h5⟩:=uW h3 h2;obtain⟨sv,v,h6,h7,h8⟩:=same1 h5;rw[eJ h1,rb h4];split at h8
  . rename_i len e cs hg;split at h8
    . rename_i n hn;obtain⟨g1,g2⟩:=cO h8;obtain⟨su,g3,g4⟩:=dx g2;obtain⟨us,rfl,g5⟩:=nP h7;obtain⟨u,g6,g7⟩:=uI g5 g3;rw[rb (show und tab t=_ from ro hg),eJ h6];simp only;rw[rb (rc g1),rb (show siz tab e=_ from ro hn),rb g6];exact aP.same hF H g7 g4
    . exact h8.elim
  . rename_i c hg;obtain⟨b,g1,g2⟩:=dx h8;rw[rb (show und tab t=_ from ro hg),eJ h6,iH h7];simp only;rw[rb (ro g1)];exact aP.same hF H (.pure (.int _ _)) g2
  . exact h8.elim
 case extract t i=>
  obtain⟨sv,v,h6,h7,h8⟩:=same1 h;rw[eJ h6];split at h8
  . obtain⟨us,rfl,g5⟩:=yo h7;obtain⟨su,g3,g4⟩:=dx h8;obtain⟨u,g6,g7⟩:=g5.get g3;simp only;rw[rb (ro g6)];exact aP.same hF H g7 g4
  . exact h8.elim
 case call c=>
  split at h
  . rename_i b hb;obtain⟨l,h1,h2⟩:=dx h;obtain⟨vs,g1,g2⟩:=qP hF h1;rw[hb];simp only;rw[rb g1];exact RV hF H g2 h2
  . exact h.elim
 all_goals exact h.elim
end
end
section
universe u v
variable [Inhabited aF]
def vo (f:Nat->Option AO):Nat->T AO
 |0=> .e
 |n+1=>(vo f n).set n (f n)
theorem Tw (f:Nat->Option AO):∀n i,(vo f n).get i=if i<n then f i else none:=by
 intro n;induction n with
 |zero=>grind [vo,vK]
 |succ n ih=>
  grind [vo,T.aZ]
def ofFn (next:Nat) (f:Nat->Option AO):AH:={t:=vo f next,next}
theorem qJ (next:Nat) (f:Nat->Option AO) (i:Nat):(ofFn next f).get i=if i<next then f i else none:=Tw f next i
section
variable {P:Program} {tab:bm}
theorem eR.frame {fr:ag} {h h0:AH} {Θ:AV->AH->Prop} (hgo:eR P {fr,cs:=[],h:=h0} Θ) (hs:∀i o,h0.get i=some o->h.get i=some o) (hn:h0.next=h.next):
   eR P {fr,cs:=[],h} fun v h2=>∃h1,Θ v h1/\h2.next=h1.next/\h.next<=h1.next/\(∀i o,h1.get i=some o->i<h1.next)/\ ∀i o,h2.get i=some o↔(h1.get i=some o\/(h.get i=some o/\h0.get i=none/\h1.get i=none)):=by
 classical
 intro D E K base frC csC w hR hB;have hdom:∀i o,h.get i=some o->i<h.next:=(hR.all E (ak.refl _ _)).1.ey;have hd0:∀i o,h0.get i=some o->i<h0.next:=fun i o hi=>by rw[hn];grind
 have hRc:Rel D E (Am.Rest E h h0 K) {fr,cs:=[],h:=h0} base frC csC w:=by
   refine⟨fun E' he=>?_,fun i hi=>by rw[hn];exact hR.ey i hi,hR.wf⟩;obtain⟨g1,g2,g3⟩:=hR.all E' he;refine⟨?_,g2,g3⟩;rw[<-hR.fp he];exact g1.part hs hd0
 obtain⟨v,h1,hΘ,fr1,w',vC,E',D',s1,s2,s3,s4,s5,s6,s7,s8,s9,s10⟩:=hgo D E _ base frC csC w hRc hB.rest;simp only at s9;have hdom1:=(s4 E' (ak.refl _ _)).1.ey;let h2:AH:=ofFn h1.next fun i=>match h1.get i with
   |some o=>some o
   |none=>if(h0.get i).isNone then h.get i else none
 have hg2:∀i o,h2.get i=some o↔(h1.get i=some o\/(h.get i=some o/\h0.get i=none/\h1.get i=none)):=by
   intro i o;simp only[h2,qJ];constructor
   . intro hh;split at hh
     . split at hh
       all_goals simp_all
     grind
   grind
 refine⟨v,h2,⟨h1,hΘ,rfl,by omega,hdom1,hg2⟩,fr1,w',vC,E',D',s1,s2,s3,?_,s5,s6,s7,s8.part,by rw[<-hn];exact s9,fun i hi=>by grind⟩;intro E'' he';obtain⟨g1,g2⟩:=s4 E'' he';have hag:=s5.trans he' s6;obtain⟨k1,k2,k3⟩:=hR.all E'' hag;refine⟨k1.join (by rw[hR.fp hag];exact g1) (by rw[hR.fp hag];exact s8) (fun i o hi=>((hg2 i o).1 hi).imp id (fun x=>⟨x.1,x.2.1⟩)) (fun i o hi=>?_),g2⟩;rcases(hg2 i o).1 hi with g|⟨g,_,_⟩
 . exact g1.ey i o g
 . have:=hdom i o g;show i<h1.next
   omega
def je (tab:bm) (C0:Cx) (h0:SH) (a0:AH) (Q:SV->St->Prop) (v:AV) (a':AH):Prop:=
 ∃sv s' C',Q sv s'/\aJ C' sv v/\HS tab C' s'.h a'/\Tr C0 s'.log C'/\Grow a0 a'/\cY C0 h0 a0 s'.log C' s'.h a'
def cA (P:Program) (tab:bm) (g:FuncId) (C:aK):Prop:=
 ∀ fn body,tab.fns.get g=some fn->fn.body=some body->∀y,C.pre y->∀(Fz:Nat->Option AO) (a:AH) (avs:List AV),(∀i o,Fz i=some o->a.get i=some o)->(∀i o,a.get i=some o->i<a.next)->
  (C.args y).length=avs.length->(∀(i:Nat) s v,(C.args y)[i]? =some s->avs[i]? =some v->aO Fz s v)->
  eR P {fr:=ag.enter fn g body avs .normal,cs:=[],h:=a} fun v a'=>∃Fz':Nat->Option AO,(∀i o,Fz i=some o->Fz' i=some o)/\(∀i o,Fz' i=some o->a'.get i=some o)/\aO Fz' (C.res y) v/\Grow a a'/\
   (∀i o,a.get i=some o->a'.get i=some o)/\(∀i o,a'.get i=some o->i<a'.next)/\ ∀i o,Fz' i=some o->Fz i=some o\/a.next<=i
theorem cA.of {g:FuncId} {C:aK} (h:∀fn body,tab.fns.get g=some fn->fn.body=some body->∀y,C.pre y->∀(C0:Cx) (a:AH) (avs:List AV),C0.ρ=(fun _=>none)->HS tab C0 ⟨0,[]⟩ a->
     (C.args y).length=avs.length->(∀(i:Nat) s v,(C.args y)[i]? =some s->avs[i]? =some v->aO C0.Fz s v)->eR P {fr:=ag.enter fn g body avs .normal,cs:=[],h:=a} (je tab C0 ⟨0,[]⟩ a fun v s=>
       (∀(C':Cx) (a':AH) (av:AV),HS tab C' s.h a'->aJ C' v av->∃Fz':Nat->Option AO,(∀i o,C'.Fz i=some o->Fz' i=some o)/\(∀i o,Fz' i=some o->a'.get i=some o)/\aO Fz' (C.res y) av))):cA P tab g C:=by
 intro fn body hfn hb y hy Fz a avs hfz hwf hlen hav;let h0:AH:=ofFn a.next Fz
 have hg0:∀i,h0.get i=Fz i:=by
   intro i;simp only[h0,qJ];split
   . rfl
   . cases hz:Fz i with
     |none=>rfl
     |some o=>grind
 let C0:Cx:=⟨fun _=>none,Fz⟩
 have H0:HS tab C0 ⟨0,[]⟩ h0:=by
   refine⟨fun p o hp=>by grind [SH.get,look],fun p q o o' I J hp=>by grind,fun i o hi=>by rw[hg0];exact hi,fun p o I hp=>by grind,fun p I hp=>by grind,fun i o hi=>?_⟩;rw[hg0]at hi;exact hwf i o (hfz i o hi)
 have:=h fn body hfn hb y hy C0 h0 avs rfl H0 hlen hav;refine(this.frame (h:=a) (fun i o hi=>by rw[hg0]at hi;grind) rfl).mono ?_;rintro v a2 ⟨a1,⟨sv,s',C',hQ,hsv,hH,hT,hG,_⟩,hn,hle,hw1,hg2⟩;obtain⟨Fz',f1,f2,f3⟩:=hQ C' a1 v hH hsv;refine⟨Fz',fun i o hi=>f1 i o (hT.fz i o hi),fun i o hi=>(hg2 i o).2 (.inl (f2 i o hi)),f3,⟨by rw[hn];omega,fun i o hi=>?_⟩,fun i o hi=>?_,fun i o hi=>?_,fun i o hi=>?_⟩
 . rcases(hg2 i o).1 hi with g|⟨g,_,_⟩
   . rcases hG.old i o g with⟨o0,g1⟩|g1
     . rw[hg0]at g1;grind
     . exact .inr g1
   grind
 . cases hz:Fz i with
   | some o'=>
     have:=hfz i o' hz;rw[hi]at this;cases this;exact(hg2 i o).2 (.inl (f2 i o (f1 i o (hT.fz i o hz))))
   | none=>
     refine(hg2 i o).2 (.inr ⟨hi,by rw[hg0];exact hz,?_⟩)
     cases hz1:a1.get i with
     |none=>rfl
     | some o1=>
       rcases hG.old i o1 hz1 with⟨o0,g1⟩|g1
       . rw[hg0,hz]at g1;cases g1
       . have:=hwf i o hi;have e:h0.next=a.next:=rfl;omega
 . grind
 . have h3:=f2 i o hi;rcases hG.old i o h3 with⟨o0,g1⟩|g1
   . rw[hg0]at g1;have:=f1 i o0 (hT.fz i o0 g1);rw[hi]at this;grind
   . exact .inr g1
end
end
section
universe u v
variable [Inhabited aF]
def PL (Fz:Nat->Option AO) (fs:List SV) (vs:List AV):Prop:=fs.length=vs.length/\ ∀(i:Nat) f v,fs[i]? =some f->vs[i]? =some v->aO Fz f v
theorem PL.nil {Fz:Nat->Option AO}:PL Fz [] []:=⟨rfl,fun i f v h=>by grind⟩
theorem PL.cons {Fz:Nat->Option AO} {f:SV} {v:AV} {fs:List SV} {vs:List AV} (h:aO Fz f v) (t:PL Fz fs vs):PL Fz (f::fs) (v::vs):=by
 refine⟨by simp[t.1],fun i a b ha hb=>?_⟩
 cases i with
 |zero=>grind
 |succ i=>exact t.2 i a b (by grind) (by grind)
theorem PL.split {Fz:Nat->Option AO} {xs fs:List SV} {us vs:List AV} (h:PL Fz (xs++fs) (us++vs)) (hl:xs.length=us.length):PL Fz xs us/\PL Fz fs vs:=by
 refine⟨⟨hl,fun i f v hf hv=>h.2 i f v ?_ ?_⟩,⟨?_,fun i f v hf hv=>h.2 (xs.length+i) f v ?_ ?_⟩⟩
 . rw[AX (Ae.1 hf).1];exact hf
 . rw[AX (Ae.1 hv).1];exact hv
 . have:=h.1;grind
 all_goals grind
theorem Mw {X X':Type} {L:List X} {L':List X'} {enc:X->List SV} {enc':X'->List SV} {Fz:Nat->Option AO} {v:AV} (h:SV.bh X' L' enc'=SV.bh X L enc) (hv:aO Fz (.bh X' L' enc') v):aO Fz (.bh X L enc) v:=h▸hv
section
variable {P:Program} {tab:bm} {cfg:iw} {ta:T AV} {a:AH}
theorem Qi {C:Cx} {s:St} (hF:FS C s.ts ta) (H:HS tab C s.h a) {d:Nat} {o0:SO} (hd:s.h.get d=some o0):∃C',((s.ev (.kill d)).del d).log=s.log++[.kill d]/\Tr C [.kill d] C'/\HS tab C' ((s.ev (.kill d)).del d).h a/\FS C' ((s.ev (.kill d)).del d).ts ta/\
   dM C s.h a C' ((s.ev (.kill d)).del d).h/\dq C (.kill d) C'/\ ∀I,C.ρ d=some I->I.cap.isSome->C'.Fz I.β=a.get I.β:=by
 obtain⟨ts,⟨n,os⟩,log⟩:=s;obtain⟨I,hI,ho⟩:=H.obj d _ hd;obtain⟨C',hT,H',hfb,hρ⟩:=H.freeze (e:= .kill d) hd hI (fun C' h1 h2 _=>TP C' h1 h2);refine⟨C',rfl,hT.tr,H',hF.turns hT,?_,hT,fun J hJ hc=>by rw[hI]at hJ;grind⟩;intro p o J hp hJ hc;by_cases e:p=d
 . subst e;rw[hI]at hJ;cases hJ;obtain⟨b,hb⟩:=(H.at_ hp hI).live hc;grind
 simp_all[St.ev,St.del,SH.aZ,sU]
theorem E0 (htab:cfg.tab=tab):∀(n:Nat) (fs as1:List SV) (vs:List AV) (s:St) (C:Cx) (K:St->Prop),dX cfg n fs as1 s K->aV C as1 vs->FS C s.ts ta->HS tab C s.h a->
  ∃C' new s',s'.log=s.log++new/\Tr C new C'/\HS tab C' s'.h a/\FS C' s'.ts ta/\dM C s.h a C' s'.h/\K s'/\PL C'.Fz fs vs:=by
 intro n;induction n with
 |zero=>intro fs as1 vs s C K h;exact h.elim
 | succ n ih =>
  intro fs as1 vs s C K h hs0 hF H;have lift:∀{f:SV} {fs:List SV} {a0:SV} {as1:List SV} {v:AV} {vs:List AV},dX cfg n fs as1 s K->aV C as1 vs->(∀Fz':Nat->Option AO,(∀i o,C.Fz i=some o->Fz' i=some o)->aO Fz' f v)->
    ∃C' new s',s'.log=s.log++new/\Tr C new C'/\HS tab C' s'.h a/\FS C' s'.ts ta/\dM C s.h a C' s'.h/\K s'/\PL C'.Fz (f::fs) (v::vs):=by
   intro f fs a0 as1 v vs h hs hv;obtain⟨C',new,s',g1,g2,g3,g4,g5,g6,g7⟩:=ih fs as1 vs s C K h hs hF H;exact⟨C',new,s',g1,g2,g3,g4,g5,g6,PL.cons (hv _ g2.fz) g7⟩
  have liftP:∀{f:SV} {fs:List SV} {as1:List SV} {v:AV} {vs:List AV},dX cfg n fs as1 s K->aV C as1 vs->aO C.Fz f v->
    ∃C' new s',s'.log=s.log++new/\Tr C new C'/\HS tab C' s'.h a/\FS C' s'.ts ta/\dM C s.h a C' s'.h/\K s'/\PL C'.Fz (f::fs) (v::vs):=fun h hs hv=>lift (a0:= .any) h hs (fun Fz' hf=>hv.mono hf)
  cases fs with
  | nil=>
   cases as1 with
   |nil=>
    cases vs with
    |nil=>exact⟨C,[],s,by simp,Tr.refl C,H,hF,dM.refl _ _ _,h,PL.nil⟩
    |cons=>have:=hs0.1;grind
   |cons=>grind [dX]
  | cons f fs=>
   cases as1 with
   |nil=>grind [dX]
   | cons x as1=>
    cases vs with
    |nil=>have:=hs0.1;grind
    | cons v vs=>
     obtain⟨hx,hs⟩:=hs0.head;simp only[dX]at h;split at h
     . exact liftP h hs (.any _)
     . obtain⟨rfl,h⟩:=h;rw[oR hx];exact liftP h hs (.bool _)
     . obtain⟨h1,h2,h3⟩:=cO h;have h1:=Bw h1;subst h1;rw[jN hx,h2];exact liftP h3 hs (.int _ _)
     . obtain⟨rfl,h⟩:=h;rw[iH hx];exact liftP h hs (.str _)
     . exact liftP h hs (lN hx rfl)
     . obtain⟨rfl,h⟩:=h;exact liftP h hs (lN hx rfl)
     . exact liftP h hs (lN hx rfl)
     . exact liftP h hs (lN hx rfl)
     . exact liftP h hs (lN hx rfl)
     . obtain⟨h1,h⟩:=h;exact liftP h hs (Mw h1 (lN hx rfl))
     . obtain⟨rfl,h⟩:=h;rw[oT hx];exact liftP h hs (.bP rfl (.inl rfl))
     . rename_i X L enc b;split at h
       . rename_i X' L' enc' t hb;obtain⟨h1,h⟩:=h;obtain⟨C1,e1,e2,e3,e4,e5,e6⟩:=l3 hF H hb;have hs1:aV C1 (fE (.ft b X' L' enc') as1) vs:=by
           rw[oX];refine⟨by simp[hs.1],fun i q w hq hw=>?_⟩;rw[AE]at hq;obtain⟨q0,hq0,rfl⟩:=AU.1 hq;exact e2.val q0 w (hs.2 i q0 w hq0 hw)
         obtain⟨C',new,s',g1,g2,g3,g4,g5,g6,g7⟩:=ih fs _ vs _ C1 K h hs1 e4 e3;exact⟨C',_,s',by rw[g1,e1,BH],e2.trans g2,g3,g4,e6.trans g5 g2.fz,g6,PL.cons ((Mw h1 (e5 v hx)).mono g2.fz) g7⟩
       grind
     . rename_i X L enc b off m c;split at h
       . rename_i cs e hb;split at h
         . rename_i r hr;rw[htab]at hr;obtain⟨hck,h⟩:=cO h;simp only[Ac,A0]at hck;obtain⟨⟨⟨hr0,hmc⟩,hle⟩,hpu⟩:=hck;have hr0:r≠0:=fun e=>by simp_all
           have hmc:=Ak hmc;have hle:=Ak hle;obtain⟨h1,h⟩:=h;obtain⟨C1,e1,e2,e3,e4,e5,e6,e7⟩:=Qi hF H hb;have hs1:aV C1 (fE (.kill b) as1) vs:=hs.turns e6;obtain⟨C',new,s',g1,g2,g3,g4,g5,g6,g7⟩:=ih fs _ vs _ C1 K h hs1 e4 e3;refine⟨C',_,s',by rw[g1,e1,BH],e2.trans g2,g3,g4,e5.trans g5 g2.fz,g6,PL.cons ?_ g7⟩
           cases hx with
           |pure hx=>cases hx
           | sl hI=>
            rename_i I;obtain⟨hcap,ca,sz,k1,k2,k3⟩:=H.at_ hb hI;have hszr:r=sz:=by rw[hr]at k3;grind
            subst hszr;have hfz:=e7 I hI hcap;rw[k1]at hfz;have hLm:L.length=m:=by
             have:=Aj List.length h1;rw[uq]at this;grind
            have hsub:=(k2.drop off).take (m*r);have hT:Told C.Fz X L enc r ((ca.drop off).take (m*r)):=zQ hr0 hsub (by simp;omega) hpu hLm (fun i x q hx hq=>by
             rw[h1,AE,hx]at hq;grind)
            subst hLm;refine aO.mono g2.fz (ya I.β off _ ca e _ false .rw _ rfl (.of hfz) (by omega) (by rw[<-k2.1];omega) hT.each hmc ?_);intro i x j w hx hw;obtain⟨u,q1,q2⟩:=hT.cell i x j w hx hw;refine⟨u,?_,q2.mono e2.fz⟩;rw[A4]at q1;simp_all[Dh]
         grind
       grind
     . obtain⟨h1,h⟩:=cO h;have h1:=Af h1;obtain⟨us,rfl,hu⟩:=nP hx;obtain⟨C',new,s',g1,g2,g3,g4,g5,g6,g7⟩:=ih _ _ (us++vs) s C K h (hu.append hs) hF H;obtain⟨q1,q2⟩:=g7.split (h1.trans hu.1);exact⟨C',new,s',g1,g2,g3,g4,g5,g6,PL.cons (.agg q1.1 q1.2) q2⟩
     . rename_i f xs us g ys ws;obtain⟨h1,h'⟩:=cO h;clear h;have h:=h';simp only[Ac]at h1;obtain⟨⟨h0,h1⟩,h2⟩:=h1;have h0:=Af h0;have h1:=Af h1;have h2:=Af h2;subst h0;have hfn:∃y' w',v= .fn (.func f) y' w'/\aV C ys y'/\aV C ws w':=by
         cases hx with
         | pure hx=>cases hx with
           |fn k1 k2 k3 k4=>exact⟨_,_,rfl,⟨k1,fun i q r a b=> .pure (k3 i q r a b)⟩,⟨k2,fun i q r a b=> .pure (k4 i q r a b)⟩⟩
         |fn k1 k2 k3 k4=>exact⟨_,_,rfl,⟨k1,k3⟩,⟨k2,k4⟩⟩
       obtain⟨y',w',rfl,k1,k2⟩:=hfn;obtain⟨C',new,s',g1,g2,g3,g4,g5,g6,g7⟩:=ih _ _ (y'++(w'++vs)) s C K h (k1.append (k2.append hs)) hF H;obtain⟨q1,q2⟩:=g7.split (h1.trans k1.1);obtain⟨q2,q3⟩:=q2.split (h2.trans k2.1);exact⟨C',new,s',g1,g2,g3,g4,g5,g6,PL.cons (.fn q1.1 q2.1 q1.2 q2.2) q3⟩
     grind
end
end
section
universe u v
variable [Inhabited aF]
theorem nG {α:Type u}:∀{l:List α} {K:List α->Prop},kv l K->K l:=by
 intro l;induction l with
 |nil=>intro K h;exact h
 |cons x l ih=>intro K h;exact ih (K:=fun l'=>K (x::l')) h
theorem Uz {v:SV} {K:SV->Prop} (h:Fv v K):K v:=by
 cases v<;>simp only[Fv]at h<;>first|exact h|exact nG h|grind [nG]
theorem Uy {o:SO} {K:SO->Prop} (h:Na o K):K o:=by
 cases o with
 |cells cs t=>exact nG (K:=fun cs=>K (.cells cs t)) h
 |arr X L enc t=>exact h
theorem JS {h:SH} {K:SH->Prop} (hh:vb h K):K h:=by
 obtain⟨n,os⟩:=h;simp only[vb]at hh;grind [Uy]
theorem wU {α:Type}:∀{t:T α} {K:T α->Prop},o6 t K->K t:=by
 intro t;induction t with
 |e=>intro K h;exact h
 |n v l r ihl ihr=>
  grind [o6]
section
variable {P:Program} {tab:bm} {cfg:iw} {rec:SM->(SV->St->Prop)->Prop} {C:Cx} {s:St} {ta:T AV} {a:AH}
def o7 (P:Program) (tab:bm) (rec:SM->(SV->St->Prop)->Prop):Prop:=
 ∀(f:FuncId) (fn:Func) (body:Code) (args:List SV) (h:SH) (a:AH) (C:Cx) (avs:List AV) (Q:SV->St->Prop),tab.fns.get f=some fn->fn.body=some body->
  rec ⟨f,Nat.max fn.ntmps args.length,h.next,[.code body],⟨Fr.of args 0,h,[]⟩⟩ Q->HS tab C h a->aV C args avs->eR P {fr:=ag.enter fn f body avs .normal,cs:=[],h:=a} (je tab C h a Q)
theorem Vy (htab:cfg.tab=tab) (hrec:o7 P tab rec) (hcon:∀g C,cfg.gL g=some C->cA P tab g C) {f:FuncId} {args:List SV} {avs:List AV} {K:SV->St->Prop} (h:FL cfg rec f args s K) (hF:FS C s.ts ta) (H:HS tab C s.h a) (hs:aV C args avs):
   ∃fn body,tab.fns.get f=some fn/\fn.body=some body/\eR P {fr:=ag.enter fn f body avs .normal,cs:=[],h:=a} fun v a'=>a.next<=a'.next/\ ∃sv s',K sv s'/\pH tab C s ta a sv s' v a':=by
 unfold FL at h;rw[htab]at h;split at h
 . rename_i fn hfn;split at h
   . rename_i body hb;refine⟨fn,body,hfn,hb,?_⟩;split at h
     . rename_i Cn hCn;obtain⟨y,h⟩:=h;obtain⟨C1,new,s1,g1,g2,g3,g4,g5,⟨hpre,hk⟩,g7⟩:=E0 htab 1000 _ _ _ _ _ _ h hs hF H;refine(hcon f Cn hCn fn body hfn hb y hpre C1.Fz a avs g3.fz g3.wf g7.1 g7.2).mono ?_;rintro v a' ⟨Fz',f1,f2,f3,f4,f5,f6,f7⟩;refine⟨f4.next,_,s1,hk,⟨⟨C1.ρ,Fz'⟩,new,g1,?_, .pure f3,?_,?_,?_⟩,f4⟩
       . have hle:C1.le ⟨C1.ρ,Fz'⟩:=⟨fun _ _ h=>h,f1⟩;have:=g2.trans hle.tr;grind
       . have hle:C1.le ⟨C1.ρ,Fz'⟩:=⟨fun _ _ h=>h,f1⟩;refine⟨fun p o hp=>?_,g3.inj,f2,fun p o I hp hI hc=>?_,g3.lt,f6⟩
         . obtain⟨I,hI,ho⟩:=g3.obj p o hp;refine⟨I,hI,?_⟩;have ho':=ho.le hle;by_cases hc:I.cap.isSome
           . obtain⟨b,hb'⟩:=ho.live hc;exact ho'.congr ((f5 _ _ hb').trans hb'.symm)
           . cases o with
             |cells cs t=>exact absurd ho.1 hc
             | arr X L enc t=>
               obtain⟨q1,q2,q3,q4,q5⟩:=ho';refine⟨q1,q2,q3,q4,?_⟩;grind
         . show Fz' I.β=none
           cases hz:Fz' I.β with
           |none=>rfl
           | some b=>
             rcases f7 _ _ hz with hz1|hz1
             . have:=g3.dj p o I hp hI hc;rw[hz1]at this;omega
             . obtain⟨b',hb'⟩:=(g3.at_ hp hI).live hc;have:=g3.wf _ _ hb';omega
       . have hle:C1.le ⟨C1.ρ,Fz'⟩:=⟨fun _ _ h=>h,f1⟩;grind [FS.le]
       . intro p o I hp hI hc _;obtain⟨b,hb'⟩:=(H.at_ hp hI).live hc;refine⟨by rw[hb'];grind,?_⟩;rcases g5 p o I hp hI hc with h1|⟨b,_,h2⟩
         all_goals grind
     . obtain⟨ts,hh,log⟩:=s;refine(hrec f fn body args hh a C avs _ hfn hb h H hs).mono ?_;rintro v a' ⟨sv,s',C',hk,q1,q2,q3,q4,q5⟩;obtain⟨ts',h',log'⟩:=s';exact⟨q4.next,sv,_,hk,⟨C',log',rfl,q3,q1,q2,hF.log q3,q5⟩,q4⟩
   grind
 grind
theorem KM (htab:cfg.tab=tab) (hrec:o7 P tab rec) (hcon:∀g C,cfg.gL g=some C->cA P tab g C) {o:Oper} {K:SV->St->Prop} (h:yV cfg rec s o K) (hF:FS C s.ts ta) (H:HS tab C s.h a):
   iy P tab ta a o fun v a'=>∃sv s',K sv s'/\pH tab C s ta a sv s' v a':=by
 have hsop:mj cfg.tab cfg.view s o K->iy P tab ta a o fun v a'=>∃sv s',K sv s'/\pH tab C s ta a sv s' v a':=by
   intro h;rw[htab]at h;obtain⟨sv,s',v,a',h1,h2,h3⟩:=qzP hF H h;exact .inl ⟨v,a',h2,h3.grow.next,sv,s',h1,h3⟩
 unfold yV at h;split at h
 . rename_i c hc;split at h
   . rename_i f hf;obtain⟨args,h1,h2⟩:=dx h;obtain⟨sf,h3,h4⟩:=dx h2;obtain⟨avs,g1,g2⟩:=qP hF h1;obtain⟨vf,g3,g4⟩:=mf hF h3;split at h4
     . rename_i g first captured;have hfn:∃us ws,vf= .fn (.func g) us ws/\aV C first us/\aV C captured ws:=by
        cases g4 with
        |pure hx=>cases hx with
         |fn k1 k2 k3 k4=>exact⟨_,_,rfl,⟨k1,fun i q r a b=> .pure (k3 i q r a b)⟩,⟨k2,fun i q r a b=> .pure (k4 i q r a b)⟩⟩
        |fn k1 k2 k3 k4=>exact⟨_,_,rfl,⟨k1,k3⟩,⟨k2,k4⟩⟩
       obtain⟨us,ws,rfl,k1,k2⟩:=hfn;obtain⟨fn,body,q1,q2,q3⟩:=Vy htab hrec hcon h4 hF H ((k1.append g2).append k2);exact .inr ⟨c,f,g,us,ws,avs,fn,body,hc,hf,g3,g1,q1,q2,q3⟩
     grind
   grind
 grind
theorem Co {ops:Array Oper} {o:Oper} {K:Bool->St->Prop} (h:ve ops o s K) (hF:FS C s.ts ta):∃b s',K b s'/\wanted ops o ta= .ok b/\FS C s'.ts ta/\s'.h=s.h/\s'.log=s.log:=by
 unfold ve at h;unfold wanted;split at h
 . grind
 . rename_i j w hg;rw[hg];simp only;obtain⟨ts,hh,log⟩:=s;split at h
   . rename_i d hd;simp only at h;rw[hd];simp only[DD];have lit:∀p:Bool,look ts d=some (.bool p)->ta.get d=some (.bool p):=by
       intro p hp;have h1:=hF d _ hp;have h2:=oR h1
       cases hg:ta.get d with
       |none=>rw[hg]at h2;grind
       |some v=>rw[hg]at h2;grind
     have putb:∀p:Bool,ta.get d=some (.bool p)->FS C ((d, .bool p)::ts) ta:=by
       intro p hp t q hq;rw[kJ]at hq;split at hq
       . rename_i e
         cases hq;rw[e,hp];exact .pure (.bool p)
       . exact hF t q hq
     split at h
     . rename_i p hp;have hta:=lit p hp;rw[hta];rcases yz h with⟨rfl,h⟩|⟨rfl,h⟩
       . exact⟨w,_,h,by cases w<;>rfl,putb true hta,rfl,rfl⟩
       . exact⟨!w,_,h,by cases w<;>rfl,putb false hta,rfl,rfl⟩
     . rename_i cs hp;have h1:=hF d _ hp;grind [yo]
     grind
   grind
def gO (nt:Nat) (ta:T AV) (d:Option Tmp) (v:AV):T AV:=match d with|some d=>bif Nat.blt d nt then ta.set d (some v)else ta|none=>ta
theorem sV {nt:Nat} {d:Option Tmp} {sv:SV} {v:AV} {K:St->Prop} (h:jJ nt s d sv K) (hF:FS C s.ts ta) (hv:aJ C sv v):
  ∃s',K s'/\FS C s'.ts (gO nt ta d v)/\s'.h=s.h/\s'.log=s.log:=by
 obtain⟨ts,hh,log⟩:=s;unfold jJ at h
 cases d with
 |none=>exact⟨_,JS (K:=fun h=>K ⟨ts,h,log⟩) h,hF,rfl,rfl⟩
 |some d=>
  simp only[gO]at h⊢
  cases hb:Nat.blt d nt
  . rw[hb]at h;grind
  . rw[hb]at h;have h:=JS (K:=fun h=>K ⟨(d,sv)::ts,h,log⟩) (Uz (K:=fun v=>vb hh fun h=>K ⟨(d,v)::ts,h,log⟩) h);exact⟨_,h,hF.put hv,rfl,rfl⟩
end
end
section
universe u v
variable [Inhabited aF]
mutual
theorem H4 (e:Ev):∀(s:SV) (n:Nat),s.lt n=true->n<=e.id->s.on e=s
 | .bool b,n,_,_=>by simp[SV.on]
 | .int k m,n,_,_=>by simp[SV.on]
 | .str s,n,_,_=>by simp[SV.on]
 | .bj,n,_,_=>by simp[SV.on]
 | .wp _,n,_,_=>by simp[SV.on]
 | .ptr b off,n,h,he=>by
  simp only[SV.lt,BT]at h
  cases e<;>simp only[SV.on,Ev.id]at* <;>first|rfl|(rw[gp (by omega)];rfl)
 | .cu b i off,n,h,he=>by
  simp only[SV.lt,BT]at h
  cases e<;>simp only[SV.on,Ev.id]at* <;>first|rfl|(rw[gp (by omega)];rfl)
 | .cU cs off,n,_,_=>by simp[SV.on]
 | .nils,n,_,_=>by simp[SV.on]
 | .sl b off l c,n,h,he=>by
  simp only[SV.lt,BT]at h
  cases e<;>simp only[SV.on,Ev.id]at* <;>first|rfl|(rw[gp (by omega)];rfl)
 | .own b,n,h,he=>by
  simp only[SV.lt,BT]at h
  cases e<;>simp only[SV.on,Ev.id]at* <;>first|rfl|(rw[gp (by omega)];rfl)
 | .bh X L enc,n,_,_=>by simp[SV.on]
 | .bw,n,_,_=>by simp[SV.on]
 | .map b,n,_,_=>by simp[SV.on]
 | .bB,n,_,_=>by simp[SV.on]
 | .fn f xs ys,n,h,he=>by
  simp only[SV.lt,Ac]at h;simp only[SV.on,vI e xs n h.1 he,vI e ys n h.2 he]
 | .agg cs,n,h,he=>by
  simp only[SV.lt]at h;simp only[SV.on,vI e cs n h he]
 | .bA cs,n,h,he=>by
  simp only[SV.lt]at h;simp only[SV.on,vI e cs n h he]
 | .any,n,_,_=>by simp[SV.on]
theorem vI (e:Ev):∀(l:List SV) (n:Nat),ib n l=true->n<=e.id->fE e l=l
 |[],n,_,_=>by simp[fE]
 |v::l,n,h,he=>by
  simp only[ib,Ac]at h;simp only[fE,H4 e v n h.1 he,vI e l n h.2 he]
end
theorem Lv:∀(log:List Ev) (s:SV) (n:Nat),s.lt n=true->(∀e∈log,n<=e.id)->jB log s=s:=by
 intro log;induction log with
 |nil=>intro s n _ _;rfl
 |cons e l ih=>
  grind [jB,H4]
theorem ef {n:Nat}:∀{l:List SV},ib n l=true↔∀s∈l,s.lt n=true:=by
 intro l;induction l with
 |nil=>simp[ib]
 |cons v l ih=>grind [ib]
theorem xK {n:Nat} {l:List SV} (h:ib n l=true) {i:Nat} {s:SV} (hs:l[i]? =some s):s.lt n=true:=ef.1 h s (Bv hs)
open Classical in
noncomputable def Cx.cut (C:Cx) (n:Nat):Cx:={C with ρ:=fun p=>if p<n then C.ρ p else none}
theorem nE (C:Cx) {n p:Nat} (h:p<n):(C.cut n).ρ p=C.ρ p:=by grind [Cx.cut]
theorem aJ.cut {C:Cx} {n:Nat} {s:SV} {v:AV} (h:aJ C s v) (hl:s.lt n=true):aJ (C.cut n) s v:=by
 induction h with
 |pure h=>exact .pure h
 |ptr h=>grind [SV.lt,Nat.blt_eq,ptr,nE]
 |cu h hc=>grind [SV.lt,Nat.blt_eq,cu,nE]
 |eo h hc=>grind [SV.lt,Nat.blt_eq,eo,nE]
 |own h hc=>grind [SV.lt,Nat.blt_eq,own,nE]
 |sl h=>grind [SV.lt,Nat.blt_eq,sl,nE]
 |fn h1 h2 _ _ ih3 ih4=>
  grind [SV.lt,fn,xK]
 |agg h1 _ ih=>grind [SV.lt,agg,xK]
 |bA h1 _ ih=>grind [SV.lt,bA,xK]
theorem aO.low {Fz:Nat->Option AO} {n:Nat} {s:SV} {v:AV} (h:aO Fz s v):s.lt n=true:=by
 induction h with
 |fn h1 h2 _ _ ih3 ih4=>
  simp only[SV.lt,Ac];constructor
  . rw[ef];intro s hs;obtain⟨i,hi⟩:=Ba.1 hs;exact ih3 i s _ hi (Ag (by rw[<-h1];grind))
  . rw[ef];intro s hs;obtain⟨i,hi⟩:=Ba.1 hs;exact ih4 i s _ hi (Ag (by rw[<-h2];grind))
 |agg h1 _ ih=>
  simp only[SV.lt];rw[ef];intro s hs;obtain⟨i,hi⟩:=Ba.1 hs;exact ih i s _ hi (Ag (by rw[<-h1];grind))
 |bA h1 _ ih=>
  simp only[SV.lt];rw[ef];intro s hs;obtain⟨i,hi⟩:=Ba.1 hs;exact ih i s _ hi (Ag (by rw[<-h1];grind))
 |_=>rfl
theorem aJ.low {C:Cx} {n:Nat} (hC:∀p I,C.ρ p=some I->p<n) {s:SV} {v:AV} (h:aJ C s v):s.lt n=true:=by
 induction h with
 |pure h=>exact h.low
 |ptr h=>simp_all[SV.lt]
 |cu h hc=>simp_all[SV.lt]
 |eo h hc=>simp_all[SV.lt]
 |own h hc=>simp_all[SV.lt]
 |sl h=>simp_all[SV.lt]
 |fn h1 h2 _ _ ih3 ih4=>
  simp only[SV.lt,Ac];constructor
  . rw[ef];intro s hs;obtain⟨i,hi⟩:=Ba.1 hs;exact ih3 i s _ hi (Ag (by rw[<-h1];grind))
  . rw[ef];intro s hs;obtain⟨i,hi⟩:=Ba.1 hs;exact ih4 i s _ hi (Ag (by rw[<-h2];grind))
 |agg h1 _ ih=>
  simp only[SV.lt];rw[ef];intro s hs;obtain⟨i,hi⟩:=Ba.1 hs;exact ih i s _ hi (Ag (by rw[<-h1];grind))
 |bA h1 _ ih=>
  simp only[SV.lt];rw[ef];intro s hs;obtain⟨i,hi⟩:=Ba.1 hs;exact ih i s _ hi (Ag (by rw[<-h1];grind))
section
variable {P:Program} {tab:bm} {cfg:iw}
structure jc (fr:ag) (fn:FuncId) (nt:Nat):Prop where
 fn:fr.fn=fn
 nt:fr.nt=nt
 mode:fr.mode= .run
 defers:fr.defers=[]
 kind:fr.kind= .normal
 round:fr.round=none
theorem jc.todo {fr:ag} {fn:FuncId} {nt:Nat} (h:jc fr fn nt) (ts:T AV) (k:List bF):jc {fr with tmps:=ts,todo:=k} fn nt:=⟨h.fn,h.nt,h.mode,h.defers,h.kind,h.round⟩
def SI (tab:bm) (C0:Cx) (h0:SH) (a0:AH) (ta:T AV) (a:AH) (s:St):Prop:=∃C,FS C s.ts ta/\HS tab C s.h a/\Tr C0 s.log C/\Grow a0 a/\cY C0 h0 a0 s.log C s.h a
inductive TS (HO:(Fr->SH->List Ev->Prop)->Code->List bF->Prop):List eE->List bF->Prop
 |nil:TS HO [] []
 |code {k:List eE} {k':List bF} (c:Code) (h:TS HO k k'):TS HO (.code c::k) (.code c::k')
 |inBlock {k:List eE} {k':List bF} (id:Nat) (h:TS HO k k'):TS HO (.inBlock id::k) (.inBlock id::k')
 |inLoop {k:List eE} {k':List bF} (b:Code) (h:TS HO k k'):TS HO (.inLoop b::k) (.inLoop b::k')
 |inScope {k:List eE} {k':List bF} (b:Code) (h:TS HO k k'):TS HO (.inScope b::k) (.inScope b::k')
 |inRegion {k:List eE} {k':List bF} (ops:Array Oper) (l:List Nat) (h:TS HO k k'):TS HO (.inRegion ops l::k) (.inRegion ops l::k')
 |head {k:List eE} {k':List bF} (iS:Fr->SH->List Ev->Prop) (b:Code) (h:TS HO k k') (ho:HO iS b k'):TS HO (.head iS::k) (.inLoop b::k')
theorem TS.exit {HO:(Fr->SH->List Ev->Prop)->Code->List bF->Prop} {id:Nat}:∀{k:List eE} {k':List bF} {k1:List eE},TS HO k k'->od id k=some k1->∃k1',Am.exitTo id k'=some k1'/\TS HO k1 k1':=by
 intro k k' k1 h;induction h with
 |nil=>intro h;cases h
 |inBlock j h ih=>
  grind [od,Am.exitTo]
 |code c h ih=>grind [od,Am.exitTo]
 |inLoop b h ih=>grind [od,Am.exitTo]
 |inScope b h ih=>grind [od,Am.exitTo]
 |inRegion ops l h ih=>grind [od,Am.exitTo]
 |head iS b h ho ih=>grind [od,Am.exitTo]
theorem YK (htab:cfg.tab=tab) {C:Cx} {s:St} {ta:T AV} {a:AH} (hF:FS C s.ts ta) (H:HS tab C s.h a):∀{l:List ResultVar} {K:List SV->Prop},mR cfg s l K->∃vs svs,Am.results tab a ta l= .ok vs/\aV C svs vs/\K svs:=by
 intro l;induction l with
 |nil=>intro K h;exact⟨[],[],rfl,aV.nil,h⟩
 | cons x l ih=>
  intro K h
  cases x with
  |tmp t=>
   obtain⟨v,h1,h2⟩:=dx h;obtain⟨vs,svs,g1,g2,g3⟩:=ih h2;refine⟨_,_,?_,aV.cons (hF t v h1) g2,g3⟩;grind [Am.results,rb]
  | cell b t=>
   simp only[mR]at h;rw[htab]at h;obtain⟨p,h1,h2⟩:=dx h;obtain⟨bb,off,u,sv,h3,h4,h5,h6⟩:=CU H (hF b p h1) h2;obtain⟨vs,svs,g1,g2,g3⟩:=ih h6;refine⟨_,_,?_,aV.cons h5 g2,g3⟩;simp only[Am.results]
   cases hg:ta.get b with
   |none=>rw[hg]at h3;grind
   |some w=>
    rw[hg]at h3;grind [rb]
theorem ME (pr:fU P tab) (htab:cfg.tab=tab) {fn:FuncId} {nt:Nat} {s:St} {Q:SV->St->Prop} {C0:Cx} {h0:SH} {a0 a:AH} {fr:ag} (h:pf cfg fn s Q) (hf:jc fr fn nt) (hS:SI tab C0 h0 a0 fr.tmps a s)
   (ht:fr.todo=[]\/ ∃k,fr.todo= .code .ret::k):eR P {fr,cs:=[],h:=a} (je tab C0 h0 a0 Q):=by
 obtain⟨C,hF,H,hT,hG,hK⟩:=hS;have hstep:Am.step tab sub0 {fr,cs:=[],h:=a}= .ok (.next {fr:={fr with mode:= .returning},cs:=[],h:=a}):=by
   rcases ht with ht|⟨k,ht⟩
   . simp only[Am.step,hf.mode,ht,Am.leave,hf.round]
   . simp only[Am.step,hf.mode,ht,Am.leave,hf.round]
 refine eR.next pr hstep ?_;unfold pf at h;rw[htab]at h;split at h
 . rename_i func hfn;obtain⟨vs,svs,g1,g2,g3⟩:=YK htab hF H h;have hdone:Am.step tab sub0 {fr:={fr with mode:= .returning},cs:=[],h:=a}= .ok (.done (Am.result vs) a):=by
     simp only[Am.step,Am.unwind,hf.defers,hf.fn,hfn];rw[rb g1];simp only[Am.doReturn,hf.kind]
   refine eR.done pr hdone ⟨_,s,C,g3,?_,H,hT,hG,hK⟩
   cases svs with
   | nil=>cases vs with
     |nil=>exact .bA g2.1 g2.2
     |cons=>have:=g2.1;grind
   | cons x svs=>cases vs with
     |nil=>have:=g2.1;grind
     | cons v vs=>cases svs with
      |nil=>cases vs with
       |nil=>exact g2.head.1
       |cons=>have:=g2.1;grind
      |cons y svs=>cases vs with
       |nil=>have:=g2.1;grind
       |cons w vs=>exact .bA g2.1 g2.2
 grind
end
end
section
universe u v
variable [Inhabited aF]
section
variable {P:Program} {tab:bm} {cfg:iw}
theorem cY.trans {C0 C C':Cx} {h0 h h':SH} {a0 a a':AH} {l m:List Ev} (k:cY C0 h0 a0 l C h a) (k':cY C h a m C' h' a') (hf:∀i o,C.Fz i=some o->C'.Fz i=some o) (H:∀i o,C.Fz i=some o->a.get i=some o) (H':∀i o,C'.Fz i=some o->a'.get i=some o):
   cY C0 h0 a0 (l++m) C' h' a':=by
 intro p o I hp hI hc hn;rw[Im]at hn;obtain⟨g1,g2⟩:=k p o I hp hI hc (fun e=>hn (EG _ e));rcases g2 with⟨o',h1,h2⟩|⟨b,h1⟩
 . obtain⟨g3,g4⟩:=k' p o' I h1 h2 hc (fun e=>hn (DO _ e));grind
 grind
theorem SI.res {C0 C:Cx} {h0:SH} {a0 a a':AH} {ta:T AV} {s s':St} {sv:SV} {v:AV} (H:HS tab C s.h a) (hT:Tr C0 s.log C) (hG:Grow a0 a) (hK:cY C0 h0 a0 s.log C s.h a) (hr:pH tab C s ta a sv s' v a'):
  ∃C',aJ C' sv v/\FS C' s'.ts ta/\HS tab C' s'.h a'/\Tr C0 s'.log C'/\Grow a0 a'/\cY C0 h0 a0 s'.log C' s'.h a':=by
 obtain⟨⟨C',new,e1,e2,e3,e4,e5,e6⟩,e7⟩:=hr;exact⟨C',e3,e5,e4,by rw[e1];exact hT.trans e2,hG.trans e7,by rw[e1];exact hK.trans e6 e2.fz H.fz e4.fz⟩
theorem fR.mono {ops:Array Oper} {nt:Nat} {G G':DS->Prop} (hg:∀s,G s->G' s):∀n s,fR P tab ops nt G n s->fR P tab ops nt G' n s:=by
 intro n;induction n with
 |zero=>intro s h;exact h
 |succ n ih=>
  intro s h;obtain⟨s1,h1,h2⟩:=h;refine⟨s1,h1,h2.imp (fun x=>⟨x.1,hg _ x.2⟩) (fun⟨c,o,q1,q2,q3,q4⟩=>⟨c,o,q1,q2,q3,?_⟩)⟩;rcases q4 with⟨v,h1,k1,k2,k3,k4⟩|⟨c',f,g,first,captured,args,fn,body,k1,k2,k3,k4,k5,k6,k7⟩
  . exact .inl ⟨v,h1,k1,k2,k3,ih _ k4⟩
  . exact .inr ⟨c',f,g,first,captured,args,fn,body,k1,k2,k3,k4,k5,k6,k7.mono fun v h1 ⟨a,b,c⟩=>⟨a,b,ih _ c⟩⟩
def EX (P:Program) (tab:bm) (cfg:iw) (rec:SM->(SV->St->Prop)->Prop):Prop:=
 ∀(ops:Array Oper) (nt n:Nat) (s:St) (K:St->Prop) (ta:T AV) (a:AH) (C:Cx),yU cfg rec ops nt n ⟨s, .e,[],[]⟩ K->FS C s.ts ta->HS tab C s.h a->
  fR P tab ops nt (fun sF=>∃s' C' new,K s'/\s'.log=s.log++new/\Tr C new C'/\HS tab C' s'.h sF.h/\FS C' s'.ts sF.ts/\Grow a sF.h/\cY C s.h a new C' s'.h sF.h) n {ts:=ta,h:=a,aM:= .e,reads:=[],aC:=[]}
theorem LP {C:Cx} {s:St} {ta:T AV} {c:Operand} {p:Bool} (hF:FS C s.ts ta) (hc:fy s.ts c=some (.bool p)):FS C (fixC s c p).ts ta/\(fixC s c p).h=s.h/\(fixC s c p).log=s.log:=by
 obtain⟨ts,h,log⟩:=s
 cases c with
 |tmp t=>
  refine⟨?_,rfl,rfl⟩;intro t' q hq;simp only[fixC]at hq;rw[kJ]at hq;split at hq
  . rename_i e
    cases hq;rw[e];exact hF t _ hc
  . exact hF t' q hq
 |const v=>exact⟨hF,rfl,rfl⟩
 |func f=>exact⟨hF,rfl,rfl⟩
 |global g=>exact⟨hF,rfl,rfl⟩
theorem M6 {C:Cx} {v e:SV} {av:AV} (h:wi v e) (hv:aJ C v av):aJ C e av:=by
 unfold wi at h;split at h
 . rw[<-h];exact hv
 . grind [cO]
 . rw[<-h];exact hv
 . grind [cO,Nat.eq_of_beq_eq_true]
 . grind [cO,Nat.eq_of_beq_eq_true]
 . exact hv
 . exact hv
 . exact hv
 . exact hv
 . rw[oT hv];exact .pure (.bP (by rw[h];rfl) (.inl rfl))
 . exact .pure (.any _)
 grind
theorem YB {C:Cx}:∀{l m:List SV} {vs:List AV},qp l m->aV C l vs->aV C m vs:=by
 intro l;induction l with
 |nil=>intro m vs h hs;cases m with
  |nil=>exact hs
  |cons=>exact h.elim
 | cons a l ih=>intro m vs h hs;cases m with
  |nil=>exact h.elim
  |cons b m=>
   cases vs with
   |nil=>have:=hs.1;grind
   |cons v vs=>exact aV.cons (M6 h.1 hs.head.1) (ih h.2 hs.head.2)
theorem V0 {ts:Fr} {h eh:SH}:∀{l:Fr},kO ts h eh l->∀{t:Nat} {e:SV},look l t=some e->∃v,look ts t=some v/\qt h eh v e:=by
 intro l;induction l with
 |nil=>intro _ t e h;cases h
 |cons x l ih=>
  obtain⟨k,e0⟩:=x;intro hf t e hl;rw[kJ]at hl;split at hl
  . rename_i ek
    cases hl;rw[ek];exact dx hf.1
  . exact ih hf.2 hl
theorem Kr {α:Type u}:∀{l:List (Nat×α)} {t:Nat} {v:α},look l t=some v->(t,v)∈l:=by
 intro l;induction l with
 |nil=>intro t v h;cases h
 |cons x l ih=>
  grind [kJ]
theorem VZ {h e:SH}:∀{n:Nat},F8 tab h e n->∀p,p<n->tQ tab h.next p (h.get p) (e.get p):=by
 intro n;induction n with
 |zero=>omega
 |succ n ih=>
  intro hf p hp;by_cases e:p=n
  . subst e;exact hf.1
  . exact ih hf.2 p (by omega)
theorem SI.ft {C0:Cx} {h0:SH} {a0 a:AH} {ta:T AV} {s:St} (hS:SI tab C0 h0 a0 ta a s) (l:List SV):SI tab C0 h0 a0 ta a (iF l s):=by
 obtain⟨C,hF,H,hT,hG,hK⟩:=hS;obtain⟨C',new,e,t,H',F',st,_⟩:=JU l s C hF H;exact⟨C',F',H',by rw[e];exact hT.trans t,hG,by rw[e];exact hK.trans (st.bn new) t.fz H.fz H'.fz⟩
open Classical in
theorem M9 (htab:cfg.tab=tab) {C0 C:Cx} {h0:SH} {a0 a:AH} {ta:T AV} {s:St} {base:Nat} (hC0:∀p I,C0.ρ p=some I->p<base) {log:List Ev} (hnew:(∀e∈s.log,base<=e.id)/\ ∀e∈log,base<=e.id) (hF:FS C s.ts ta) (H:HS tab C s.h a) (hT:Tr C0 s.log C) (hG:Grow a0 a) (hK:cY C0 h0 a0 s.log C s.h a)
   (hb0:∀p o,h0.get p=some o->p<base) {e:Fr×SH} (h1:kO s.ts s.h e.2 e.1) (h2:mB cfg.tab s.h e.2) (hl:low e.1 e.2=true) (hbn:base<=e.2.next) (hst:stay base s.h e.2=true):SI tab C0 h0 a0 ta a ⟨e.1,e.2,log⟩:=by
 obtain⟨ts,eh⟩:=e;simp only at h1 h2 hl hbn hst⊢;unfold low at hl;simp only[Ac,AB]at hl;obtain⟨hl1,hl2⟩:=hl;obtain⟨hnow,hlog⟩:=hnew;rw[htab]at h2;have hfit:=VZ h2;have hlow:∀p o,eh.get p=some o->p<eh.next/\o.lt eh.next=true:=by
   intro p o hp;unfold SH.get at hp;split at hp
   . rename_i o' ho'
     cases hp;have:=hl2 _ (Kr ho');simp_all
   grind
 let szOf (t:TypeId):Nat:=(tab.siz.get t).getD 0
 let Cy:Cx:=⟨fun p=>if p<eh.next then(match C.ρ p with
     |some I=>some I
     | none=>match eh.get p with
       |some (.arr _ _ _ t)=>some ⟨0,0,szOf t,none⟩
       |_=>none)else none,C.Fz⟩
 have hρ:∀p I,p<eh.next->C.ρ p=some I->Cy.ρ p=some I:=by
   grind
 have hcut:(C.cut eh.next).le Cy:=by
   refine⟨fun p I hp=>?_,fun _ _ h=>h⟩;grind [Cx.cut]
 have hval:∀{s:SV} {v:AV},aJ C s v->s.lt eh.next=true->aJ Cy s v:=fun h hl=>(h.cut hl).le hcut
 have hback:∀p I,Cy.ρ p=some I->I.cap.isSome->C.ρ p=some I:=by
   grind
 have hlive:∀p o I,eh.get p=some o->C.ρ p=some I->∃o',s.h.get p=some o':=by
   intro p o I hp hI;obtain⟨hlt,_⟩:=hlow p o hp;have hf:=hfit p hlt;rw[hp]at hf
   cases hs:s.h.get p with
   |some o'=>grind
   | none=>
     rw[hs]at hf
     cases o with
     |cells cs t=>exact hf.elim
     | arr X L enc t=>
       have:=Ak (cO hf).1;have:=H.lt p I hI;omega
 refine⟨Cy,?_,⟨?_,?_,H.fz,?_,?_,H.wf⟩,⟨?_,hT.fz⟩,hG,?_⟩
 ·
   intro t ev hev;obtain⟨v,hv,hfv⟩:=V0 h1 hev;have hlt:=hl1 _ (Kr hev);have hsv:=hF t v hv;unfold qt at hfv;split at hfv
   . rename_i b;split at hfv
     . rename_i X L enc t' hb1 hb2;rw[oT hsv];obtain⟨hbl,_⟩:=hlow _ _ hb2;have hf:=hfit _ hbl;rw[hb1,hb2]at hf;have hge:=Ak (cO hf).1;have hnone:C.ρ b=none:=by
        cases hz:C.ρ b with
        |none=>rfl
        |some I=>have:=H.lt _ _ hz;omega
       exact .eo (I:=⟨0,0,szOf t',none⟩) (by grind) rfl
     grind
   grind [M6]
 ·
   intro p o hp;obtain⟨hlt,hol⟩:=hlow p o hp;have hf:=hfit p hlt;rw[hp]at hf
   cases hs:s.h.get p with
   | none=>
     rw[hs]at hf
     cases o with
     |cells cs t=>exact hf.elim
     | arr X L enc t=>
       obtain⟨hge,hL,hz⟩:=cO hf;obtain⟨n,hn,hz⟩:=dx hz;obtain⟨hn0,hz⟩:=cO hz;have hge:=Ak hge;have hnone:C.ρ p=none:=by
        cases hz:C.ρ p with
        |none=>rfl
        |some I=>have:=H.lt _ _ hz;omega
       have hsz:szOf t=n:=by grind
       refine⟨⟨0,0,szOf t,none⟩,by grind,?_⟩;subst hL;have hn0:n≠0:=fun e=>by simp_all
       exact⟨by grind,by simp only[hsz];omega,rfl,fun i x hx=>by simp at hx,rfl⟩
   | some o'=>
     rw[hs]at hf;obtain⟨I,hI,ho⟩:=H.obj p o' hs;refine⟨I,hρ p I hlt hI,?_⟩
     cases o with
     | cells cs t=>
       cases o' with
       |arr X L enc t'=>exact hf.elim
       |cells cs' t'=>
        obtain⟨htt,hcs⟩:=cO hf;have htt:=Af htt;subst htt;obtain⟨q1,ca,sz,q2,q3,q4⟩:=ho;have q5:=YB hcs q3;exact⟨q1,ca,sz,q2,⟨q5.1,fun i x v hx hv=>hval (q5.2 i x v hx hv) (xK hol hx)⟩,q4⟩
     | arr X L enc t=>
       cases o' with
       |cells cs' t'=>exact hf.elim
       |arr X' L' enc' t'=>
        obtain⟨htt,hLL⟩:=cO hf;have htt:=Af htt;subst htt
        cases hLL;exact ho.congr (a':=a) rfl|>fun ho=>by
          obtain⟨g1,g2,g3,g4,g5⟩:=ho;exact⟨g1,g2,g3,g4,g5⟩
 . intro p q o o' I J hp hq hI hJ hc hc' e;have hI':=hback p I hI hc;have hJ':=hback q J hJ hc';obtain⟨o1,g1⟩:=hlive p o I hp hI';obtain⟨o2,g2⟩:=hlive q o' J hq hJ';exact H.inj p q o1 o2 I J g1 g2 hI' hJ' hc hc' e
 . intro p o I hp hI hc;have hI':=hback p I hI hc;obtain⟨o1,g1⟩:=hlive p o I hp hI';exact H.dj p o1 I g1 hI' hc
 . grind
 . intro sv v hsv;have hlt:=hsv.low hC0;have h3:=hT.val _ _ hsv;rw[Lv _ _ base hlt hnow]at h3;rw[Lv _ _ base hlt hlog];exact hval h3 (hsv.low (fun p I hI=>AR (hC0 p I hI) hbn))
 . intro p o I hp hI hc hn;have hpb:=hb0 p o hp;have hn':p∉kT s.log:=by
     have :∀(l:List Ev),(∀e∈l,base<=e.id)->p∉kT l:=by
       intro l;induction l with
       |nil=>intro _ h;cases h
       |cons e l ih=>
        intro he hm;have h1:=he e Aq
        cases e<;>simp only[kT,Ev.id]at hm h1
        . rcases Ap.1 hm with rfl|hm
          . omega
          . exact ih (fun e' h'=>he e' (AS _ h')) hm
        . rcases Ap.1 hm with rfl|hm
          . omega
          . exact ih (fun e' h'=>he e' (AS _ h')) hm
        . exact ih (fun e' h'=>he e' (AS _ h')) hm
     exact this _ hnow
   obtain⟨g1,g2⟩:=hK p o I hp hI hc hn';refine⟨g1,?_⟩;rcases g2 with⟨o',q1,q2⟩|g2
   . have:=AB.1 hst p (List.mem_range.2 hpb);rw[q1]at this
     cases hz:eh.get p with
     |none=>rw[hz]at this;cases this
     |some o2=>exact .inl ⟨o2,rfl,hρ p I (by omega) q2⟩
   . exact .inr g2
theorem Ms (pr:fU P tab) (htab:cfg.tab=tab) (hcon:∀g C,cfg.gL g=some C->cA P tab g C) (hdraw:∀rec,o7 P tab rec->EX P tab cfg rec):∀(n:Nat),o7 P tab (wp cfg n)/\ ∀(fn:FuncId) (nt base:Nat) (todo:List eE) (s:St) (Q:SV->St->Prop) (C0:Cx) (h0:SH) (a0:AH),(∀p I,C0.ρ p=some I->p<base)->(∀p o,h0.get p=some o->p<base)->∀(fr:ag) (a:AH),
  wp cfg n ⟨fn,nt,base,todo,s⟩ Q->jc fr fn nt->
  TS (fun iS b k'=>∀(ts:Fr) (h:SH) (log:List Ev) (fr:ag) (a:AH),iS ts h log->fr.todo= .inLoop b::k'->jc fr fn nt->SI tab C0 h0 a0 fr.tmps a ⟨ts,h,log⟩->eR P {fr,cs:=[],h:=a} (je tab C0 h0 a0 Q)) todo fr.todo->
  SI tab C0 h0 a0 fr.tmps a s->eR P {fr,cs:=[],h:=a} (je tab C0 h0 a0 Q):=by
 intro n;induction n with
 |zero=>exact⟨fun f fn body args h a C avs Q _ _ h'=>h'.elim,fun fn nt base todo s Q C0 h0 a0 _ _ fr a h=>h.elim⟩
 | succ n ihn=>
  obtain ⟨ihrec,ih⟩:=ihn;have walk:∀(fn:FuncId) (nt base:Nat) (todo:List eE) (s:St) (Q:SV->St->Prop) (C0:Cx) (h0:SH) (a0:AH),(∀p I,C0.ρ p=some I->p<base)->(∀p o,h0.get p=some o->p<base)->∀(fr:ag) (a:AH),
     wp cfg (n+1) ⟨fn,nt,base,todo,s⟩ Q->jc fr fn nt->
     TS (fun iS b k'=>∀(ts:Fr) (h:SH) (log:List Ev) (fr:ag) (a:AH),iS ts h log->fr.todo= .inLoop b::k'->jc fr fn nt->SI tab C0 h0 a0 fr.tmps a ⟨ts,h,log⟩->eR P {fr,cs:=[],h:=a} (je tab C0 h0 a0 Q)) todo fr.todo->
     SI tab C0 h0 a0 fr.tmps a s->eR P {fr,cs:=[],h:=a} (je tab C0 h0 a0 Q):=by
    intro fn nt base todo s Q C0 h0 a0 hC0 hh0 fr a h hf hts hS;have kq:∀(k:List eE) (k':List bF) (s':St),wp cfg n ⟨fn,nt,base,k,s'⟩ Q->(Am.step tab sub0 {fr,cs:=[],h:=a}= .ok (.next {fr:={fr with todo:=k'},cs:=[],h:=a}))->
      TS (fun iS b k'=>∀(ts:Fr) (h:SH) (log:List Ev) (fr:ag) (a:AH),iS ts h log->fr.todo= .inLoop b::k'->jc fr fn nt->SI tab C0 h0 a0 fr.tmps a ⟨ts,h,log⟩->eR P {fr,cs:=[],h:=a} (je tab C0 h0 a0 Q)) k k'->
      SI tab C0 h0 a0 fr.tmps a s'->eR P {fr,cs:=[],h:=a} (je tab C0 h0 a0 Q):=fun k k' s' hw hstep hk hS'=>eR.next pr hstep (ih fn nt base k s' Q C0 h0 a0 hC0 hh0 _ a hw (hf.todo fr.tmps k') hk hS')
    generalize htodo:fr.todo=todo' at hts
    simp only[wp]at h
    cases hts with
    |nil=>grind [ME]
    |inBlock id hk=>exact kq _ _ s h (by simp only[Am.step,hf.mode,htodo]) hk hS
    |inScope b hk=>exact kq _ _ s h (by simp only[Am.step,hf.mode,htodo]) hk hS
    |inLoop b hk=>exact kq _ _ s h (by simp only[Am.step,hf.mode,htodo]) (.code b (.inLoop b hk)) hS
    |head iS b hk ho=>exact ho s.ts s.h s.log fr a h htodo hf hS
    | @inRegion k k' ops l hk=>
     cases l with
     |nil=>exact kq _ _ s h (by simp only[Am.step,hf.mode,htodo]) hk hS
     |cons i rest=>
      simp only at h;split at h
      . rename_i o ho;obtain⟨C,hF,H,hT,hG,hK⟩:=hS;obtain⟨b,s1,h1,hw,hF1,eh,el⟩:=Co h hF;have hfin:∀v,fr.finish v= .ok {fr with tmps:=fr.put o.dst v,todo:= .inRegion ops rest::k'}:=by
          grind [ag.finish]
        have hput:∀(v:AV),fr.put o.dst v=gO nt fr.tmps o.dst v:=by
          intro v;unfold ag.put gO;rw[hf.nt]
          cases o.dst<;>rfl
        have H1:HS tab C s1.h a:=by rw[eh];exact H
        have hT1:Tr C0 s1.log C:=by rw[el];exact hT
        have hK1:cY C0 h0 a0 s1.log C s1.h a:=by rw[el,eh];exact hK
        cases b with
        | false=>
          simp only[Bf]at h1;obtain⟨s2,k1,k2,k3,k4⟩:=sV (v:= .bA []) h1 hF1 (.pure (.bA rfl (fun i c v hc=>by grind)));refine eR.next pr (m':={fr:={fr with tmps:=fr.put o.dst (.bA []),todo:= .inRegion ops rest::k'},cs:=[],h:=a}) (by
           simp only[Am.step,hf.mode,htodo,ho];rw[rb hw];simp only[Az,Bh];rw[rb (hfin _),hf.mode]) (ih fn nt base _ s2 Q C0 h0 a0 hC0 hh0 _ a k1 (hf.todo _ _) (.inRegion ops rest hk) ⟨C,?_,by rw[k3];exact H1,by rw[k4];omega,hG,by rw[k3,k4];omega⟩)
          grind
        | true=>
          refine P3 pr hf.mode htodo ho hw (KM htab ihrec hcon h1 hF1 H1) (fun v=>⟨_,hfin v⟩) ?_;rintro v a1 ⟨sv,s2,k1,k2⟩ fr' hfr;rw[hfin v]at hfr
          cases hfr;obtain⟨C',q1,q2,q3,q4,q5,q6⟩:=SI.res H1 hT1 hG hK1 k2;obtain⟨s3,r1,r2,r3,r4⟩:=sV k1 q2 q1;refine ih fn nt base _ s3 Q C0 h0 a0 hC0 hh0 _ a1 r1 (hf.todo _ _) (.inRegion ops rest hk) ⟨C',?_,by rw[r3];exact q3,by rw[r4];exact q4,q5,by rw[r3,r4];exact q6⟩;grind
      grind
    | @code k k' c hk=>
     cases c with
     |skip=>exact kq _ _ s h (by simp only[Am.step,hf.mode,htodo]) hk hS
     |label l=>exact kq _ _ s h (by simp only[Am.step,hf.mode,htodo]) hk hS
     |ret=>grind [ME]
     |seq x y=>exact kq _ _ s h (by simp only[Am.step,hf.mode,htodo]) (.code x (.code y hk)) hS
     |block id b=>exact kq _ _ s h (by simp only[Am.step,hf.mode,htodo]) (.code b (.inBlock id hk)) hS
     |scope b=>exact kq _ _ s h (by simp only[Am.step,hf.mode,htodo]) (.code b (.inScope b hk)) hS
     |exit id=>
      simp only at h;split at h
      . rename_i k1 hk1;obtain⟨k1',g1,g2⟩:=hk.exit hk1;exact kq _ _ s h (by simp only[Am.step,hf.mode,htodo,g1]) g2 hS
      grind
     |cond x y z=>
      simp only at h;split at h
      . rename_i p hp;obtain⟨C,hF,H,hT,hG,hK⟩:=hS;obtain⟨v,g1,g2⟩:=mf hF hp;rw[oR g2]at g1;rcases yz h with⟨rfl,h⟩|⟨rfl,h⟩
        . obtain⟨f1,f2,f3⟩:=LP hF hp;exact kq _ _ _ h (by simp only[Am.step,hf.mode,htodo];rw[rb g1]) (.code y hk) ⟨C,f1,by rw[f2];exact H,by rw[f3];exact hT,hG,by rw[f2,f3];exact hK⟩
        . obtain⟨f1,f2,f3⟩:=LP hF hp;exact kq _ _ _ h (by simp only[Am.step,hf.mode,htodo];rw[rb g1]) (.code z hk) ⟨C,f1,by rw[f2];exact H,by rw[f3];exact hT,hG,by rw[f2,f3];exact hK⟩
      grind
     |region id ops d=>
      cases d with
      |false=>exact kq _ _ s h (by simp only[Am.step,hf.mode,htodo]) (.inRegion ops _ hk) hS
      | true=>
        obtain⟨hlt,h⟩:=cO h;obtain⟨C,hF,H,hT,hG,hK⟩:=hS;rw[<-hf.nt]at h;have hd:=hdraw (wp cfg n) ihrec ops fr.nt _ s _ fr.tmps a C h hF H;refine QM pr hf.mode htodo hlt (n:=ops.size+1) (fR.mono ?_ _ _ hd);rintro sF ⟨s',C',new,k1,k2,k3,k4,k5,k6,k7⟩;rw[hf.nt]at k1;exact ih fn nt base _ s' Q C0 h0 a0 hC0 hh0 _ sF.h k1 (hf.todo _ _) hk ⟨C',k5,k4,by rw[k2];exact hT.trans k3,hG.trans k6,by rw[k2];exact hK.trans k7 k3.fz H.fz k4.fz⟩
     |loop b=>
      simp only at h;split at h
      . exact kq _ _ s h (by simp only[Am.step,hf.mode,htodo]) (.code b (.inLoop b hk)) hS
      . obtain⟨A,h⟩:=Wh h;have hS:=hS.ft (mC s.ts A.ft);have h:(∃x:A.α,A.ok x/\kO (dP A s).ts (dP A s).h (A.at (dP A s) x).2 (A.at (dP A s) x).1/\mB cfg.tab (dP A s).h (A.at (dP A s) x).2/\ck (stay base (dP A s).h (A.at (dP A s) x).2) True)/\
           ∀x:A.α,A.ok x->ck ((dP A s).log.all (fun e=>Nat.ble base e.id)&&(low (A.at (dP A s) x).1 (A.at (dP A s) x).2&&Nat.ble base (A.at (dP A s) x).2.next)) (wp cfg n ⟨fn,nt,base, .code b:: .head (FU cfg A (dP A s) base x)::k,⟨(A.at (dP A s) x).1,(A.at (dP A s) x).2,(dP A s).log⟩⟩ Q):=h
        have hS:SI tab C0 h0 a0 fr.tmps a (dP A s):=hS;generalize dP A s=s at h hS
        obtain⟨⟨x0,hx0,hf1,hf2,hf3⟩,hall⟩:=h;have hrest:∀x,A.ok x->(∀e∈s.log,base<=e.id)/\low (A.at s x).1 (A.at s x).2=true/\base<=(A.at s x).2.next/\wp cfg n ⟨fn,nt,base, .code b:: .head (FU cfg A s base x)::k,⟨(A.at s x).1,(A.at s x).2,s.log⟩⟩ Q:=by
          intro x hx;obtain⟨g1,g2⟩:=cO (hall x hx);simp_all
        have loop:∀(m:Nat) (x:A.α),A.μ x=m->A.ok x->∀(fr2:ag) (a2:AH),fr2.todo= .code b:: .inLoop b::k'->jc fr2 fn nt->SI tab C0 h0 a0 fr2.tmps a2 ⟨(A.at s x).1,(A.at s x).2,s.log⟩->eR P {fr:=fr2,cs:=[],h:=a2} (je tab C0 h0 a0 Q):=by
          intro m;induction m using Nat.strongRecOn with
          |_ m ihm=>
           intro x hm hx fr2 a2 ht2 hf2 hS2;obtain⟨_,_,_,hw⟩:=hrest x hx;refine ih fn nt base _ _ Q C0 h0 a0 hC0 hh0 fr2 a2 hw hf2 ?_ hS2;rw[ht2];refine .code b (.head _ b hk ?_);intro ts hh log fr3 a3 hchk ht3 hf3 hS3;have hS3:=hS3.ft (mC ts A.ft);have hchk:ck ((dP A ⟨ts,hh,log⟩).log.all fun e=>Nat.ble base e.id) (∃y:A.α,A.ok y/\A.μ y<A.μ x/\kO (dP A ⟨ts,hh,log⟩).ts (dP A ⟨ts,hh,log⟩).h (A.at s y).2 (A.at s y).1/\mB cfg.tab (dP A ⟨ts,hh,log⟩).h (A.at s y).2/\ck (stay base (dP A ⟨ts,hh,log⟩).h (A.at s y).2) True):=hchk;have hS3:SI tab C0 h0 a0 fr3.tmps a3 (dP A ⟨ts,hh,log⟩):=hS3;generalize dP A ⟨ts,hh,log⟩=s3 at hchk hS3
           obtain⟨hcov,y,hy,hμ,q1,q2,q3⟩:=cO hchk;obtain⟨l0,l1,l2,_⟩:=hrest y hy;obtain⟨C,hF,H,hT,hG,hK⟩:=hS3;have hpre:(∀e∈s3.log,base<=e.id)/\ ∀e∈s.log,base<=e.id:=⟨fun e he=>Ak (AB.1 hcov e he),l0⟩;have hSy:=M9 htab hC0 (s:=s3) hpre hF H hT hG hK hh0 q1 q2 l1 l2 (cO q3).1;refine eR.next pr (m':={fr:={fr3 with todo:= .code b:: .inLoop b::k'},cs:=[],h:=a3}) (by simp only[Am.step,hf3.mode,ht3]) ?_;exact ihm (A.μ y) (by omega) y rfl hy _ a3 rfl (hf3.todo fr3.tmps _) hSy
        obtain⟨l0,l1,l2,_⟩:=hrest x0 hx0;obtain⟨C,hF,H,hT,hG,hK⟩:=hS;have hS0:=M9 htab hC0 (log:=s.log) ⟨l0,l0⟩ hF H hT hG hK hh0 hf1 hf2 l1 l2 (cO hf3).1;refine eR.next pr (m':={fr:={fr with todo:= .code b:: .inLoop b::k'},cs:=[],h:=a}) (by simp only[Am.step,hf.mode,htodo]) ?_;exact loop _ x0 rfl hx0 _ a rfl (hf.todo fr.tmps _) hS0
     |_=>exact h.elim
  refine⟨?_,walk⟩;intro f fn body args h a C avs Q hfn hb hw H hs;refine walk f _ h.next _ _ Q C h a H.lt (fun p o hp=>?_) _ a hw ⟨rfl,?_,rfl,rfl,rfl,rfl⟩ (.code body .nil) ⟨C,?_,H,Tr.refl C,Grow.refl a,cY.same _ _ _ _⟩
  . obtain⟨I,hI,_⟩:=H.obj p o hp;exact H.lt p I hI
  . simp only[ag.enter];rw[hs.1]
  . have hlook:∀(l:List SV) (k t:Nat),look (Fr.of l k) t=if k<=t then l[t - k]? else none:=by
     intro l;induction l with
     |nil=>grind [Fr.of,look]
     |cons v l ih=>
      grind [Fr.of,kJ]
    intro t q hq;rw[hlook]at hq;obtain⟨v,h1,h2⟩:=hs.get hq;grind [ag.enter,lY]
theorem WQ (pr:fU P tab) (htab:cfg.tab=tab) (hcon:∀g C,cfg.gL g=some C->cA P tab g C) (hdraw:∀rec,o7 P tab rec->EX P tab cfg rec):∀n,o7 P tab (wp cfg n):=fun n=>(Ms pr htab hcon hdraw n).1
end
end
section
universe u v
variable [Inhabited aF]
section
variable {tab:bm} {ta:T AV}
def Part (h0 h:AH):Prop:=∀i o,h0.get i=some o->h.get i=some o
theorem IE {h0 h:AH} (hs:Part h0 h) {b:Nat} {r} (hp:lr h0 b= .ok r):lr h b= .ok r:=by
 unfold lr at hp⊢;split at hp
 . rename_i hg;rw[hs _ _ hg];exact hp
 grind
theorem Ro {h0 h:AH} (hs:Part h0 h) {t b off:Nat} {r} (hp:Am.loadVar tab h0 t b off= .ok r):Am.loadVar tab h t b off= .ok r:=by
 grind [Am.loadVar,readN,au,IE]
theorem RD {h0 h:AH} (hs:Part h0 h) {b:Nat} {c:gB} {r} (hp:capLow h0 b c= .ok r):capLow h b c= .ok r:=by
 cases c with
 |lit n=>exact hp
 |tail k=>
  grind [capLow,au,IE]
theorem R0 {h0 h h1:AH} (hs:Part h0 h) {t:TypeId} {x v:AV} {lo hi:Option Operand} (hp:jU tab ta h0 t x lo hi none= .ok (v,h1)):jU tab ta h t x lo hi none= .ok (v,h):=by
 unfold jU at hp⊢;obtain⟨d,hd,hp⟩:=au.1 hp;rw[rb hd];split at hp
 . obtain⟨_,h1,hp⟩:=au.1 hp;obtain⟨l,h2,hp⟩:=au.1 hp;obtain⟨u,h3,hp⟩:=au.1 hp;grind [au]
 . obtain⟨_,h0,hp⟩:=au.1 hp;obtain⟨l,h1,hp⟩:=au.1 hp;obtain⟨u,h2,hp⟩:=au.1 hp;obtain⟨m,h3,hp⟩:=au.1 hp;obtain⟨_,h4,hp⟩:=au.1 hp
   cases hp;rw[rb h0,rb h1,rb h2,rb h3,rb h4]
 . rename_i cap _;obtain⟨c,h0,hp⟩:=au.1 hp;obtain⟨n,h1,hp⟩:=au.1 hp;obtain⟨l,h2,hp⟩:=au.1 hp;obtain⟨u,h3,hp⟩:=au.1 hp;rw[rb (RD hs h0),rb h1,rb h2,rb h3]
   cases cap with
   |lit m=>
    simp only at hp⊢;obtain⟨_,h4,hp⟩:=au.1 hp
    cases hp;rw[rb h4]
   |tail k=>
    simp only at hp⊢;obtain⟨_,h4,hp⟩:=au.1 hp;rw[rb h4]
    cases h5:Nat.beq l 0<;>rw[h5]at hp<;>simp only[BZ,Bf]at hp⊢
    . cases h6:Nat.blt l c<;>rw[h6]at hp<;>simp only[BZ,Bf]at hp⊢ <;>(cases hp;rfl)
    . cases hp;rfl
 . obtain⟨_,h0,hp⟩:=au.1 hp;obtain⟨l,h1,hp⟩:=au.1 hp;obtain⟨u,h2,hp⟩:=au.1 hp;obtain⟨_,h4,hp⟩:=au.1 hp
   cases hp;rw[rb h0,rb h1,rb h2,rb h4]
 . obtain⟨_,h0,hp⟩:=au.1 hp;obtain⟨l,h1,hp⟩:=au.1 hp;obtain⟨u,h2,hp⟩:=au.1 hp;obtain⟨_,h4,hp⟩:=au.1 hp
   cases hp;rw[rb h0,rb h1,rb h2,rb h4]
 . cases hp
theorem Ur {h0 h:AH} (hs:Part h0 h) {t:TypeId} {x y:AV} {r} (hp:eqOp tab h0 t x y= .ok r):eqOp tab h t x y= .ok r:=by
 unfold eqOp at hp⊢;split at hp
 . obtain⟨d,hd,hp⟩:=au.1 hp;rw[rb hd];split at hp
   . obtain⟨n,h1,hp⟩:=au.1 hp;obtain⟨_,h2,hp⟩:=au.1 hp;rw[rb h1,rb h2];split at hp
     . grind
     . rename_i hc;simp only[hc];split at hp
       . rename_i g1 g2;rw[hs _ _ g1,hs _ _ g2];exact hp
       grind
   omega
 all_goals omega
theorem Th {h0 h:AH} (hs:Part h0 h) {op:BinOp} {t:TypeId} {x y:AV} {r} (hp:Am.binOp tab h0 op t x y= .ok r):Am.binOp tab h op t x y= .ok r:=by
 unfold Am.binOp at hp⊢;grind [au,Ur]
theorem TU {h0 h:AH} (hs:Part h0 h) {u:TypeDesc} {x:AV} {r} (hp:lenOf h0 u x= .ok r):lenOf h u x= .ok r:=by
 unfold lenOf at hp⊢;split at hp
 . exact hp
 . exact hp
 . exact hp
 . exact hp
 . exact hp
 . exact hp
 . obtain⟨q,h1,hp⟩:=au.1 hp;unfold vE at h1⊢;split at h1
   . rename_i hg
     cases h1;simp only[hs _ _ hg];exact hp
   grind
 all_goals omega
theorem RA {h0 h h1:AH} (hs:Part h0 h) {ats:Array TypeId} {l:List AV} {b:Builtin} (hb:b= .len\/b= .min\/b= .max) {v:AV} (hp:Am.builtin tab b ats l h0= .ok (v,h1)):Am.builtin tab b ats l h= .ok (v,h):=by
 rcases hb with rfl|rfl|rfl
 . cases l with
   |nil=>cases hp
   | cons x l=>
    cases l with
    |cons y l=>cases hp
    |nil=>
     unfold Am.builtin at hp⊢;simp only at hp⊢;obtain⟨t,h1,hp⟩:=au.1 hp;obtain⟨u,h2,hp⟩:=au.1 hp;rw[rb h1,rb h2];split at hp
     . obtain⟨w,h3,hp⟩:=au.1 hp;rw[rb h3];split at hp
       . cases hp;rfl
       . cases hp
     . obtain⟨n,h3,hp⟩:=au.1 hp;rw[rb (TU hs h3)]
       cases hp;rfl
 . cases l with
   |nil=>cases hp
   |cons x l=>
    cases x<;>first|(cases hp;done)|skip
    grind [Am.builtin,au]
 . cases l with
   |nil=>cases hp
   |cons x l=>
    cases x<;>first|(cases hp;done)|skip
    grind [Am.builtin,au]
def tX (op:Op):Bool:=
 match op with
 | .lookup .. | .entry _| .typeAssert .. =>false
 | .slice _ _ _ _ (some _)=>false
 | .call c=>match c.callee with| .builtin .cap=>false|_=>true
 |_=>true
theorem zG {o:Oper} (hc:cls tab o= .pure\/cls tab o= .read) (hlk:tX o.op=true)
  {h0 h h1:AH} (hs:Part h0 h) {v:AV} (hp:fb tab ta h0 o= .ok (v,h1)):fb tab ta h o= .ok (v,h):=by
 obtain⟨dst,op,type,pos,after,guard⟩:=o;unfold fb at hp⊢
 cases op<;>simp only[cls]at hc<;>simp only at hp⊢
 case slice t x lo hi mx=>
  cases mx with
  |some m=>cases hlk
  |none=>
   grind [au,R0]
 case load t a=>
  grind [au,Ro]
 case binOp op t x y e=>
  obtain⟨p,h1,hp⟩:=au.1 hp;obtain⟨q,h2,hp⟩:=au.1 hp;grind [au,Th]
 case convert src dst x=>
  grind [au,L3,Jf]
 case lookup=>cases hlk
 case entry=>cases hlk
 case typeAssert=>cases hlk
 case call c=>
  cases hcc:c.callee with
  |builtin b=>
   rw[hcc]at hp hc;grind [au,RA,tX]
  |value f=>rw[hcc]at hp;cases hp
  |invoke r m=>rw[hcc]at hp;cases hp
 all_goals first
  |(rcases hc with hc|hc<;>cases hc;done)
  |skip
 all_goals (repeat' first
  |(cases hp;done)
  |(cases hp;rfl)
  |(obtain⟨_,hx,hp⟩:=au.1 hp;rw[rb hx];clear hx)
  |split at hp)
end
end
section
universe u v
variable [Inhabited aF]
section
variable {tab:bm} {view:TypeId->Option View} {C:Cx} {s:St} {ta:T AV} {a:AH} {h:SH}
def cj (C:Cx) (s:St) (a:AH) (K:SV->St->Prop) (r:R (AV×AH)):Prop:=∃sv v,K sv s/\r= .ok (v,a)/\aJ C sv v
theorem cj.same {K:SV->St->Prop} {sv:SV} {v:AV} (hv:aJ C sv v) (hk:K sv s):cj C s a K (.ok (v,a)):=⟨sv,v,hk,rfl,hv⟩
theorem cj.val {K:SV->St->Prop} {r:R AV} (h:fV C (fun v=>K v s) r):cj C s a K (do .ok (<-r,a)):=by
 obtain⟨sv,v,h1,h2,h3⟩:=h;rw[rb h1];grind [cj.same]
theorem Sl (hF:FS C s.ts ta) (H:HS tab C s.h a) {t:TypeId} {x:SV} {v:AV} (hv:aJ C x v) {lo hi:Option Operand} {K:SV->St->Prop} (hK:∀sv s1,K sv s1->s1.log=s.log) (h:FA tab s t x lo hi K):cj C s a K (jU tab ta a t v lo hi none):=by
 obtain⟨l,h1,hl⟩:=xN hF h;obtain⟨u,h2,hu⟩:=xN hF h1;clear h h1;have h:=h2;have o1:∀d:R Nat,fH ta d lo=kR l d:=fun d=>(hl d).1
 have o2:∀d:R Nat,fH ta d hi=kR u d:=fun d=>(hu d).1
 split at h
 . rename_i c hg;rw[iH hv];obtain⟨h1,h2,h3⟩:=sT h;unfold jU;rw[rb (show und tab t=_ from ro hg)];simp only;rw[rb (show R.check "slice: max" (none:Option Operand).isNone= .ok ()from rfl),rb (show fH ta (.ok 0) lo= .ok (l.getD 0)from by rw[o1];cases l<;>rfl),rb (show fH ta (.ok c.length) hi= .ok (u.getD c.length)from by rw[o2];cases u<;>rfl),
     rb (rc (by simp_all))]
   exact cj.same (.pure (.str _)) h3
 . rename_i e X L enc hg;split at h
   . rename_i n hn;obtain⟨hlen,h⟩:=h;obtain⟨h1,h2,h3⟩:=sT h;obtain⟨w,h4,h5⟩:=xd hg hn H.fz (lN hv rfl) hlen o1 o2 h1 h2;rw[h4];exact cj.same (.pure h5) h3
   grind
 . rename_i e b hg;split at h
   . rename_i X L enc t' n hb hn;obtain⟨hlen,h⟩:=h;obtain⟨h1,h2,h3⟩:=sT h;obtain⟨C',e1,e2,e3,e4,e5,e6⟩:=l3 hF H hb;obtain⟨w,h4,h5⟩:=xd hg hn e3.fz (e5 v hv) hlen o1 o2 h1 h2;have:=hK _ _ h3;rw[e1]at this;simp_all
   grind
 . rename_i e b off len cap hg;split at h
   . rename_i n hn;obtain⟨h1,h2⟩:=cO h
     cases hv with
     |pure hv=>cases hv
     | sl hI=>
      unfold jU;rw[rb (show und tab t=_ from ro hg)];simp only;rw[rb (show capLow a _ (.lit cap)= .ok cap from rfl),rb (show siz tab e= .ok n from ro hn),rb (show fH ta (.ok 0) lo= .ok (l.getD 0)from by rw[o1];cases l<;>rfl),
       rb (show fH ta (.ok len) hi= .ok (u.getD len)from by rw[o2];cases u<;>rfl),
       rb (rc (by grind))]
      exact cj.same (.sl hI) h2
   grind
 grind
theorem zA (hF:FS C s.ts ta) (H:HS tab C s.h a) {b:Builtin} {ats:Array TypeId} {l:List SV} {vs:List AV} (hl:aV C l vs) (hb:b= .len\/b= .min\/b= .max) {K:SV->St->Prop} (h:sK tab view s b ats l K):cj C s a K (Am.builtin tab b ats vs a):=by
 unfold sK at h;split at h
 ·
   rename_i x;have hv:∃v,vs=[v]/\aJ C x v:=by
    cases vs with
    |nil=>have:=hl.1;grind
    | cons v vs=>cases vs with
      |nil=>exact⟨v,rfl,hl.head.1⟩
      |cons=>have:=hl.1;grind
   obtain⟨v,rfl,hx⟩:=hv;unfold Am.builtin;simp only
   cases ht:ats[0]? with
   |none=>rw[ht]at h;grind
   |some t=>
    rw[ht]at h;rw[rb (ro rfl)];split at h
    . rename_i hg;split at h
      . rw[iH hx,rb (show und tab t=_ from ro hg)];exact cj.same (.pure (.int _ _)) h
      grind
    . rename_i e hg;obtain⟨n,h1,h2⟩:=dx h;rw[rb (show und tab t=_ from ro hg)];simp only;rw[rb (Mf H hx h1)];exact cj.same (.pure (.int _ _)) h2
    grind
 . rcases hb with hb|hb|hb<;>cases hb
 ·
   cases vs with
   |nil=>have:=hl.1;grind
   |cons v vs=>
    obtain⟨h1,h2⟩:=hl.head;rw[jN h1];obtain⟨sv,h3,h4⟩:=dx h;grind [Mi,Am.builtin,rb,cj.same]
 ·
   cases vs with
   |nil=>have:=hl.1;grind
   |cons v vs=>
    obtain⟨h1,h2⟩:=hl.head;rw[jN h1];obtain⟨sv,h3,h4⟩:=dx h;grind [Mh,Am.builtin,rb,cj.same]
 grind
theorem Xc (hF:FS C s.ts ta) (H:HS tab C s.h a) {o:Oper} (hc:cls tab o= .pure\/cls tab o= .read) {K:SV->St->Prop} (hK:∀sv s1,K sv s1->s1.log=s.log) (h:mj tab view s o K):tX o.op=true/\cj C s a K (fb tab ta a o):=by
 obtain⟨dst,op,type,pos,after,guard⟩:=o;unfold mj at h;unfold fb;have same1:∀{x:Operand} {K':SV->Prop},so (fy s.ts x) K'->∃sv v,ev ta x= .ok v/\aJ C sv v/\K' sv:=by
  intro x K' h;obtain⟨sv,h1,h2⟩:=dx h;obtain⟨v,h3,h4⟩:=mf hF h1;exact⟨sv,v,h3,h4,h2⟩
 cases op<;>simp only at h⊢ <;>simp only[cls,tX]at hc⊢
 case move x=>
  grind [eJ,cj.same]
 case assign x=>
  grind [eJ,cj.same]
 case pick c x y=>
  refine⟨trivial,?_⟩;split at h
  . rename_i p hc;obtain⟨v,h3,h4⟩:=mf hF hc;rw[oR h4]at h3;rw[eJ h3];split at h
    . rename_i p1 p2 hx hy;obtain⟨u,g1,g2⟩:=mf hF hx;obtain⟨w,g3,g4⟩:=mf hF hy;rw[oR g2]at g1;rw[oR g4]at g3
      cases p
      . simp only;rw[eJ g3];exact cj.same (.pure (.bool _)) h
      . simp only;rw[eJ g1];exact cj.same (.pure (.bool _)) h
    . rcases yz h with⟨rfl,h⟩|⟨rfl,h⟩
      . obtain⟨sv,v,h3,h4,h2⟩:=same1 h;simp only;rw[eJ h3];exact cj.same h4 h2
      . obtain⟨sv,v,h3,h4,h2⟩:=same1 h;simp only;rw[eJ h3];exact cj.same h4 h2
  . exact h.elim
 case build t ps=>
  refine⟨trivial,?_⟩;obtain⟨l,h1,h2⟩:=dx h;obtain⟨sv,h3,h4⟩:=dx h2;obtain⟨vs,g1,g2,g3⟩:=wZ hF h1;obtain⟨v,g4,g5⟩:=J4 g2 g3 h3;rw[rb g1,rb g4];exact cj.same g5 h4
 case load t x=>
  refine⟨trivial,?_⟩;obtain⟨sv,v,h3,h4,h2⟩:=same1 h;obtain⟨b,off,u,su,rfl,g1,g2,g3⟩:=CU H h4 h2;rw[eJ h3];simp only;rw[rb g1];exact cj.same g2 g3
 case nilCheck x=>
  refine⟨trivial,?_⟩;obtain⟨sv,v,h3,h4,h2⟩:=same1 h;rw[eJ h3];split at h2
  . cases h4 with
    |pure h=>cases h
    |ptr hI=>grind [cj.same]
  . cases h4 with
    |pure h=>cases h
    |cu hI hc=>grind [cj.same]
  . cases h4 with
    | pure h=>cases h with
      |cU b base ca e sz ext bk u hb hl h1 h2'=>grind [cj.same]
  . cases h4 with
    | pure h=>cases h with
      |fn h1 h2' h3' h4'=>grind [cj.same]
    |fn h1 h2' h3' h4'=>grind [cj.same]
  grind
 case binOp op t x y _=>
  grind [eJ,cj.val,Md]
 case unOp op _ x=>
  grind [eJ,cj.val,MJ]
 case makeFunc fn first captured=>
  refine⟨trivial,?_⟩;split at h
  . obtain⟨xs,h1,h2⟩:=dx h;obtain⟨ys,h3,h4⟩:=dx h2;obtain⟨us,g1,g2⟩:=qP hF h1;obtain⟨vs,g3,g4⟩:=qP hF h3;simp only;rw[rb g1,rb g3];exact cj.same (.fn g2.1 g4.1 g2.2 g4.2) h4
  grind
 case fieldAddr st x f=>
  refine⟨trivial,?_⟩;obtain⟨fd,h1,h2⟩:=dx h;obtain⟨hck,h3⟩:=cO h2;obtain⟨sv,v,h4,h5,h6⟩:=same1 h3;rw[rb (xj h1)];split at hck
  . rename_i n hn;rw[rb (show siz tab fd.type=_ from ro hn),rb (rc hck),eJ h4];split at h6
    . cases h5 with
      |pure h=>cases h
      |ptr hI=>exact cj.same (.ptr hI) h6
    . cases h5 with
      |pure h=>cases h
      |cu hI hc=>simp only[Dh];exact cj.same (.cu hI hc) h6
    . cases h5 with
      | pure h=>cases h with
        |cU b base ca e sz ext bk u hb hl h1 h2'=>simp only[Dh];exact cj.same (.pure (.cU b base ca e sz ext bk u hb hl h1 h2')) h6
    grind
  grind
 case field t x f=>
  refine⟨trivial,?_⟩;obtain⟨fd,h1,h2⟩:=dx h;obtain⟨sv,v,h4,h5,h6⟩:=same1 h2;rw[rb (xj h1),eJ h4];grind [nP,dx,uI,rb,cj.same]
 case indexAddr t x ix=>
  refine⟨trivial,?_⟩;obtain⟨sj,vj,h1,h2,h3⟩:=same1 h;obtain⟨i,h4,h5⟩:=uW h3 h2;obtain⟨sv,v,h6,h7,h8⟩:=same1 h5;rw[eJ h1,rb h4];split at h8
  . rename_i len e b off hg;split at h8
    . rename_i n hn;obtain⟨g1,g2⟩:=cO h8;rw[rb (show und tab t=_ from ro hg),eJ h6]
      cases h7 with
      |pure h=>cases h
      |ptr hI=>simp only;rw[rb (rc g1),rb (show siz tab e=_ from ro hn)];exact cj.same (.ptr hI) g2
    grind
  . rename_i e b off len cap hg;split at h8
    . rename_i n hn;obtain⟨g1,g2⟩:=cO h8;rw[rb (show und tab t=_ from ro hg),eJ h6]
      cases h7 with
      |pure h=>cases h
      |sl hI=>simp only;rw[rb (rc g1),rb (show siz tab e=_ from ro hn)];exact cj.same (.ptr hI) g2
    grind
  . rename_i e X L enc hg;split at h8
    . rename_i n hn;obtain⟨x,g1,g2⟩:=dx h8;obtain⟨g2,g3⟩:=cO g2;have g2:=Af g2;have hi:=(Ae.1 g1).1;obtain⟨b,off,cap,cs,e',sz,ext,bk,rfl,hb,hs,hl,hsz,hc,hcell⟩:=yb (lN h7 rfl) (by grind);obtain⟨sz0,ext0,hb,hx0⟩:=hb;have hszn:sz=n:=by rw[<-hsz i x g1];exact g2
      subst hszn;rw[rb (show und tab t=_ from ro hg),eJ h6];simp only;rw[rb (rc (by simp_all)),rb (show siz tab e=_ from ro hn)];refine cj.same (.pure ?_) g3;refine .cU b (off+i*sz) cs e' sz0 ext0 bk (fun j=>(cs[off+i*sz+j]?).getD (.bA [])) hb ?_ ?_ ?_
      . rw[g2];have:i*sz+sz<=L.length*sz:=by
         calc i*sz+sz=(i+1)*sz:=by rw[Be,Dr]
          _<=L.length*sz:=A9 _ hi
        omega
      all_goals grind
    grind
  . rename_i e b hg;split at h8
    . rename_i n X L enc e' hn hb;obtain⟨g1,g2⟩:=cO h8;simp only[Ac]at g1;have hee:=Af g1.1;subst hee;have hi:i<L.length:=by simp_all
      rw[rb (show und tab t=_ from ro hg),eJ h6]
      cases h7 with
      |pure h=>cases h
      | eo hI hc=>
        obtain⟨_,_,_,_,k5⟩:=H.at_ hb hI;rw[hc]at k5;omega
      | own hI hc=>
        rename_i I c;obtain⟨k1,k2,k3,_,k5⟩:=H.at_ hb hI;have hsz:I.sz=n:=by rw[hn]at k1;exact(Eh k1).symm
        simp only;rw[rb (rc (by rw[k3];simpa using hi)),rb (show siz tab e=_ from ro hn)];have hh:aJ C (.cu b i 0) (.ptr I.β (i*I.sz+0)):= .cu hI (by grind);rw[hsz,Bx]at hh;rw[Ax];grind [cj.same]
    grind
  grind
 case index t x ix=>
  refine⟨trivial,?_⟩;obtain⟨sj,vj,h1,h2,h3⟩:=same1 h;obtain⟨i,h4,h5⟩:=uW h3 h2;obtain⟨sv,v,h6,h7,h8⟩:=same1 h5;rw[eJ h1,rb h4];split at h8
  . rename_i len e cs hg;split at h8
    . rename_i n hn;obtain⟨g1,g2⟩:=cO h8;obtain⟨su,g3,g4⟩:=dx g2;obtain⟨us,rfl,g5⟩:=nP h7;obtain⟨u,g6,g7⟩:=uI g5 g3;rw[rb (show und tab t=_ from ro hg),eJ h6];simp only;rw[rb (rc g1),rb (show siz tab e=_ from ro hn),rb g6];grind [cj.same]
    grind
  . rename_i c hg;obtain⟨b,g1,g2⟩:=dx h8;rw[rb (show und tab t=_ from ro hg),eJ h6,iH h7];simp only;rw[rb (ro g1)];exact cj.same (.pure (.int _ _)) g2
  grind
 case extract t i=>
  refine⟨trivial,?_⟩;obtain⟨sv,v,h6,h7,h8⟩:=same1 h;rw[eJ h6];split at h8
  . obtain⟨us,rfl,g5⟩:=yo h7;obtain⟨su,g3,g4⟩:=dx h8;obtain⟨u,g6,g7⟩:=g5.get g3;simp only;rw[rb (ro g6)];grind [cj.same]
  grind
 case slice t x lo hi mx=>
  cases mx with
  |some m=>exact h.elim
  | none=>
    refine⟨rfl,?_⟩;obtain⟨sv,v,h3,h4,h2⟩:=same1 h;rw[eJ h3];exact Sl hF H h4 hK h2
 case call c=>
  split at h
  . rename_i b hb;obtain⟨l,h1,h2⟩:=dx h;obtain⟨vs,g1,g2⟩:=qP hF h1;rw[hb]at hc⊢;simp only at hc⊢;rw[rb g1]
    cases b<;>simp only at hc⊢ <;>first|(rcases hc with hc|hc<;>cases hc;done)|skip
    case len=>exact⟨trivial,zA hF H g2 (.inl rfl) h2⟩
    case min=>exact⟨trivial,zA hF H g2 (.inr (.inl rfl)) h2⟩
    case max=>exact⟨trivial,zA hF H g2 (.inr (.inr rfl)) h2⟩
    case cap=>unfold sK at h2;exact h2.elim
  . exact h.elim
 case convert src dst x=>
  refine⟨trivial,?_⟩;obtain⟨k0,j0,e1,e2⟩:=Vz hc;obtain⟨sv,v,h3,h4,h2⟩:=same1 h;rw[eJ h3];unfold yT at h2;split at h2
  . rename_i d k i n hs hd;rw[e2]at hd
    cases hd;rw[jN h4,Jf e1 e2];exact cj.same (.pure (.int _ _)) h2
  all_goals first
    |exact h2.elim
    |(rename_i hd;rw[e2]at hd;cases hd;done)
 all_goals first|exact h.elim|(rcases hc with hc|hc<;>cases hc)
end
end
section
universe u v
variable [Inhabited aF]
section
variable {tab:bm} {view:TypeId->Option View} {C:Cx} {s:St} {ta:T AV} {a:AH}
def Made (tab:bm) (C:Cx) (s:St) (a:AH) (K:SV->St->Prop) (r:AH->R (AV×AH)):Prop:=
 ∃sv v so ao I,K sv (s.new so)/\(∀h':AH,h'.next=a.next->r h'= .ok (v,h'.new ao))/\I.β=a.next/\I.cap.isSome/\(∀C',C.le C'->C'.ρ s.h.next=some I->aJ C' sv v)/\ ∀(C':Cx) (a':AH),C.le C'->a'.get a.next=some ao->eF tab C' I so a'
theorem Made.cells {cs:List SV} {ca:List AV} (hc:aV C cs ca) {e n:Nat} (hn:tab.siz.get e=some n) {K:SV->St->Prop} {sv:SV} {f:Nat->AV} (hv:∀C':Cx,∀I:BI,C'.ρ s.h.next=some I->aJ C' sv (f I.β)) (hk:K sv (s.new (.cells cs e))) {r:AH->R (AV×AH)}
  (hr:∀h':AH,h'.next=a.next->r h'= .ok (f h'.next,h'.new (.cells ca e n false .rw))):Made tab C s a K r:=by
 refine⟨sv,f a.next, .cells cs e, .cells ca e n false .rw,⟨a.next,0,n,some (.lit 0)⟩,hk,fun h' hh=>by rw[hr h' hh,hh],rfl,rfl,fun C' _ hI=>hv C' _ hI,fun C' a' hle hg=>⟨rfl,ca,n,hg,hc.le hle,hn⟩⟩
theorem Xd (hF:FS C s.ts ta) {o:Oper} (hc:cls tab o= .alloc) {K:SV->St->Prop} (h:mj tab view s o K):Made tab C s a K fun h'=>fb tab ta h' o:=by
 obtain⟨dst,op,type,pos,after,guard⟩:=o;unfold mj at h;unfold fb;have same1:∀{x:Operand} {K':SV->Prop},so (fy s.ts x) K'->∃sv v,ev ta x= .ok v/\aJ C sv v/\K' sv:=by
  intro x K' h;obtain⟨sv,h1,h2⟩:=dx h;grind [mf]
 cases op<;>simp only at h⊢ <;>simp only[cls]at hc
 case alloc e=>
  obtain⟨n,hn,h⟩:=dx h;obtain⟨cs,h1,h2⟩:=dx h;obtain⟨zv,zc,g1,g2,g3⟩:=qM (C:=C) h1;exact Made.cells (f:=fun b=> .ptr b 0) g3 hn (fun C' I hI=> .ptr hI) h2 (fun h' _=>by rw[rb g1,rb g2,rb (jm hn _ _ _)])
 case box e x=>
  obtain⟨n,hn,h⟩:=dx h;obtain⟨sv,v,h3,h4,h2⟩:=same1 h;obtain⟨hk,h2⟩:=cO h2;obtain⟨l,g1,g2⟩:=xf h4 hk;exact Made.cells (f:=fun b=> .ptr b 0) g2 hn (fun C' I hI=> .ptr hI) h2 (fun h' _=>by rw[eJ h3,rb g1,rb (jm hn _ _ _)])
 case buildSlice t len ps=>
  obtain⟨l,h1,h2⟩:=dx h;obtain⟨vs,g1,g2,g3⟩:=wZ hF h1;have:(fun h'=>(do let l<-l9 ta ps.toList;Am.buildSlice tab h' t len l))=fun h'=>Am.buildSlice tab h' t len vs:=by
    funext h';rw[rb g1]
  rw[this];have h:=h2;clear h2;unfold wu at h;split at h
  . rename_i e hg;split at h
    . rename_i n z hn hz;obtain⟨hck,h1⟩:=cO h;obtain⟨zv,zc,q1,q2,q3⟩:=qM (C:=C) hz;have hzl:(Nat.beq zc.length n)=true:=by rw[<-q3.1];grind
      have hb:∀(h':AH) (ca:List AV),fill (rep len zc) (vs.map fun(i,v)=>(i*n,n,v))= .ok ca->Am.buildSlice tab h' t len vs= .ok (.sl h'.next 0 len (.lit len),h'.new (.cells ca e n false .rw)):=by
        simp_all[Am.buildSlice,rb,und,ro,siz,rc,jm]
      by_cases hl0:len=0
      . subst hl0;obtain⟨hck2,h2⟩:=cO h1;simp only[Ac,List.isEmpty_iff,A0]at hck2;obtain⟨rfl,hn0⟩:=hck2;have hn0:n≠0:=fun e=>by simp_all
        cases vs with
        |cons=>grind
        |nil=>
         split at h2
         . refine⟨_, .sl a.next 0 0 (.lit 0),_, .cells [] e n false .rw,⟨a.next,0,n,some (.lit 0)⟩,h2,fun h' hh=>(hb h' [] rfl).trans (by rw[hh]),rfl,rfl,fun C' _ hI=> .own hI rfl,fun C' a' hle hg=>⟨hn,by grind,rfl,fun i x hx=>by grind,[],false, .rw,hg,by simp,by simp, .inr ⟨rfl,rfl⟩,fun i x j v hx=>by grind⟩⟩
         grind
      . rw[gp hl0]at h1;obtain⟨cs,h2,hk⟩:=dx h1;obtain⟨ca,h3,h4⟩:=xD (qs:=vs.map fun x=>(x.1*n,n,x.2)) (Ma q3 len) (by
         have:=Aj (List.map (fun i=>(i*n,n))) g2;grind [Function.comp_def]) (by grind [Function.comp_def]) h2
        exact Made.cells (f:=fun b=> .sl b 0 len (.lit len)) h4 hn (fun C' I hI=> .sl hI) hk (fun h' _=>hb h' ca h3)
    grind
  grind
 all_goals grind
end
end
section
universe u v
variable [Inhabited aF]
theorem wV:∀(l:List (Nat×Nat)) (h:SH) (p:Nat),(o9 h l).get p=if ∃x∈l,x.2=p then none else h.get p:=by
 intro l;induction l with
 |nil=>grind [o9]
 |cons x l ih=>
  intro h p;obtain⟨i,b⟩:=x;simp only[o9,ih,SH.aZ];by_cases h1:∃x∈l,x.2=p
  . rw[Al h1,Al];grind
  . rw[An h1];by_cases h2:p=b
    . rw[Al h2,Al ⟨(i,b),Aq,h2.symm⟩]
    grind
theorem S6:∀(l:List (Nat×Nat)) (h:SH),(o9 h l).next=h.next:=by
 intro l;induction l with
 |nil=>intro h;rfl
 |cons x l ih=>grind [o9,SH.eN]
theorem qB (h0:SH) (log:List Ev):∀(l:List (Nat×Nat)) (h:SH) (p:Nat),(lR h h0 log l).get p=if ∃x∈l,x.2=p then jE (h0.get p) log else h.get p:=by
 intro l;induction l with
 |nil=>grind [lR]
 |cons x l ih=>
  intro h p;obtain⟨i,b⟩:=x;simp only[lR,ih,SH.aZ];by_cases h1:∃x∈l,x.2=p
  . rw[Al h1,Al];grind
  . rw[An h1];by_cases h2:p=b
    . rw[Al h2,Al ⟨(i,b),Aq,h2.symm⟩,h2]
    grind
theorem Tg (h0:SH) (log:List Ev):∀(l:List (Nat×Nat)) (h:SH),(lR h h0 log l).next=h.next:=by
 intro l;induction l with
 |nil=>intro h;rfl
 |cons x l ih=>grind [lR,SH.eN]
theorem Kg (h:SH) (n:Nat):∀(l:List Nat) (p:Nat),(SH.mk n (p9 h l)).get p=if p∈l then h.get p else none:=by
 intro l;induction l with
 |nil=>grind [p9,SH.get,look]
 |cons b l ih=>
  grind [SH.get,p9,kJ]
open Classical in
theorem zf {a:AH} (hwf:∀i o,a.get i=some o->i<a.next) (P:Nat->Prop):∃a0:AH,a0.next=a.next/\ ∀i,a0.get i=if P i then a.get i else none:=by
 refine⟨iX a (((List.range a.next).filter fun i=>decide (¬P i)).map fun i=>(0,i)),jM _ _,fun i=>?_⟩;rw[iU];by_cases hP:P i
 . rw[Al hP,An];grind
 . rw[An hP];split
   . rfl
   . cases hg:a.get i with
     |none=>rfl
     |some o=>simp_all
section
variable {tab:bm} {C C':Cx} {h h0:SH} {a a0:AH}
theorem HS.part (H:HS tab C h a) (hn:h0.next=h.next) (hh:∀p o,h0.get p=some o->h.get p=some o) (hp:Part a0 a) (hn0:a0.next=a.next) (hf:∀i o,C.Fz i=some o->a0.get i=some o)
   (hb:∀p o I,h0.get p=some o->C.ρ p=some I->I.cap.isSome->a0.get I.β=a.get I.β):HS tab C h0 a0:=by
 refine⟨fun p o hp=>?_,fun p q o o' I J hp hq=>H.inj p q o o' I J (hh p o hp) (hh q o' hq),hf,fun p o I hp=>H.dj p o I (hh p o hp),fun p I hI=>by rw[hn];exact H.lt p I hI,fun i o hi=>by rw[hn0];exact H.wf i o (hp i o hi)⟩;obtain⟨I,hI,ho⟩:=H.obj p o (hh p o hp);refine⟨I,hI,?_⟩;by_cases hc:I.cap.isSome
 . exact ho.congr (hb p o I hp hI hc)
 . cases o with
   |cells cs t=>exact absurd ho.1 hc
   |arr X L enc t=>
    obtain⟨g1,g2,g3,g4,g5⟩:=ho;refine⟨g1,g2,g3,g4,?_⟩;grind
end
theorem XV:∀{l:List AV},(∀(i:Nat) v,l[i]? =some v->AV.beq v v=true)->ia l l=true:=by
 intro l;induction l with
 |nil=>intro _;rfl
 |cons v l ih=>intro h;simp only[ia,Ac];exact⟨h 0 v rfl,ih fun i w hw=>h (i+1) w (by grind)⟩
theorem UB:∀{l:List SV},kF l=true->∀(i:Nat) (s:SV),l[i]? =some s->s.full=true:=by
 intro l;induction l with
 |nil=>grind
 |cons v l ih=>
  grind [kF]
theorem sJ {l:List SV} {m:List AV} (hl:l.length=m.length) (hf:kF l=true) (h:∀(i:Nat) s v,l[i]? =some s->m[i]? =some v->s.full=true->AV.beq v v=true):ia m m=true:=by
 refine XV fun i v hv=>?_
 have hi:=(Ae.1 hv).1;have hs:l[i]? =some l[i]:=Ag (by omega);grind [UB]
theorem UC {Fz:Nat->Option AO} {s:SV} {v:AV} (h:aO Fz s v) (hf:s.full=true):AV.beq v v=true:=by
 induction h with
 |any v=>cases hf
 |bP h0 hv=>rcases hv with rfl|⟨b,off,l,n,k,rfl⟩|⟨a,c,rfl⟩<;>simp[AV.beq]
 |fn h1 h2 _ _ ih3 ih4=>
  grind [SV.full,AV.beq,sJ]
 |agg h1 _ ih=>grind [SV.full,AV.beq,sJ]
 |bA h1 _ ih=>exact sJ h1 hf ih
 |_=>simp[AV.beq]
theorem V5 {C:Cx} {s:SV} {v:AV} (h:aJ C s v) (hf:s.full=true):AV.beq v v=true:=by
 induction h with
 |pure h=>grind [UC]
 |fn h1 h2 _ _ ih3 ih4=>
  grind [SV.full,AV.beq,sJ]
 |agg h1 _ ih=>exact sJ h1 hf ih
 |bA h1 _ ih=>exact sJ h1 hf ih
 |_=>simp[AV.beq]
def lF (C:Cx) (h:SH):List (Nat×Nat)->List (Nat×Nat)->Prop
 |[],[]=>True
 |(i,p)::l,(j,β)::m=>i=j/\(∃o I,h.get p=some o/\C.ρ p=some I/\I.cap.isSome/\I.β=β)/\lF C h l m
 |_,_=>False
theorem lF.filter {C:Cx} {h:SH} (f:Nat->Bool):∀{l m:List (Nat×Nat)},lF C h l m->lF C h (l.filter fun x=>f x.1) (m.filter fun x=>f x.1):=by
 intro l;induction l with
 |nil=>intro m hm;cases m with
  |nil=>exact hm
  |cons=>exact hm.elim
 | cons x l ih=>
  intro m hm;obtain⟨i,p⟩:=x
  cases m with
  |nil=>exact hm.elim
  |cons y m=>
   obtain⟨j,β⟩:=y;obtain⟨rfl,h1,h2⟩:=hm;simp only[BU]
   cases f i
   . grind
   . simpa using⟨rfl,h1,ih h2⟩
theorem lF.mono {C C':Cx} {h h':SH}:∀{l m:List (Nat×Nat)},lF C h l m->(∀x∈l,∀o I,h.get x.2=some o->C.ρ x.2=some I->I.cap.isSome->∃o',h'.get x.2=some o'/\C'.ρ x.2=some I)->lF C' h' l m:=by
 intro l;induction l with
 |nil=>intro m hm _;cases m with
  |nil=>exact hm
  |cons=>exact hm.elim
 | cons x l ih=>
  intro m hm hk;obtain⟨i,p⟩:=x
  cases m with
  |nil=>exact hm.elim
  |cons y m=>
   obtain⟨j,β⟩:=y;obtain⟨rfl,⟨o,I,g1,g2,g3,g4⟩,h2⟩:=hm;obtain⟨o',k1,k2⟩:=hk (i,p) Aq o I g1 g2 g3;exact⟨rfl,⟨o',I,k1,k2,g3,g4⟩,ih h2 (fun x hx=>hk x (AS _ hx))⟩
theorem lF.left {C:Cx} {h:SH}:∀{l m:List (Nat×Nat)},lF C h l m->∀x∈l,∃o I,h.get x.2=some o/\C.ρ x.2=some I/\I.cap.isSome/\ ∃y∈m,y.2=I.β:=by
 intro l;induction l with
 |nil=>grind
 | cons x l ih=>
  intro m hm y hy;obtain⟨i,p⟩:=x
  cases m with
  |nil=>exact hm.elim
  |cons z m=>
   obtain⟨j,β⟩:=z;obtain⟨rfl,⟨o,I,g1,g2,g3,g4⟩,h2⟩:=hm;grind [List.mem_cons_self]
theorem lF.right {C:Cx} {h:SH}:∀{l m:List (Nat×Nat)},lF C h l m->∀y∈m,∃x∈l,∃o I,h.get x.2=some o/\C.ρ x.2=some I/\I.cap.isSome/\I.β=y.2:=by
 intro l;induction l with
 |nil=>intro m hm y hy;cases m with
  |nil=>cases hy
  |cons=>exact hm.elim
 | cons x l ih=>
  intro m hm y hy;obtain⟨i,p⟩:=x
  cases m with
  |nil=>grind
  |cons z m=>
   obtain⟨j,β⟩:=z;obtain⟨rfl,⟨o,I,g1,g2,g3,g4⟩,h2⟩:=hm;grind [List.mem_cons_self]
def sd (tab:bm) (ops:Array Oper) (C:Cx) (h:SH) (a:AH) (x:Nat×T AV×AV) (rs:List Nat):Prop:=
 ∃o a0 h1,ops[x.1]? =some o/\(cls tab o= .pure\/cls tab o= .read)/\tX o.op=true/\AV.beq x.2.2 x.2.2=true/\fb tab x.2.1 a0 o= .ok (x.2.2,h1)/\
  ∀β ob,a0.get β=some ob->C.Fz β=some ob\/(a.get β=some ob/\ ∃p∈rs,∃o' I,h.get p=some o'/\C.ρ p=some I/\I.cap.isSome/\I.β=β)
theorem sd.mono {tab:bm} {ops:Array Oper} {C C':Cx} {h h':SH} {a a':AH} {x:Nat×T AV×AV} {rs:List Nat} (hx:sd tab ops C h a x rs) (hf:∀i o,C.Fz i=some o->C'.Fz i=some o)
  (hk:∀p∈rs,∀o I,h.get p=some o->C.ρ p=some I->I.cap.isSome->a'.get I.β=a.get I.β/\ ∃o',h'.get p=some o'/\C'.ρ p=some I):sd tab ops C' h' a' x rs:=by
 obtain⟨o,a0,h1,g1,g2,g3,gb,g4,g5⟩:=hx;refine⟨o,a0,h1,g1,g2,g3,gb,g4,fun β ob hb=>?_⟩;grind
structure kk (tab:bm) (ops:Array Oper) (C:Cx) (d:SD) (e:DS):Prop where
 F:FS C d.s.ts e.ts
 H:HS tab C d.s.h e.h
 aM:d.aM=e.aM
 al:lF C d.s.h d.aC e.aC
 rd:∀x∈e.reads,∃rs,(x.1,rs)∈d.reads/\sd tab ops C d.s.h e.h x rs
structure Prog (C:Cx) (d:SD) (e:DS) (new:List Ev) (C':Cx) (d':SD) (e':DS):Prop where
 log:d'.s.log=d.s.log++new
 tr:Tr C new C'
 grow:Grow e.h e'.h
 bn:cY C d.s.h e.h new C' d'.s.h e'.h
end
section
universe u v
variable [Inhabited aF]
section
variable {tab:bm} {cfg:iw} {ops:Array Oper} {nt:Nat}
theorem wN (ts:T AV) (o:Oper) (v:AV):iW nt ts o v=gO nt ts o.dst v:=by
 grind [iW,gO]
theorem Prog.refl {C C':Cx} {d d':SD} {e e':DS} (hl:d'.s.log=d.s.log) (hh:d'.s.h=d.s.h) (he:e'.h=e.h) (hc:C'=C):Prog C d e [] C' d' e':=by
 subst hc;exact⟨by grind,Tr.refl _,by rw[he];exact Grow.refl _,by rw[hh,he];grind [cY.same]⟩
open Classical in
theorem V3 (htab:cfg.tab=tab) {C:Cx} {d:SD} {e:DS} {i:Nat} {o:Oper} {K:SD->Prop} (h:Fu cfg ops nt i o d K) (S:kk tab ops C d e) (hi:ops[i]? =some o):
  ∃r d' C',ur tab ops nt i o e= .ok r/\K d'/\kk tab ops C' d' (r.getD e)/\Prog C d e [] C' d' (r.getD e):=by
 obtain⟨s,aM,reads,aC⟩:=d;obtain⟨hF,H,hanc,hal,hrd⟩:=S;simp only at hF H hanc hal hrd;simp only[Fu]at h;rw[htab]at h;obtain⟨hok,h⟩:=cO h;obtain⟨w,s1,h1,hw,hF1,eh,el⟩:=Co h hF;subst hanc;unfold ur
 rw[rb (rc hok)];rw[rb hw]
 cases w with
 |false=>
  have h2:=wU (nG h1);obtain⟨s2,k1,k2,k3,k4⟩:=sV (v:= .bA []) h2 hF1 (.pure (.bA rfl (fun i c v hc=>by grind)));refine⟨_,_,C,rfl,k1,⟨?_,?_,rfl,?_,?_⟩,Prog.refl ?_ ?_ rfl rfl⟩
  all_goals grind [wN]
 | true=>
  have Hs:HS tab C s1.h e.h:=by rw[eh];exact H
  have look:∀(hc:cls tab o= .pure\/cls tab o= .read),(kv (eO e.aM o) fun an=>o6 (e.aM.set i (some an)) fun aM=>match s1 with
   | ⟨ts,h,log⟩=>kv (Fc ts o) fun rs=>ck (rs.all fun b=>aC.all fun x=> !(Nat.beq x.2 b)) (mj tab cfg.view ⟨ts,⟨h.next,p9 h rs⟩,[]⟩ o fun v s'=>ck (s'.log.isEmpty&&v.full) (jJ nt ⟨ts,h,log⟩ o.dst v fun s'=>K ⟨s',aM,(i,rs)::reads,aC⟩)))->
     ∃ d' v,K d'/\(∀v' hx',fb tab e.ts {t:= .e,next:=0} o= .ok (v',hx')->v'=v/\hx'.next=0)/\fb tab e.ts (iX e.h e.aC) o= .ok (v,iX e.h e.aC)/\
       ∀rd',(rd'=e.reads\/rd'=(i,e.ts,v)::e.reads)->kk tab ops C d' {e with ts:=iW nt e.ts o v,aM:=e.aM.set i (some (eO e.aM o)),reads:=rd'}/\Prog C ⟨s,e.aM,reads,aC⟩ e [] C d' {e with ts:=iW nt e.ts o v,aM:=e.aM.set i (some (eO e.aM o)),reads:=rd'}:=by
   intro hc h;have h:=wU (nG h);obtain⟨ts,hh,log⟩:=s1;simp only at h eh el hF1 Hs;subst eh;have h:=nG h;generalize Fc ts o=rs at h
   obtain⟨hdis,h⟩:=cO h;obtain⟨a0,hn0,hg0⟩:=zf H.wf (fun i=>(∃ob,C.Fz i=some ob)\/ ∃p∈rs,∃o' I,s.h.get p=some o'/\C.ρ p=some I/\I.cap.isSome/\I.β=i);have hpart:Part a0 e.h:=by
     intro j ob hj;rw[hg0]at hj;grind
   have H0:HS tab C ⟨s.h.next,p9 s.h rs⟩ a0:=by
     refine Hs.part rfl (fun p o' hp=>?_) hpart hn0 (fun j ob hj=>?_) (fun p o' I hp hI hcap=>?_)
     . rw[Kg]at hp;split at hp
       . exact hp
       . cases hp
     . rw[hg0,Al (.inl ⟨ob,hj⟩)];exact H.fz j ob hj
     grind [Kg]
   obtain⟨hlk,sv,v,hk,hp,hv⟩:=Xc (s:=⟨ts,⟨s.h.next,p9 s.h rs⟩,[]⟩) hF1 H0 hc (fun sv s1 hk=>by have:=(cO hk).1;grind) h;obtain⟨hfull,hk⟩:=cO hk;simp only[Ac]at hfull;have hbeq:=V5 hv hfull.2;obtain⟨s2,k1,k2,k3,k4⟩:=sV hk hF1 hv;have hhid:Part a0 (iX e.h e.aC):=by
     intro β ob hβ;rw[iU,An]
     . exact hpart β ob hβ
     . rintro⟨y,hy,rfl⟩;obtain⟨x,hx,ox,Ix,x1,x2,x3,x4⟩:=hal.right y hy;rw[hg0]at hβ;split at hβ
       . rename_i hP;rcases hP with⟨ob',hP⟩|⟨p,hpm,op,Ip,p1,p2,p3,p4⟩
         . have:=H.dj x.2 ox Ix x1 x2 x3;rw[x4,hP]at this;grind
         . have:=H.inj p x.2 op ox Ip Ix p1 x1 p2 x2 p3 x3 (by rw[p4,x4]);have h5:=AB.1 (AB.1 hdis p hpm) x hx;rw[this]at h5;simp_all
       grind
   refine⟨_,v,k1,fun v' hx' hp'=>?_,zG hc hlk hhid hp,fun rd' hrd'=>⟨⟨?_,?_,rfl,?_,?_⟩,Prog.refl ?_ ?_ rfl rfl⟩⟩
   . have h5:=zG hc hlk (h0:={t:= .e,next:=0}) (h:=a0) (fun j ob hj=>by cases hj) hp';have h6:=wy ⟨by rcases hc with e|e<;>rw[e]<;>simp,by rcases hc with e|e<;>rw[e]<;>simp⟩ hp';rw[hp]at h5;grind
   . grind [wN]
   . grind
   . grind
   . rw[k3];intro x hx;rcases hrd' with rfl|rfl
     . obtain⟨rs',g1,g2⟩:=hrd x hx;grind
     . rcases Ap.1 hx with rfl|hx
       . refine⟨rs,Aq,o,a0,_,hi,hc,hlk,hbeq,hp,fun β ob hβ=>?_⟩;have hβ':=hpart β ob hβ;rw[hg0]at hβ;split at hβ
         . rename_i hP;rcases hP with⟨ob',hP⟩|hP
           . have:=H.fz _ _ hP;rw[hβ']at this;cases this;exact .inl hP
           . exact .inr ⟨hβ',hP⟩
         . cases hβ
       . obtain⟨rs',g1,g2⟩:=hrd x hx;exact⟨rs',AS _ g1,g2⟩
   all_goals grind
  cases hcl:cls tab o with
  |lk=>
   rw[hcl]at h1;exact⟨none,_,C,rfl,h1,⟨hF1,Hs,rfl,by rw[eh];exact hal,by rw[eh];exact hrd⟩,Prog.refl el eh rfl rfl⟩
  |pure=>
   obtain⟨d',v,g1,g2,g3,g4⟩:=look (.inl hcl) (by rw[hcl]at h1;exact h1)
   cases hp:fb tab e.ts {t:= .e,next:=0} o with
   | ok r=>
     obtain⟨v',hx'⟩:=r;obtain⟨rfl,hn⟩:=g2 v' hx' hp;simp only;rw[rb (rc (by rw[hn];rfl))];obtain⟨q1,q2⟩:=g4 e.reads (.inl rfl);exact⟨_,d',C,rfl,g1,q1,q2⟩
   | no _=>
     rw[g3];obtain⟨q1,q2⟩:=g4 _ (.inr rfl);exact⟨_,d',C,rfl,g1,q1,q2⟩
  |read=>
   obtain⟨d',v,g1,g2,g3,g4⟩:=look (.inr hcl) (by rw[hcl]at h1;exact h1);rw[g3];obtain⟨q1,q2⟩:=g4 _ (.inr rfl);exact⟨_,d',C,rfl,g1,q1,q2⟩
  |alloc=>
   rw[hcl]at h1;simp only at h1⊢;have h2:=wU (nG h1);clear h1 look;obtain⟨ts,hh,log⟩:=s1;subst eh;obtain⟨sv,v,so,ao,I,m1,m2,m3,m4,m5,m6⟩:=Xd (s:=⟨ts,s.h,[]⟩) (a:=e.h) hF1 hcl h2;simp only[St.new]at m1;obtain⟨_,m1⟩:=cO m1;obtain⟨q1,q2⟩:=H.new (ao:=ao) (o:=so) I m3 (fun hle=>m6 _ _ hle (by rw[AH.aT,Al rfl]));obtain⟨s2,k1,k2,k3,k4⟩:=sV (C:=C.put s.h.next I) m1 (FS.le q1 hF1) (m5 _ q1 (jr _ _ _));rw[rb (m2 {t:= .e,next:=e.h.next} rfl)];rw[rb (rc (by simp)),rb (ro (show AH.get _ _=some ao from by rw[AH.aT,Al rfl]))];have hnew:∀p o',s.h.get p=some o'->(s.h.new so).get p=some o':=by
     intro p o' hp;obtain⟨J,hJ,_⟩:=H.obj p o' hp;have:=H.lt p J hJ;rw[SH.aT,An (by omega)];exact hp
   have hkeep:∀p o' J,s.h.get p=some o'->C.ρ p=some J->J.cap.isSome->(e.h.new ao).get J.β=e.h.get J.β:=by
     intro p o' J hp hJ hc;obtain⟨b,hb⟩:=(H.at_ hp hJ).live hc;have:=H.wf _ _ hb;rw[AH.aT,An (by omega)]
   refine⟨_,_,C.put s.h.next I,rfl,k1,⟨?_,?_,rfl,?_,?_⟩,⟨?_,q1.tr,?_,?_⟩⟩
   . rw[wN];exact k2
   . rw[k3];exact q2
   . rw[k3];refine⟨rfl,⟨so,I,by rw[SH.aT,Al rfl],jr _ _ _,m4,m3⟩,hal.mono fun x hx o' J hp hJ hc=>⟨o',hnew _ _ hp,q1.1 _ _ hJ⟩⟩
   . rw[k3];intro x hx;obtain⟨rs,g1,g2⟩:=hrd x hx;exact⟨rs,g1,g2.mono q1.2 (fun p hp o' J hp hJ hc=>⟨hkeep p o' J hp hJ hc,o',hnew _ _ hp,q1.1 _ _ hJ⟩)⟩
   . simp only[BQ];rw[k4];exact el
   . exact Grow.new _ _
   . rw[k3];exact cY.new H _ _ q1 (uA H _)
end
end
section
universe u v
variable [Inhabited aF]
section
variable {P:Program} {tab:bm} {cfg:iw} {ops:Array Oper} {nt:Nat} {rec:SM->(SV->St->Prop)->Prop}
theorem Prog.trans {C C' C'':Cx} {d d' d'':SD} {e e' e'':DS} {l m:List Ev} (p:Prog C d e l C' d' e') (q:Prog C' d' e' m C'' d'' e'') (H:∀i o,C'.Fz i=some o->e'.h.get i=some o) (H':∀i o,C''.Fz i=some o->e''.h.get i=some o):Prog C d e (l++m) C'' d'' e'':=
 ⟨by rw[q.log,p.log,BH],p.tr.trans q.tr,p.grow.trans q.grow,p.bn.trans q.bn q.tr.fz H H'⟩
theorem Zn (htab:cfg.tab=tab):∀(l:List Oper) (k:Nat) (d:SD) (e:DS) (C:Cx) (K:SD->Prop),(∀j o,l[j]? =some o->ops[k+j]? =some o)->vD cfg ops nt k l d K->kk tab ops C d e->
  ∃e' d' C',lv tab ops nt k l e= .ok e'/\K d'/\kk tab ops C' d' e'/\Prog C d e [] C' d' e':=by
 intro l;induction l with
 |nil=>
  intro k d e C K _ h S;exact⟨e,d,C,rfl,h,S,Prog.refl rfl rfl rfl rfl⟩
 |cons o l ih=>
  intro k d e C K hl h S;have hi:=hl 0 o rfl;have hl':∀j o,l[j]? =some o->ops[k+1+j]? =some o:=fun j o' hj=>by
    have:=hl (j+1) o' (by grind);rwa [show k+1+j=k+(j+1)from by omega]
  simp only[vD,S.aM]at h;simp only[lv]
  cases hr:isReady e.aM k o
  . rw[hr]at h;grind
  . rw[hr]at h;simp only[BZ]at h⊢;obtain⟨r,d1,C1,g1,g2,g3,g4⟩:=V3 htab h S (by omega);rw[rb g1];obtain⟨e',d',C',q1,q2,q3,q4⟩:=ih (k+1) d1 _ C1 K hl' g2 g3;refine⟨e',d',C',?_,q2,q3,?_⟩
    . cases r<;>exact q1
    . have:=g4.trans q4 g3.H.fz q3.H.fz;grind
theorem iy.mono {ts:T AV} {h0:AH} {o:Oper} {Θ Θ':AV->AH->Prop} (h:iy P tab ts h0 o Θ) (hi:∀v h1,h0.next<=h1.next->Θ v h1->Θ' v h1):iy P tab ts h0 o Θ':=by
 rcases h with⟨v,h1,k1,k2,k3⟩|⟨c',f,g,first,captured,args,fn,body,k1,k2,k3,k4,k5,k6,k7⟩
 . exact .inl ⟨v,h1,k1,k2,hi _ _ k2 k3⟩
 . exact .inr ⟨c',f,g,first,captured,args,fn,body,k1,k2,k3,k4,k5,k6,k7.mono fun v h1 ⟨a,b⟩=>⟨a,hi _ _ a b⟩⟩
theorem U6 {h:AH}:∀{l:List (Nat×T AV×AV)},(∀x∈l,∃o h1,ops[x.1]? =some o/\fb tab x.2.1 h o= .ok (x.2.2,h1)/\AV.beq x.2.2 x.2.2=true)->reread tab ops h l= .ok ():=by
 intro l;induction l with
 |nil=>intro _;rfl
 |cons x l ih=>
  simp_all[reread,rb,ro,rc]
theorem Jt:∀(log:List Ev) (s:SV) (b:Nat),(∀e∈log,e.id≠b)->(s= .own b\/s= .cu b 1 0\/s= .ptr b 0)->jB log s=s:=by
 intro log;induction log with
 |nil=>intro s b _ _;rfl
 | cons e l ih=>
  intro s b hb hs;have h1:=hb e Aq;have:s.on e=s:=by
   rcases hs with rfl|rfl|rfl<;>cases e<;>simp only[Ev.id]at h1<;>simp only[SV.on]<;>first|rfl|(rw[gp (fun h=>h1 h.symm)];rfl)
  grind [jB]
theorem Tr.same {C C':Cx} {log:List Ev} (hT:Tr C log C') {p:Nat} {I:BI} (hI:C.ρ p=some I) (hc:I.cap.isSome) (hm:∀e∈log,e.id≠p):C'.ρ p=some I:=by
 obtain⟨c,hc'⟩:=Bp.1 hc;have h1:=hT.val _ _ (.own hI hc');rw[Jt log _ p hm (.inl rfl)]at h1;have h2:=hT.val _ _ (.cu (i:=1) (off:=0) hI hc);rw[Jt log _ p hm (.inr (.inl rfl))]at h2;obtain⟨β,len,sz,cap⟩:=I;generalize hv1:AV.sl β 0 len c=v1 at h1
 generalize hv2:AV.ptr β (1*sz+0)=v2 at h2
 cases h1 with
 |pure h=>cases h
 |eo hJ hc=>grind
 | own hJ hc=>
  rename_i J c2
  cases h2 with
  |pure h=>cases h
  |cu hJ' hc2=>
   rw[hJ]at hJ'
   cases hJ'
   cases hv1;rw[hJ];obtain⟨β',len',sz',cap'⟩:=J;grind
theorem Vc (o:SO):∀(log:List Ev),∃o',jE (some o) log=some o'/\ ∀{C C':Cx} {I:BI} {a a':AH},Tr C log C'->a'.get I.β=a.get I.β->eF tab C I o a->eF tab C' I o' a':=by
 intro log
 cases o with
 | cells cs t=>
  have:∀(log:List Ev) (cs:List SV),jE (some (.cells cs t)) log=some (.cells (cs.map (jB log)) t):=by
   intro log;induction log with
   |nil=>intro cs;simp[jE];exact(List.map_id'' (fun _=>rfl) cs).symm
   |cons e l ih=>intro cs;simp only[jE,Bz,SO.on,ih,oX,Dd];rfl
  refine⟨_,this log cs,fun hT hg ho=>?_⟩;obtain⟨g1,ca,sz,g2,g3,g4⟩:=ho;refine⟨g1,ca,sz,by rw[hg];exact g2,⟨by simpa using g3.1,fun i s v hs hv=>?_⟩,g4⟩;rw[AE]at hs;obtain⟨s0,h0,rfl⟩:=AU.1 hs;exact hT.val _ _ (g3.2 i s0 v h0 hv)
 | arr X L enc t=>
  have:∀(log:List Ev),jE (some (.arr X L enc t)) log=some (.arr X L enc t):=by
   intro log;induction log with
   |nil=>rfl
   |cons e l ih=>grind [jE,SO.on]
  refine⟨_,this log,fun{C C' I a a'} hT hg ho=>?_⟩;obtain⟨h1,h2,h3,h4,h5⟩:=ho;refine⟨h1,h2,h3,h4,?_⟩
  cases hcap:I.cap with
  |none=>rw[hcap]at h5;exact h5
  |some c=>
   rw[hcap]at h5;obtain⟨ca,ext,bk,g1,g2,g3,g4,g5⟩:=h5;refine⟨ca,ext,bk,by rw[hg];exact g1,g2,g3,g4,fun i x j v hx hv=>?_⟩;obtain⟨u,k1,k2⟩:=g5 i x j v hx hv;exact⟨u,k1,k2.mono hT.fz⟩
end
end
section
universe u v
variable [Inhabited aF]
section
variable {P:Program} {tab:bm} {cfg:iw} {ops:Array Oper} {nt:Nat} {rec:SM->(SV->St->Prop)->Prop}
theorem TY {p:Nat}:∀{l:List Ev},p∈kT l->∃e∈l,e.id=p:=by
 intro l;induction l with
 |nil=>intro h;cases h
 | cons e l ih=>
  intro h
  cases e with
  |kill b=>
   rcases Ap.1 h with rfl|h
   . exact⟨_,Aq,rfl⟩
   grind
  |mod b=>
   rcases Ap.1 h with rfl|h
   . exact⟨_,Aq,rfl⟩
   grind
  |ft b X L enc=>obtain⟨e,h1,h2⟩:=ih h;grind
theorem Mj {log:List Ev} {b:Nat} (h:(!(cM b (log.map Ev.id)))=true):∀e∈log,e.id≠b:=by
 grind [eM]
theorem HS.bare {C C':Cx} {h h':SH} {a h1:AH} {log:List Ev} {hid hidA:List (Nat×Nat)} (H:HS tab C h a) (hal:lF C h hid hidA) (hT:Tr C log C') (H':HS tab C' h' h1) (hG:Grow (iX a hidA) h1) (hm:∀x∈hid,∀e∈log,e.id≠x.2):
   HS tab C' (lR h' h log hid) (restore h1 a hidA)/\(∀i b,h1.get i=some b->(restore h1 a hidA).get i=h1.get i)/\(∀y∈hidA,h1.get y.2=none)/\(∀x∈hid,∀o I,h.get x.2=some o->C.ρ x.2=some I->I.cap.isSome->(restore h1 a hidA).get I.β=a.get I.β/\ ∃o',(lR h' h log hid).get x.2=some o'/\C'.ρ x.2=some I):=by
 have hlt:∀y∈hidA,y.2<a.next:=by
   intro y hy;obtain⟨x,hx,o,I,g1,g2,g3,g4⟩:=hal.right y hy;obtain⟨b,hb⟩:=(H.at_ g1 g2).live g3;rw[<-g4];exact H.wf _ _ hb
 have hnone:∀y∈hidA,h1.get y.2=none:=by
   intro y hy
   cases hz:h1.get y.2 with
   |none=>rfl
   | some b=>
     rcases hG.old _ _ hz with⟨o0,h0⟩|hge
     . rw[iU,Al ⟨y,hy,rfl⟩]at h0;cases h0
     grind [jM]
 have hlive:∀i b,h1.get i=some b->(restore h1 a hidA).get i=h1.get i:=by
   grind [oM]
 have hhid:∀x∈hid,∀o I,h.get x.2=some o->C.ρ x.2=some I->I.cap.isSome->(restore h1 a hidA).get I.β=a.get I.β/\h1.get I.β=none/\ ∃o',(lR h' h log hid).get x.2=some o'/\C'.ρ x.2=some I/\eF tab C' I o' (restore h1 a hidA):=by
   intro x hx o I ho hI hc;obtain⟨o1,I1,g1,g2,g3,y,hy,g4⟩:=hal.left x hx;rw[hI]at g2;cases g2;have e1:(restore h1 a hidA).get I.β=a.get I.β:=by rw[oM,Al ⟨y,hy,g4⟩]
   obtain⟨o',k1,k2⟩:=Vc o log;refine⟨e1,by rw[<-g4];grind,o',?_,hT.same hI hc (hm x hx),k2 hT e1 (H.at_ ho hI)⟩;rw[qB,Al ⟨x,hx,rfl⟩,ho];exact k1
 refine⟨⟨?_,?_,?_,?_,?_,?_⟩,hlive,hnone,fun x hx o I ho hI hc=>?_⟩
 . intro p o hp;rw[qB]at hp;split at hp
   . rename_i hex;obtain⟨x,hx,rfl⟩:=hex;obtain⟨o1,I1,g1,g2,g3,_⟩:=hal.left x hx;obtain⟨_,_,o',k1,k2,k3⟩:=hhid x hx o1 I1 g1 g2 g3;rw[qB,Al ⟨x,hx,rfl⟩,hp]at k1;grind
   . obtain⟨I,hI,ho⟩:=H'.obj p o hp;refine⟨I,hI,?_⟩;by_cases hc:I.cap.isSome
     . obtain⟨b,hb⟩:=ho.live hc;exact ho.congr (hlive _ _ hb)
     . cases o with
       |cells cs t=>exact absurd ho.1 hc
       |arr X L enc t=>
        obtain⟨g1,g2,g3,g4,g5⟩:=ho;refine⟨g1,g2,g3,g4,?_⟩;grind
 . have key:∀p q o' I J,(∃x∈hid,x.2=p)->h'.get q=some o'->C'.ρ p=some I->C'.ρ q=some J->I.cap.isSome->J.cap.isSome->I.β≠J.β:=by
     rintro p q o' I J ⟨x,hx,rfl⟩ hq hI hJ hc hc' e;obtain⟨o1,I1,g1,g2,g3,_⟩:=hal.left x hx;obtain⟨_,k0,_,_,k2,_⟩:=hhid x hx o1 I1 g1 g2 g3;rw[hI]at k2;cases k2;obtain⟨b,hb⟩:=(H'.at_ hq hJ).live hc';rw[<-e,k0]at hb;cases hb
   intro p q o o' I J hp hq hI hJ hc hc' e;rw[qB]at hp hq;split at hp
   . rename_i h3;split at hq
     . rename_i h4;obtain⟨x,hx,rfl⟩:=h3;obtain⟨z,hz,rfl⟩:=h4;obtain⟨o1,I1,g1,g2,g3,_⟩:=hal.left x hx;obtain⟨_,_,_,_,k2,_⟩:=hhid x hx o1 I1 g1 g2 g3;obtain⟨o2,I2,q1,q2,q3,_⟩:=hal.left z hz;obtain⟨_,_,_,_,k3,_⟩:=hhid z hz o2 I2 q1 q2 q3;rw[hI]at k2;cases k2;rw[hJ]at k3;cases k3;exact H.inj _ _ o1 o2 I J g1 q1 g2 q2 g3 q3 e
     grind
   . split at hq
     . grind
     . exact H'.inj p q o o' I J hp hq hI hJ hc hc' e
 . intro i o hi;have:=H'.fz i o hi;rw[hlive i o this];exact this
 . intro p o I hp hI hc;rw[qB]at hp;split at hp
   . rename_i h3;obtain⟨x,hx,rfl⟩:=h3;obtain⟨o1,I1,g1,g2,g3,_⟩:=hal.left x hx;obtain⟨_,k0,_,_,k2,_⟩:=hhid x hx o1 I1 g1 g2 g3;rw[hI]at k2;cases k2
     cases hz:C'.Fz I.β with
     |none=>rfl
     | some b=>
       have:=H'.fz _ _ hz;rw[k0]at this;cases this
   . exact H'.dj p o I hp hI hc
 . intro p I hI;rw[Tg];exact H'.lt p I hI
 . intro i o hi;rw[wE];rw[oM]at hi;split at hi
   . have:=H.wf i o hi;have h2:=hG.next;rw[jM]at h2;omega
   . exact H'.wf i o hi
 grind
end
end
section
universe u v
variable [Inhabited aF]
section
variable {P:Program} {tab:bm} {cfg:iw} {ops:Array Oper} {nt:Nat} {rec:SM->(SV->St->Prop)->Prop}
theorem Zu (htab:cfg.tab=tab) (hrec:o7 P tab rec) (hcon:∀g C,cfg.gL g=some C->cA P tab g C) {C:Cx} {d:SD} {e:DS} {i:Nat} {o:Oper} {K:SD->Prop} (h:tO cfg rec ops nt i o d K) (S:kk tab ops C d e):
   oq P tab ops nt i o e fun e'=>∃d' C' new,K d'/\kk tab ops C' d' e'/\Prog C d e new C' d' e':=by
 obtain⟨s,aM,reads,aC⟩:=d;obtain⟨hF,H,hanc,hal,hrd⟩:=S;subst hanc;obtain⟨hok,h⟩:=cO h;obtain⟨w,s1,h1,hw,hF1,eh,el⟩:=Co h hF;obtain⟨rfl,h1⟩:=cO h1;have h:=nG (nG (wU (nG h1)));obtain⟨ts,hh,log⟩:=s1;subst eh;have halh:=hal.filter (fun j=> !(cM j (eO e.aM o)));generalize hhd:(aC.filter fun x=> !(cM x.1 (eO e.aM o)))=hid at h halh
 generalize hhA:(e.aC.filter fun x=> !(cM x.1 (eO e.aM o)))=hidA at halh
 have hnot:∀p o' I,s.h.get p=some o'->C.ρ p=some I->I.cap.isSome->(¬∃x∈hid,x.2=p)->¬∃y∈hidA,y.2=I.β:=by
   rintro p o' I hp hI hc hn ⟨y,hy,hyb⟩;obtain⟨x,hx,ox,Ix,x1,x2,x3,x4⟩:=halh.right y hy;exact hn ⟨x,hx,(H.inj p x.2 o' ox I Ix hp x1 hI x2 hc x3 (by rw[x4,hyb])).symm⟩
 have hfz:∀j ob,C.Fz j=some ob->¬∃y∈hidA,y.2=j:=by
   rintro j ob hj ⟨y,hy,rfl⟩;obtain⟨x,hx,ox,Ix,x1,x2,x3,x4⟩:=halh.right y hy;have:=H.dj x.2 ox Ix x1 x2 x3;rw[x4,hj]at this;grind
 have Hh:HS tab C (o9 s.h hid) (iX e.h hidA):=by
   refine H.part (S6 _ _) (fun p o' hp=>?_) (fun j ob hj=>?_) (jM _ _) (fun j ob hj=>?_) (fun p o' I hp hI hc=>?_)
   . rw[wV]at hp;split at hp
     . cases hp
     . exact hp
   . rw[iU]at hj;split at hj
     . cases hj
     . exact hj
   . rw[iU,An (hfz j ob hj)];exact H.fz j ob hj
   . rw[wV]at hp;split at hp
     all_goals grind [iU]
 have heff:=KM (s:=⟨ts,o9 s.h hid,[]⟩) (ta:=e.ts) htab hrec hcon h hF1 Hh;refine⟨hok,hw,?_⟩;rw[hhA];refine heff.mono ?_;rintro v h1 hle ⟨sv,s',hk,⟨⟨C',new,e1,e2,e3,e4,e5,e6⟩,e7⟩⟩;obtain⟨ts',h',log'⟩:=s';subst e1;obtain⟨hck,hk⟩:=cO hk;simp only[Ac,AB]at hck;obtain⟨hck1,hck2⟩:=hck;obtain⟨B1,B2,B3,B4⟩:=H.bare halh e2 e4 e7 (fun x hx=>Mj (hck2 x hx));obtain⟨s2,k1,k2,k3,k4⟩:=sV (s:=⟨ts',lR h' s.h log' hid,log++log'⟩) hk e5 e3;have hread:∀x∈e.reads.filter (fun x=> !(cM x.1 (eO e.aM o))),∃rs,(x.1,rs)∈reads.filter (fun x=> !(cM x.1 (eO e.aM o)))/\sd tab ops C s.h e.h x rs/\
     ∀p∈rs,(∀e∈log',e.id≠p)/\(h'.get p).isSome/\ ¬∃y∈hid,y.2=p:=by
   intro x hx;obtain⟨hx1,hx2⟩:=As.1 hx;obtain⟨rs,g1,g2⟩:=hrd x hx1;have hm:(x.1,rs)∈reads.filter (fun x=> !(cM x.1 (eO e.aM o))):=As.2 ⟨g1,hx2⟩;refine⟨rs,hm,g2,fun p hp=>?_⟩;have h5:=hck1 _ hm p hp;refine⟨Mj h5.1.1,h5.1.2,?_⟩;rintro⟨y,hy,rfl⟩;have h6:=h5.2 y hy;simp at h6
 have hkeep:∀p o' I,s.h.get p=some o'->C.ρ p=some I->I.cap.isSome->(∀e∈log',e.id≠p)->(h'.get p).isSome->(¬∃y∈hid,y.2=p)->
     (restore h1 e.h hidA).get I.β=e.h.get I.β/\ ∃o',(lR h' s.h log' hid).get p=some o'/\C'.ρ p=some I:=by
   intro p o' I hp hI hc hm hs hn;obtain⟨k,_⟩:=e6 p o' I (by rw[wV,An hn];exact hp) hI hc (fun hmm=>by
     grind [TY])
   rw[iU,An (hnot p o' I hp hI hc hn)]at k;obtain⟨o2,ho2⟩:=Bp.1 hs;refine⟨?_,o2,by rw[qB,An hn];exact ho2,e2.same hI hc hm⟩;rw[oM,An (hnot p o' I hp hI hc hn)];exact k
 have hstb:∀x∈e.reads.filter (fun x=> !(cM x.1 (eO e.aM o))),∃rs,(x.1,rs)∈reads.filter (fun x=> !(cM x.1 (eO e.aM o)))/\sd tab ops C' (lR h' s.h log' hid) (restore h1 e.h hidA) x rs:=by
   intro x hx;obtain⟨rs,g1,g2,g3⟩:=hread x hx;exact⟨rs,g1,g2.mono e2.fz fun p hp o' I hpo hI hc=>hkeep p o' I hpo hI hc (g3 p hp).1 (g3 p hp).2.1 (g3 p hp).2.2⟩
 refine⟨U6 fun x hx=>?_,_,C',log',k1,⟨?_,?_,rfl,?_,?_⟩,⟨?_,e2,?_,?_⟩⟩
 . obtain⟨rs,g1,g2,g3⟩:=hread x hx;obtain⟨ox,a0,hx1,q1,q2,q3,qb,q4,q5⟩:=g2;refine⟨ox,_,q1,zG q2 q3 (h:=iX (restore h1 e.h hidA) hidA) (fun β ob hβ=>?_) q4,qb⟩;rcases q5 β ob hβ with hz|⟨hz,p,hp,o',I,p1,p2,p3,rfl⟩
   . rw[iU,An (hfz β ob hz),oM,An (hfz β ob hz)];exact e4.fz _ _ (e2.fz _ _ hz)
   . obtain⟨r1,r2,r3⟩:=g3 p hp;rw[iU,An (hnot p o' I p1 p2 p3 r3),(hkeep p o' I p1 p2 p3 r1 r2 r3).1];exact hz
 . rw[wN];exact k2
 . rw[k3];exact B1
 . rw[k3];exact halh.mono fun x hx o' I hp hI hc=>(B4 x hx o' I hp hI hc).2
 . rw[k3];exact hstb
 . grind
 . refine⟨?_,fun j ob hj=>?_⟩
   . rw[wE];have:=e7.next;rw[jM]at this;exact this
   . rw[oM]at hj;split at hj
     . grind
     . rcases e7.old j ob hj with⟨o0,h0⟩|hge
       . rw[iU]at h0;split at h0
         . cases h0
         . exact .inl ⟨o0,h0⟩
       . rw[jM]at hge;exact .inr hge
 . rw[k3];intro p o' I hp hI hc hm;by_cases hn:∃y∈hid,y.2=p
   . obtain⟨y,hy,rfl⟩:=hn;obtain⟨q1,q2⟩:=B4 y hy o' I hp hI hc;exact⟨q1, .inl q2⟩
   . obtain⟨q1,q2⟩:=e6 p o' I (by rw[wV,An hn];exact hp) hI hc hm;rw[iU,An (hnot p o' I hp hI hc hn)]at q1;refine⟨by rw[oM,An (hnot p o' I hp hI hc hn)];exact q1,?_⟩;rcases q2 with⟨o2,r1,r2⟩|r
     . exact .inl ⟨o2,by rw[qB,An hn];exact r1,r2⟩
     grind
theorem KG (htab:cfg.tab=tab) (hrec:o7 P tab rec) (hcon:∀g C,cfg.gL g=some C->cA P tab g C):EX P tab cfg rec:=by
 have main:∀(ops:Array Oper) (nt n:Nat) (d:SD) (e:DS) (C:Cx) (K:St->Prop),yU cfg rec ops nt n d K->kk tab ops C d e->
   fR P tab ops nt (fun sF=>∃s' C' new,K s'/\s'.log=d.s.log++new/\Tr C new C'/\HS tab C' s'.h sF.h/\FS C' s'.ts sF.ts/\Grow e.h sF.h/\cY C d.s.h e.h new C' s'.h sF.h) n e:=by
  intro ops nt n;induction n with
  |zero=>intro d e C K h;exact h.elim
  |succ n ih=>
   intro d e C K h S;obtain⟨e1,d1,C1,g1,g2,g3,g4⟩:=Zn htab ops.toList 0 d e C _ (fun j o hj=>by grind) h S;refine⟨e1,g1,?_⟩;rw[g3.aM]at g2;split at g2
   . rename_i hc;obtain⟨_,hk⟩:=cO g2;exact .inl ⟨hc,d1.s,C1,[],hk,g4.log,g4.tr,g3.H,g3.F,g4.grow,g4.bn⟩
   . rename_i c o hc;refine .inr ⟨c,o,hc,?_⟩;obtain⟨q1,q2,q3⟩:=Zu htab hrec hcon g2 g3;refine⟨q1,q2,q3.mono fun v h1 _ hΘ=>⟨hΘ.1,?_⟩⟩;obtain⟨d2,C2,new,k1,k2,k3⟩:=hΘ.2;refine fR.mono ?_ _ _ (ih d2 _ C2 K k1 k2);rintro sF ⟨s',C',new',r1,r2,r3,r4,r5,r6,r7⟩;have p:=g4.trans k3 g3.H.fz k2.H.fz;simp only[BA]at p;exact⟨s',C',new++new',r1,by rw[r2,p.log,BH],p.tr.trans r3,r4,r5,p.grow.trans r6,p.bn.trans r7 r3.fz k2.H.fz r4.fz⟩
   grind
 intro ops nt n s K ta a C h hF H;exact main ops nt n ⟨s, .e,[],[]⟩ {ts:=ta,h:=a,aM:= .e,reads:=[],aC:=[]} C K h ⟨hF,H,rfl,trivial,fun x hx=>by cases hx⟩
theorem Hl (pr:fU P tab) (htab:cfg.tab=tab) (hcon:∀g C,cfg.gL g=some C->cA P tab g C) (n:Nat):o7 P tab (wp cfg n):=
 WQ pr htab hcon (fun _ hrec=>KG htab hrec hcon) n
end
end
section
universe u v
variable [Inhabited aF]
section
variable (cfg:iw)
def rj (e v:SV) (s:St):Prop:=
 match s with
 |⟨_,h,_⟩=>match e,v with
  | .bA es, .bA vs=>dX cfg 1000 es vs ⟨[],h,[]⟩ fun _=>True
  | .bA _,_=>False
  |e,v=>dX cfg 1000 [e] [v] ⟨[],h,[]⟩ fun _=>True
end
section
variable {P:Program} {tab:bm} {cfg:iw}
theorem YJ (htab:cfg.tab=tab) {e v:SV} {s:St} (h:rj cfg e v s) {C:Cx} {a:AH} {av:AV} (H:HS tab C s.h a) (hv:aJ C v av):∃Fz':Nat->Option AO,(∀i o,C.Fz i=some o->Fz' i=some o)/\(∀i o,Fz' i=some o->a.get i=some o)/\aO Fz' e av:=by
 obtain⟨ts,hh,log⟩:=s;have one:∀(e v:SV),dX cfg 1000 [e] [v] ⟨[],hh,[]⟩ (fun _=>True)->aJ C v av->∃Fz':Nat->Option AO,(∀i o,C.Fz i=some o->Fz' i=some o)/\(∀i o,Fz' i=some o->a.get i=some o)/\aO Fz' e av:=by
   intro e v h hv;obtain⟨C1,new,s1,g1,g2,g3,g4,g5,_,g7⟩:=E0 (ta:= .e) htab 1000 _ _ [av] _ C _ h (aV.cons hv aV.nil) (fun t s hs=>by grind [look]) H;exact⟨C1.Fz,g2.fz,g3.fz,g7.2 0 e av rfl rfl⟩
 simp only[rj]at h;split at h
 . obtain⟨us,rfl,hs⟩:=yo hv;obtain⟨C1,new,s1,g1,g2,g3,g4,g5,_,g7⟩:=E0 (ta:= .e) htab 1000 _ _ us _ C _ h hs (fun t s hs=>by grind [look]) H;exact⟨C1.Fz,g2.fz,g3.fz, .bA g7.1 g7.2⟩
 all_goals grind
end
end
section
universe u v
variable [Inhabited aF]
def zl (v:SV) (_:St):Prop:=match v with| .bool b=>b=true|_=>False
section
variable {P:Program} {tab:bm} {cfg:iw}
end
end
section
universe u v
variable [Inhabited aF]
section
variable {P:Program} {tab:bm}
theorem eR.shut (ok:bN P tab) {f:FuncId} {fn:Func} {body:Code} {avs:List AV} {Θ:AV->AH->Prop} (hfn:tab.fns.get f=some fn) (hb:fn.body=some body) (hgo:eR P {fr:=ag.enter fn f body avs .normal,cs:=[],h:=fm} Θ)
   (hargs:∀E E',bp E avs=bp E' avs) (hv:∀v h',Θ v h'->∀E E',af E v=af E' v) (a:AH):eR P {fr:=ag.enter fn f body avs .normal,cs:=[],h:=a} fun v a'=>a'=a/\ ∃h',Θ v h':=by
 intro D E K base frC csC w hR hB;have hP:=ok.fns f fn hfn;obtain⟨q1,q2,q3⟩:=hR.all E (ak.refl _ _);have hR0:Rel (fun _=>False) E (KS.old w.heap.size) {fr:=ag.enter fn f body avs .normal,cs:=[],h:=fm} base frC csC w:=by
   refine⟨fun E' _=>⟨KH E' _ w (fun b h=>h) (fun b h=>h),?_,q3⟩,fun i h=>h.elim,hR.wf⟩;rw[<-q2];rw[<-mH hP hb,<-mH hP hb,hargs E' E]
 obtain⟨v,h',hΘ,fr',w',v',E',D',s1,s2,s3,s4,s5,s6,s7,s8,s9,s10⟩:=hgo _ E _ base frC csC w hR0 (fun b hb=>⟨q1.kb b (hB b hb).1,(hB b hb).2⟩);refine⟨v,a,⟨rfl,h',hΘ⟩,fr',w',v',E,D,s1,s2,s3,fun E'' he=>⟨?_,?_⟩,ak.refl _ _,fun _ h=>h,hR.ey,⟨s8.os,s8.tape,s8.output,s8.size,fun b hb'=>s8.block b (q1.kb b hb'),s8.drawn⟩,Ad _,fun i hi=> .inl hi⟩
 . obtain⟨g1,_,_⟩:=hR.all E'' he;refine⟨fun i o hi=>?_,g1.nk,g1.inj,g1.ey,fun b hb'=>AR (g1.kb b hb') s8.size,g1.im,g1.k0⟩;obtain⟨c,h1,h2⟩:=g1.obj i o hi;refine⟨c,?_,h2⟩;rw[s8.block _ (Ab.1 h1).1];exact h1
 . rw[<-(s4 E' (ak.refl _ _)).2];grind
theorem cA.shut (pr:fU P tab) {f:FuncId} {C:aK} (h:∀fn body,tab.fns.get f=some fn->fn.body=some body->∀y,C.pre y->∀avs Fz,PL Fz (C.args y) avs->(∀E E',bp E avs=bp E' avs)/\ ∃Θ:AV->AH->Prop,eR P {fr:=ag.enter fn f body avs .normal,cs:=[],h:=fm} Θ/\ ∀v h',Θ v h'->(∀E E',af E v=af E' v)/\aO (fun _=>none) (C.res y) v):cA P tab f C:=by
 intro fn body hfn hb y hy Fz a avs hfz hwf hlen hav;obtain⟨h1,Θ,h2,h3⟩:=h fn body hfn hb y hy avs Fz ⟨hlen,hav⟩;refine(eR.shut pr.ok hfn hb h2 h1 (fun v h' hv=>(h3 v h' hv).1) a).mono ?_;rintro v a' ⟨rfl,h',hv⟩;exact⟨Fz,fun _ _ h=>h,hfz,(h3 v h' hv).2.mono (fun _ _ h=>by cases h),Grow.refl _,fun _ _ h=>h,hwf,fun _ _ h=> .inl h⟩
theorem eR.run (pr:fU P tab) {n:Nat} {m:AM} {outs:List (AV×AH)} (h:Am.run tab n m= .ok outs):eR P m fun v h'=>(v,h')∈outs:=by
 intro D E K base frC csC w hR hB;exact(U9 pr.ok pr.ext (fun sub hsub=>zS pr.ok hsub pr.ext pr.mix) n).1 m outs h D E K base frC csC w hR
end
end
section
universe u v
variable [Inhabited aF]
def dK (n:Nat):Value->AV
 | .bool b=> .bool b
 | .int k z=> .int k z
 | .string s=> .str s.data.toList
 | .pointer none=> .bj
 | .slice none 0 0=> .nils
 | .slice (some ⟨b,off,none⟩) (len+1) cap=>if b<n then .sl b off (len+1) (.lit cap)else .raw (.slice (some ⟨b,off,none⟩) (len+1) cap)
 | .map none=> .bw
 | .nilFunc=> .bB
 |v=> .raw v
def dh (n:Nat):Value->AV
 | .agg cs=> .agg (cs.toList.map (dK n))
 |v=>dK n v
theorem JL {n:Nat} {E:Env} (hE:∀i,i<n->E.aA i=i) (v:Value):af E (dK n v)=v:=by
 unfold dK;split<;>try (simp[af];done)
 grind [af,gB.val]
theorem Jd {n:Nat} {E:Env} (hE:∀i,i<n->E.aA i=i) (l:List Value):bp E (l.map (dK n))=l:=by
 induction l with
 |nil=>rfl
 |cons v l ih=>simp_all[JL]
theorem CB {n:Nat} {E:Env} (hE:∀i,i<n->E.aA i=i) (v:Value):af E (dh n v)=v:=by
 unfold dh;split
 all_goals simp_all[af,Jd,JL]
theorem wM {n:Nat} {E:Env} (hE:∀i,i<n->E.aA i=i) (l:List Value):bp E (l.map (dh n))=l:=by
 induction l with
 |nil=>rfl
 |cons v l ih=>simp_all[CB]
def lU (tab:bm) (w:World) (b:Nat):Option AO:=
 match w.heap[b]? with
 |some (.cells arr e _)=>some (.cells (arr.toList.map (dK w.heap.size)) e ((tab.siz.get e).getD 1) false .ro)
 |_=>none
def bQ (tab:bm) (w:World):AH:=ofFn w.heap.size (lU tab w)
theorem Km {tab:bm} {w:World} {b:Nat} {o:AO} (h:lU tab w b=some o):∃arr e fz,w.heap[b]? =some (.cells arr e fz)/\o= .cells (arr.toList.map (dK w.heap.size)) e ((tab.siz.get e).getD 1) false .ro:=by
 grind [lU]
theorem CK {tab:bm} {w:World} {b:Nat}:(bQ tab w).get b=lU tab w b:=by
 grind [bQ,qJ,lU]
theorem oU (tab:bm) (w:World) {E:Env} (hE:∀i,i<w.heap.size->E.aA i=i):bH E (bQ tab w) (KS.old w.heap.size) w:=by
 have hro:∀i o,(bQ tab w).get i=some o->o.ro/\i<w.heap.size:=by
   intro i o hi;rw[CK]at hi;obtain⟨arr,e,fz,hb,rfl⟩:=Km hi;exact⟨trivial,(Ab.1 hb).1⟩
 refine⟨fun i o hi=>?_,fun i o hi hr=>absurd (hro i o hi).1 hr,fun i j oi oj hi hj hr=>absurd (hro i oi hi).1 hr,fun i o hi=>(hro i o hi).2,fun b hb=>hb,fun i o hi _=>?_,fun b hb=>hb⟩
 . rw[CK]at hi;obtain⟨arr,e,fz,hb,rfl⟩:=Km hi;have hlt:=(Ab.1 hb).1;refine⟨_,by rw[hE i hlt];exact hb,arr,fz,rfl,⟨[],by grind [Jd]⟩,by simp,trivial⟩
 grind
theorem xu (n:Nat) (a:Addr) (c:Nat):dK n (.slice (some a) 0 c)= .raw (.slice (some a) 0 c):=by
 simp_all[dK]
theorem XT {n b off len cap:Nat} (h:len≠0) (hb:b<n):dK n (.slice (some ⟨b,off,none⟩) len cap)= .sl b off len (.lit cap):=by
 cases len with
 |zero=>omega
 |succ len=>grind [dK]
theorem xo {tab:bm} {w:World} {X:Type} {L:List X} {enc:X->List SV} {b off len cap:Nat} {arr:Array Value} {e:TypeId} {fz:Nat×Nat} {sz:Nat} (hb:w.heap[b]? =some (.cells arr e fz))
   (h0:0<sz) (hn:∀x∈L,(enc x).length=sz) (hl:off+L.length*sz<=arr.size) (hlen:len=L.length) (hcap:len<=cap)
   (hc:∀(i:Nat) x (j:Nat) v,L[i]? =some x->(enc x)[j]? =some v->∃u,arr[off+i*sz+j]? =some u/\aO (bQ tab w).get v (dK w.heap.size u)):
   aO (bQ tab w).get (.bh X L enc) (dK w.heap.size (.slice (some ⟨b,off,none⟩) len cap)):=by
 have hlt:=(Ab.1 hb).1;have hg:(bQ tab w).get b=some (.cells (arr.toList.map (dK w.heap.size)) e ((tab.siz.get e).getD 1) false .ro):=by
   rw[CK];grind [lU]
 subst hlen;by_cases hL:L.length=0
 . rw[hL,xu];exact .bP hL (.inr (.inr ⟨_,_,rfl⟩))
 rw[XT hL hlt];refine .bh b off (.lit cap) _ e sz false .ro (fun i j=>dK w.heap.size (arr[off+i*sz+j]?.getD (.bool false))) ⟨_,false,hg,fun h=>by cases h⟩ h0 (by grind) (fun i x hx=>hn x (Bv hx)) hcap ?_ ?_
 . intro i x j v hx hv;obtain⟨u,hu,_⟩:=hc i x j v hx hv;simp[hu]
 . intro i x j v hx hv;obtain⟨u,hu,hs⟩:=hc i x j v hx hv;simp only[hu,Bi];exact hs
section
variable {P:Program} {tab:bm} {cfg:iw}
end
end
section
universe u v
variable [Inhabited aF]
abbrev ax (a b:Int):Prop:=a=b
theorem ai {b:Bool} {p q:Prop}:br b p q↔(b=true->p)/\(b=false->q):=by
 cases b<;>simp[br]
theorem aG {b:Bool} {p q:Prop} (h:b=true->p) (k:b=false->q):br b p q:=ai.2 ⟨h,k⟩
theorem ah {b:Bool} {p:Prop}:ck b p↔b=true/\p:=by
 cases b<;>simp[ck]
theorem az {α:Type u} {x:Option α} {k:α->Prop}:so x k↔∃a,x=some a/\k a:=by
 cases x<;>simp[so]
theorem mP (n:Int):nn n=decide (0<=n):=by
 rw[AA]
 cases n with
 |ofNat a=>grind [nn]
 |negSucc a=>grind [nn]
theorem hZ (n:Int):bD .i64 n=true↔ -9223372036854775808<=n/\n<=9223372036854775807:=by
 grind [bD,zo,zk,ed]
def cy {C:aK} (cfg:C.Y->iw) (n:Nat) (f:FuncId):Prop:=∀y:C.Y,C.pre y->ask (cfg y) n f (C.args y) (rj (cfg y) (C.res y))
theorem bR {P:Program} {tab:bm} {C:aK} {cfg:C.Y->iw} (pr:fU P tab) (htab:∀y,(cfg y).tab=tab) (hcon:∀y g C',(cfg y).gL g=some C'->cA P tab g C') {n:Nat} {f:FuncId} (h:cy cfg n f):cA P tab f C:=by
 refine cA.of fun fn body hfn hb y hy C0 a avs hρ H hlen hav=>?_
 have h1:=h y hy;unfold ask at h1;rw[htab y,hfn]at h1;simp only[hb]at h1;refine(Hl pr (htab y) (hcon y) n f fn body (C.args y) ⟨0,[]⟩ a C0 avs _ hfn hb h1 H ⟨hlen,fun i s v hs hv=> .pure (hav i s v hs hv)⟩).mono ?_;rintro v a' ⟨sv,s',C',k1,k2,k3,k4⟩;exact⟨sv,s',C',fun C1 a1 av H1 hv1=>YJ (htab y) k1 H1 hv1,k2,k3,k4⟩
theorem bM {P:Program} {tab:bm} {gL:FuncId->Option aK} {k:FuncId} {c:aK} (hc:cA P tab k c) (h:∀g C,gL g=some C->cA P tab g C):∀g C,(bif Nat.beq g k then some c else gL g)=some C->cA P tab g C:=by
 grind [Nat.eq_of_beq_eq_true]
theorem sN {P:Program} {tab:bm}:∀g C,(none:Option aK)=some C->cA P tab g C:=fun _ _ h=>by cases h
end
end Go.Sy
namespace Go.Proofs
open Go Go.Am Go.RowKit Go.Sy
abbrev Bs:=List UInt8
def nB (b:UInt8):Int:=Int.ofNat b.toNat
def kV (s:Bs):List SV:=[.str s]
def dA (s:Bs) (c:Int):Option Nat:=s.findIdx? (fun b=>nB b==c)
def iK (s:Bs) (c:Int):Int:=match dA s c with|some i=>(i:Int)|none=> -1
def eH (s:Bs) (c:Int):Bs×Bs×Bool:=match dA s c with|some i=>(s.take i,s.drop (i+1),true)|none=>(s,[],false)
def splitB:Bs->Int->List Bs
 |[],_=>[[]]
 |b::s,c=>if nB b=c then[]::splitB s c else match splitB s c with
  |h::t=>(b::h)::t
  |[]=>[[b]]
def dD (b:UInt8):Bool:=decide (48<=nB b)&&decide (nB b<=57)
def dN (s:Bs):Nat:=(s.takeWhile dD).length
def bZ (n:Int) (b:UInt8):Int:=min (n*10+(nB b - 48)) 1099511627776
def cG (s:Bs):Bool:=match s with|b::_=>nB b==45|[]=>false
def aw (s:Bs):Bs:=if cG s then s.drop 1 else s
def bo (s:Bs):Int×Bool:=if aw s=[]\/dN (aw s)<(aw s).length then(0,false)else((if cG s then -1 else 1)*(aw s).foldl bZ 0,true)
def mO:Nat->Nat->Bs
 |0,_=>[]
 |k+1,n=>if n<=9 then[UInt8.ofNat (48+n)]else mO k (n / 10)++[UInt8.ofNat (48+n % 10)]
def kL (n:Nat):Bs:=mO 40 n
def iu (b:UInt8):Bool:=(decide (97<=nB b)&&decide (nB b<=122))||(decide (48<=nB b)&&decide (nB b<=57))||nB b==45||nB b==95
def gF (c:Int) (e:Bool):Bool:=if c=45 then !e else(decide (97<=c)&&decide (c<=122))||(decide (48<=c)&&decide (c<=57))||c==95
def fa (s:Bs):Bool:=s !=[]&&decide (s.length<=63)&&s.all iu&&s.head? !=some 45&&s.getLast? !=some 45
def gU (p:Bs):Bool:=p !=[]&&decide (dN p=p.length)&&decide ((bo p).1<=255)&& !(decide (1<p.length)&&p.head? ==some 48)
def fx (s:Bs):Bool:=decide ((splitB s 46).length=4)&&(splitB s 46).all gU
def cS (b:UInt8):Bool:=(decide (48<=nB b)&&decide (nB b<=57))||(decide (97<=nB b)&&decide (nB b<=102))||nB b==58||nB b==46
def fi (s:Bs):Bool:=decide (4<=s.length)&&decide (s.length<=47)&&s.head? ==some 91&&s.getLast? ==some 93&&((s.drop 1).take (s.length - 2)).all cS
def gy (s:Bs):Bool:=fx s||fi s
def dQ (s:Bs):Bool:=decide (s.length<=256)&& !fx s&&(splitB s 46).all fa
def gz (s:Bs):Bs×Bool×Bool:=if(s.take 2)=[42,46]then(s.drop 2,true,false)else if s.take 1=[33]then(s.drop 1,false,true)else(s,false,false)
def jV (s:Bs):Bool:=dQ (gz s).1&&(!(gz s).2.2||decide (1<(splitB (gz s).1 46).length))
theorem pS {a b:UInt8} (h:nB a=nB b):a=b:=by
 grind [nB,UInt8.toNat_inj]
theorem fe {s:Bs} {c:Int} {i:Nat}:dA s c=some i↔∃h:i<s.length,nB s[i]=c/\ ∀j (hj:j<i),nB (s[j]'(by omega))≠c:=by
 grind [dA,List.findIdx?_eq_some_iff_getElem]
theorem jv {s:Bs} {c:Int}:dA s c=none↔∀j (hj:j<s.length),nB s[j]≠c:=by
 grind [dA,List.getElem_of_mem]
theorem Kp (s:Bs) (c:Int):splitB s c≠[]:=by
 cases s with
 |nil=>simp[splitB]
 |cons b s=>
  grind [splitB]
theorem wJ (s:Bs) (c:Int):splitB s c=match dA s c with|some i=>s.take i::splitB (s.drop (i+1)) c|none=>[s]:=by
 induction s with
 |nil=>simp[splitB,dA]
 |cons b s ih=>
  grind [splitB,dA]
theorem zZ (s:Bs) (c:Int):(splitB s c).length<=s.length+1:=by
 induction s with
 |nil=>simp[splitB]
 |cons b s ih=>
  grind [splitB]
theorem Sq (s:Bs) (c:Int):∀p∈splitB s c,p.length<=s.length:=by
 induction s with
 |nil=>simp[splitB]
 |cons b s ih=>
  grind [splitB]
theorem xz (s:Bs):dN s<=s.length:=(DM _).length_le
theorem xi {s:Bs} (h:¬dN s<s.length):∀b∈s,dD b=true:=by
 have h1:dN s=s.length:=Nat.le_antisymm (xz s) (DG h);grind [dN,List.IsPrefix.eq_of_length,List.takeWhile_prefix,List.all_takeWhile]
theorem JO {s:Bs} {j:Nat} (hj:j<dN s):∃h:j<s.length,dD s[j]=true:=by
 induction s generalizing j with
 |nil=>simp_all[dN]
 |cons b s ih=>
  by_cases hb:dD b=true
  . have hd:dN (b::s)=dN s+1:=by grind [dN,List.takeWhile_cons]
    cases j with
    |zero=>grind
    |succ j=>
     simp_all
  grind [dN,List.takeWhile_cons]
theorem ER {s:Bs} (h:dN s<s.length):dD (s[dN s])=false:=by
 induction s with
 |nil=>grind
 |cons b s ih=>
  grind [dN,List.takeWhile_cons]
theorem pL (b:UInt8):dD b=true↔48<=nB b/\nB b<=57:=by simp[dD]
theorem Sr {n:Int} {b:UInt8} (hn:0<=n) (hb:dD b=true):0<=bZ n b/\bZ n b<=1099511627776:=by
 rw[pL]at hb;grind [bZ]
theorem IJ (s:Bs) (h:∀b∈s,dD b=true):∀n:Int,0<=n->n<=1099511627776->0<=s.foldl bZ n/\s.foldl bZ n<=1099511627776:=by
 induction s with
 |nil=>grind
 |cons b s ih=>
  grind [Sr]
section
variable [Inhabited aF]
noncomputable def vwS:TypeId->Option View:=fun t=>bif Nat.beq t Ty.string then some ⟨Bs,kV⟩else none
noncomputable def bC (gL:FuncId->Option aK) (l5:FuncId->Nat->Option aL):iw:={tab:=ph,view:=vwS,gL,l5}
def cV {Y:Type}:Y->FuncId->Nat->Option aL:=fun _ _ _=>none
def cT (f r:Nat) (A:aL):FuncId->Nat->Option aL:=fun g s=>bif Nat.beq g f&&Nat.beq s r then some A else none
def i64 (n:Int):SV:= .int .i64 n
def strs (l:List Bs):SV:= .bh Bs l kV
def tq:aK:={Y:=Bs×Int,pre:=fun y=>y.1.length<=1000000,args:=fun y=>[.str y.1, .int .u8 y.2],res:=fun y=>i64 (iK y.1 y.2)}
def yw (y:Bs×Int):aL:={α:=Nat,ok:=fun i=>i<=y.1.length/\ ∀j (h:j<y.1.length),j<i->nB y.1[j]≠y.2,μ:=fun i=>y.1.length - i,bn:=[],bc:=fun i=>[(0, .str y.1),(1, .int .u8 y.2),(5,i64 (-1)),(8,i64 (Int.ofNat y.1.length)),(9,i64 i)],bV:=fun _=>[]}
def qm:aK:={Y:=Bs×Int,pre:=fun y=>y.1.length<=1000000,args:=fun y=>[.str y.1, .int .u8 y.2],res:=fun y=> .bA [.str (eH y.1 y.2).1, .str (eH y.1 y.2).2.1, .bool (eH y.1 y.2).2.2]}
def sZ:aK:={Y:=Bs×Int,pre:=fun y=>y.1.length<=100000,args:=fun y=>[.str y.1, .int .u8 y.2],res:=fun y=>strs (splitB y.1 y.2)}
def x8 (y:Bs×Int):aL:={α:=Bs×List Bs,ok:=fun x=>splitB y.1 y.2=x.2++splitB x.1 y.2/\x.2.length+x.1.length<=y.1.length,μ:=fun x=>x.1.length,bn:=[],bc:=fun x=>[(0, .str x.1),(1, .int .u8 y.2),(5, .own 0)],bV:=fun x=>[(0, .arr Bs x.2 kV Ty.string)]}
def qn:aK:={Y:=UInt8,pre:=fun _=>True,args:=fun y=>[.int .u8 (nB y)],res:=fun y=> .bool (dD y)}
def tp:aK:={Y:=Bs,pre:=fun y=>y.length<=1000000,args:=fun y=>[.str y],res:=fun y=>i64 (dN y)}
def yO (y:Bs):aL:={α:=Nat,ok:=fun i=>i<=dN y,μ:=fun i=>y.length - i,bn:=[],bc:=fun i=>[(0, .str y),(3,i64 i)],bV:=fun _=>[]}
def lH:aK:={Y:=Bs,pre:=fun y=>y.length<=1000000,args:=fun y=>[.str y],res:=fun y=> .bA [i64 (bo y).1, .bool (bo y).2]}
def jg (y:Bs):aL:={α:=Nat,ok:=fun i=>i<=(aw y).length/\ ∀b∈aw y,dD b=true,μ:=fun i=>(aw y).length - i,bn:=[],bc:=fun i=>[(4, .str (aw y)),(5,i64 (if cG y then -1 else 1)),(6,i64 (((aw y).take i).foldl bZ 0)),(28,i64 (Int.ofNat (aw y).length)),(29,i64 i)],bV:=fun _=>[]}
def xZ (y:Bs×Int):aL:={α:=Nat,ok:=fun i=>i<=y.1.length/\ ∀j (h:j<y.1.length),j<i->nB y.1[j]≠y.2,μ:=fun i=>y.1.length - i,bn:=[],bc:=fun i=>[(0, .str y.1),(1, .int .u8 y.2),(5,i64 i)],bV:=fun _=>[]}
def sR (y:Bs×Int):aL:={α:=Nat×Nat×List Bs,ok:=fun x=>x.1<=x.2.1/\x.2.1<=y.1.length/\splitB y.1 y.2=x.2.2++splitB (y.1.drop x.1) y.2/\x.2.2.length<=x.1/\ ∀j (h:j<y.1.length),x.1<=j->j<x.2.1->nB y.1[j]≠y.2,μ:=fun x=>y.1.length - x.2.1,bn:=[],bc:=fun x=>[(0, .str y.1),(1, .int .u8 y.2),(5, .own 0),(6,i64 x.1),(7,i64 x.2.1)],bV:=fun x=>[(0, .arr Bs x.2.2 kV Ty.string)]}
def me (y:Bs):aL:={α:=Nat,ok:=fun i=>i<=y.length,μ:=fun i=>y.length - i,bn:=[],bc:=fun i=>[(0, .str y),(3,i64 (Int.ofNat (min i (dN y)))),(4,i64 i)],bV:=fun _=>[]}
def bY (y:Bs):Nat:=if cG y then 1 else 0
def jA (y:Bs):aL:={α:=Nat,ok:=fun i=>bY y<=i/\i<=y.length/\ ∀b∈aw y,dD b=true,μ:=fun i=>y.length - i,bn:=[],bc:=fun i=>[(0, .str y),(4,i64 (Int.ofNat (bY y))),(5,i64 (((aw y).take (i - bY y)).foldl bZ 0)),(6,i64 i)],bV:=fun _=>[]}
def FK:aK:={Y:=Nat,pre:=fun y=>y<=1099511627776,args:=fun y=>[i64 y],res:=fun y=> .str (kL y)}
def yy (y:Nat):aL:={α:=Nat×Nat×Bs,ok:=fun x=>x.1<=30/\x.2.2.length<=30/\kL y=mO (10+x.1) x.2.1++x.2.2/\x.2.2.length+x.1<=30/\x.2.1<10 ^ (x.1+1)/\x.2.1<=y,μ:=fun x=>x.2.1,bn:=[],bc:=fun x=>[(0,i64 x.2.1),(3, .str x.2.2)],bV:=fun _=>[]}
noncomputable def yF (f:FuncId):Option aK:=bif Nat.beq f nm then some tq else none
noncomputable def yG (f:FuncId):Option aK:=bif Nat.beq f Gb then some qm else yF f
noncomputable def yH (f:FuncId):Option aK:=bif Nat.beq f nh then some sZ else bif Nat.beq f rM then some qn else yG f
noncomputable def tu (f:FuncId):Option aK:=bif Nat.beq f mV then some tp else bif Nat.beq f mZ then some tp else yH f
noncomputable def Nk (f:FuncId):Option aK:=bif Nat.beq f mW then some lH else bif Nat.beq f nc then some lH else bif Nat.beq f nr then some tq else bif Nat.beq f ni then some sZ else bif Nat.beq f nu then some FK else tu f
noncomputable def bU (_:FuncId):Option aK:=none
end
end Go.Proofs
