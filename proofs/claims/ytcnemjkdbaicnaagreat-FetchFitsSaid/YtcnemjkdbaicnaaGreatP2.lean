/- Part 2: an evaluator, proved sound, and its use at this seat; no condition. -/
import Derived.Test.YtcnemjkdbaicnaaGreatP0
import Derived.Test.YtcnemjkdbaicnaaGreatP1
set_option linter.unusedSimpArgs false
set_option linter.unusedVariables false
set_option linter.unusedSectionVars false
set_option linter.deprecated false
set_option maxRecDepth 100000
namespace Go.Sy
open Go.Am
section
universe u v
inductive SV:Type 1 where
 |bool (b:Bool)
 |int (k:IntKind) (n:Int)
 |str (s:List UInt8)
 |bq
 |wp (a:Addr)
 |ptr (b off:Nat)
 |cF (b i off:Nat)
 |cz (cs:List SV) (off:Nat)
 |nils
 |sl (b off len cap:Nat)
 |own (b:Nat)
 |bn (X:Type) (L:List X) (enc:X->List SV)
 |bP
 |map (b:Nat)
 |bR
 |fn (f:FuncId) (first captured:List SV)
 |agg (cs:List SV)
 |bO (vs:List SV)
 |any
inductive SO:Type 1 where
 |cells (cs:List SV) (elem:TypeId)
 |arr (X:Type) (L:List X) (enc:X->List SV) (elem:TypeId)
def so {α:Type u} (x:Option α) (k:α->Prop):Prop:=match x with|some a=>k a|none=>False
def br (b:Bool) (p q:Prop):Prop:=match b with|true=>p|false=>q
def ck (b:Bool) (p:Prop):Prop:=match b with|true=>p|false=>False
def look {α:Type u}:List (Nat×α)->Nat->Option α
 |[],_=>none
 |(k,v)::l,n=>bif Nat.beq k n then some v else look l n
abbrev Fr:=List (Nat×SV)
structure SH:Type 1 where
 next:Nat
 os:List (Nat×Option SO)
def SH.get (h:SH) (b:Nat):Option SO:=match look h.os b with|some (some o)=>some o|_=>none
def SH.set:SH->Nat->Option SO->SH
 |⟨n,os⟩,b,o=>⟨n,(b,o)::os⟩
def SH.new:SH->SO->SH
 |⟨n,os⟩,o=>⟨n+1,(n,some o)::os⟩
def Fr.of:List SV->Nat->Fr
 |[],_=>[]
 |v::l,n=>(n,v)::Fr.of l (n+1)
def wi:Value->Option SV
 | .bool b=>some (.bool b)
 | .int k n=>some (.int k n)
 | .string s=>some (.str s.data.toList)
 | .pointer none=>some .bq
 | .slice none 0 0=>some .nils
 | .map none=>some .bP
 | .nilFunc=>some .bR
 |_=>none
def jt {α:Type u} {β:Type v} (f:α->Option β):List α->Option (List β)
 |[]=>some []
 |x::l=>match f x,jt f l with|some y,some m=>some (y::m)|_,_=>none
def Gu:Value->Option SV
 | .agg cs=>(jt wi cs.toList).map .agg
 | .tuple vs=>(jt wi vs.toList).map .bO
 |v=>wi v
def lk:AV->Option SV
 | .bool b=>some (.bool b)
 | .int k n=>some (.int k n)
 | .str s=>some (.str s)
 | .bq=>some .bq
 | .nils=>some .nils
 | .bP=>some .bP
 | .bR=>some .bR
 |_=>none
def Ic:AV->Option (List SV)
 | .agg cs=>jt lk cs
 |v=>(lk v).map fun x=>[x]
def fM (ts:Fr):Operand->Option SV
 | .tmp t=>look ts t
 | .const v=>Gu v
 | .func f=>some (.fn f [] [])
 | .global _=>none
def lx (ts:Fr) (l:List Operand):Option (List SV):=jt (fM ts) l
def SV.cells:SV->List SV
 | .agg cs=>cs
 |v=>[v]
def jU:SV->Bool
 | .bool _| .int _ _| .str _| .bq| .wp _| .nils| .bP| .bR| .bn _ _ _=>true
 |_=>false
def SV.known:SV->Bool
 | .any=>false
 |_=>true
def isScalar:SV->Bool
 | .agg _| .bO _| .any=>false
 |_=>true
section
variable (tab:bC)
def ny (t:TypeId) (cs:List SV) (off:Nat):Option SV:=
 match tab.agg.get t with
 |some true=>match tab.siz.get t with
  |some n=>bif Nat.ble (off+n) cs.length then some (.agg ((cs.drop off).take n))else none
  |none=>none
 |some false=>cs[off]?
 |none=>none
def vO (cs:List SV) (off:Nat) (vs:List SV):List SV:=cs.take off++(vs++cs.drop (off+vs.length))
def Ce (h:SH) (t:TypeId) (p:SV) (k:SV->Prop):Prop:=
 match p with
 | .ptr b off=>match h.get b with
  |some (.cells cs _)=>so (ny tab t cs off) k
  |_=>False
 | .cF b i off=>match h.get b with
  |some (.arr _ L enc _)=>so (L[i]?) fun x=>so (ny tab t (enc x) off) k
  |_=>False
 | .cz cs off=>so (ny tab t cs off) k
 |_=>False
def Hv (h:SH) (t:TypeId) (p v:SV) (k:SH->Prop):Prop:=
 match tab.siz.get t with
 | some n=>ck (!(Nat.beq n 0)&&v.known&&Nat.beq v.cells.length n&&v.cells.all isScalar) (match p with
  | .ptr b off=>match h.get b with
   |some (.cells cs e)=>ck (Nat.ble (off+n) cs.length) (k (h.set b (some (.cells (vO cs off v.cells) e))))
   |_=>False
  |_=>False)
 |none=>False
end
end
section
universe u v
inductive Ev:Type 1 where
 |kill (b:Nat)
 |mod (b:Nat)
 |fj (b:Nat) (X:Type) (L:List X) (enc:X->List SV)
def lu:List Ev->List Nat
 |[]=>[]
 | .mod b::l=>b::lu l
 | .kill b::l=>b::lu l
 |_::l=>lu l
mutual
def SV.on (e:Ev):SV->SV
 | .cF b i off=>match e with
  | .kill c=>bif Nat.beq b c then .any else .cF b i off
  | .fj c _ L enc=>bif Nat.beq b c then(match L[i]? with|some x=> .cz (enc x) off|none=> .any)else .cF b i off
  | .mod _=> .cF b i off
 | .own b=>match e with
  | .kill c=>bif Nat.beq b c then .any else .own b
  | .fj c X L enc=>bif Nat.beq b c then .bn X L enc else .own b
  | .mod _=> .own b
 | .sl b off len cap=>match e with
  | .kill c=>bif Nat.beq b c then .any else .sl b off len cap
  | .fj c _ _ _=>bif Nat.beq b c then .any else .sl b off len cap
  | .mod _=> .sl b off len cap
 | .ptr b off=>match e with
  | .kill c=>bif Nat.beq b c then .any else .ptr b off
  | .fj c _ _ _=>bif Nat.beq b c then .any else .ptr b off
  | .mod _=> .ptr b off
 | .fn f xs ys=> .fn f (fW e xs) (fW e ys)
 | .agg cs=> .agg (fW e cs)
 | .bO cs=> .bO (fW e cs)
 |v=>v
def fW (e:Ev):List SV->List SV
 |[]=>[]
 |v::l=>SV.on e v::fW e l
end
def SO.on (e:Ev):SO->SO
 | .cells cs t=> .cells (fW e cs) t
 |o=>o
def jz (e:Ev):List (Nat×Option SO)->List (Nat×Option SO)
 |[]=>[]
 |(b,none)::l=>(b,none)::jz e l
 |(b,some o)::l=>(b,some (o.on e))::jz e l
def qZ (e:Ev):Fr->Fr
 |[]=>[]
 |(t,v)::l=>(t,v.on e)::qZ e l
structure St:Type 1 where
 ts:Fr
 h:SH
 log:List Ev
def St.note:St->Ev->St
 |⟨ts,h,log⟩,e=>⟨ts,h,log++[e]⟩
def St.ev:St->Ev->St
 |⟨ts,⟨n,os⟩,log⟩,e=>⟨qZ e ts,⟨n,jz e os⟩,log++[e]⟩
def St.new:St->SO->St
 |⟨ts,h,log⟩,o=>⟨ts,h.new o,log⟩
def St.aY:St->Nat->SO->St
 |⟨ts,h,log⟩,b,o=>⟨ts,h.set b (some o),log⟩
def St.del:St->Nat->St
 |⟨ts,h,log⟩,b=>⟨ts,h.set b none,log⟩
def St.Qk:St->SH->List Ev->St
 |⟨ts,_,log⟩,h,l=>⟨ts,h,log++l⟩
def kI {α:Type u}:List α->(List α->Prop)->Prop
 |[],K=>K []
 |x::l,K=>kI l fun l'=>K (x::l')
def He (v:SV) (K:SV->Prop):Prop:=
 match v with
 | .bool b=>K (.bool b)
 | .int k n=>K (.int k n)
 | .str s=>K (.str s)
 | .bq=>K .bq
 | .wp a=>K (.wp a)
 | .ptr b off=>K (.ptr b off)
 | .cF b i off=>K (.cF b i off)
 | .cz cs off=>kI cs fun cs=>K (.cz cs off)
 | .nils=>K .nils
 | .sl b off n c=>K (.sl b off n c)
 | .own b=>K (.own b)
 | .bn X L enc=>K (.bn X L enc)
 | .bP=>K .bP
 | .map b=>K (.map b)
 | .bR=>K .bR
 | .fn f xs ys=>kI xs fun xs=>kI ys fun ys=>K (.fn f xs ys)
 | .agg cs=>kI cs fun cs=>K (.agg cs)
 | .bO cs=>kI cs fun cs=>K (.bO cs)
 | .any=>K .any
def PB (o:SO) (K:SO->Prop):Prop:=
 match o with
 | .cells cs t=>kI cs fun cs=>K (.cells cs t)
 | .arr X L enc t=>K (.arr X L enc t)
def wy (h:SH) (K:SH->Prop):Prop:=
 match h with
 |⟨n,os⟩=>match os with
  |(b,some o)::l=>PB o fun o=>K ⟨n,(b,some o)::l⟩
  |l=>K ⟨n,l⟩
def pw {α:Type}:T α->(T α->Prop)->Prop
 | .e,K=>K .e
 | .n v l r,K=>pw l fun l=>pw r fun r=>match v with
  |some a=>K (.n (some a) l r)
  |none=>K (.n none l r)
structure View:Type 1 where
 X:Type
 enc:X->List SV
def wS (tab:bC) (t:TypeId):Option (List SV):=(tab.mg.get t).bind Ic
def wX:R AV->Option SV
 | .ok v=>lk v
 | .no _=>none
def aZ (x y:Int):Bool:=
 match x with
 | .ofNat a=>match y with
  | .ofNat b=>Nat.blt a b
  | .negSucc _=>false
 | .negSucc a=>match y with
  | .ofNat _=>true
  | .negSucc b=>Nat.blt b a
def bT (x y:Int):Bool:=
 match x with
 | .ofNat a=>match y with
  | .ofNat b=>Nat.ble a b
  | .negSucc _=>false
 | .negSucc a=>match y with
  | .ofNat _=>true
  | .negSucc b=>Nat.ble b a
def CE:IntKind->Int
 | .i8=> .negSucc 127| .i16=> .negSucc 32767| .i32=> .negSucc 2147483647| .i64=> .negSucc 9223372036854775807
 |_=> .ofNat 0
def CC:IntKind->Int
 | .i8=> .ofNat 127| .i16=> .ofNat 32767| .i32=> .ofNat 2147483647| .i64=> .ofNat 9223372036854775807
 | .u8=> .ofNat 255| .u16=> .ofNat 65535| .u32=> .ofNat 4294967295| .u64=> .ofNat 18446744073709551615
def bw (k:IntKind) (n:Int):Bool:=bT (CE k) n&&bT n (CC k)
def nn (n:Int):Bool:=match n with| .ofNat _=>true| .negSucc _=>false
def mZ (v:SV) (k:Nat->Prop):Prop:=
 match v with
 | .int _ n=>ck (nn n) (k n.toNat)
 |_=>False
section
variable (tab:bC) (view:TypeId->Option View)
def lV (eq:TypeId->SV->SV->Option Bool):List Field->List SV->List SV->Option Bool
 |[],_,_=>some true
 | f::fs,xs,ys=>
  bif decide (f.name= "_")then lV eq fs xs ys else
   match ny tab f.type xs f.offset,ny tab f.type ys f.offset with
   |some a,some b=>match eq f.type a b,lV eq fs xs ys with
    |some p,some q=>some (p&&q)
    |_,_=>none
   |_,_=>none
def gM:Nat->TypeId->SV->SV->Option Bool
 |0,_,_,_=>none
 | d+1,t,x,y=>
  match tab.und.get t,x,y with
  |some .bool, .bool a, .bool b=>some (a==b)
  |some (.int _), .int k a, .int j b=>bif decide (k=j)then some (a==b)else none
  |some .string, .str a, .str b=>some (a==b)
  |some (.pointer _), .bq, .bq=>some true
  |some (.pointer _), .bq, .ptr _ _=>some false
  |some (.pointer _), .ptr _ _, .bq=>some false
  |some (.pointer _), .wp _, .bq=>some false
  |some (.pointer _), .bq, .wp _=>some false
  |some (.slice _), .nils, .nils=>some true
  |some (.map _ _), .bP, .bP=>some true
  |some (.map _ _), .bP, .map _=>some false
  |some (.map _ _), .map _, .bP=>some false
  |some (.func _ _ _), .bR, .bR=>some true
  |some (.func _ _ _), .bR, .fn .. =>some false
  |some (.func _ _ _), .fn .., .bR=>some false
  |some (.struct fs), .agg xs, .agg ys=>
   match tab.held.get t with
   |some false=>lV tab (gM d) fs.toList xs ys
   |_=>none
  |_,_,_=>none
def de (b:UInt8):List SV:=[.int .u8 (.ofNat b.toNat)]
def rM (c:List UInt8):List SV:=c.map fun b=> .int .u8 (.ofNat b.toNat)
def Ht (op:BinOp) (k:IntKind) (x y:Int) (K:SV->Prop):Prop:=
 let fit (n:Int):Prop:=bif k.signed then ck (bw k n) (K (.int k n))else K (.int k (k.wrap n))
 match op with
 | .add=>fit (x+y)
 | .sub=>fit (x - y)
 | .mul=>fit (x*y)
 | .quo=>ck (!(y==0)) (fit (x.tdiv y))
 | .rem=>ck (!(y==0)) (K (.int k (x.tmod y)))
 | .eql=>K (.bool (x==y))
 | .neq=>K (.bool (!(x==y)))
 | .lss=>K (.bool (aZ x y))
 | .leq=>K (.bool (bT x y))
 | .gtr=>K (.bool (aZ y x))
 | .geq=>K (.bool (bT y x))
 |op=>so (wX (intOp op k x y)) K
def rS (op:BinOp) (t:TypeId) (x y:SV) (K:SV->Prop):Prop:=
 match op,x,y with
 | .shl, .int k a, .int _ b=>ck (nn b) (so (wX (.ok (.int k (k.wrap (a*2 ^ (min b.toNat k.bits)))))) K)
 | .shr, .int k a, .int _ b=>ck (nn b) (so (wX (.ok (.int k (a.fdiv (2 ^ (min b.toNat k.bits)))))) K)
 |op, .int k a, .int j b=>ck (decide (k=j)) (Ht op k a b K)
 | .add, .str a, .str b=>ck (Nat.ble (a.length+b.length) 1048576) (K (.str (a++b)))
 | .eql, .str a, .str b=>K (.bool (a==b))
 | .neq, .str a, .str b=>K (.bool (!(a==b)))
 | .lss, .str a, .str b=>K (.bool (Op.bytesLess a b))
 | .leq, .str a, .str b=>K (.bool (Op.bytesLess a b||a==b))
 | .gtr, .str a, .str b=>K (.bool (!(Op.bytesLess a b||a==b)))
 | .geq, .str a, .str b=>K (.bool (!Op.bytesLess a b))
 | .eql, .agg a, .agg b=>match tab.lX.get t with|some false=>so (gM tab 8 t (.agg a) (.agg b)) fun p=>K (.bool p)|_=>False
 | .neq, .agg a, .agg b=>match tab.lX.get t with|some false=>so (gM tab 8 t (.agg a) (.agg b)) fun p=>K (.bool (!p))|_=>False
 | .eql,x,y=>so (gM tab 8 t x y) fun p=>K (.bool p)
 | .neq,x,y=>so (gM tab 8 t x y) fun p=>K (.bool (!p))
 |_,_,_=>False
def IT (op:UnOp) (x:SV) (K:SV->Prop):Prop:=
 match op,x with
 | .neg, .int k n=>bif k.signed then ck (bw k (0 - n)) (K (.int k (0 - n)))else K (.int k (k.wrap (0 - n)))
 | .xor, .int k n=>so (wX (unOp .xor (.int k n))) K
 | .not, .bool b=>K (.bool (!b))
 |_,_=>False
def rO (cs:List SV):List (Nat×Nat×SV)->Option (List SV)
 |[]=>some cs
 |(off,n,v)::rest=>bif v.known&&Nat.beq v.cells.length n&&Nat.ble (off+n) cs.length then rO (vO cs off v.cells) rest else none
def wj (fs:Array Field):List (Nat×SV)->Option (List (Nat×Nat×SV))
 |[]=>some []
 | (i,v)::rest=>match fs[i]? with
  |some f=>match tab.siz.get f.type,wj fs rest with
   |some n,some r=>some ((f.offset,n,v)::r)
   |_,_=>none
  |none=>none
def tJ (ts:Fr):List (Nat×Operand)->Option (List (Nat×SV))
 |[]=>some []
 |(i,x)::l=>match fM ts x,tJ ts l with
  |some v,some r=>some ((i,v)::r)
  |_,_=>none
def Hg (t:TypeId) (ps:List (Nat×SV)):Option SV:=
 match wS tab t,tab.und.get t with
 | some z,some (.struct fs)=>bif fs.toList.all (fun f=>(tab.siz.get f.type).isSome)then
   match wj tab fs ps with
   |some q=>(rO z q).map .agg
   |none=>none
  else none
 |some z,some (.array _ e)=>match tab.siz.get e with
  |some n=>(rO z (ps.map fun(i,v)=>(i*n,n,v))).map .agg
  |none=>none
 |_,_=>none
def rP:Nat->List SV->List SV
 |0,_=>[]
 |n+1,l=>l++rP n l
def xr (s:St) (t:TypeId) (len:Nat) (ps:List (Nat×SV)) (K:SV->St->Prop):Prop:=
 match tab.und.get t with
 | some (.slice e)=>match tab.siz.get e,wS tab e with
  | some n,some z=>ck (Nat.ble (len*n) 16777216&&Nat.beq z.length n) (bif Nat.beq len 0 then
    ck (ps.isEmpty&& !(Nat.beq n 0)) (match view e with
    |some V=>K (.own s.h.next) (s.new (.arr V.X [] V.enc e))
    |none=>False)
   else so (rO (rP len z) (ps.map fun(i,v)=>(i*n,n,v))) fun cs=>K (.sl s.h.next 0 len len) (s.new (.cells cs e)))
  |_,_=>False
 |_=>False
def o6 (ts:Fr) (x:Option Operand) (K:Option Nat->Prop):Prop:=
 match x with
 |none=>K none
 |some y=>so (fM ts y) fun v=>mZ v fun n=>K (some n)
def mV {α:Type u} (l:List α) (lo hi:Option Nat) (K:List α->Prop):Prop:=
 match lo,hi with
 |none,none=>K l
 |some a,none=>ck (Nat.ble a l.length) (K (l.drop a))
 |none,some b=>ck (Nat.ble b l.length) (K (l.take b))
 |some a,some b=>ck (Nat.ble a b&&Nat.ble b l.length) (K ((l.drop a).take (b - a)))
def Hu (s:St) (t:TypeId) (x:SV) (lo hi:Option Operand) (K:SV->St->Prop):Prop:=
 o6 s.ts lo fun l=>o6 s.ts hi fun u=>
 match tab.und.get t,x with
 |some .string, .str c=>mV c l u fun c'=>K (.str c') s
 |some (.slice e), .bn X L enc=>match tab.siz.get e with
  |some n=>(∀x:X,(enc x).length=n)/\mV L l u fun L'=>K (.bn X L' enc) s
  |none=>False
 |some (.slice e), .own b=>match s.h.get b,tab.siz.get e with
  |some (.arr X L enc _),some n=>(∀x:X,(enc x).length=n)/\mV L l u fun L'=>K (.bn X L' enc) ((s.ev (.fj b X L enc)).del b)
  |_,_=>False
 | some (.slice e), .sl b off len cap=>match tab.siz.get e with
  |some n=>let a:=l.getD 0
   let c:=u.getD len
   ck (Nat.ble a c&&Nat.ble c cap) (K (.sl b (bif Nat.beq cap a then off else off+a*n) (c - a) (cap - a)) s)
  |none=>False
 |_,_=>False
def zQ (s:St) (src dst:TypeId) (x:SV) (K:SV->St->Prop):Prop:=
 match tab.und.get src,tab.und.get dst,x with
 |some _,some (.int k), .int _ n=>K (.int k (k.wrap n)) s
 |some _,some .string, .str c=>K (.str c) s
 |some _,some (.slice e), .str c=>match tab.und.get e,tab.siz.get e with
  |some (.int .u8),some 1=>K (.bn UInt8 c de) s
  |_,_=>False
 |some (.slice e),some .string, .nils=>match tab.und.get e with
  |some (.int .u8)=>K (.str []) s
  |_=>False
 |some (.slice e),some .string, .bn X L enc=>match tab.und.get e with
  |some (.int .u8)=>∃c:List UInt8,SV.bn X L enc=SV.bn UInt8 c de/\K (.str c) s
  |_=>False
 |some (.slice e),some .string, .own b=>match tab.und.get e,s.h.get b with
  |some (.int .u8),some (.arr X L enc _)=>∃c:List UInt8,SV.bn X L enc=SV.bn UInt8 c de/\K (.str c) s
  |_,_=>False
 |some (.slice e),some .string, .sl b off len _=>match tab.und.get e,s.h.get b with
  |some (.int .u8),some (.cells cs _)=>ck (Nat.ble (off+len) cs.length) (∃c:List UInt8,(cs.drop off).take len=rM c/\K (.str c) s)
  |_,_=>False
 |_,_,_=>False
def zh (t:TypeId) (f:Nat):Option Field:=
 match tab.und.get t with
 |some (.struct fs)=>fs[f]?
 |_=>none
def chunk (n:Nat):Nat->List SV->List (List SV)
 |0,_=>[]
 |m+1,l=>l.take n::chunk n m (l.drop n)
def xj {X:Type} (enc:X->List SV):List (List SV)->(List X->Prop)->Prop
 |[],K=>K []
 |c::cs,K=>∃x:X,enc x=c/\xj enc cs fun l=>K (x::l)
def iS:List SV->St->St
 |[],s=>s
 | .own b::l,s=>match s.h.get b with
  |some (.arr X L enc _)=>iS l ((s.ev (.fj b X L enc)).del b)
  |_=>iS l s
 |_::l,s=>iS l s
def oR (s:St) (e n by_:Nat) (x:SV) (Y:Type) (M:List Y) (enc':Y->List SV) (K:SV->St->Prop):Prop:=
 match x with
 | .nils=>(∀x:Y,(enc' x).length=n/\(enc' x).all jU=true)/\ck (Nat.ble (M.length*by_) 16777216&&Nat.ble M.length 16777216) (K (.own s.h.next) (s.new (.arr Y M enc' e)))
 | .own d=>match s.h.get d with
  |some (.arr X L enc e')=>ck (Nat.beq e e') ((∀x:Y,(enc' x).length=n/\(enc' x).all jU=true)/\ ∃M':List X,SV.bn Y M enc'=SV.bn X M' enc/\ck (Nat.ble ((L.length+M'.length)*by_) 16777216&&Nat.ble (L.length+M'.length) 16777216) (K (.own d) (((s.ev (.kill d)).aY d (.arr X (L++M') enc e)).note (.mod d))))
  |_=>False
 |_=>False
def qM (s:St) (e n by_ m:Nat) (x:SV) (cs:List SV) (K:SV->St->Prop):Prop:=
 match x with
 | .nils=>match view e with
  |some V=>xj V.enc (chunk n m cs) fun l=>ck (Nat.ble (l.length*by_) 16777216&&Nat.ble l.length 16777216) (K (.own s.h.next) (s.new (.arr V.X l V.enc e)))
  |none=>False
 | .own d=>match s.h.get d with
  |some (.arr X L enc e')=>ck (Nat.beq e e') (xj enc (chunk n m cs) fun l=>ck (Nat.ble ((L.length+l.length)*by_) 16777216&&Nat.ble (L.length+l.length) 16777216) (K (.own d) (((s.ev (.kill d)).aY d (.arr X (L++l) enc e)).note (.mod d))))
  |_=>False
 |_=>False
def GC (s:St) (e:TypeId) (x y:SV) (K:SV->St->Prop):Prop:=
 match tab.siz.get e,tab.byt.get e with
 | some n,some by_=>
  ck (!(Nat.beq n 0)&&(match wS tab e with|some z=>Nat.beq z.length n|none=>false))
  (match y with
  | .sl b off m _=>match s.h.get b with
   |some (.cells cs0 _)=>
    match(iS ((cs0.drop off).take (m*n)) s).h.get b with
    |some (.cells cs _)=>ck (Nat.ble (off+m*n) cs.length&&((cs.drop off).take (m*n)).all jU) (qM view (iS ((cs0.drop off).take (m*n)) s) e n by_ m x ((cs.drop off).take (m*n)) K)
    |_=>False
   |_=>False
  | .bn Y M enc'=>oR s e n by_ x Y M enc' K
  | .own b=>match s.h.get b with
   |some (.arr Y M enc' _)=>oR ((s.ev (.fj b Y M enc')).del b) e n by_ x Y M enc' K
   |_=>False
  | .nils=>match x with
   | .nils=>K .nils s
   |_=>False
  |_=>False)
 |_,_=>False
def oZ (k:IntKind):Int->List SV->Option SV
 |x,[]=>some (.int k x)
 |x, .int _ y::l=>oZ k (if y<x then y else x) l
 |_,_=>none
def oY (k:IntKind):Int->List SV->Option SV
 |x,[]=>some (.int k x)
 |x, .int _ y::l=>oY k (if y>x then y else x) l
 |_,_=>none
def qY (s:St) (x:SV):Option Nat:=
 match x with
 | .nils=>some 0
 | .bn _ L _=>some L.length
 | .sl _ _ n _=>some n
 | .own b=>match s.h.get b with
  |some (.arr _ L _ _)=>some L.length
  |_=>none
 |_=>none
def te (s:St) (b:Builtin) (ats:Array TypeId) (args:List SV) (K:SV->St->Prop):Prop:=
 match b,args with
 | .len,[x]=>match(ats[0]?).bind tab.und.get with
  |some .string=>match x with| .str c=>K (.int .i64 (.ofNat c.length)) s|_=>False
  |some (.slice _)=>so (qY s x) fun n=>K (.int .i64 (.ofNat n)) s
  |_=>False
 | .append,[x,y]=>match(ats[0]?).bind tab.und.get,(ats[1]?).bind tab.und.get with
  |some (.slice e),some (.slice _)=>GC tab view s e x y K
  |_,_=>False
 | .min, .int k x::l=>so (oZ k x l) fun v=>K v s
 | .max, .int k x::l=>so (oY k x l) fun v=>K v s
 |_,_=>False
def Cf:SV->List Ev
 | .ptr b _=>[.mod b]
 |_=>[]
def mO (s:St) (o:Oper) (K:SV->St->Prop):Prop:=
 match o.op with
 | .move x=>so (fM s.ts x) fun v=>K v s
 | .assign x=>so (fM s.ts x) fun v=>K v s
 | .pick c a b=>match fM s.ts c with
  |some (.bool p)=>match fM s.ts a,fM s.ts b with
   |some (.bool x),some (.bool y)=>K (.bool (bif p then x else y)) s
   |u,v=>br p (so u fun v=>K v s) (so v fun v=>K v s)
  |_=>False
 | .alloc e=>so (tab.siz.get e) fun _=>so (wS tab e) fun cs=>K (.ptr s.h.next 0) (s.new (.cells cs e))
 | .box e x=>so (tab.siz.get e) fun _=>so (fM s.ts x) fun v=>ck v.known (K (.ptr s.h.next 0) (s.new (.cells v.cells e)))
 | .build t ps=>so (tJ s.ts ps.toList) fun l=>so (Hg tab t l) fun v=>K v s
 | .buildSlice t n ps=>so (tJ s.ts ps.toList) fun l=>xr tab view s t n l K
 | .load t a=>so (fM s.ts a) fun p=>Ce tab s.h t p fun v=>K v s
 | .store t a x=>so (fM s.ts a) fun p=>so (fM s.ts x) fun v=>Hv tab s.h t p v fun h'=>K (.bO []) (s.Qk h' (Cf p))
 | .nilCheck x=>so (fM s.ts x) fun v=>match v with
  | .ptr .. | .cF .. | .cz .. | .fn .. =>K v s
  |_=>False
 | .binOp op t x y _=>so (fM s.ts x) fun a=>so (fM s.ts y) fun b=>rS tab op t a b fun v=>K v s
 | .unOp op _ x=>so (fM s.ts x) fun a=>IT op a fun v=>K v s
 | .convert a b x=>so (fM s.ts x) fun v=>zQ tab s a b v K
 | .makeFunc fn first captured=>match fn with
  | .func f=>so (lx s.ts first.toList) fun xs=>so (lx s.ts captured.toList) fun ys=>K (.fn f xs ys) s
  |_=>False
 | .slice t x lo hi none=>so (fM s.ts x) fun v=>Hu tab s t v lo hi K
 | .fieldAddr st x f=>so (zh tab st f) fun fd=>ck (match tab.siz.get fd.type with|some n=> !(Nat.beq n 0)|none=>false) (so (fM s.ts x) fun v=>match v with
  | .ptr b off=>K (.ptr b (off+fd.offset)) s
  | .cF b i off=>K (.cF b i (off+fd.offset)) s
  | .cz cs off=>K (.cz cs (off+fd.offset)) s
  |_=>False)
 | .field t x f=>so (zh tab t f) fun fd=>so (fM s.ts x) fun v=>match v with
  | .agg cs=>so (ny tab fd.type cs fd.offset) fun u=>K u s
  |_=>False
 | .indexAddr t x ix=>so (fM s.ts ix) fun j=>mZ j fun i=>so (fM s.ts x) fun v=>match tab.und.get t,v with
  |some (.array len e), .ptr b off=>match tab.siz.get e with
   |some n=>ck (Nat.blt i len) (K (.ptr b (off+i*n)) s)
   |none=>False
  |some (.slice e), .sl b off len _=>match tab.siz.get e with
   |some n=>ck (Nat.blt i len) (K (.ptr b (off+i*n)) s)
   |none=>False
  |some (.slice e), .bn _ L enc=>match tab.siz.get e with
   |some n=>so (L[i]?) fun x=>ck (Nat.beq (enc x).length n) (K (.cz (enc x) 0) s)
   |none=>False
  |some (.slice e), .own b=>match tab.siz.get e,s.h.get b with
   |some _,some (.arr _ L _ e')=>ck (Nat.beq e e'&&Nat.blt i L.length) (K (.cF b i 0) s)
   |_,_=>False
  |_,_=>False
 | .index t x ix=>so (fM s.ts ix) fun j=>mZ j fun i=>so (fM s.ts x) fun v=>match tab.und.get t,v with
  |some (.array len e), .agg cs=>match tab.siz.get e with
   |some n=>ck (Nat.blt i len) (so (ny tab e cs (i*n)) fun u=>K u s)
   |none=>False
  |some .string, .str c=>so (c[i]?) fun b=>K (.int .u8 (.ofNat b.toNat)) s
  |_,_=>False
 | .extract t i=>so (fM s.ts t) fun v=>match v with
  | .bO vs=>so (vs[i]?) fun u=>K u s
  |_=>False
 | .call c=>match c.callee with
  | .builtin b=>so (lx s.ts c.args.toList) fun l=>te tab view s b c.argTypes l K
  |_=>False
 |_=>False
end
end
section
universe u v
structure aL:Type 1 where
 Y:Type
 pre:Y->Prop
 args:Y->List SV
 res:Y->SV
structure aJ:Type 1 where
 α:Type
 ok:α->Prop
 μ:α->Nat
 aV:List Nat
 aO:α->List (Nat×SV)
 bm:α->List (Nat×SO)
 fj:List Nat:=[]
 link:Option (α->α->Prop):=none
structure iM:Type 1 where
 tab:bC
 view:TypeId->Option View
 ia:FuncId->Option aL
 mr:FuncId->Nat->Option aJ
inductive eK:Type 1 where
 |code (c:Code)
 |inBlock (id:Nat)
 |inLoop (body:Code)
 |head (jd:Fr->SH->List Ev->Prop)
 |inScope (body:Code)
 |inRegion (ops:Array Oper) (l:List Nat)
structure SM:Type 1 where
 fn:FuncId
 nt:Nat
 base:Nat
 todo:List eK
 s:St
mutual
def SV.lt (n:Nat):SV->Bool
 | .ptr b _=>Nat.blt b n
 | .cF b _ _=>Nat.blt b n
 | .own b=>Nat.blt b n
 | .sl b _ _ _=>Nat.blt b n
 | .map b=>Nat.blt b n
 | .fn _ xs ys=>mN n xs&&mN n ys
 | .agg cs=>mN n cs
 | .bO cs=>mN n cs
 |_=>true
def mN (n:Nat):List SV->Bool
 |[]=>true
 |v::l=>SV.lt n v&&mN n l
end
mutual
def SV.full:SV->Bool
 | .any=>false
 | .fn _ xs ys=>kQ xs&&kQ ys
 | .agg cs=>kQ cs
 | .bO cs=>kQ cs
 |_=>true
def kQ:List SV->Bool
 |[]=>true
 |v::l=>SV.full v&&kQ l
end
def SO.lt (n:Nat):SO->Bool
 | .cells cs _=>mN n cs
 | .arr .. =>true
def Ev.id:Ev->Nat
 | .kill b=>b
 | .mod b=>b
 | .fj b _ _ _=>b
def xi (v e:SV):Prop:=
 match v,e with
 | .bool a, .bool b=>a=b
 | .int k a, .int j b=>ck (decide (k=j)) (a=b)
 | .str a, .str b=>a=b
 | .ptr a i, .ptr b j=>ck (Nat.beq a b&&Nat.beq i j) True
 | .own a, .own b=>ck (Nat.beq a b) True
 | .bq, .bq=>True
 | .nils, .nils=>True
 | .bP, .bP=>True
 | .bR, .bR=>True
 | .nils, .bn _ L _=>L=[]
 |_, .any=>True
 |v,e=>v=e
def qS:List SV->List SV->Prop
 |[],[]=>True
 |a::l,b::m=>xi a b/\qS l m
 |_,_=>False
def uu (o e:SO):Prop:=
 match o,e with
 | .cells a t, .cells b u=>ck (Nat.beq t u) (qS a b)
 | .arr X L enc t, .arr X' L' enc' u=>ck (Nat.beq t u) (SV.bn X L enc=SV.bn X' L' enc')
 |_,_=>False
def uv (tab:bC) (next p:Nat) (o e:Option SO):Prop:=
 match e,o with
 |none,_=>True
 |some (.arr X L enc t),some o=>uu o (.arr X L enc t)
 |some (.arr X L enc t),none=>ck (Nat.ble next p) (L=[]/\so (tab.siz.get t) fun n=>ck (!(Nat.beq n 0)) (∀x:X,(enc x).length=n))
 |some e,some o=>uu o e
 |some _,none=>False
def Hw (tab:bC) (h e:SH):Nat->Prop
 |0=>True
 |n+1=>uv tab h.next n (h.get n) (e.get n)/\Hw tab h e n
def mX (tab:bC) (h e:SH):Prop:=Hw tab h e e.next
def qW (h eh:SH) (v e:SV):Prop:=
 match e,v with
 | .own b, .nils=>match h.get b,eh.get b with|none,some (.arr ..)=>True|_,_=>False
 |e,v=>xi v e
def lh (ts:Fr) (h eh:SH):Fr->Prop
 |[]=>True
 |(t,e)::l=>so (look ts t) (fun v=>qW h eh v e)/\lh ts h eh l
def stay (n:Nat) (h eh:SH):Bool:=(List.range n).all fun p=>match h.get p,eh.get p with|some _,none=>false|_,_=>true
def GF (ts:Fr) (e:Fr):List Nat->Fr
 |[]=>e
 |t::l=>match look ts t with|some v=>(t,v)::GF ts e l|none=>GF ts e l
def u6:SH->List (Nat×SO)->SH
 |h,[]=>h
 |⟨n,os⟩,(b,o)::l=>u6 ⟨Nat.max n (b+1),(b,some o)::os⟩ l
def aJ.at (A:aJ) (s:St) (x:A.α):Fr×SH:=(GF s.ts (A.aO x) A.aV,u6 s.h (A.bm x))
def low (ts:Fr) (h:SH):Bool:=ts.all (fun x=>x.2.lt h.next)&&h.os.all (fun x=>Nat.blt x.1 h.next&&(match x.2 with|some o=>o.lt h.next|none=>true))
def ou:Code->Option Nat
 | .region id _ _=>some id
 | .seq a b=>match ou a with|some r=>some r|none=>ou b
 | .cond _ a b=>match ou a with|some r=>some r|none=>ou b
 | .block _ b=>ou b
 | .loop b=>ou b
 | .scope b=>ou b
 | .rangeFunc _ _ a b=>match ou a with|some r=>some r|none=>ou b
 |_=>none
def oK (id:Nat):List eK->Option (List eK)
 | .inBlock j::k=>bif Nat.beq j id then some k else oK id k
 |_::k=>oK id k
 |[]=>none
section
variable (cfg:iM)
def ee:Nat->List SV->List SV->St->(St->Prop)->Prop
 |0,_,_,_,_=>False
 |_+1,[],[],s,K=>K s
 | n+1,f::fs,a::as1,s,K=>
  match f,a with
  | .any,_=>ee n fs as1 s K
  | .bool x, .bool y=>y=x/\ee n fs as1 s K
  | .int k x, .int j y=>ck (decide (k=j)) (y=x/\ee n fs as1 s K)
  | .str x, .str y=>y=x/\ee n fs as1 s K
  | .bq, .bq=>ee n fs as1 s K
  | .wp x, .wp y=>y=x/\ee n fs as1 s K
  | .nils, .nils=>ee n fs as1 s K
  | .bP, .bP=>ee n fs as1 s K
  | .bR, .bR=>ee n fs as1 s K
  | .bn X L enc, .bn X' L' enc'=>SV.bn X' L' enc'=SV.bn X L enc/\ee n fs as1 s K
  | .bn _ L _, .nils=>L=[]/\ee n fs as1 s K
  | .bn X L enc, .own b=>match s.h.get b with
   |some (.arr X' L' enc' _)=>SV.bn X' L' enc'=SV.bn X L enc/\ee n fs (fW (.fj b X' L' enc') as1) ((s.ev (.fj b X' L' enc')).del b) K
   |_=>False
  | .bn X L enc, .sl b off m c=>match s.h.get b with
   |some (.cells cs e)=>match cfg.tab.siz.get e with
    |some r=>ck (!(Nat.beq r 0)&&Nat.ble m c&&Nat.ble (off+m*r) cs.length&&((cs.drop off).take (m*r)).all jU) (chunk r m ((cs.drop off).take (m*r))=L.map enc/\ee n fs (fW (.kill b) as1) ((s.ev (.kill b)).del b) K)
    |none=>False
   |_=>False
  | .agg xs, .agg ys=>ck (Nat.beq xs.length ys.length) (ee n (xs++fs) (ys++as1) s K)
  | .fn f xs us, .fn g ys vs=>ck (Nat.beq f g&&Nat.beq xs.length ys.length&&Nat.beq us.length vs.length) (ee n (xs++(us++fs)) (ys++(vs++as1)) s K)
  |_,_=>False
 |_,_,_,_,_=>False
def ud:List Ev->Fr->Fr
 |[],ts=>ts
 |e::l,ts=>ud l (qZ e ts)
def Hz (rec:SM->(SV->St->Prop)->Prop) (f:FuncId) (args:List SV) (s:St) (K:SV->St->Prop):Prop:=
 match cfg.tab.fns.get f with
 | some fn=>match fn.body with
  | some body=>match cfg.ia f with
   |some C=>∃y:C.Y,ee cfg 1000 (C.args y) args s fun s=>C.pre y/\K (C.res y) s
   | none=>match s with
    |⟨ts,h,log⟩=>rec ⟨f,Nat.max fn.ntmps args.length,h.next,[.code body],⟨Fr.of args 0,h,[]⟩⟩ fun v s'=>
     match s' with
     |⟨_,h',log'⟩=>K v ⟨ud log' ts,h',log++log'⟩
  |none=>False
 |none=>False
def jR (nt:Nat) (s:St) (d:Option Tmp) (v:SV) (K:St->Prop):Prop:=
 match s,d with
 |⟨ts,h,log⟩,some d=>bif Nat.blt d nt then He v fun v=>wy h fun h=>K ⟨(d,v)::ts,h,log⟩else K ⟨ts,h,log⟩
 |⟨ts,h,log⟩,none=>wy h fun h=>K ⟨ts,h,log⟩
def wz (ops:Array Oper) (o:Oper) (s:St) (K:Bool->St->Prop):Prop:=
 match o.guard with
 |none=>K true s
 | some (j,w)=>
  match(ops[j]?).bind (·.dst)with
  | some d=>match s with
   |⟨ts,h,log⟩=>match look ts d with
    |some (.bool p)=>br p (K w ⟨(d, .bool true)::ts,h,log⟩) (K (!w) ⟨(d, .bool false)::ts,h,log⟩)
    |some (.bO _)=>K false ⟨ts,h,log⟩
    |_=>False
  |none=>K false s
def zS (rec:SM->(SV->St->Prop)->Prop) (s:St) (o:Oper) (K:SV->St->Prop):Prop:=
 match o.op with
 | .call c=>match c.callee with
  | .value f=>so (lx s.ts c.args.toList) fun args=>so (fM s.ts f) fun v=>match v with
   | .fn g first captured=>Hz cfg rec g (first++args++captured) s K
   |_=>False
  |_=>mO cfg.tab cfg.view s o K
 |_=>mO cfg.tab cfg.view s o K
structure SD:Type 1 where
 s:St
 aS:T (List Nat)
 reads:List (Nat×List Nat)
 aI:List (Nat×Nat)
def pG:SH->List (Nat×Nat)->SH
 |h,[]=>h
 |h,(_,b)::l=>pG (h.set b none) l
def jN (o:Option SO):List Ev->Option SO
 |[]=>o
 |e::l=>jN (o.map (SO.on e)) l
def l8 (h h0:SH) (log:List Ev):List (Nat×Nat)->SH
 |[]=>h
 |(_,b)::l=>l8 (h.set b (jN (h0.get b) log)) h0 log l
def GZ (ts:Fr) (o:Oper):List Nat:=
 match o.op with
 | .load _ a=>match fM ts a with
  |some (.ptr b _)=>[b]
  |some (.cF b _ _)=>[b]
  |_=>[]
 | .indexAddr _ x _=>match fM ts x with
  |some (.own b)=>[b]
  |_=>[]
 | .call c=>match c.args.toList with
  |[x]=>match fM ts x with
   |some (.own b)=>[b]
   |_=>[]
  |_=>[]
 |_=>[]
def qz (h:SH):List Nat->List (Nat×Option SO)
 |[]=>[]
 |b::l=>(b,h.get b)::qz h l
def Hd (ops:Array Oper) (nt i:Nat) (o:Oper) (d:SD) (K:SD->Prop):Prop:=
 match d with
 |⟨s,aS,reads,aI⟩=>
 ck (jQ aS ops i o) (wz ops o s fun w s=>
  bif !w then kI (eS aS o) fun an=>pw (aS.set i (some an)) fun aS=>jR nt s o.dst (.bO []) fun s=>K ⟨s,aS,reads,aI⟩
  else match cls cfg.tab o with
  | .lD=>K ⟨s,aS,reads,aI⟩
  | .alloc=>kI (eS aS o) fun an=>pw (aS.set i (some an)) fun anc'=>match s with
   |⟨ts,h,log⟩=>mO cfg.tab cfg.view ⟨ts,h,[]⟩ o fun v s'=>match s' with
    |⟨ts',h',log'⟩=>ck log'.isEmpty (jR nt ⟨ts',h',log⟩ o.dst v fun s'=>K ⟨s',anc',reads,(i,h.next)::aI⟩)
  |_=>kI (eS aS o) fun an=>pw (aS.set i (some an)) fun aS=>match s with
   |⟨ts,h,log⟩=>kI (GZ ts o) fun rs=>ck (rs.all fun b=>aI.all fun x=> !(Nat.beq x.2 b)) (mO cfg.tab cfg.view ⟨ts,⟨h.next,qz h rs⟩,[]⟩ o fun v s'=>ck (s'.log.isEmpty&&v.full) (jR nt ⟨ts,h,log⟩ o.dst v fun s'=>K ⟨s',aS,(i,rs)::reads,aI⟩)))
def wO (ops:Array Oper) (nt:Nat):Nat->List Oper->SD->(SD->Prop)->Prop
 |_,[],d,K=>K d
 |i,o::l,d,K=>
  bif isReady d.aS i o then Hd cfg ops nt i o d fun d'=>wO ops nt (i+1) l d' K
  else wO ops nt (i+1) l d K
def ur (rec:SM->(SV->St->Prop)->Prop) (ops:Array Oper) (nt i:Nat) (o:Oper) (d:SD) (K:SD->Prop):Prop:=
 match d with
 |⟨s,aS,reads,aI⟩=>
 ck (jQ aS ops i o) (wz ops o s fun w s=>
  ck w (kI (eS aS o) fun an=>pw (aS.set i (some an)) fun aS=>
   kI (aI.filter fun x=> !(da x.1 an)) fun hid=>kI (reads.filter fun x=> !(da x.1 an)) fun reads=>match s with
   | ⟨ts,h,log⟩=>zS cfg rec ⟨ts,pG h hid,[]⟩ o fun v s'=>match s' with
    |⟨ts',h',log'⟩=>ck ((reads.all fun x=>x.2.all fun b=> !(da b (log'.map Ev.id))&&(h'.get b).isSome&&hid.all fun y=> !(Nat.beq y.2 b))&&hid.all fun x=> !(da x.2 (log'.map Ev.id)))
     (jR nt ⟨ts',l8 h' h log' hid,log++log'⟩ o.dst v fun s'=>K ⟨s',aS,reads,hid⟩)))
def zR (rec:SM->(SV->St->Prop)->Prop) (ops:Array Oper) (nt:Nat):Nat->SD->(St->Prop)->Prop
 |0,_,_=>False
 |n+1,d,K=>wO cfg ops nt 0 ops.toList d fun d1=>
  match jW d1.aS 0 ops.toList with
  |[]=>ck ((List.range ops.size).all fun i=>(d1.aS.get i).isSome) (K d1.s)
  |[(i,o)]=>ur cfg rec ops nt i o d1 fun d2=>zR rec ops nt n d2 K
  |_=>False
def nz (s:St):List ResultVar->(List SV->Prop)->Prop
 |[],K=>K []
 | .tmp t::l,K=>so (look s.ts t) fun v=>nz s l fun vs=>K (v::vs)
 | .cell a t::l,K=>so (look s.ts a) fun p=>Ce cfg.tab s.h t p fun v=>nz s l fun vs=>K (v::vs)
def pI (fn:FuncId) (s:St) (Q:SV->St->Prop):Prop:=
 match cfg.tab.fns.get fn with
 |some fn=>nz cfg s fn.results.toList fun vs=>Q (match vs with|[v]=>v|vs=> .bO vs) s
 |none=>False
def fixC (s:St) (c:Operand) (p:Bool):St:=
 match s,c with
 |⟨ts,h,log⟩, .tmp t=>⟨(t, .bool p)::ts,h,log⟩
 |s,_=>s
def mY (ts:Fr):List Nat->List SV
 |[]=>[]
 |t::l=>match look ts t with|some v=>v::mY ts l|none=>mY ts l
def dW (A:aJ) (s:St):St:=iS (mY s.ts A.fj) s
def Hx (A:aJ) (s:St) (base:Nat) (x:A.α) (ts:Fr) (h:SH) (log:List Ev):Prop:=
 match dW A ⟨ts,h,log⟩with
 |⟨ts,h,log⟩=>ck (log.all fun e=>Nat.ble base e.id) (∃y:A.α,A.ok y/\A.μ y<A.μ x/\lh ts h (A.at s y).2 (A.at s y).1/\mX cfg.tab h (A.at s y).2/\ck (stay base h (A.at s y).2) True)
def Su (A:aJ) (s:St) (base:Nat) (cont:(Fr->SH->List Ev->Prop)->St->Prop):Prop:=
 match dW A s with
 |⟨ts,h,log⟩=>(∃x:A.α,A.ok x/\lh ts h (A.at ⟨ts,h,log⟩ x).2 (A.at ⟨ts,h,log⟩ x).1/\mX cfg.tab h (A.at ⟨ts,h,log⟩ x).2/\ck (stay base h (A.at ⟨ts,h,log⟩ x).2) True)/\
  ∀x:A.α,A.ok x->ck (log.all (fun e=>Nat.ble base e.id)&&(low (A.at ⟨ts,h,log⟩ x).1 (A.at ⟨ts,h,log⟩ x).2&&Nat.ble base (A.at ⟨ts,h,log⟩ x).2.next)) (cont (Hx cfg A ⟨ts,h,log⟩ base x) ⟨(A.at ⟨ts,h,log⟩ x).1,(A.at ⟨ts,h,log⟩ x).2,log⟩)
def aJ.when (A:aJ) (R:A.α->A.α->Prop) (x0:A.α):aJ:={α:=A.α,ok:=fun x=>A.ok x/\R x0 x,μ:=A.μ,aV:=A.aV,aO:=A.aO,bm:=A.bm,fj:=A.fj}
def Ib (A:aJ) (K:aJ->Prop):Prop:=
 match A.link with
 |none=>K A
 |some R=>∃x0:A.α,K (A.when R x0)
theorem qvh {A:aJ} {K:aJ->Prop} (h:Ib A K):∃A',K A':=by
 grind [Ib]
def wp:Nat->SM->(SV->St->Prop)->Prop
 |0,_,_=>False
 | n+1,⟨fn,nt,base,todo,s⟩,Q=>
  match todo with
  |[]=>pI cfg fn s Q
  | .code .ret::_=>pI cfg fn s Q
  | .code .skip::k=>wp n ⟨fn,nt,base,k,s⟩ Q
  | .code (.label _)::k=>wp n ⟨fn,nt,base,k,s⟩ Q
  | .inBlock _::k=>wp n ⟨fn,nt,base,k,s⟩ Q
  | .inScope _::k=>wp n ⟨fn,nt,base,k,s⟩ Q
  | .code (.seq a b)::k=>wp n ⟨fn,nt,base, .code a:: .code b::k,s⟩ Q
  | .code (.cond c a b)::k=>match fM s.ts c with
   |some (.bool p)=>br p (wp n ⟨fn,nt,base, .code a::k,fixC s c true⟩ Q) (wp n ⟨fn,nt,base, .code b::k,fixC s c false⟩ Q)
   |_=>False
  | .code (.block id b)::k=>wp n ⟨fn,nt,base, .code b:: .inBlock id::k,s⟩ Q
  | .code (.scope b)::k=>wp n ⟨fn,nt,base, .code b:: .inScope b::k,s⟩ Q
  | .code (.loop b)::k=>match(ou b).bind (cfg.mr fn)with
   |none=>wp n ⟨fn,nt,base, .code b:: .inLoop b::k,s⟩ Q
   |some A=>Ib A fun A=>Su cfg A s base fun jd s'=>wp n ⟨fn,nt,base, .code b:: .head jd::k,s'⟩ Q
  | .inLoop b::k=>wp n ⟨fn,nt,base, .code b:: .inLoop b::k,s⟩ Q
  | .head jd::_=>jd s.ts s.h s.log
  | .code (.exit id)::k=>match oK id k with
   |some k'=>wp n ⟨fn,nt,base,k',s⟩ Q
   |none=>False
  | .code (.region _ ops false)::k=>wp n ⟨fn,nt,base, .inRegion ops (List.range ops.size)::k,s⟩ Q
  | .code (.region _ ops true)::k=>ck (qF 0 ops.toList) (zR cfg (wp n) ops nt (ops.size+1) ⟨s, .e,[],[]⟩ fun s=>wp n ⟨fn,nt,base,k,s⟩ Q)
  | .inRegion _ []::k=>wp n ⟨fn,nt,base,k,s⟩ Q
  | .inRegion ops (i::rest)::k=>match ops[i]? with
   |some o=>wz ops o s fun w s=>
    bif w then zS cfg (wp n) s o fun v s'=>jR nt s' o.dst v fun s'=>wp n ⟨fn,nt,base, .inRegion ops rest::k,s'⟩ Q
    else jR nt s o.dst (.bO []) fun s'=>wp n ⟨fn,nt,base, .inRegion ops rest::k,s'⟩ Q
   |none=>False
  |_=>False
def ask (n:Nat) (f:FuncId) (args:List SV) (Q:SV->St->Prop):Prop:=
 match cfg.tab.fns.get f with
 |some fn=>match fn.body with
  |some body=>wp cfg n ⟨f,Nat.max fn.ntmps args.length,0,[.code body],⟨Fr.of args 0,⟨0,[]⟩,[]⟩⟩ Q
  |none=>False
 |none=>False
end
end
end Go.Sy
namespace Go.Sy
open Go.Am Go.RowKit
section
variable [Inhabited aK]
theorem _root_.Go.Am.eZ.rest {E:Env} {h h0:AH} {K:KS} {w:World} (hB:eZ K w):eZ (Am.Rest E h h0 K) w:=fun b hb=>⟨.inl (hB b hb).1,(hB b hb).2⟩
def cX (w:World):Prop:=∀b,b<(default:aK).old.size->w.heap[b]? =(default:aK).old[b]?
theorem cX.lt {w:World} (h:cX w) {b:Nat} (hb:b<(default:aK).old.size):b<w.heap.size:=by
 have:=h b hb;rw[AU hb]at this;grind
theorem cX.lC {w:World} (h:cX w):eZ (KS.old w.heap.size) w:=fun b hb=>⟨h.lt hb,h b hb⟩
theorem cX.below {w w':World} (h:cX w) (hb:Below w.heap.size w w'):cX w':=fun b hb'=>by rw[hb.block b (h.lt hb')];exact h b hb'
theorem cX.o8 (h:(default:aK).old.size=0) (w:World):cX w:=fun b hb=>by omega
theorem _root_.Go.Am.eZ.o8 (h:(default:aK).old.size=0) (K:KS) (w:World):eZ K w:=fun b hb=>by omega
def eY (P:Program) (m:AM) (Ψ:AV->AH->Prop):Prop:=
 ∀(D:Nat->Prop) (E:Env) (K:KS) (base:List Frame) (frC:Frame) (csC:List Frame) (w:World),Rel D E K m base frC csC w->eZ K w->
  ∃v h',Ψ v h'/\Am.Ends P m.h.next (lone frC csC w) D E K v h' base (bot m.fr m.cs) w
structure gx (P:Program) (tab:bC):Prop where
 ok:bZ P tab
 ext:lN P tab
 mix:P.follows .mixedOrders=true
theorem eY.mono {P:Program} {m:AM} {Ψ Φ:AV->AH->Prop} (h:eY P m Ψ) (hi:∀v h',Ψ v h'->Φ v h'):eY P m Φ:=by
 intro D E K base frC csC w hR hB;obtain⟨v,h',h1,h2⟩:=h D E K base frC csC w hR hB;grind
def sub0:FuncId->List AV->AH->R (List (AV×AH)):=fun _ _ _=> .no "sub0"
theorem yQ {P:Program} {tab:bC}:lO P tab sub0:=by
 intro f fn body args h outs _ _ ho
 cases ho
section
variable {P:Program} {tab:bC} (pr:gx P tab) {Ψ:AV->AH->Prop}
include pr
theorem eY.next {m m':AM} (hs:Am.step tab sub0 m= .ok (.next m')) (h:eY P m' Ψ):eY P m Ψ:=by
 intro D E K base frC csC w hR hB;obtain⟨hb,fr',cs',w',E',D',s1,s2,s3,s4,s5,s6,s7⟩:=Fk pr.ok yQ pr.ext (Fb pr.ok yQ pr.ext pr.mix) hs hR;obtain⟨v,h',h1,h2⟩:=h D' E' K base fr' cs' w' s2 (hB.kept s5);rw[hb]at h2;grind [Am.Ends.trans]
theorem eY.done {m:AM} {v:AV} {h:AH} (hs:Am.step tab sub0 m= .ok (.done v h)) (hv:Ψ v h):eY P m Ψ:=by
 intro D E K base frC csC w hR hB;exact⟨v,h,hv,Fk pr.ok yQ pr.ext (Fb pr.ok yQ pr.ext pr.mix) hs hR⟩
end
def iN (P:Program) (tab:bC) (ts:T AV) (h0:AH) (o:Oper) (Θ:AV->AH->Prop):Prop:=
 (∃v h1,fk tab ts h0 o= .ok (v,h1)/\h0.next<=h1.next/\Θ v h1)\/
 (∃c f g first captured args fn body,o.op= .call c/\c.callee= .value f/\ev ts f= .ok (.fn (.func g) first captured)/\kF ts c.args.toList= .ok args/\
  tab.fns.get g=some fn/\fn.body=some body/\eY P {fr:=ak.enter fn g body (first++args++captured) .normal,cs:=[],h:=h0} fun v h1=>h0.next<=h1.next/\Θ v h1)
theorem iN.congr {P:Program} {tab:bC} {ts ts':T AV} {h0:AH} {o:Oper} {Θ:AV->AH->Prop} (hops:∀x∈o.op.operands,ev ts x=ev ts' x) (hp:iN P tab ts h0 o Θ):iN P tab ts' h0 o Θ:=by
 rcases hp with⟨v,h1,hp,hle,hΘ⟩|⟨c,f,g,first,captured,args,fn,body,hc,hcf,hu,hargs,hfn,hb',hgo⟩
 . exact .inl ⟨v,h1,by rw[<-vh o hops];exact hp,hle,hΘ⟩
 . refine .inr ⟨c,f,g,first,captured,args,fn,body,hc,hcf,?_,?_,hfn,hb',hgo⟩
   all_goals grind [Op.operands,Call.operands,vy]
section
variable {P:Program} {tab:bC} (pr:gx P tab)
variable {D:Nat->Prop} {E:Env} {K:KS} {base:List Frame} {frC:Frame} {csC:List Frame} {w:World}
variable {fr:ak} {cs:List ak} {h h0:AH} {ops:Array Oper} {i:Nat} {rest:List Nat} {o:Oper}
include pr
theorem MV {Θ:AV->AH->Prop} (hR:Rel D E K {fr,cs,h} base frC csC w) (hB:eZ K w) (a:jk frC ops i rest o) (hp:iN P tab fr.tmps h0 o Θ)
   (hs:∀i o,h0.get i=some o->h.get i=some o) (hd0:∀i o,h0.get i=some o->i<h0.next) (hltD:∀i,D i->i<h0.next):
   ∃ v h1,Θ v h1/\h0.next<=h1.next/\ ∀fr' h2,fr.finish v= .ok fr'->(∀i o,h2.get i=some o->h1.get i=some o\/(h.get i=some o/\h0.get i=none))->
     (∀i o,h2.get i=some o->i<h2.next\/(h1.get i=some o/\h1.next<=h2.next))->h2.next=h1.next->gY P h0.next (lone frC csC w) D E K {fr:=fr',cs,h:=h2} base w:=by
 rcases hp with⟨v,h1,hp,hle,hΘ⟩|⟨c,f,g,first,captured,args,fn,body,hc,hcf,hu,hargs,hfn,hb,hgo⟩
 . refine⟨v,h1,hΘ,hle,fun fr' h2 hf hg hd2 hnx=>?_⟩;refine CW (vv pr.ok hR a hp hf hs hd0 hg hd2 (fun i=>i=h0.next/\h0.next<h1.next) (fun h=>⟨rfl,h⟩) (fun i hi=>⟨hi.1,fun hd=>by have:=hltD i hd;omega⟩) ?_) (by simp only;omega) (fun i hi=>by omega);rintro i (hi|hi)
   . have:=hltD i hi;omega
   . omega
 . have ok:=pr.ok;have hρ:∀E',aw D E E'->∀x u,ev fr.tmps x= .ok u->frC.eval x=ag E' u:=by
     intro E' he x u hx;rw[<-(hR.all E' he).2.1];exact qq hR.wf.1 E' hx
   have hd:rn (.fn (.func g) first captured) args= .ok {target:= .fn (.func g) captured,args:=first++args}:=rfl;have hres:∀E',aw D E E'->Deferred.ofValue (frC.eval f) (c.args.map frC.eval)=pure (eD E' {target:= .fn (.func g) captured,args:=first++args}):=by
     intro E' he;rw[<-sN hd E',hρ E' he _ _ hu,<-rB (hρ E' he) _ _ hargs];congr 1
     simp[<-Array.toList_inj]
   have hrob:=vg hres;have hnd:∀c',o.op≠ .defer c':=by rw[hc];intro c' e;cases e
   have hctx:Ctx P (lone frC csC w) frC csC w .normal (eD E {target:= .fn (.func g) captured,args:=first++args}):=Fx a (.inr hnd) (by simp[execOp,hc,resolve,hcf,hres E (aw.refl _ _)]);have hinv:∀E',aw D E E'->invoke (eD E {target:= .fn (.func g) captured,args:=first++args}).target (eD E {target:= .fn (.func g) captured,args:=first++args}).args=callFunc g (bK E' (first++args++captured)).toArray:=by
     grind [eD,oJ,invoke,ey]
   have hP:=ok.fns g fn hfn;have hn:fn.name≠ "runtime.NumGoroutine" :=by simpa using ok.xk g fn hfn
   have hrun:∀a,(callFunc g a).run P w= .ok (.enter g a) w:=by
     intro a;simp[callFunc,hP,hn,hb]
   have hstep:∀E',aw D E E'->Go.step P (lone frC csC w)= .next (lone (Frame.enter P g (bK E' (first++args++captured)).toArray .normal) (frC::csC) w):=fun E' he=>
     hctx.enter _ _ _ (by rw[hinv E' he,hrun])
   have hargsC:∀E',aw D E E'->(bK E' (first++args++captured)).toArray=(bK E (first++args++captured)).toArray:=by
     intro E' he;have h4:=hrun (bK E' (first++args++captured)).toArray;rw[<-hinv E' he,hinv E (aw.refl _ _),hrun]at h4;simpa using h4.symm
   have hRc:Rel D E (Am.Rest E h h0 K) {fr:=ak.enter fn g body (first++args++captured) .normal,cs:=[],h:=h0} (frC::csC) (Frame.enter P g (bK E (first++args++captured)).toArray .normal) (frC::csC) w:=by
     refine⟨fun E' he=>⟨?_,?_,rfl⟩,hltD,rr _ _ _ _ _,fun f hf=>by cases hf⟩
     . rw[<-hR.fB he];exact(hR.all E' he).1.part hs hd0
     . rw[<-hargsC E' he,nh hP hb]
   obtain⟨v,h1,⟨hle,hΘ⟩,he2⟩:=hgo D E (Am.Rest E h h0 K) (frC::csC) _ _ w hRc hB.rest;refine⟨v,h1,hΘ,hle,fun fr' h2 hf hg hd2 hnx=>?_⟩;have hfc:=lF hf;obtain⟨fr1,w',vC,E',D',s1,s2,s3,s4,s5,s6,s7,s8,s9,s10⟩:=he2;refine⟨frC.finish vC,csC,w',E',D',?_,⟨?_,?_,?_⟩,s5,s6,s8.part,by grind,s10⟩
   . exact(Steps.head (hstep E (aw.refl _ _)) s1).trans (.one (step_leave_returned s3))
   . intro E'' he';obtain⟨g1,g2⟩:=s4 E'' he';have hag:=s5.trans he' s6;obtain⟨k1,k2,k3⟩:=hR.all E'' hag;refine⟨k1.join (by rw[hR.fB hag];exact g1) (by rw[hR.fB hag];exact s8) hg (fun i o hi=>(hd2 i o hi).elim id (fun h=>AE (g1.eG i o h.1) h.2)),?_,k3⟩;rw[<-(hfc E'').1,<-g2,<-k2]
   . intro i hi;have:=s7 i hi;simp only;omega
   . exact⟨(hfc E).2.1 hR.wf.1,hR.wf.2⟩
theorem UO {Θ:AV->AH->Prop} {Ψ:AV->AH->Prop} {k:List bU} (hm:fr.mode= .run) (ht:fr.todo= .inRegion ops (i::rest)::k) (ho:ops[i]? =some o) (hw:wanted ops o fr.tmps= .ok true) (hp:iN P tab fr.tmps h o Θ)
  (hfin:∀v,∃fr',fr.finish v= .ok fr') (hk:∀v h1,Θ v h1->∀fr',fr.finish v= .ok fr'->eY P {fr:=fr',cs,h:=h1} Ψ):eY P {fr,cs,h} Ψ:=by
 intro D E K base frC csC w hR hB;have hdom:=(hR.all E (aw.refl _ _)).1.eG;obtain⟨v,h1,hΘ,hle,hgets⟩:=MV pr hR hB (mT hR hm ht ho hw) hp (fun _ _ h=>h) hdom (fun i hi=>hR.eG i hi);obtain⟨fr',hf⟩:=hfin v;obtain⟨frC',csC',w',E',D',s1,s2,s3,s4,s5,s6,s7⟩:=hgets fr' h1 hf (fun _ _ h=> .inl h) (fun _ _ h=> .inr ⟨h,Ac _⟩) rfl;obtain⟨v',h',g1,g2⟩:=hk v h1 hΘ fr' hf D' E' K base frC' csC' w' s2 (hB.kept s5);refine⟨v',h',g1,?_⟩;have hb:=iG (lF hf E).2.2 cs;rw[hb]at g2;grind [Am.Ends.trans]
end
end
section
variable [Inhabited aK]
def oO (P:Program) (tab:bC) (ops:Array Oper) (nt i:Nat) (o:Oper) (s:DS) (Φ:DS->Prop):Prop:=
 jQ s.aS ops i o=true/\wanted ops o s.ts= .ok true/\
 iN P tab s.ts (jh s.h (s.aI.filter fun x=> !(da x.1 (eS s.aS o)))) o fun v h1=>
  reread tab ops (jh (restore h1 s.h (s.aI.filter fun x=> !(da x.1 (eS s.aS o)))) (s.aI.filter fun x=> !(da x.1 (eS s.aS o)))) (s.reads.filter fun x=> !(da x.1 (eS s.aS o)))= .ok ()/\
  Φ {ts:=jg nt s.ts o v,h:=restore h1 s.h (s.aI.filter fun x=> !(da x.1 (eS s.aS o))),aS:=s.aS.set i (some (eS s.aS o)),reads:=s.reads.filter fun x=> !(da x.1 (eS s.aS o)),aI:=s.aI.filter fun x=> !(da x.1 (eS s.aS o))}
def gr (P:Program) (tab:bC) (ops:Array Oper) (nt:Nat) (G:DS->Prop):Nat->DS->Prop
 |0,_=>False
 |n+1,s=>∃s1,lI tab ops nt 0 ops.toList s= .ok s1/\((jW s1.aS 0 ops.toList=[]/\G s1)\/
  ∃c o,jW s1.aS 0 ops.toList=[(c,o)]/\oO P tab ops nt c o s1 (gr P tab ops nt G n))
def zI (P:Program) (tab:bC) (ops:Array Oper) (nt:Nat) (G:DS->Prop) (n:Nat) (s1:DS):Prop:=
 (jW s1.aS 0 ops.toList=[]/\G s1)\/ ∃c o,jW s1.aS 0 ops.toList=[(c,o)]/\oO P tab ops nt c o s1 (gr P tab ops nt G n)
section
variable {P:Program} {tab:bC} (pr:gx P tab)
variable {D:Nat->Prop} {E:Env} {K:KS} {base:List Frame} {frC:Frame} {csC:List Frame} {w:World}
variable {ops:Array Oper} {fr0:ak} {cs:List ak} {k:List bU} {lo:Nat} {s:DS} {Φ:DS->Prop} {X:Nat->Prop} {tsR:T AV} {hR:AH} {j:Nat} {l:List Nat} {o:Oper}
open Classical in
include pr in
theorem XZ (H:dy tab ops fr0.nt fr0.tmps lo s X) (Q:eT ops fr0 cs k base s X D E K tsR hR (j::l) frC csC w) (hB:eZ K w) (hm:fr0.mode= .run) (ho:ops[j]? =some o) (hr:isReady s.aS j o=true)
   (hd:oO P tab ops fr0.nt j o s Φ) (hready:∀p∈iV o,X p):∃s2,Φ s2/\dy tab ops fr0.nt fr0.tmps lo s2 (fun i=>X i\/i=j)/\tC P ops fr0 cs k base s2 (fun i=>X i\/i=j) D E K lo l frC csC w:=by
 obtain⟨hok,hb,hp⟩:=hd;obtain⟨hnone,hpre⟩:=ql hr;obtain⟨hok1,hok2⟩:=yY hok;have hxj:¬X j:=fun h=>by have:=H.cx j h;rw[hnone]at this;grind
 have hanX:∀p∈eS s.aS o,X p:=by
   intro p hp;rcases fY.1 hp with h|⟨q,hq,ap,h1,h2⟩
   . grind
   . exact H.rU q ap (hready q hq) h1 p h2
 generalize hhid:(s.aI.filter fun x=> !(da x.1 (eS s.aS o)))=hid at*
 have hidm:∀x,x∈hid↔x∈s.aI/\x.1∉eS s.aS o:=by
   grind [eQ]
 have hidj:∀x∈hid,x.1≠j:=by
   intro x hx e;have:=(H.al x ((hidm x).1 hx).1).2.1;rw[e,hnone]at this;grind
 have hl:∀t∈looks ops o,tsR.get t=s.ts.get t:=by
   intro t ht;by_cases hw:∃jj oj,ops[jj]? =some oj/\oj.dst=some t/\(s.aS.get jj).isSome
   . obtain⟨jj,oj,g1,g2,g3⟩:=hw;exact Q.pN jj oj t (hready jj (hok1 t ht jj oj g1 g2 g3)) g1 g2
   . rw[Q.pM t (fun jj oj hx hoj hd=>hw ⟨jj,oj,hoj,hd,H.cx jj hx⟩),H.qG t (fun jj oj hc hoj hd=>hw ⟨jj,oj,hoj,hd,hc⟩)]
 obtain⟨hops,hwant⟩:=Fe hl;have a:=mT Q.rel hm rfl ho (by rw[hwant];exact hb);obtain⟨v,h1,⟨hrr,hΦ⟩,hle,hgets0⟩:=MV pr Q.rel hB a (h0:=jh s.h hid) (hp.congr (fun x hx=>(hops x hx).symm))
   (by
     intro i ob h;rw[jf]at h;split at h
     . cases h
     . refine(Q.hr i ob).2 ⟨h,fun x hx e=>?_⟩;grind)
   (by
     intro i ob h;rw[jf]at h;split at h
     . cases h
     . rw[jS];exact H.hd i ob h)
   (by intro i hi;rw[jS,<-Q.hn];exact Q.rel.eG i hi)
 rw[jS]at hle;have hfin:=EW (fr0:=fr0) (tsR:=tsR) (l:=l) (k:=k) ho v;let h2:=restore h1 s.h hid
 let pd:=hid.filter fun x=>decide (¬(X x.1\/x.1=j))
 let hR2:=jh h2 pd
 have hg2:∀i,h2.get i=if ∃x∈hid,x.2=i then s.h.get i else h1.get i:=fun i=>pc _ _ _ _
 have hn2:h2.next=h1.next:=xB _ _ _;have hchar:∀i ob,hR2.get i=some ob↔h2.get i=some ob/\ ∀x∈hid,x.2=i->X x.1\/x.1=j:=by
   intro i ob;simp only[hR2,jf];constructor
   . intro h;split at h
     . cases h
     . refine⟨h,fun x hx e=>?_⟩;grind
   grind
 have hR2n:hR2.next=h1.next:=(jS _ _).trans hn2;have hgets:=hgets0 _ hR2 hfin
   (by
     intro i ob h;obtain⟨h3,h4⟩:=(hchar i ob).1 h;rw[hg2]at h3;split at h3
     . rename_i hex;right;refine⟨(Q.hr i ob).2 ⟨h3,fun x hx e=>?_⟩,by rw[jf,An hex]⟩;grind
     grind)
   (by
     intro i ob h;obtain⟨h3,_⟩:=(hchar i ob).1 h;rw[hg2]at h3;rw[hR2n];split at h3
     . have:=H.hd i ob h3;omega
     grind)
   hR2n
 obtain⟨frC',csC',w',E1,D1,s1,rel1,ag1,dd1,kp1,_,new1⟩:=hgets;rw[jS]at new1;have hdom2:∀i ob,h2.get i=some ob->i<h2.next:=by
   intro i ob h;rw[hn2];rw[hg2]at h;split at h
   . have:=H.hd i ob h;omega
   . rename_i hne;have h3:=(hchar i ob).2 ⟨by rw[hg2,Al hne];exact h,fun x hx e=>absurd ⟨x,hx,e⟩ hne⟩;have:=(rel1.all E1 (aw.refl _ _)).1.eG i ob h3;rw[<-hR2n];omega
 refine⟨_,hΦ,?_,jg fr0.nt tsR o v,hR2,frC',csC',w',D1,E1,s1,⟨rel1,hchar,hR2n.trans hn2.symm,?_,?_,?_⟩,ag1,dd1,kp1,?_⟩
 . refine H.lD ho hr hok hanX rfl rfl (by grind) (fun x hx=>((hidm x).1 hx).1) (fun x hx hn=>(hidm x).2 ⟨hx,hn⟩) ?_ hdom2 ?_
   . intro x hx;rw[hg2,An ⟨x,hx,rfl⟩]
   . intro j' oj tj vj hmr hjan hoj hce hca;have hmf:(j',tj,vj)∈s.reads.filter (fun x=> !(da x.1 (eS s.aS o))):=by
       rw[AB];refine⟨hmr,?_⟩
       cases hb:da j' (eS s.aS o)with
       |true=>exact absurd (eQ.1 hb) hjan
       |false=>rfl
     refine⟨hmf,?_⟩;obtain⟨oj',hr',g1,g2⟩:=M6 _ hrr _ _ _ hmf;rw[hoj]at g1
     cases g1;have hsame:=xy ⟨hce,hca⟩ g2;subst hsame;refine⟨_,g2,?_⟩;intro b ob hg;rw[jf]at hg;split at hg
     all_goals grind [jS]
 . intro i oi t hi hoi hd;rw[lE,lE];by_cases hc:o.dst=some t/\t<fr0.nt
   . rw[An hc,An hc]
   . rw[Al hc,Al hc];rcases hi with hi|rfl
     . exact Q.pN i oi t hi hoi hd
     . rw[ho]at hoi
       cases hoi;have hge:fr0.nt<=t:=DD (fun hlt=>hc ⟨hd,hlt⟩);rw[H.ue t hge];exact Q.rel.wf.1 t hge
 . intro t ht;rw[lE,Al (fun h=>ht j o (.inr rfl) ho h.1)];exact Q.pM t (fun i oi hi hoi=>ht i oi (.inl hi) hoi)
 . intro x hx hnx hD;have hxm:=((hidm x).1 hx).1;rcases new1 x.2 hD with hd|hd
   . exact Q.dp x hxm (fun h=>hnx (.inl h)) hd
   . have:=(H.al x hxm).1;omega
 . intro i hi;rcases new1 i hi with h|h
   . grind
   . exact .inr (Av H.nx h)
end
section
variable {P:Program} {tab:bC} (pr:gx P tab)
variable {K:KS} {base:List Frame}
variable {ops:Array Oper} {fr0:ak} {cs:List ak} {k:List bU} {lo:Nat}
def qJ (P:Program) (fr0:ak) (cs:List ak) (k:List bU) (base:List Frame) (K:KS) (lo:Nat) (G:DS->Prop) (D:Nat->Prop) (E:Env) (frC:Frame) (csC:List Frame) (w:World):Prop:=
 ∃sF frC' csC' w' D' E',G sF/\Steps P (lone frC csC w) (lone frC' csC' w')/\Rel D' E' K {fr:={fr0 with tmps:=sF.ts,todo:=k},cs,h:=sF.h} base frC' csC' w'/\aw D E E'/\(∀i,D i->D' i)/\Kept K w w'/\(∀i,D' i->D i\/lo<=i)/\lo<=sF.h.next
include pr in
theorem CG (hm:fr0.mode= .run) (hlt:qF 0 ops.toList=true):∀(fuel t:Nat) (listed:Array Bool) (s:DS) (G:DS->Prop) (n:Nat) (D:Nat->Prop) (E:Env) (tsR:T AV) (hR:AH) (frC:Frame) (csC:List Frame) (w:World),
  listed.size=ops.size->oN ops.size listed<=fuel->zI P tab ops fr0.nt G n s->dy tab ops fr0.nt fr0.tmps lo s (eM listed)->
  eT ops fr0 cs k base s (eM listed) D E K tsR hR (Region.linearise.go .any ops fuel t listed []) frC csC w->eZ K w->qJ P fr0 cs k base K lo G D E frC csC w:=by
 have hend:∀(listed:Array Bool) (s:DS) (G:DS->Prop) (n:Nat) (D:Nat->Prop) (E:Env) (tsR:T AV) (hR:AH) (frC:Frame) (csC:List Frame) (w:World),(∀j,j<ops.size->eM listed j)->
    zI P tab ops fr0.nt G n s->dy tab ops fr0.nt fr0.tmps lo s (eM listed)->eT ops fr0 cs k base s (eM listed) D E K tsR hR [] frC csC w->qJ P fr0 cs k base K lo G D E frC csC w:=by
  intro listed s G n D E tsR hR frC csC w hall htodo H Q;rcases htodo with⟨_,hG⟩|⟨c,o,hc,_⟩
  . have hts:∀t,tsR.get t=s.ts.get t:=by
      intro t;by_cases hw:∃(j:Nat) (oj:Oper),ops[j]? =some oj/\oj.dst=some t
      . obtain⟨j,oj,h1,h2⟩:=hw;exact Q.pN j oj t (hall j (Ab.1 h1).1) h1 h2
      . rw[Q.pM t (fun j oj _ h1 h2=>hw ⟨j,oj,h1,h2⟩),H.qG t (fun j oj _ h1 h2=>hw ⟨j,oj,h1,h2⟩)]
    have hst:∀E',Go.step P (lone (bN E' {fr0 with tmps:=tsR,todo:= .inRegion ops []::k}) csC w)= .next (lone (bN E' {fr0 with tmps:=tsR,todo:=k}) csC w):=
      fun E'=>step_lone_go (by simp[stepG,stepG.exec,bN,hm,fy,dQ])
    have hconc:∀E',bN E' {fr0 with tmps:=s.ts,todo:=k}=bN E' {fr0 with tmps:=tsR,todo:=k}:=by
      simp_all[iQ,wQ,bN]
    have hfr:=(Q.rel.all E (aw.refl _ _)).2.1;refine⟨s,bN E {fr0 with tmps:=tsR,todo:=k},csC,w,D,E,hG, .one (by rw[<-hfr];grind),⟨fun E' he=>?_,fun i hi=>?_,?_,Q.rel.wf.2⟩,aw.refl _ _,fun _ h=>h,Kept.refl K w,fun i hi=> .inl hi,H.nx⟩
    . obtain⟨g1,g2,g3⟩:=Q.rel.all E' he;refine⟨g1.same (fun i ob h=>(Q.hr i ob).2 ⟨h,fun x hx _=>?_⟩) (by simp only;rw[Q.hn];omega),?_,g3⟩
      . obtain⟨o,ho⟩:=H.op _ (H.al x hx).2.1;grind
      grind [tn]
    . have:=Q.rel.eG i hi;rw[Q.hn]at this;omega
    . intro t ht;have:=Q.rel.wf.1 t ht;grind
  . have hcm:(c,o)∈jW s.aS 0 ops.toList:=by rw[hc];grind
    obtain⟨j',h1,h2,h3⟩:=Lt _ _ _ _ _ hcm;have hlt':c<ops.size:=by
      have:=(Ae.1 h2).1;grind
    have:=H.cx c (hall c hlt');rw[(ql h3).1]at this;grind
 intro fuel;induction fuel with
 |zero=>
  grind [Oe,Region.linearise.go]
 | succ fuel ih=>
  intro t listed s G n D E tsR hR frC csC w hsz hu htodo H Q hB;change eT ops fr0 cs k base s (eM listed) D E K tsR hR (match(Region.ready .any ops listed)[t % (Region.ready .any ops listed).length]? with
    |some i=>Region.linearise.go .any ops fuel (t / (Region.ready .any ops listed).length) (listed.setIfInBounds i true) [i]
    |none=>[].reverse) frC csC w at Q
  have hget:∀j,j<ops.size->(listed.getD j true=false↔¬eM listed j):=by
    grind [eM]
  cases hi:(Region.ready .any ops listed)[t % (Region.ready .any ops listed).length]? with
  | none=>
    rw[hi]at Q;have hnil:Region.ready .any ops listed=[]:=by
      cases hr:Region.ready .any ops listed with
      |nil=>rfl
      | cons x xs=>
        rw[hr]at hi;have hlt:t % (x::xs).length<(x::xs).length:=Nat.mod_lt _ (by simp);rw[DA]at hi;omega
    have hall:∀j,j<ops.size->eM listed j:=by
      intro j;induction j using Nat.strongRecOn with
      | _ j ihj=>
        intro hj;by_cases hx:eM listed j
        . exact hx
        . have hm':j∈Region.ready .any ops listed:=by
           rw[mem_ready];refine⟨(hget j hj).2 hx,ops[j],AU hj,?_⟩;intro e he hb;have hp:e.on∈iV ops[j]:=AL.2 ⟨e,AB.2 ⟨by grind,hb⟩,rfl⟩;have hlt':=OA ops.toList 0 hlt j ops[j] (by grind) e.on hp;grind
          rw[hnil]at hm';grind
    grind
  | some i =>
    rw[hi]at Q;simp only at Q;rw[linearise_go_acc,Ey,DI]at Q;obtain⟨hl1,o,ho,hdeps⟩:=mem_ready.1 (BA hi);have hin:i<ops.size:=(Ab.1 ho).1;have hx:=(hget i hin).1 hl1;have hready:∀p∈iV o,eM listed p:=by
      intro p hp;obtain⟨e,he,rfl⟩:=AL.1 hp;grind
    have hsz':(listed.setIfInBounds i true).size=ops.size:=by grind
    have hu':oN ops.size (listed.setIfInBounds i true)<=fuel:=by
      have:=Pp hin (by omega) hx;omega
    have hX':eM (listed.setIfInBounds i true)=fun j=>eM listed j\/j=i:=Gy (by omega)
    have hfin:∀(s':DS) (n':Nat),zI P tab ops fr0.nt G n' s'->dy tab ops fr0.nt fr0.tmps lo s' (fun j=>eM listed j\/j=i)->
        tC P ops fr0 cs k base s' (fun j=>eM listed j\/j=i) D E K lo (Region.linearise.go .any ops fuel (t / (Region.ready .any ops listed).length) (listed.setIfInBounds i true) []) frC csC w->qJ P fr0 cs k base K lo G D E frC csC w:=by
      intro s' n' htd H' hc;obtain⟨tsR',hR',frC',csC',w',D',E',c1,c2,c3,c4,c5,c6⟩:=hc;obtain⟨sF,frF,cSF,wF,DF,EF,f0,f1,f2,f3,f4,f5,f6,f7⟩:=ih _ (listed.setIfInBounds i true) s' G n' D' E' tsR' hR' frC' csC' w' hsz' hu' htd (by rw[hX'];exact H') (by rw[hX'];exact c2) (hB.kept c5);exact⟨sF,frF,cSF,wF,DF,EF,f0,c1.trans f1,f2,c3.trans f3 c4,fun x hx=>f4 x (c4 x hx),c5.trans f5,fun x hx=>(f6 x hx).elim (c6 x) .inr,f7⟩
    by_cases hC:(s.aS.get i).isSome=true
    . exact hfin s n htodo (H.uo hC ho hready) (MW pr.ok H Q hm ho hC hx hready)
    . have hr:isReady s.aS i o=true:=by
        unfold isReady;simp only[Ad,AG];exact⟨by simp_all,fun p hp=>H.cx p (hready p hp)⟩
      have hcm:(i,o)∈jW s.aS 0 ops.toList:=by
        have:=NY ops.toList 0 s.aS i o (by grind) (by grind);grind
      rcases htodo with⟨hc,_⟩|⟨c,o',hc,hd⟩
      . rw[hc]at hcm;grind
      . rw [hc]at hcm;rcases Ap.1 hcm with e|hcm
        . cases e;obtain⟨s2,hloop,H2,tsR',hR',frC',csC',w',D',E',c1,c2,c3,c4,c5,c6⟩:=XZ pr H Q hB hm ho hr hd hready
          cases n with
          |zero=>exact hloop.elim
          | succ n=>
           obtain⟨s3,hpass,htd3⟩:=hloop;have hpl:∀j o,ops.toList[j]? =some o->ops[0+j]? =some o:=by
            intro j o hj;simpa using hj
           obtain⟨hR3,Q3⟩:=x9 ops.toList 0 s2 s3 hR' hpl hpass H2 c2;exact hfin s3 n htd3 (xw ops.toList 0 s2 s3 hpl hpass H2) ⟨tsR',hR3,frC',csC',w',D',E',c1,Q3,c3,c4,c5,c6⟩
        . cases hcm
include pr in
theorem Uq {Ψ:AV->AH->Prop} {h:AH} {id:Nat} {n:Nat} (hm:fr0.mode= .run) (ht:fr0.todo= .code (.region id ops true)::k) (hlt:qF 0 ops.toList=true)
  (hd:gr P tab ops fr0.nt (fun sF=>eY P {fr:={fr0 with tmps:=sF.ts,todo:=k},cs,h:=sF.h} Ψ) n {ts:=fr0.tmps,h,aS:= .e,reads:=[],aI:=[]}):eY P {fr:=fr0,cs,h} Ψ:=by
 intro D E K base frC csC w hR hB;obtain⟨n,rfl⟩:∃n',n=n'+1:=by
  cases n with
  |zero=>exact hd.elim
  |succ n=>grind
 obtain⟨s1,hpass,htodo⟩:=hd;let s0:DS:={ts:=fr0.tmps,h,aS:= .e,reads:=[],aI:=[]}
 let ord:=w.tape w.drawn (.order frC.fn id)
 let l:=Go.Region.linearise.go .any ops ops.size ord (Array.replicate ops.size false) []
 have hstep:∀E',aw D E E'->Go.step P (lone frC csC w)= .next (lone (bN E' {fr0 with tmps:=fr0.tmps,todo:= .inRegion ops l::k}) csC w.drew):=by
  intro E' he;have e1:=(hR.all E' he).2.1;refine step_lone_go ?_;have hmC:frC.mode= .run:=by rw[<-e1];grind [bN,fy]
  have htC:frC.todo= .code (.region id ops true)::k.map (dQ E'):=by rw[<-e1];grind [bN,dQ]
  have hrun:(choose (.order frC.fn id)).run P w= .ok ord w.drew:=by
   rfl
  have hsch:Go.Region.schedule (P.follows .mixedOrders) ops ord=l:=by
   simp only[Go.Region.schedule,pr.mix,D6,BB];rfl
  have hgoal:bN E' {fr0 with tmps:=fr0.tmps,todo:= .inRegion ops l::k}={frC with todo:= .inRegion ops l::k.map (dQ E')}:=by
   rw[<-e1];rfl
  rw[hgoal];grind [stepG,stepG.exec,GStep.bare_go]
 have hdom:=(hR.all E (aw.refl _ _)).1.eG;have H0:dy tab ops fr0.nt fr0.tmps h.next s0 (eM (Array.replicate ops.size false)):=by
  have hnone:∀j,s0.aS.get j=none:=fun _=>rfl
  refine⟨fun j hj=>absurd hj (sV _ _),fun j a hj=>absurd hj (sV _ _),?_,?_,?_,fun _ _=>rfl,?_,fun x hx=>(by cases hx),Ac _,hR.wf.1,fun x hx=>(by cases hx),hdom⟩
  all_goals grind
 have Q0:eT ops fr0 cs k base s0 (eM (Array.replicate ops.size false)) D E K fr0.tmps h l (bN E {fr0 with tmps:=fr0.tmps,todo:= .inRegion ops l::k}) csC w.drew:=by
  refine⟨⟨fun E' he=>?_,hR.eG,hR.wf⟩,fun i ob=>⟨fun h=>⟨h,fun x hx=>(by cases hx)⟩,fun h=>h.1⟩,rfl,fun j o t hx=>absurd hx (sV _ _),fun _ _=>rfl,fun x hx=>by cases hx⟩;obtain⟨g1,g2,g3⟩:=hR.all E' he;refine⟨g1.drew,?_,g3⟩;have h1:=hstep E' he;rw[hstep E (aw.refl _ _)]at h1;grind [tn]
 have htodo:zI P tab ops fr0.nt (fun sF=>eY P {fr:={fr0 with tmps:=sF.ts,todo:=k},cs,h:=sF.h} Ψ) n s1:=htodo;have hpl:∀j o,ops.toList[j]? =some o->ops[0+j]? =some o:=by
  grind
 obtain⟨hR1,Q1⟩:=x9 ops.toList 0 s0 s1 h hpl hpass H0 Q0;have H1:=xw ops.toList 0 s0 s1 hpl hpass H0;obtain⟨sF,frC',csC',w',D',E',f0,f1,f2,f3,f4,f5,f6,f7⟩:=CG pr hm hlt ops.size ord (Array.replicate ops.size false) s1 _ n D E fr0.tmps hR1 _ csC w.drew (by simp)
  (by grind [oN]) htodo H1 Q1 hB
 obtain⟨v,h',g1,g2⟩:=f0 D' E' K base frC' csC' w' f2 (eZ.kept (w:=w.drew) hB f5);have hb:bot {fr0 with tmps:=sF.ts,todo:=k} cs=bot fr0 cs:=iG (fr:=fr0) (fr':={fr0 with tmps:=sF.ts,todo:=k}) rfl cs;rw[hb]at g2;exact⟨v,h',g1,Am.Ends.trans (Steps.head (hstep E (aw.refl _ _)) f1) f3 f4 ((Kept.drew K w).trans f5) f7 f6 g2⟩
end
end
section
universe u v
variable [Inhabited aK]
structure BI where
 β:Nat
 len:Nat
 sz:Nat
 cap:Option gV
structure Cx where
 ρ:Nat->Option BI
 Fz:Nat->Option AO
def tU (cap:gV) (off n sz:Nat) (ext:Bool):Prop:=
 match cap with
 | .lit m=>n<=m
 | .tail k=>ext=true/\off=k*sz
def fb (Fz:Nat->Option AO) (b:Nat) (cs:List AV) (e:TypeId) (sz:Nat) (ext:Bool) (bk:BK):Prop:=
 ∃sz0 ext0,Fz b=some (.cells cs e sz0 ext0 bk)/\(ext=true->sz0=sz/\ext0=true)
theorem fb.of {Fz:Nat->Option AO} {b:Nat} {cs:List AV} {e:TypeId} {sz:Nat} {ext:Bool} {bk:BK} (h:Fz b=some (.cells cs e sz ext bk)):fb Fz b cs e sz ext bk:=⟨sz,ext,h,fun h=>⟨rfl,h⟩⟩
theorem fb.mono {Fz Fz':Nat->Option AO} (hf:∀i o,Fz i=some o->Fz' i=some o) {b:Nat} {cs:List AV} {e:TypeId} {sz:Nat} {ext:Bool} {bk:BK} (h:fb Fz b cs e sz ext bk):fb Fz' b cs e sz ext bk:=by
 obtain⟨s,x,h1,h2⟩:=h;exact⟨s,x,hf _ _ h1,h2⟩
inductive aT (Fz:Nat->Option AO):SV->AV->Prop
 |bool (b:Bool):aT Fz (.bool b) (.bool b)
 |int (k:IntKind) (n:Int):aT Fz (.int k n) (.int k n)
 |str (s:List UInt8):aT Fz (.str s) (.str s)
 |bq:aT Fz .bq .bq
 |wp (a:Addr):aT Fz (.wp a) (.raw (.pointer (some a)))
 |nils:aT Fz .nils .nils
 |bP:aT Fz .bP .bP
 |bR:aT Fz .bR .bR
 |any (v:AV):aT Fz .any v
 |ch {X:Type} {L:List X} {enc:X->List SV} {v:AV} (h0:L.length=0) (hv:v= .nils\/(∃b off l n k,v= .emp b off l n k)\/ ∃a c,v= .raw (.slice a 0 c)):aT Fz (.bn X L enc) v
 |bn {X:Type} {L:List X} {enc:X->List SV} (b off:Nat) (cap:gV) (cs:List AV) (e:TypeId) (sz:Nat) (ext:Bool) (bk:BK) (u:Nat->Nat->AV)
  (hb:fb Fz b cs e sz ext bk) (hs:0<sz) (hl:off+L.length*sz<=cs.length) (hn:∀(i:Nat) x,L[i]? =some x->(enc x).length=sz) (hc:tU cap off L.length sz ext)
  (h1:∀(i:Nat) x (j:Nat) v,L[i]? =some x->(enc x)[j]? =some v->cs[off+i*sz+j]? =some (u i j)) (h2:∀(i:Nat) x (j:Nat) v,L[i]? =some x->(enc x)[j]? =some v->aT Fz v (u i j)):aT Fz (.bn X L enc) (.sl b off L.length cap)
 |cz {cs:List SV} {off:Nat} (b base:Nat) (ca:List AV) (e:TypeId) (sz:Nat) (ext:Bool) (bk:BK) (u:Nat->AV) (hb:Fz b=some (.cells ca e sz ext bk)) (hl:base+cs.length<=ca.length)
  (h1:∀(j:Nat) v,cs[j]? =some v->ca[base+j]? =some (u j)) (h2:∀(j:Nat) v,cs[j]? =some v->aT Fz v (u j)):aT Fz (.cz cs off) (.ptr b (base+off))
 |fn {f:FuncId} {xs ys:List SV} {us vs:List AV} (h1:xs.length=us.length) (h2:ys.length=vs.length) (h3:∀(i:Nat) x u,xs[i]? =some x->us[i]? =some u->aT Fz x u) (h4:∀(i:Nat) x u,ys[i]? =some x->vs[i]? =some u->aT Fz x u):aT Fz (.fn f xs ys) (.fn (.func f) us vs)
 |agg {cs:List SV} {vs:List AV} (h1:cs.length=vs.length) (h2:∀(i:Nat) c v,cs[i]? =some c->vs[i]? =some v->aT Fz c v):aT Fz (.agg cs) (.agg vs)
 |bO {cs:List SV} {vs:List AV} (h1:cs.length=vs.length) (h2:∀(i:Nat) c v,cs[i]? =some c->vs[i]? =some v->aT Fz c v):aT Fz (.bO cs) (.bO vs)
inductive aQ (C:Cx):SV->AV->Prop
 |pure {s:SV} {v:AV} (h:aT C.Fz s v):aQ C s v
 |ptr {b off:Nat} {I:BI} (h:C.ρ b=some I):aQ C (.ptr b off) (.ptr I.β off)
 |cF {b i off:Nat} {I:BI} (h:C.ρ b=some I) (hc:I.cap.isSome):aQ C (.cF b i off) (.ptr I.β (i*I.sz+off))
 |eB {b:Nat} {I:BI} (h:C.ρ b=some I) (hc:I.cap=none):aQ C (.own b) .nils
 |own {b:Nat} {I:BI} {c:gV} (h:C.ρ b=some I) (hc:I.cap=some c):aQ C (.own b) (.sl I.β 0 I.len c)
 |sl {b off n c:Nat} {I:BI} (h:C.ρ b=some I):aQ C (.sl b off n c) (.sl I.β off n (.lit c))
 |fn {f:FuncId} {xs ys:List SV} {us vs:List AV} (h1:xs.length=us.length) (h2:ys.length=vs.length) (h3:∀(i:Nat) x u,xs[i]? =some x->us[i]? =some u->aQ C x u) (h4:∀(i:Nat) x u,ys[i]? =some x->vs[i]? =some u->aQ C x u):aQ C (.fn f xs ys) (.fn (.func f) us vs)
 |agg {cs:List SV} {vs:List AV} (h1:cs.length=vs.length) (h2:∀(i:Nat) c v,cs[i]? =some c->vs[i]? =some v->aQ C c v):aQ C (.agg cs) (.agg vs)
 |bO {cs:List SV} {vs:List AV} (h1:cs.length=vs.length) (h2:∀(i:Nat) c v,cs[i]? =some c->vs[i]? =some v->aQ C c v):aQ C (.bO cs) (.bO vs)
theorem gJ {b c:Nat} (h:¬b=c):Nat.beq b c=false:=Ar.2 fun e=>h (Ag e)
def bc (C:Cx) (l:List SV) (m:List AV):Prop:=l.length=m.length/\ ∀(i:Nat) s v,l[i]? =some s->m[i]? =some v->aQ C s v
theorem bc.nil {C:Cx}:bc C [] []:=⟨rfl,fun i s v h=>by grind⟩
theorem bc.cons {C:Cx} {s:SV} {v:AV} {l:List SV} {m:List AV} (h:aQ C s v) (t:bc C l m):bc C (s::l) (v::m):=by
 refine⟨by simp[t.1],fun i a b ha hb=>?_⟩
 cases i with
 |zero=>grind
 |succ i=>exact t.2 i a b (by grind) (by grind)
theorem bc.head {C:Cx} {s:SV} {v:AV} {l:List SV} {m:List AV} (h:bc C (s::l) (v::m)):aQ C s v/\bc C l m:=
 ⟨h.2 0 s v rfl rfl,by simpa using h.1,fun i a b ha hb=>h.2 (i+1) a b (by grind) (by grind)⟩
theorem bc.append {C:Cx} {l l':List SV} {m m':List AV} (h:bc C l m) (h':bc C l' m'):bc C (l++l') (m++m'):=by
 refine⟨by simp[h.1,h'.1],fun i a b ha hb=>?_⟩;by_cases hi:i<l.length
 . rw[AS hi]at ha;rw[AS (by rw[<-h.1];exact hi)]at hb;exact h.2 i a b ha hb
 . rw[Bh (by omega)]at ha;rw[Bh (by rw[<-h.1];omega),<-h.1]at hb;exact h'.2 _ a b ha hb
theorem bc.take {C:Cx} {l:List SV} {m:List AV} (h:bc C l m) (n:Nat):bc C (l.take n) (m.take n):=by
 refine⟨by simp[h.1],fun i a b ha hb=>?_⟩;rw[A3]at ha hb;split at ha
 . rename_i hi;rw[An hi]at hb;exact h.2 i a b ha hb
 grind
theorem bc.drop {C:Cx} {l:List SV} {m:List AV} (h:bc C l m) (n:Nat):bc C (l.drop n) (m.drop n):=by
 refine⟨by simp[h.1],fun i a b ha hb=>?_⟩;rw[Dh]at ha hb;exact h.2 _ a b ha hb
theorem aT.mono {Fz Fz':Nat->Option AO} (hf:∀i o,Fz i=some o->Fz' i=some o) {s:SV} {v:AV} (h:aT Fz s v):aT Fz' s v:=by
 induction h with
 |bool b=>grind [bool]
 |int k n=>grind [int]
 |str s=>grind [str]
 |bq=>exact .bq
 |wp a=>grind [wp]
 |nils=>exact .nils
 |bP=>exact .bP
 |bR=>exact .bR
 |any v=>grind [any]
 |ch h0 hv=>grind [ch]
 |bn b off cap cs e sz ext bk u hb hs hl hn hc h1 _ ih=>exact .bn b off cap cs e sz ext bk u (hb.mono hf) hs hl hn hc h1 ih
 |cz b base ca e sz ext bk u hb hl h1 _ ih=>exact .cz b base ca e sz ext bk u (hf _ _ hb) hl h1 ih
 |fn h1 h2 _ _ ih3 ih4=>grind [fn]
 |agg h1 _ ih=>grind [agg]
 |bO h1 _ ih=>grind [bO]
theorem pA (e:Ev) (l:List SV):fW e l=l.map (SV.on e):=by
 induction l with
 |nil=>simp[fW]
 |cons a l ih=>grind [fW]
theorem aT.on {Fz:Nat->Option AO} {s:SV} {v:AV} (h:aT Fz s v) (e:Ev):aT Fz (s.on e) v:=by
 induction h with
 |bool b=>grind [SV.on,bool]
 |int k n=>grind [SV.on,int]
 |str s=>grind [SV.on,str]
 |bq=>grind [SV.on,bq]
 |wp a=>grind [SV.on,wp]
 |nils=>grind [SV.on,nils]
 |bP=>grind [SV.on,bP]
 |bR=>grind [SV.on,bR]
 |any v=>grind [SV.on,any]
 |ch h0 hv=>grind [SV.on,ch]
 |bn b off cap cs e sz ext bk u hb hs hl hn hc h1 h2 _=>exact .bn b off cap cs e sz ext bk u hb hs hl hn hc h1 h2
 |cz b base ca e sz ext bk u hb hl h1 h2 _=>exact .cz b base ca e sz ext bk u hb hl h1 h2
 |fn h1 h2 _ _ ih3 ih4=>
  grind [SV.on,pA,fn]
 |agg h1 _ ih=>
  grind [SV.on,pA,agg]
 |bO h1 _ ih=>
  grind [SV.on,pA,bO]
def dE (C:Cx) (e:Ev) (C':Cx):Prop:=
 (∀i o,C.Fz i=some o->C'.Fz i=some o)/\
 match e with
 | .mod _=>∀p I,C.ρ p=some I->C'.ρ p=some I
 | .kill b=>∀p I,p≠b->C.ρ p=some I->C'.ρ p=some I
 | .fj b X L enc=>(∀p I,p≠b->C.ρ p=some I->C'.ρ p=some I)/\ ∀I,C.ρ b=some I->
  (∀v,aQ C (.own b) v->aT C'.Fz (.bn X L enc) v)/\(∀(i:Nat) off v x,L[i]? =some x->aQ C (.cF b i off) v->aT C'.Fz (.cz (enc x) off) v)
theorem aQ.turns {C C':Cx} {e:Ev} (ht:dE C e C') {s:SV} {v:AV} (h:aQ C s v):aQ C' (s.on e) v:=by
 induction h with
 |pure h=>exact .pure ((h.mono ht.1).on e)
 | @ptr b off I h=>
  simp only[SV.on]
  cases e with
  |mod c=>exact .ptr (ht.2 _ _ h)
  |kill c=>
   by_cases hb:b=c
   . simp[hb];exact .pure (.any _)
   . simp only[gJ hb,Bk];exact .ptr (ht.2 _ _ hb h)
  |fj c X L enc=>
   by_cases hb:b=c
   . simp[hb];exact .pure (.any _)
   . simp only[gJ hb,Bk];exact .ptr (ht.2.1 _ _ hb h)
 | @cF b i off I h hc=>
  simp only[SV.on]
  cases e with
  |mod c=>exact .cF (ht.2 _ _ h) hc
  |kill c=>
   by_cases hb:b=c
   . simp[hb];exact .pure (.any _)
   . simp only[gJ hb,Bk];exact .cF (ht.2 _ _ hb h) hc
  |fj c X L enc=>
   by_cases hb:b=c
   . subst hb;simp only[Dc,B9];split
     . rename_i x hx;exact .pure ((ht.2.2 I h).2 i off _ x hx (.cF h hc))
     . exact .pure (.any _)
   . simp only[gJ hb,Bk];exact .cF (ht.2.1 _ _ hb h) hc
 | @eB b I h hc=>
  simp only[SV.on]
  cases e with
  |mod c=>exact .eB (ht.2 _ _ h) hc
  |kill c=>
   by_cases hb:b=c
   . simp[hb];exact .pure (.any _)
   . simp only[gJ hb,Bk];exact .eB (ht.2 _ _ hb h) hc
  |fj c X L enc=>
   by_cases hb:b=c
   . subst hb;simp only[Dc,B9];exact .pure ((ht.2.2 I h).1 _ (.eB h hc))
   . simp only[gJ hb,Bk];exact .eB (ht.2.1 _ _ hb h) hc
 | @own b I c' h hc=>
  simp only[SV.on]
  cases e with
  |mod c=>exact .own (ht.2 _ _ h) hc
  |kill c=>
   by_cases hb:b=c
   . simp[hb];exact .pure (.any _)
   . simp only[gJ hb,Bk];exact .own (ht.2 _ _ hb h) hc
  |fj c X L enc=>
   by_cases hb:b=c
   . subst hb;simp only[Dc,B9];exact .pure ((ht.2.2 I h).1 _ (.own h hc))
   . simp only[gJ hb,Bk];exact .own (ht.2.1 _ _ hb h) hc
 | @sl b off n c' I h=>
  simp only[SV.on]
  cases e with
  |mod c=>exact .sl (ht.2 _ _ h)
  |kill c=>
   by_cases hb:b=c
   . simp[hb];exact .pure (.any _)
   . simp only[gJ hb,Bk];exact .sl (ht.2 _ _ hb h)
  |fj c X L enc=>
   by_cases hb:b=c
   . simp[hb];exact .pure (.any _)
   . simp only[gJ hb,Bk];exact .sl (ht.2.1 _ _ hb h)
 |fn h1 h2 _ _ ih3 ih4=>
  grind [SV.on,pA,fn]
 |agg h1 _ ih=>
  grind [SV.on,pA,agg]
 |bO h1 _ ih=>
  grind [SV.on,pA,bO]
def jG:List Ev->SV->SV
 |[],s=>s
 |e::l,s=>jG l (s.on e)
theorem xA (l m:List Ev) (s:SV):jG (l++m) s=jG m (jG l s):=by
 induction l generalizing s with
 |nil=>rfl
 |cons e l ih=>exact ih _
structure Tr (C:Cx) (log:List Ev) (C':Cx):Prop where
 val:∀s v,aQ C s v->aQ C' (jG log s) v
 fz:∀i o,C.Fz i=some o->C'.Fz i=some o
theorem Tr.refl (C:Cx):Tr C [] C:=⟨fun _ _ h=>h,fun _ _ h=>h⟩
theorem Tr.trans {C C' C'':Cx} {l m:List Ev} (h:Tr C l C') (k:Tr C' m C''):Tr C (l++m) C'':=
 ⟨fun s v hs=>by rw[xA];exact k.val _ _ (h.val _ _ hs),fun i o hi=>k.fz i o (h.fz i o hi)⟩
theorem dE.tr {C C':Cx} {e:Ev} (h:dE C e C'):Tr C [e] C':=⟨fun _ _ hs=>hs.turns h,h.1⟩
def Cx.le (C C':Cx):Prop:=(∀p I,C.ρ p=some I->C'.ρ p=some I)/\ ∀i o,C.Fz i=some o->C'.Fz i=some o
theorem aQ.le {C C':Cx} (hc:C.le C') {s:SV} {v:AV} (h:aQ C s v):aQ C' s v:=by
 induction h with
 |pure h=>exact .pure (h.mono hc.2)
 |ptr h=>exact .ptr (hc.1 _ _ h)
 |cF h hs=>exact .cF (hc.1 _ _ h) hs
 |eB h hs=>exact .eB (hc.1 _ _ h) hs
 |own h hs=>exact .own (hc.1 _ _ h) hs
 |sl h=>exact .sl (hc.1 _ _ h)
 |fn h1 h2 _ _ ih3 ih4=>grind [fn]
 |agg h1 _ ih=>grind [agg]
 |bO h1 _ ih=>grind [bO]
theorem Cx.le.tr {C C':Cx} (h:C.le C'):Tr C [] C':=⟨fun _ _ hs=>hs.le h,h.2⟩
theorem Cx.le_refl (C:Cx):C.le C:=⟨fun _ _ h=>h,fun _ _ h=>h⟩
def eL (tab:bC) (C:Cx) (I:BI) (o:SO) (a:AH):Prop:=
 match o with
 | .cells cs e=>I.cap.isSome/\ ∃ca sz,a.get I.β=some (.cells ca e sz false .rw)/\bc C cs ca/\tab.siz.get e=some sz
 | .arr X L enc e=>tab.siz.get e=some I.sz/\0<I.sz/\I.len=L.length/\(∀(i:Nat) x,L[i]? =some x->(enc x).length=I.sz)/\
  match I.cap with
  |none=>L.length=0
  |some c=>∃ca ext bk,a.get I.β=some (.cells ca e I.sz ext bk)/\(bk≠ .ro/\bk≠ .cold)/\ca.length=L.length*I.sz/\((c= .tail 0/\ext=true)\/(c= .lit 0/\L.length=0))/\
   ∀(i:Nat) x (j:Nat) v,L[i]? =some x->(enc x)[j]? =some v->∃u,ca[i*I.sz+j]? =some u/\aT C.Fz v u
structure HS (tab:bC) (C:Cx) (h:SH) (a:AH):Prop where
 obj:∀p o,h.get p=some o->∃I,C.ρ p=some I/\eL tab C I o a
 inj:∀p q o o' I J,h.get p=some o->h.get q=some o'->C.ρ p=some I->C.ρ q=some J->I.cap.isSome->J.cap.isSome->I.β=J.β->p=q
 fz:∀i o,C.Fz i=some o->a.get i=some o
 dj:∀p o I,h.get p=some o->C.ρ p=some I->I.cap.isSome->C.Fz I.β=none
 lt:∀p I,C.ρ p=some I->p<h.next
 wf:∀i o,a.get i=some o->i<a.next
def FS (C:Cx) (ts:Fr) (ta:T AV):Prop:=∀t s,look ts t=some s->aQ C s ((ta.get t).getD (.bO []))
end
section
universe u v
variable [Inhabited aK]
theorem kU {α:Type u} (k:Nat) (v:α) (l:List (Nat×α)) (n:Nat):look ((k,v)::l) n=if n=k then some v else look l n:=by
 simp only[look];by_cases h:n=k
 . simp_all
 grind [gJ]
theorem SH.bp (h:SH) (b p:Nat) (o:Option SO):(h.set b o).get p=if p=b then o else h.get p:=by
 obtain⟨n,os⟩:=h;simp only[SH.set,SH.get,kU];by_cases e:p=b
 . simp[e];cases o<;>rfl
 grind
theorem SH.aX (h:SH) (p:Nat) (o:SO):(h.new o).get p=if p=h.next then some o else h.get p:=by
 obtain⟨n,os⟩:=h;grind [SH.new,SH.get,kU]
theorem SH.eR (h:SH) (b:Nat) (o:Option SO):(h.set b o).next=h.next:=by obtain⟨n,os⟩:=h;rfl
theorem SH.cP (h:SH) (o:SO):(h.new o).next=h.next+1:=by obtain⟨n,os⟩:=h;rfl
theorem qvj (e:Ev) (os:List (Nat×Option SO)) (p:Nat):look (jz e os) p=(look os p).map fun o=>o.map (SO.on e):=by
 induction os with
 |nil=>rfl
 |cons x l ih=>
  obtain⟨b,o⟩:=x
  cases o with
  |none=>grind [jz,kU]
  |some o=>grind [jz,kU]
theorem tx (e:Ev) (n:Nat) (os:List (Nat×Option SO)) (p:Nat):(SH.mk n (jz e os)).get p=((SH.mk n os).get p).map (SO.on e):=by
 simp only[SH.get,qvj]
 cases h:look os p with
 |none=>rfl
 |some o=>cases o<;>rfl
theorem Np (e:Ev) (ts:Fr) (t:Nat):look (qZ e ts) t=(look ts t).map (SV.on e):=by
 induction ts with
 |nil=>rfl
 |cons x l ih=>
  grind [qZ,kU]
theorem FS.turns {C C':Cx} {e:Ev} (ht:dE C e C') {ts:Fr} {ta:T AV} (h:FS C ts ta):FS C' (qZ e ts) ta:=by
 intro t s hs;rw[Np]at hs;obtain⟨s0,h0,rfl⟩:=AR.1 hs;exact(h t s0 h0).turns ht
theorem FS.le {C C':Cx} (hc:C.le C') {ts:Fr} {ta:T AV} (h:FS C ts ta):FS C' ts ta:=fun t s hs=>(h t s hs).le hc
theorem FS.log {C C':Cx} {log:List Ev} (ht:Tr C log C') {ts:Fr} {ta:T AV} (h:FS C ts ta):FS C' (ud log ts) ta:=by
 have key:∀(log:List Ev) (ts:Fr) (t:Nat),look (ud log ts) t=(look ts t).map (jG log):=by
  intro log;induction log with
  |nil=>intro ts t;simp[ud];cases look ts t<;>rfl
  |cons e l ih=>
   intro ts t;simp only[ud,ih,Np,Option.map_map];rfl
 intro t s hs;rw[key]at hs;obtain⟨s0,h0,rfl⟩:=AR.1 hs;exact ht.val _ _ (h t s0 h0)
theorem FS.put {C:Cx} {ts:Fr} {ta:T AV} (h:FS C ts ta) {t:Nat} {s:SV} {v:AV} (hv:aQ C s v):FS C ((t,s)::ts) (ta.set t (some v)):=by
 intro t' s' hs;rw[kU]at hs;rw[T.bp];split at hs
 . grind
 . rename_i e;simpa [e]using h t' s' hs
theorem bc.le {C C':Cx} (hc:C.le C') {l:List SV} {m:List AV} (h:bc C l m):bc C' l m:=⟨h.1,fun i s v hs hv=>(h.2 i s v hs hv).le hc⟩
theorem bc.turns {C C':Cx} {e:Ev} (ht:dE C e C') {l:List SV} {m:List AV} (h:bc C l m):bc C' (fW e l) m:=by
 rw[pA];refine⟨by simp[h.1],fun i s v hs hv=>?_⟩;rw[AI]at hs;obtain⟨s0,h0,rfl⟩:=AR.1 hs;exact(h.2 i s0 v h0 hv).turns ht
section
variable {tab:bC} {C C':Cx} {I:BI} {o:SO} {a a':AH} {h:SH}
theorem eL.congr (hg:a'.get I.β=a.get I.β) (ho:eL tab C I o a):eL tab C I o a':=by
 simp_all[eL]
theorem eL.le (hc:C.le C') (ho:eL tab C I o a):eL tab C' I o a:=by
 cases o with
 |cells cs e=>
  obtain⟨h1,ca,sz,h2,h3,h4⟩:=ho;exact⟨h1,ca,sz,h2,h3.le hc,h4⟩
 | arr X L enc e=>
  obtain⟨h1,h2,h3,h4,h5⟩:=ho;refine⟨h1,h2,h3,h4,?_⟩
  cases hcap:I.cap with
  |none=>rw[hcap]at h5;exact h5
  |some c=>
   rw[hcap]at h5;obtain⟨ca,ext,bk,g1,g2,g3,g4,g5⟩:=h5;refine⟨ca,ext,bk,g1,g2,g3,g4,fun i x j v hx hv=>?_⟩;obtain⟨u,k1,k2⟩:=g5 i x j v hx hv;exact⟨u,k1,k2.mono hc.2⟩
theorem eL.turns {e:Ev} (ht:dE C e C') (ho:eL tab C I o a):eL tab C' I (o.on e) a:=by
 cases o with
 |cells cs t=>
  obtain⟨h1,ca,sz,h2,h3,h4⟩:=ho;exact⟨h1,ca,sz,h2,h3.turns ht,h4⟩
 | arr X L enc t=>
  obtain⟨h1,h2,h3,h4,h5⟩:=ho;refine⟨h1,h2,h3,h4,?_⟩
  cases hcap:I.cap with
  |none=>rw[hcap]at h5;exact h5
  |some c=>
   rw[hcap]at h5;obtain⟨ca,ext,bk,g1,g2,g3,g4,g5⟩:=h5;refine⟨ca,ext,bk,g1,g2,g3,g4,fun i x j v hx hv=>?_⟩;obtain⟨u,k1,k2⟩:=g5 i x j v hx hv;exact⟨u,k1,k2.mono ht.1⟩
theorem eL.live (ho:eL tab C I o a) (hc:I.cap.isSome):∃b,a.get I.β=some b:=by
 cases o with
 |cells cs e=>
  obtain⟨_,ca,sz,h2,_⟩:=ho;grind
 |arr X L enc e=>
  obtain⟨_,_,_,_,h5⟩:=ho;grind
open Classical in
noncomputable def Cx.put (C:Cx) (p:Nat) (I:BI):Cx:={C with ρ:=fun q=>if q=p then some I else C.ρ q}
theorem jy (C:Cx) (p:Nat) (I:BI):(C.put p I).ρ p=some I:=by simp[Cx.put]
theorem kv (C:Cx) {p q:Nat} (I:BI) (h:q≠p):(C.put p I).ρ q=C.ρ q:=by grind [Cx.put]
structure Grow (a a':AH):Prop where
 next:a.next<=a'.next
 old:∀i o,a'.get i=some o->(∃o0,a.get i=some o0)\/a.next<=i
theorem Grow.refl (a:AH):Grow a a:=⟨Ac _,fun i o h=> .inl ⟨o,h⟩⟩
theorem Grow.trans {a b c:AH} (h:Grow a b) (k:Grow b c):Grow a c:=
 ⟨Av h.next k.next,fun i o hi=>(k.old i o hi).elim (fun⟨o',ho⟩=>h.old i o' ho) (fun hl=> .inr (Av h.next hl))⟩
theorem Grow.new (a:AH) (o:AO):Grow a (a.new o):=⟨by simp,fun i o' hi=>by
 rw[AH.aX]at hi;grind⟩
theorem HS.new (H:HS tab C h a) {ao:AO} {o:SO} (I:BI) (hI:I.β=a.next) (ho:C.le (C.put h.next I)->eL tab (C.put h.next I) I o (a.new ao)):
   C.le (C.put h.next I)/\HS tab (C.put h.next I) (h.new o) (a.new ao):=by
 have hle:C.le (C.put h.next I):=by
   refine⟨fun p J hp=>?_,fun i o h=>h⟩;have:=H.lt p J hp;rw[kv _ _ (by omega)];exact hp
 refine⟨hle,?_⟩;have hold:∀p o',(h.new o).get p=some o'->p≠h.next->h.get p=some o':=by
   grind [SH.aX]
 have hne:∀p o',h.get p=some o'->p≠h.next:=by
   intro p o' hp e;obtain⟨J,hJ,_⟩:=H.obj p o' hp;have:=H.lt p J hJ;omega
 have hblk:∀p o' J,h.get p=some o'->C.ρ p=some J->J.cap.isSome->J.β<a.next:=by
   intro p o' J hp hJ hc;obtain⟨J',hJ',hs⟩:=H.obj p o' hp;rw[hJ]at hJ';cases hJ';obtain⟨b,hb⟩:=hs.live hc;exact H.wf _ _ hb
 refine⟨?_,?_,?_,?_,?_,?_⟩
 . intro p o' hp;by_cases e:p=h.next
   . grind [SH.aX,jy]
   . have hp':=hold p o' hp e;obtain⟨J,hJ,hs⟩:=H.obj p o' hp';refine⟨J,hle.1 _ _ hJ,?_⟩;have hs':=hs.le hle;by_cases hc:J.cap.isSome
     . refine hs'.congr ?_;have:=hblk p o' J hp' hJ hc;rw[AH.aX,Al (by omega)]
     . cases o' with
       |cells cs t=>exact absurd hs.1 hc
       |arr X L enc t=>
        obtain⟨h1,h2,h3,h4,h5⟩:=hs';refine⟨h1,h2,h3,h4,?_⟩;grind
 . intro p q o1 o2 J J' hp hq hJ hJ' hc hc' e;by_cases e1:p=h.next
   . grind [jy,kv]
   . rw[kv _ _ e1]at hJ;by_cases e2:q=h.next
     . grind [jy]
     . rw[kv _ _ e2]at hJ';exact H.inj p q o1 o2 J J' (hold p o1 hp e1) (hold q o2 hq e2) hJ hJ' hc hc' e
 . intro i o' hi;have:=H.fz i o' hi;have hl:=H.wf _ _ this;rw[AH.aX,Al (by omega)];omega
 . intro p o' J hp hJ hc;by_cases e:p=h.next
   . subst e;rw[jy]at hJ;cases hJ;rw[hI]
     cases hz:(C.put h.next I).Fz a.next with
     |none=>rfl
     | some o2=>
       have:=H.wf _ _ (H.fz _ _ hz);omega
   . rw[kv _ _ e]at hJ;exact H.dj p o' J (hold p o' hp e) hJ hc
 . intro p J hJ;rw[SH.cP];by_cases e:p=h.next
   . omega
   . rw[kv _ _ e]at hJ;have:=H.lt p J hJ;omega
 . intro i o' hi;rw[AH.aX]at hi;simp only[AH.cP];split at hi
   . omega
   . have:=H.wf i o' hi;omega
theorem HS.CH (H:HS tab C h a) {o:SO} (I:BI) (hI:I.cap=none) (ho:C.le (C.put h.next I)->eL tab (C.put h.next I) I o a):
   C.le (C.put h.next I)/\HS tab (C.put h.next I) (h.new o) a:=by
 have hle:C.le (C.put h.next I):=by
   refine⟨fun p J hp=>?_,fun i o h=>h⟩;have:=H.lt p J hp;rw[kv _ _ (by omega)];exact hp
 refine⟨hle,?_⟩;have hold:∀p o',(h.new o).get p=some o'->p≠h.next->h.get p=some o':=by
   grind [SH.aX]
 refine⟨?_,?_,H.fz,?_,?_,H.wf⟩
 . intro p o' hp;by_cases e:p=h.next
   . grind [SH.aX,jy]
   . obtain⟨J,hJ,hs⟩:=H.obj p o' (hold p o' hp e);exact⟨J,hle.1 _ _ hJ,hs.le hle⟩
 . intro p q o1 o2 J J' hp hq hJ hJ' hc hc' e;by_cases e1:p=h.next
   . grind [jy]
   . rw[kv _ _ e1]at hJ;by_cases e2:q=h.next
     . grind [jy]
     . rw[kv _ _ e2]at hJ';exact H.inj p q o1 o2 J J' (hold p o1 hp e1) (hold q o2 hq e2) hJ hJ' hc hc' e
 . intro p o' J hp hJ hc;by_cases e:p=h.next
   . grind [jy]
   . rw[kv _ _ e]at hJ;exact H.dj p o' J (hold p o' hp e) hJ hc
 . intro p J hJ;rw[SH.cP];by_cases e:p=h.next
   . omega
   . rw[kv _ _ e]at hJ;have:=H.lt p J hJ;omega
theorem HS.renew (H:HS tab C h a) {d:Nat} {o0:SO} {I0:BI} (hd:h.get d=some o0) (hI0:C.ρ d=some I0) (I:BI) {o:SO}
   (hold:∀i b,(I0.cap.isSome->i≠I0.β)->a.get i=some b->a'.get i=some b) (hwf:∀i b,a'.get i=some b->i<a'.next)
   (hnew:I.cap.isSome->a.next<=I.β\/(I0.cap.isSome/\I.β=I0.β)) (hn:a.next<=a'.next) (ho:dE C (.kill d) (C.put d I)->eL tab (C.put d I) I o a'):
   dE C (.kill d) (C.put d I)/\HS tab (C.put d I) ⟨h.next,(d,some o)::jz (.kill d) h.os⟩ a':=by
 have hT:dE C (.kill d) (C.put d I):=⟨fun i o h=>h,fun p J hp hJ=>by rw[kv _ _ hp];exact hJ⟩;refine⟨hT,?_⟩;have hget:∀p,(SH.mk h.next ((d,some o)::jz (.kill d) h.os)).get p=if p=d then some o else(h.get p).map (SO.on (.kill d)):=by
   intro p;have h1:=tx (.kill d) h.next h.os p;grind [SH.get,kU]
 have hback:∀p o',(SH.mk h.next ((d,some o)::jz (.kill d) h.os)).get p=some o'->p≠d->∃o1,h.get p=some o1/\o'=o1.on (.kill d):=by
   grind [Option.map_eq_some_iff]
 have hlive:∀p o1 J,h.get p=some o1->C.ρ p=some J->eL tab C J o1 a:=by
   intro p o1 J hp hJ;obtain⟨J',hJ',hs⟩:=H.obj p o1 hp;rw[hJ]at hJ';grind
 have hne:∀p o1 J,h.get p=some o1->C.ρ p=some J->J.cap.isSome->p≠d->(I0.cap.isSome->J.β≠I0.β):=by
   intro p o1 J hp hJ hc hpd hc0 e;exact hpd (H.inj p d o1 o0 J I0 hp hd hJ hI0 hc hc0 e)
 refine⟨?_,?_,?_,?_,?_,hwf⟩
 . intro p o' hp;by_cases e:p=d
   . grind [jy]
   . obtain⟨o1,h1,rfl⟩:=hback p o' hp e;obtain⟨J,hJ,hs⟩:=H.obj p o1 h1;refine⟨J,hT.2 p J e hJ,?_⟩;have hs':=hs.turns hT;by_cases hc:J.cap.isSome
     . obtain⟨b,hb⟩:=hs.live hc;exact hs'.congr ((hold _ _ (hne p o1 J h1 hJ hc e) hb).trans hb.symm)
     . cases o1 with
       |cells cs t=>exact absurd hs.1 hc
       |arr X L enc t=>
        obtain⟨g1,g2,g3,g4,g5⟩:=hs';refine⟨g1,g2,g3,g4,?_⟩;grind
 . have key:∀q o2 J,(SH.mk h.next ((d,some o)::jz (.kill d) h.os)).get q=some o2->q≠d->(C.put d I).ρ q=some J->J.cap.isSome->I.cap.isSome->I.β≠J.β:=by
     intro q o2 J hq e2 hJ' hc' hc e;rw[kv _ _ e2]at hJ';obtain⟨o3,h3,rfl⟩:=hback q o2 hq e2;obtain⟨b,hb⟩:=(hlive q o3 J h3 hJ').live hc';have hlt:=H.wf _ _ hb;grind
   intro p q o1 o2 J J' hp hq hJ hJ' hc hc' e;by_cases e1:p=d
   . grind [jy]
   . by_cases e2:q=d
     . grind [jy]
     . rw[kv _ _ e1]at hJ;rw[kv _ _ e2]at hJ';obtain⟨o3,h3,_⟩:=hback p o1 hp e1;obtain⟨o4,h4,_⟩:=hback q o2 hq e2;exact H.inj p q o3 o4 J J' h3 h4 hJ hJ' hc hc' e
 . intro i b hi;have h1:=H.fz i b hi;refine hold i b (fun hc e=>?_) h1;subst e;have:=H.dj d o0 I0 hd hI0 hc;rw[show C.Fz I0.β=some b from hi]at this;grind
 . intro p o' J hp hJ hc;by_cases e:p=d
   . subst e;rw[jy]at hJ;cases hJ;rcases hnew hc with hge|⟨h0,he⟩
     . cases hz:C.Fz I.β with
       |none=>exact hz
       |some o2=>
        have:=H.wf _ _ (H.fz _ _ hz);omega
     . rw[he];exact H.dj p o0 I0 hd hI0 h0
   . rw[kv _ _ e]at hJ;obtain⟨o3,h3,_⟩:=hback p o' hp e;exact H.dj p o3 J h3 hJ hc
 . intro p J hJ;by_cases e:p=d
   . subst e;exact H.lt p I0 hI0
   . rw[kv _ _ e]at hJ;exact H.lt p J hJ
end
end
section
universe u v
variable [Inhabited aK]
section
variable {tab:bC} {C C':Cx} {I:BI} {o:SO} {a a':AH} {h:SH}
theorem HS.at_ (H:HS tab C h a) {p:Nat} {o:SO} {I:BI} (hp:h.get p=some o) (hI:C.ρ p=some I):eL tab C I o a:=by
 obtain⟨J,hJ,hs⟩:=H.obj p o hp;rw[hI]at hJ;grind
theorem HS.mod (H:HS tab C h a) {d:Nat} {o0:SO} {I0:BI} (hd:h.get d=some o0) (hI0:C.ρ d=some I0) (hb:I0.cap.isSome) {o:SO} {ao:AO} (ho:eL tab C I0 o (a.set I0.β ao)):
   HS tab C (h.set d (some o)) (a.set I0.β ao):=by
 have hback:∀p o',(h.set d (some o)).get p=some o'->p≠d->h.get p=some o':=by
   grind [SH.bp]
 have hany:∀p o',(h.set d (some o)).get p=some o'->∃o1,h.get p=some o1:=by
   grind
 have hlt:=H.wf _ _ ((H.at_ hd hI0).live hb).choose_spec;refine⟨?_,?_,?_,?_,?_,?_⟩
 . intro p o' hp;by_cases e:p=d
   . grind [SH.bp]
   . have hp':=hback p o' hp e;obtain⟨J,hJ,hs⟩:=H.obj p o' hp';refine⟨J,hJ,?_⟩;by_cases hc:J.cap.isSome
     . refine hs.congr ?_;rw[AH.bp,Al];intro e';exact e (H.inj p d o' o0 J I0 hp' hd hJ hI0 hc hb e')
     . cases o' with
       |cells cs t=>exact absurd hs.1 hc
       |arr X L enc t=>
        obtain⟨g1,g2,g3,g4,g5⟩:=hs;refine⟨g1,g2,g3,g4,?_⟩;grind
 . intro p q o1 o2 J J' hp hq hJ hJ' hc hc' e;obtain⟨o3,h3⟩:=hany p o1 hp;obtain⟨o4,h4⟩:=hany q o2 hq;exact H.inj p q o3 o4 J J' h3 h4 hJ hJ' hc hc' e
 . intro i b hi;have h1:=H.fz i b hi;rw[AH.bp,Al]
   . exact h1
   . intro e;subst e;have:=H.dj d o0 I0 hd hI0 hb;rw[hi]at this;grind
 . intro p o' J hp hJ hc;obtain⟨o3,h3⟩:=hany p o' hp;exact H.dj p o3 J h3 hJ hc
 . intro p J hJ;rw[SH.eR];exact H.lt p J hJ
 . intro i b hi;rw[AH.bp]at hi;simp only[AH.eR];split at hi
   . omega
   . exact H.wf i b hi
open Classical in
noncomputable def Cx.freeze (C:Cx) (β:Nat) (p:Prop) (o:Option AO):Cx:={C with Fz:=fun i=>if p/\i=β then o else C.Fz i}
theorem HS.freeze (H:HS tab C h a) {d:Nat} {o0:SO} {I0:BI} (hd:h.get d=some o0) (hI0:C.ρ d=some I0) {e:Ev} (he:∀C':Cx,(∀i o,C.Fz i=some o->C'.Fz i=some o)->(∀p I,C.ρ p=some I->C'.ρ p=some I)->
     (I0.cap.isSome->C'.Fz I0.β=a.get I0.β)->dE C e C'):
   ∃C',dE C e C'/\HS tab C' ⟨h.next,(d,none)::jz e h.os⟩ a/\(I0.cap.isSome->C'.Fz I0.β=a.get I0.β)/\C'.ρ=C.ρ:=by
 classical
 let C':Cx:=C.freeze I0.β (I0.cap.isSome=true) (a.get I0.β)
 have hfz:∀i o,C.Fz i=some o->C'.Fz i=some o:=by
   intro i o hi;simp only[C',Cx.freeze];split
   . rename_i hc;obtain⟨hb,rfl⟩:=hc;have:=H.dj d o0 I0 hd hI0 hb;rw[hi]at this;grind
   omega
 have hfb:I0.cap.isSome->C'.Fz I0.β=a.get I0.β:=by
   grind [Cx.freeze]
 have hback':∀i o,C'.Fz i=some o->C.Fz i=some o\/(I0.cap.isSome/\i=I0.β/\a.get i=some o):=by
   grind [Cx.freeze]
 have hT:=he C' hfz (fun p I h=>h) hfb;refine⟨C',hT,?_,hfb,rfl⟩;have hget:∀p,(SH.mk h.next ((d,none)::jz e h.os)).get p=if p=d then none else(h.get p).map (SO.on e):=by
   intro p;have h1:=tx e h.next h.os p;grind [SH.get,kU]
 have hback:∀p o',(SH.mk h.next ((d,none)::jz e h.os)).get p=some o'->p≠d/\ ∃o1,h.get p=some o1/\o'=o1.on e:=by
   simp_all
 refine⟨?_,?_,?_,?_,H.lt,H.wf⟩
 . intro p o' hp;obtain⟨hne,o1,h1,rfl⟩:=hback p o' hp;obtain⟨J,hJ,hs⟩:=H.obj p o1 h1;exact⟨J,hJ,hs.turns hT⟩
 . intro p q o1 o2 J J' hp hq hJ hJ' hc hc' e;obtain⟨_,o3,h3,_⟩:=hback p o1 hp;obtain⟨_,o4,h4,_⟩:=hback q o2 hq;exact H.inj p q o3 o4 J J' h3 h4 hJ hJ' hc hc' e
 . intro i b hi;rcases hback' i b hi with h1|⟨_,_,h1⟩
   . exact H.fz i b h1
   omega
 . intro p o' J hp hJ hc;obtain⟨hne,o3,h3,_⟩:=hback p o' hp
   cases hz:C'.Fz J.β with
   |none=>rfl
   | some b=>
     rcases hback' _ b hz with h1|⟨hb,h1,_⟩
     . have:=H.dj p o3 J h3 hJ hc;rw[h1]at this;omega
     . exact absurd (H.inj p d o3 o0 J I0 h3 hd hJ hI0 hc hb h1) hne
theorem XK (H:HS tab C h a) {d:Nat} {X:Type} {L:List X} {enc:X->List SV} {t:TypeId} {I0:BI} (hd:h.get d=some (.arr X L enc t)) (hI0:C.ρ d=some I0) (C':Cx)
   (hfz:∀i o,C.Fz i=some o->C'.Fz i=some o) (hρ:∀p I,C.ρ p=some I->C'.ρ p=some I) (hb:I0.cap.isSome->C'.Fz I0.β=a.get I0.β):dE C (.fj d X L enc) C':=by
 refine⟨hfz,fun p I _ h=>hρ p I h,fun I hI=>?_⟩;rw[hI0]at hI;cases hI;obtain⟨g1,g2,g3,g4,g5⟩:=H.at_ hd hI0;constructor
 . intro v hv
   cases hv with
   |pure h=>cases h
   |eB hI hc=>
    rw[hI0]at hI;cases hI;rw[hc]at g5;exact .ch g5 (.inl rfl)
   |own hI hc=>
    rw[hI0]at hI;cases hI;rw[hc]at g5;obtain⟨ca,ext,bk,k1,k2,k3,k4,k5⟩:=g5;rw[g3];refine .bn I0.β 0 _ ca t I0.sz ext bk (fun i j=>(ca[0+i*I0.sz+j]?).getD (.bO [])) (.of (by rw[hb (by grind),k1])) g2 (by omega) g4 ?_ ?_ ?_
    . grind [tU]
    . grind
    . intro i x j v hx hv;obtain⟨u,k6,k7⟩:=k5 i x j v hx hv;rw[AA,k6];exact k7.mono hfz
 . intro i off v x hx hv
   cases hv with
   |pure h=>cases h
   |cF hI hc=>
    rw[hI0]at hI;cases hI;obtain⟨c,hc'⟩:=Bz.1 hc;rw[hc']at g5;obtain⟨ca,ext,bk,k1,k2,k3,k4,k5⟩:=g5;refine .cz I0.β (i*I0.sz) ca t I0.sz ext bk (fun j=>(ca[i*I0.sz+j]?).getD (.bO [])) (by rw[hb hc,k1]) ?_ ?_ ?_
    . have hlt:=(Ae.1 hx).1;rw[k3,g4 i x hx]
      calc i*I0.sz+I0.sz=(i+1)*I0.sz:=by rw[Bi,Dn]
       _<=L.length*I0.sz:=A5 _ hlt
    . grind
    . intro j v hv;obtain⟨u,k6,k7⟩:=k5 i x j v hx hv;rw[k6];exact k7.mono hfz
theorem Xv {d:Nat} (C':Cx) (hfz:∀i o,C.Fz i=some o->C'.Fz i=some o) (hρ:∀p I,C.ρ p=some I->C'.ρ p=some I):dE C (.kill d) C':=⟨hfz,fun p I _ h=>hρ p I h⟩
end
def dv (C:Cx) (h:SH) (a:AH) (new:List Ev) (C':Cx) (h':SH) (a':AH):Prop:=∀p o I,h.get p=some o->C.ρ p=some I->I.cap.isSome->p∉lu new->
 a'.get I.β=a.get I.β/\((∃o',h'.get p=some o'/\C'.ρ p=some I)\/ ∃b,C'.Fz I.β=some b)
theorem dv.same (C:Cx) (h:SH) (a:AH) (new:List Ev):dv C h a new C h a:=fun _ o _ hp hI _ _=>⟨rfl, .inl ⟨o,hp,hI⟩⟩
theorem dv.new {tab:bC} {C C':Cx} {h h':SH} {a:AH} (H:HS tab C h a) (o:AO) (new:List Ev) (hle:C.le C') (hh:∀p o,h.get p=some o->∃o',h'.get p=some o'):dv C h a new C' h' (a.new o):=by
 intro p o' I hp hI hc _;obtain⟨b,hb⟩:=(H.at_ hp hI).live hc;have:=H.wf _ _ hb;obtain⟨o2,h2⟩:=hh p o' hp;exact⟨by rw[AH.aX,Al (by omega)], .inl ⟨o2,h2,hle.1 _ _ hI⟩⟩
theorem vz {tab:bC} {C:Cx} {h:SH} {a:AH} (H:HS tab C h a) (o:SO):∀p o',h.get p=some o'->∃o2,(h.new o).get p=some o2:=by
 grind [SH.aX]
structure qg (tab:bC) (C:Cx) (s:St) (ta:T AV) (a:AH) (sv:SV) (s':St) (v:AV) (a':AH):Prop where
 ex:∃C' new,s'.log=s.log++new/\Tr C new C'/\aQ C' sv v/\HS tab C' s'.h a'/\FS C' s'.ts ta/\dv C s.h a new C' s'.h a'
 grow:Grow a a'
theorem qg.same {tab:bC} {C:Cx} {s:St} {ta:T AV} {a:AH} {sv:SV} {v:AV} (hF:FS C s.ts ta) (H:HS tab C s.h a) (hv:aQ C sv v):qg tab C s ta a sv s v a:=
 ⟨⟨C,[],by simp,Tr.refl C,hv,H,hF,dv.same _ _ _ _⟩,Grow.refl a⟩
def dS (C:Cx) (h:SH) (a:AH) (C1:Cx) (h1:SH):Prop:=∀p o I,h.get p=some o->C.ρ p=some I->I.cap.isSome->(∃o',h1.get p=some o'/\C1.ρ p=some I)\/ ∃b,a.get I.β=some b/\C1.Fz I.β=some b
theorem dS.refl (C:Cx) (h:SH) (a:AH):dS C h a C h:=fun p o I hp hI _=> .inl ⟨o,hp,hI⟩
theorem dS.trans {C C1 C2:Cx} {h h1 h2:SH} {a:AH} (k:dS C h a C1 h1) (k':dS C1 h1 a C2 h2) (hf:∀i o,C1.Fz i=some o->C2.Fz i=some o):dS C h a C2 h2:=by
 intro p o I hp hI hc;rcases k p o I hp hI hc with⟨o',h1,h2⟩|⟨b,h1,h2⟩
 . exact k' p o' I h1 h2 hc
 grind
theorem dS.aV {C C1:Cx} {h h1:SH} {a:AH} (k:dS C h a C1 h1) (new:List Ev):dv C h a new C1 h1 a:=
 fun p o I hp hI hc _=>⟨rfl,(k p o I hp hI hc).imp id (fun⟨b,_,h⟩=>⟨b,h⟩)⟩
theorem tY {tab:bC} {C:Cx} {s:St} {ta:T AV} {a:AH} (hF:FS C s.ts ta) (H:HS tab C s.h a) {d:Nat} {X:Type} {L:List X} {enc:X->List SV} {t:TypeId} (hd:s.h.get d=some (.arr X L enc t)):
   ∃C',((s.ev (.fj d X L enc)).del d).log=s.log++[.fj d X L enc]/\Tr C [.fj d X L enc] C'/\HS tab C' ((s.ev (.fj d X L enc)).del d).h a/\FS C' ((s.ev (.fj d X L enc)).del d).ts ta/\
    (∀v,aQ C (.own d) v->aT C'.Fz (.bn X L enc) v)/\dS C s.h a C' ((s.ev (.fj d X L enc)).del d).h:=by
 obtain⟨ts,⟨n,os⟩,log⟩:=s;obtain⟨I,hI,ho⟩:=H.obj d _ hd;obtain⟨C',hT,H',hfb,hρ⟩:=H.freeze hd hI (XK H hd hI);refine⟨C',rfl,hT.tr,H',hF.turns hT,(hT.2.2 I hI).1,?_⟩;intro p o J hp hJ hc;by_cases e:p=d
 . subst e;rw[hI]at hJ;cases hJ;obtain⟨b,hb⟩:=(H.at_ hp hI).live hc;grind
 simp_all[St.ev,St.del,SH.bp,tx]
end
section
universe u v
variable [Inhabited aK]
theorem rb {α β:Type} {x:R α} {a:α} (h:x= .ok a) (f:α->R β):(x>>=f)=f a:=by rw[h];rfl
theorem ro {α:Type} {s:String} {x:Option α} {a:α} (h:x=some a):R.of s x= .ok a:=by rw[h];rfl
theorem rc {s:String} {b:Bool} (h:b=true):R.check s b= .ok ():=by rw[h];rfl
theorem dH {α:Type u} {x:Option α} {k:α->Prop} (h:so x k):∃a,x=some a/\k a:=by
 cases x with
 |none=>exact h.elim
 |some a=>exact⟨a,rfl,h⟩
theorem dc {b:Bool} {p:Prop} (h:ck b p):b=true/\p:=by
 cases b with
 |false=>exact h.elim
 |true=>exact⟨rfl,h⟩
theorem zG {b:Bool} {p q:Prop} (h:br b p q):(b=true/\p)\/(b=false/\q):=by
 cases b with
 |false=>exact .inr ⟨rfl,h⟩
 |true=>exact .inl ⟨rfl,h⟩
theorem G3 {α:Type u} {β:Type v} {f:α->Option β}:∀{l:List α} {m:List β},jt f l=some m->l.length=m.length/\ ∀(i:Nat) a b,l[i]? =some a->m[i]? =some b->f a=some b:=by
 intro l;induction l with
 |nil=>grind [jt]
 |cons x l ih=>
  grind [jt]
section
variable {tab:bC} {C:Cx}
theorem Fg {v:Value} {s:SV} (h:wi v=some s):aQ C s (qu v):=by
 unfold wi at h;split at h<;>cases h<;>simp only[qu]<;>exact .pure (by constructor)
theorem Wv {v:Value} {s:SV} (h:Gu v=some s):aQ C s (ofConst v):=by
 unfold Gu at h;split at h
 . obtain⟨l,hl,rfl⟩:=AR.1 h;obtain⟨h1,h2⟩:=G3 hl;refine .agg (by grind) (fun i c v hc hv=>?_);rw[AI]at hv;grind [Fg]
 . obtain⟨l,hl,rfl⟩:=AR.1 h;obtain⟨h1,h2⟩:=G3 hl;refine .bO (by grind) (fun i c v hc hv=>?_);rw[AI]at hv;grind [Fg]
 grind [ofConst,Fg]
theorem O6 {v:AV} {s:SV} (h:lk v=some s):aQ C s v:=by
 unfold lk at h;split at h<;>cases h<;>exact .pure (by constructor)
theorem mI {ts:Fr} {ta:T AV} (hF:FS C ts ta) {x:Operand} {s:SV} (h:fM ts x=some s):∃v,ev ta x= .ok v/\aQ C s v:=by
 cases x with
 |tmp t=>exact⟨_,rfl,hF t s h⟩
 |const v=>exact⟨_,rfl,Wv h⟩
 |func f=>
  simp only[fM,By]at h;subst h;exact⟨_,rfl, .fn rfl rfl (fun i x u hx=>by grind) (fun i x u hx=>by grind)⟩
 |global g=>cases h
theorem rC {ts:Fr} {ta:T AV} (hF:FS C ts ta):∀{l:List Operand} {m:List SV},lx ts l=some m->∃vs,kF ta l= .ok vs/\bc C m vs:=by
 intro l;induction l with
 |nil=>intro m h;simp only[lx,jt,By]at h;subst h;exact⟨[],rfl,bc.nil⟩
 |cons x l ih=>
  intro m h;simp only[lx,jt]at h;split at h
  . rename_i y m' hy hm
    cases h;obtain⟨v,hv,h1⟩:=mI hF hy;obtain⟨vs,hvs,h2⟩:=ih hm;simp_all[bc.cons,kF,rb]
  grind
theorem bc.get {cs:List SV} {ca:List AV} (h:bc C cs ca) {i:Nat} {s:SV} (hs:cs[i]? =some s):∃v,ca[i]? =some v/\aQ C s v:=by
 have hlt:i<ca.length:=by rw[<-h.1];grind
 exact⟨ca[i],Ai hlt,h.2 i s _ hs (Ai hlt)⟩
theorem vQ {cs:List SV} {ca:List AV} (hc:bc C cs ca) {t off:Nat} {s:SV} (h:ny tab t cs off=some s):∃v,Am.part tab t ca off= .ok v/\aQ C s v:=by
 unfold ny at h;unfold Am.part;split at h
 . rename_i hg;split at h
   . rename_i n hn
     cases hb:Nat.ble (off+n) cs.length
     . rw[hb]at h;cases h
     . rw[hb]at h;cases h;refine⟨.agg ((ca.drop off).take n),?_, .agg ((hc.drop off).take n).1 ((hc.drop off).take n).2⟩;rw[rb (show Am.isAgg tab t= .ok true from ro hg)];simp_all[rb,siz,ro]
   grind
 . obtain⟨v,h1,h2⟩:=hc.get h;simp_all[rb,Am.isAgg,ro]
 grind
theorem LI {cs vs:List SV} {ca va:List AV} (hc:bc C cs ca) (hv:bc C vs va) (off:Nat):bc C (vO cs off vs) (oA ca off va):=by
 unfold vO oA;rw[hv.1];exact(hc.take off).append (hv.append (hc.drop _))
theorem xV {s:SV} {v:AV} (h:aQ C s v) (hk:s.known=true):∃l,v.cells= .ok l/\bc C s.cells l:=by
 have one:∀{s:SV} {v:AV},aQ C s v->bc C [s] [v]:=fun h=>bc.cons h bc.nil
 cases h with
 | pure h=>
  cases h with
  |any v=>cases hk
  |agg h1 h2=>exact⟨_,rfl,h1,fun i s v hs hv=> .pure (h2 i s v hs hv)⟩
  |bool b=>exact⟨_,rfl,one (.pure (.bool b))⟩
  |int k n=>exact⟨_,rfl,one (.pure (.int k n))⟩
  |str s=>exact⟨_,rfl,one (.pure (.str s))⟩
  |bq=>exact⟨_,rfl,one (.pure .bq)⟩
  |wp a=>exact⟨_,rfl,one (.pure (.wp a))⟩
  |nils=>exact⟨_,rfl,one (.pure .nils)⟩
  |bP=>exact⟨_,rfl,one (.pure .bP)⟩
  |bR=>exact⟨_,rfl,one (.pure .bR)⟩
  |ch h0 hv=>
   rcases hv with rfl|⟨b,off,l,n,k,rfl⟩|⟨a,c,rfl⟩
   . exact⟨_,rfl,one (.pure (.ch h0 (.inl rfl)))⟩
   . exact⟨_,rfl,one (.pure (.ch h0 (.inr (.inl ⟨_,_,_,_,_,rfl⟩))))⟩
   . exact⟨_,rfl,one (.pure (.ch h0 (.inr (.inr ⟨_,_,rfl⟩))))⟩
  |bn b off cap cs e sz ext bk u hb hs hl hn hc h1 h2=>exact⟨_,rfl,one (.pure (.bn b off cap cs e sz ext bk u hb hs hl hn hc h1 h2))⟩
  |cz b base ca e sz ext bk u hb hl h1 h2=>exact⟨_,rfl,one (.pure (.cz b base ca e sz ext bk u hb hl h1 h2))⟩
  |fn h1 h2 h3 h4=>exact⟨_,rfl,one (.pure (.fn h1 h2 h3 h4))⟩
  |bO h1 h2=>exact⟨_,rfl,one (.pure (.bO h1 h2))⟩
 |ptr h=>exact⟨_,rfl,one (.ptr h)⟩
 |cF h hc=>exact⟨_,rfl,one (.cF h hc)⟩
 |eB h hc=>exact⟨_,rfl,one (.eB h hc)⟩
 |own h hc=>exact⟨_,rfl,one (.own h hc)⟩
 |sl h=>exact⟨_,rfl,one (.sl h)⟩
 |fn h1 h2 h3 h4=>exact⟨_,rfl,one (.fn h1 h2 h3 h4)⟩
 |agg h1 h2=>exact⟨_,rfl,h1,h2⟩
 |bO h1 h2=>exact⟨_,rfl,one (.bO h1 h2)⟩
theorem M8 {s:SV} {v:AV} (h:aQ C s v) (hk:isScalar s=true):mE v=true:=by
 cases h with
 |pure h=>
  cases h with
  |any v=>cases hk
  |agg h1 h2=>cases hk
  |bO h1 h2=>cases hk
  |ch h0 hv=>rcases hv with rfl|⟨b,off,l,n,k,rfl⟩|⟨a,c,rfl⟩<;>rfl
  |_=>rfl
 |agg h1 h2=>cases hk
 |bO h1 h2=>cases hk
 |_=>rfl
theorem LM {cs:List SV} {ca:List AV} (hc:bc C cs ca) (h:cs.all isScalar=true):ca.all mE=true:=by
 rw[AG]at h⊢;intro v hv;obtain⟨i,hi⟩:=Bd.1 hv;have hlt:i<cs.length:=by rw[hc.1];grind
 exact M8 (hc.2 i _ v (Ai hlt) hi) (h _ (AF hlt))
theorem rp {t:TypeId} {z:List SV} (h:wS tab t=some z):∃zv zc,zero tab t= .ok zv/\zv.cells= .ok zc/\bc C z zc:=by
 obtain⟨zv,h1,h2⟩:=DC.1 h;refine⟨zv,?_⟩
 cases zv with
 |agg cs=>
  obtain⟨g1,g2⟩:=G3 h2;exact⟨cs,ro h1,rfl,g1.symm,fun i s v hs hv=>O6 (g2 i v s hv hs)⟩
 |raw v=>grind [Ic,lk]
 | _=>
  simp only[Ic,lk,BD,BW,By]at h2
  first
   |(cases h2;done)
   |(subst h2;exact⟨_,ro h1,rfl,bc.cons (.pure (by constructor)) bc.nil⟩)
end
end
section
universe u v
variable [Inhabited aK]
section
variable {tab:bC} {C:Cx} {h:SH} {a:AH}
theorem je {b:Nat} {ca:List AV} {e:TypeId} {sz:Nat} {ext:Bool} {bk:BK} (hb:a.get b=some (.cells ca e sz ext bk)):lK a b= .ok (ca,e,sz,ext,bk):=by
 grind [lK]
theorem GY {b base:Nat} {ca:List AV} {e:TypeId} {sz:Nat} {ext:Bool} {bk:BK} (hb:a.get b=some (.cells ca e sz ext bk)) {cs:List SV} (hl:base+cs.length<=ca.length)
   (hc:∀(j:Nat) s,cs[j]? =some s->∃u,ca[base+j]? =some u/\aQ C s u) {t off:Nat} {sv:SV} (hp:ny tab t cs off=some sv):∃u,Am.loadVar tab a t b (base+off)= .ok u/\aQ C sv u:=by
 unfold ny at hp;unfold Am.loadVar;split at hp
 . rename_i hg;split at hp
   . rename_i n hn
     cases hle:Nat.ble (off+n) cs.length
     . rw[hle]at hp;cases hp
     . rw[hle]at hp;cases hp;have hle:=Ak hle;rw[rb (show Am.isAgg tab t= .ok true from ro hg)];rw[rb (show siz tab t= .ok n from ro hn)];have hr:readN a b (base+off) n= .ok ((ca.drop (base+off)).take n):=by
        unfold readN;rw[rb (je hb)];simp only;rw[rb (rc (by simp only[Au];omega))]
       rw[rb hr];refine⟨_,rfl, .agg (by simp;omega) (fun i s u hs hu=>?_)⟩;rw[A3]at hs hu;grind
   grind
 . rename_i hg;obtain⟨u,hu,hsim⟩:=hc off sv hp;rw[rb (show Am.isAgg tab t= .ok false from ro hg)];rw[rb (je hb)];exact⟨u,ro hu,hsim⟩
 grind
theorem Gs (H:HS tab C h a) {p:SV} {v:AV} (hv:aQ C p v) {t:TypeId} {K:SV->Prop} (hl:Ce tab h t p K):∃b off u sv,v= .ptr b off/\Am.loadVar tab a t b off= .ok u/\aQ C sv u/\K sv:=by
 unfold Ce at hl;split at hl
 . split at hl
   . rename_i cs e hb;obtain⟨sv,hp,hk⟩:=dH hl
     cases hv with
     |pure h=>cases h
     |ptr hI=>
      obtain⟨_,ca,sz,h2,h3,_⟩:=H.at_ hb hI;obtain⟨u,h4,h5⟩:=GY h2 (base:=0) (cs:=cs) (by rw[h3.1];omega) (fun j s hs=>by rw[AA];exact h3.get hs) hp;rw[AA]at h4;grind
   grind
 . rename_i b i off;split at hl
   . rename_i X L enc e hb;obtain⟨x,hx,hl⟩:=dH hl;obtain⟨sv,hp,hk⟩:=dH hl
     cases hv with
     |pure h=>cases h
     | cF hI hc=>
      rename_i I;obtain⟨g1,g2,g3,g4,g5⟩:=H.at_ hb hI;obtain⟨c,hc'⟩:=Bz.1 hc;rw[hc']at g5;obtain⟨ca,ext,bk,k1,k2,k3,k4,k5⟩:=g5;have hlt:=(Ae.1 hx).1;obtain⟨u,h4,h5⟩:=GY k1 (base:=i*I.sz) (cs:=enc x) (by
       rw[k3,g4 i x hx,<-Nat.succ_mul];exact A5 _ hlt) (fun j s hs=>by
       obtain⟨u,q1,q2⟩:=k5 i x j s hx hs;exact⟨u,q1, .pure q2⟩) hp
      grind
   grind
 . rename_i cs off;obtain⟨sv,hp,hk⟩:=dH hl
   cases hv with
   | pure h=>
     cases h with
     |cz b base ca e sz ext bk u hb hl h1 h2=>
      obtain⟨w,h4,h5⟩:=GY (H.fz _ _ hb) (base:=base) (cs:=cs) hl (fun j s hs=>⟨_,h1 j s hs, .pure (h2 j s hs)⟩) hp;grind
 grind
theorem l3 {s:SV} {v:AV} (h:aQ C s v) (hp:jU s=true):aT C.Fz s v:=by
 cases h with
 |pure h=>exact h
 |_=>cases hp
theorem Wf {t:TypeId} {b off n:Nat} {v:AV} {l ca:List AV} {e:TypeId} {sz:Nat} {ext:Bool} {bk:BK} (hn:tab.siz.get t=some n) (hv:v.cells= .ok l) (hl:l.length=n) (hn0:n≠0)
  (hb:a.get b=some (.cells ca e sz ext bk)) (hbk:(bk≠ .ro/\bk≠ .cold)) (hr:off+n<=ca.length) (h1:l.all mE=true):Am.storeVar tab a t b off v= .ok (a.set b (.cells (oA ca off l) e sz ext bk)):=by
 unfold Am.storeVar;rw[rb (show siz tab t= .ok n from ro hn),rb hv,rb (rc (by simp_all))];unfold writeN
 cases l with
 |nil=>grind
 |cons x l=>
  simp only;rw[rb (je hb)];rw[rb (rc (by simpa using hbk)),rb (rc (by rw[hl];simp only[Au];exact hr)),rb (rc h1)]
theorem Zg (H:HS tab C h a) {p s:SV} {v w:AV} (hv:aQ C p v) (hw:aQ C s w) {t:TypeId} {K:SH->Prop} (hl:Hv tab h t p s K):
   ∃b off a' h',v= .ptr b off/\Am.storeVar tab a t b off w= .ok a'/\HS tab C h' a'/\K h'/\Grow a a'/\dv C h a (Cf p) C h' a':=by
 unfold Hv at hl;split at hl
 . rename_i n hn;obtain⟨hck,hl⟩:=dc hl;simp only[Ad,A2]at hck;obtain⟨⟨⟨hn0,hkn⟩,hlen⟩,hsc⟩:=hck;have hn0:n≠0:=fun e=>by simp_all
   have hlen:=Ag hlen;obtain⟨l,hl1,hl2⟩:=xV hw hkn;have hone:=LM hl2 hsc;have hll:l.length=n:=by rw[<-hl2.1,hlen]
   split at hl
   . rename_i b off _;split at hl
     . rename_i cs e hb;obtain⟨hr,hk⟩:=dc hl;have hr:=Ak hr
       cases hv with
       |pure h=>cases h
       |ptr hI=>
        rename_i I;obtain⟨hc,ca,sz,h2,h3,h3s⟩:=H.at_ hb hI;refine⟨_,_,_,_,rfl,Wf hn hl1 hll hn0 h2 (by simp) (by rw[<-h3.1];exact hr) hone,H.mod hb hI hc (o:= .cells (vO cs off s.cells) e) ⟨hc,_,sz,by rw[AH.bp,An rfl],LI h3 hl2 off,h3s⟩,hk,⟨by simp,fun i o hi=>?_⟩,?_⟩
        . rw[AH.bp]at hi;split at hi
          . rename_i e';exact .inl ⟨_,e'▸h2⟩
          . exact .inl ⟨_,hi⟩
        . intro q o J hq hJ hcJ hn;have hqb:q≠b:=fun e'=>hn (by grind [Cf,lu])
          refine⟨?_, .inl ⟨o,by rw[SH.bp,Al hqb];exact hq,hJ⟩⟩;rw[AH.bp,Al];intro e';exact hqb (H.inj q _ o _ J I hq hb hJ hI hcJ hc e')
     grind
   grind
 grind
end
end
section
universe u v
variable [Inhabited aK]
section
variable {tab:bC} {C:Cx} {h:SH} {a:AH}
theorem qxY:∀(d:Nat) (t:TypeId) (x y:SV) (u w:AV) (p:Bool),gM tab d t x y=some p->aQ C x u->aQ C y w->eqT tab d t u w= .ok p:=by
 intro d;induction d with
 |zero=>simp_all[gM]
 | succ d ih=>
  have hgo:∀(fs:List Field) (xs ys:List SV) (us ws:List AV) (p:Bool),lV tab (gM tab d) fs xs ys=some p->bc C xs us->bc C ys ws->eqFields tab (eqT tab d) us ws fs= .ok p:=by
   intro fs;induction fs with
   |nil=>intro xs ys us ws p h _ _;simp only[lV,By]at h;subst h;rfl
   | cons f fs ihf=>
     grind [lV,eqFields,vQ,rb]
  intro t x y u w p h hx hy;unfold gM at h;split at h
  all_goals first
   |(cases h;done)
   |skip
  all_goals (rename_i hg)
  case h_1=> 
   cases h;cases hx with
   | pure hx=>cases hx with
     | bool=>cases hy with
      |pure hy=>cases hy with
       |bool=>simp_all[eqT,rb,und,ro]
  case h_2=>
   rename_i k1 a1 k2 a2
   cases hk:decide (k1=k2)
   . rw[hk]at h;cases h
   . rw [hk]at h;cases h;have hk:=AN hk
     cases hx with
     | pure hx=>cases hx with
      | int=>cases hy with
       |pure hy=>cases hy with
        |int=>simp_all[eqT,rb,und,ro]
  case h_3=>
   cases h;cases hx with
   | pure hx=>cases hx with
     | str=>cases hy with
      |pure hy=>cases hy with
       |str=>simp_all[eqT,rb,und,ro]
  case h_4=>
   cases h;cases hx with
   | pure hx=>cases hx with
     | bq=>cases hy with
      |pure hy=>cases hy with
       |bq=>simp_all[eqT,rb,und,ro]
  case h_5=>
   cases h;cases hx with
   | pure hx=>cases hx with
     |bq=>cases hy with
      |pure hy=>cases hy
      |ptr hI=>simp_all[eqT,rb,und,ro]
  case h_6=>
   cases h;cases hx with
   |pure hx=>cases hx
   | ptr hI=>cases hy with
     |pure hy=>cases hy with
      |bq=>simp_all[eqT,rb,und,ro]
  case h_7=>
   cases h;cases hx with
   | pure hx=>cases hx with
     | wp=>cases hy with
      |pure hy=>cases hy with
       |bq=>simp_all[eqT,rb,und,ro]
  case h_8=>
   cases h;cases hx with
   | pure hx=>cases hx with
     | bq=>cases hy with
      |pure hy=>cases hy with
       |wp=>simp_all[eqT,rb,und,ro]
  case h_9=>
   cases h;cases hx with
   | pure hx=>cases hx with
     | nils=>cases hy with
      |pure hy=>cases hy with
       |nils=>simp_all[eqT,rb,und,ro]
  case h_10=>
   cases h;cases hx with
   | pure hx=>cases hx with
     | bP=>cases hy with
      |pure hy=>cases hy with
       |bP=>simp_all[eqT,rb,und,ro]
  case h_11=>cases hy with
   |pure hy=>cases hy
  case h_12=>cases hx with
   |pure hx=>cases hx
  case h_13=>
   cases h;cases hx with
   | pure hx=>cases hx with
     | bR=>cases hy with
      |pure hy=>cases hy with
       |bR=>simp_all[eqT,rb,und,ro]
  case h_14=>
   cases h;cases hx with
   | pure hx=>cases hx with
     | bR=>cases hy with
      |pure hy=>cases hy with
       |fn=>simp_all[eqT,rb,und,ro]
      |fn=>simp_all[eqT,rb,und,ro]
  case h_15=>
   cases h;cases hy with
   | pure hy=>cases hy with
     | bR=>cases hx with
      |pure hx=>cases hx with
       |fn=>simp_all[eqT,rb,und,ro]
      |fn=>simp_all[eqT,rb,und,ro]
  case h_16=>
   split at h
   . rename_i hh;have hA:∀{cs:List SV} {v:AV},aQ C (.agg cs) v->∃us,v= .agg us/\bc C cs us:=by
      intro cs v hv
      cases hv with
      |pure hv=>cases hv with
       |agg h1 h2=>exact⟨_,rfl,h1,fun i s v hs hv=> .pure (h2 i s v hs hv)⟩
      |agg h1 h2=>exact⟨_,rfl,h1,h2⟩
     obtain⟨us,e1,h1⟩:=hA hx;obtain⟨ws,e2,h2⟩:=hA hy;subst e1;subst e2;simp only[eqT];rw[rb (show und tab t=_ from ro hg)];grind
   grind
theorem oB {cs:List SV} {v:AV} (hv:aQ C (.agg cs) v):∃us,v= .agg us/\bc C cs us:=by
 cases hv with
 |pure hv=>cases hv with
  |agg h1 h2=>exact⟨_,rfl,h1,fun i s v hs hv=> .pure (h2 i s v hs hv)⟩
 |agg h1 h2=>exact⟨_,rfl,h1,h2⟩
theorem zu {cs:List SV} {v:AV} (hv:aQ C (.bO cs) v):∃us,v= .bO us/\bc C cs us:=by
 cases hv with
 |pure hv=>cases hv with
  |bO h1 h2=>exact⟨_,rfl,h1,fun i s v hs hv=> .pure (h2 i s v hs hv)⟩
 |bO h1 h2=>exact⟨_,rfl,h1,h2⟩
theorem jT {k:IntKind} {n:Int} {v:AV} (hv:aQ C (.int k n) v):v= .int k n:=by
 cases hv with
 |pure hv=>cases hv;rfl
theorem iT {s:List UInt8} {v:AV} (hv:aQ C (.str s) v):v= .str s:=by
 cases hv with
 |pure hv=>cases hv;rfl
theorem po {b:Bool} {v:AV} (hv:aQ C (.bool b) v):v= .bool b:=by
 cases hv with
 |pure hv=>cases hv;rfl
theorem pt {v:AV} (hv:aQ C .nils v):v= .nils:=by
 cases hv with
 |pure hv=>cases hv;rfl
theorem bM (x y:Int):aZ x y=decide (x<y):=by
 rw[Az,Aa];unfold aZ
 cases x with
 |ofNat a=>cases y with
  |ofNat b=>simp
  |negSucc b=>grind
 |negSucc a=>cases y with
  |ofNat b=>grind
  |negSucc b=>simp;omega
theorem fg (x y:Int):bT x y=decide (x<=y):=by
 rw[Az,Aa];unfold bT
 cases x with
 |ofNat a=>cases y with
  |ofNat b=>simp
  |negSucc b=>grind
 |negSucc a=>cases y with
  |ofNat b=>grind
  |negSucc b=>simp;omega
theorem Ps {k:IntKind} {n:Int} (h:bw k n=true):k.wrap n=n:=by
 unfold bw at h;rw[fg,fg]at h;simp only[Ad,Aa]at h;obtain⟨h1,h2⟩:=h
 cases k<;>simp only[CE,CC,IntKind.wrap,IntKind.signed,IntKind.bits]at* <;>simp at* <;>omega
theorem zA {r:R AV} {s:SV} (h:wX r=some s):∃v,r= .ok v/\aQ C s v:=by
 cases r with
 |no w=>cases h
 |ok v=>exact⟨v,rfl,O6 h⟩
theorem qxW {t:TypeId} {x y:SV} {u w:AV} {p:Bool} (h:gM tab 8 t x y=some p) (hx:aQ C x u) (hy:aQ C y w) (hg:∀a b,x= .agg a->y= .agg b->tab.lX.get t=some false):eqOp tab a t u w= .ok p:=by
 have hh:=qxY 8 t x y u w p h hx hy;have e:∀(u w:AV),(∀b i c j,u= .ptr b i->w= .ptr c j->False)->(∀a b,u= .agg a->w= .agg b->False)->(u= .ij->w= .ij->False)->eqOp tab a t u w=eqT tab 8 t u w:=by
  grind [eqOp]
 have h0:=h;unfold gM at h;split at h
 case h_17=>cases h
 case h_16=>
  grind [oB,eqOp]
 all_goals
  rw[e u w ?_ ?_ ?_]
  . exact hh
  all_goals (intros;subst_vars)
  all_goals first
    | (cases hx with
     |pure hx=>cases hx
     |_=>(cases hy with
      |pure hy=>cases hy))
    |(cases hx with
     |pure hx=>cases hx)
    |(cases hy with
     |pure hy=>cases hy)
    |skip
end
end
section
universe u v
variable [Inhabited aK]
section
variable {tab:bC} {C:Cx} {h:SH} {a:AH}
def gy (C:Cx) (K:SV->Prop) (r:R AV):Prop:=∃s v,r= .ok v/\aQ C s v/\K s
theorem gy.pure {K:SV->Prop} {s:SV} {v:AV} (h:aT C.Fz s v) (hk:K s):gy C K (.ok v):=⟨s,v,rfl, .pure h,hk⟩
theorem Y6 {op:BinOp} {k:IntKind} {x y:Int} {K:SV->Prop} (h:Ht op k x y K):gy C K (intOp op k x y):=by
 have fit:∀n:Int,(bif k.signed then ck (bw k n) (K (.int k n))else K (.int k (k.wrap n)))->gy C K (.ok (.int k (k.wrap n))):=by
  intro n hn
  cases hs:k.signed
  . rw[hs]at hn;exact gy.pure (.int k _) hn
  . rw[hs]at hn;obtain⟨h1,h2⟩:=dc hn;rw[Ps h1];exact gy.pure (.int k _) h2
 unfold Ht at h
 cases op
 case add=>exact fit _ h
 case sub=>exact fit _ h
 case mul=>exact fit _ h
 case quo=>
  grind [dc,intOp]
 case rem=>
  obtain⟨h1,h2⟩:=dc h;have hy:¬y=0:=by grind
  simp only[intOp,Al hy];exact gy.pure (.int k _) h2
 case eql=>exact gy.pure (.bool _) h
 case neq=>exact gy.pure (.bool _) h
 case lss=>have h:K (.bool (aZ x y)):=h;rw[bM]at h;exact gy.pure (.bool _) h
 case leq=>have h:K (.bool (bT x y)):=h;rw[fg]at h;exact gy.pure (.bool _) h
 case gtr=>have h:K (.bool (aZ y x)):=h;rw[bM]at h;exact gy.pure (.bool _) h
 case geq=>have h:K (.bool (bT y x)):=h;rw[fg]at h;exact gy.pure (.bool _) h
 all_goals
  obtain⟨s,h1,h2⟩:=dH h;obtain⟨v,h3,h4⟩:=zA h1;exact⟨s,v,h3,h4,h2⟩
theorem NJ {t:TypeId} {x y:SV} {p:Bool} {u w:AV} (h:gM tab 8 t x y=some p) (hx:aQ C x u) (hy:aQ C y w):
  (∃k m j n,x= .int k m/\y= .int j n)\/(∃s s',x= .str s/\y= .str s')\/
   (Am.binOp tab a .eql t u w=(do .ok (.bool (<-eqOp tab a t u w)):R AV)/\Am.binOp tab a .neq t u w=(do .ok (.bool (!(<-eqOp tab a t u w))):R AV)):=by
 have key:(∀k m j n,u= .int k m->w= .int j n->False)->(∀s s',u= .str s->w= .str s'->False)->
   (Am.binOp tab a .eql t u w=(do .ok (.bool (<-eqOp tab a t u w)):R AV)/\Am.binOp tab a .neq t u w=(do .ok (.bool (!(<-eqOp tab a t u w))):R AV)):=by
  grind [Am.binOp]
 unfold gM at h;split at h
 case h_2=>grind
 case h_3=>grind
 case h_17=>cases h
 all_goals
  refine .inr (.inr (key ?_ ?_))
  all_goals (intros;subst_vars)
  all_goals first
   |(cases hx with
    |pure hx=>cases hx)
   |(cases hy with
    |pure hy=>cases hy)
   |(cases hx)
   |skip
theorem Pv {op:BinOp} {t:TypeId} {x y:SV} {K:SV->Prop} {u w:AV} (h:rS tab op t x y K) (hx:aQ C x u) (hy:aQ C y w):gy C K (Am.binOp tab a op t u w):=by
 have eqK:∀{p:Bool},gM tab 8 t x y=some p->(∀a b,x= .agg a->y= .agg b->tab.lX.get t=some false)->eqOp tab a t u w= .ok p:=fun h1 h2=>qxW h1 hx hy h2
 unfold rS at h;split at h
 ·
   rw[jT hx,jT hy];rename_i k a1 j b1;obtain⟨h1,h2⟩:=dc h;obtain⟨s,h3,h4⟩:=dH h2
   cases b1 with
   |negSucc m=>cases h1
   | ofNat m=>
     obtain⟨v,h5,h6⟩:=zA (C:=C) h3
     cases h5;refine⟨s,_,?_,h6,h4⟩;grind [Am.binOp,shiftOp]
 ·
   rw[jT hx,jT hy];rename_i k a1 j b1;obtain⟨h1,h2⟩:=dc h;obtain⟨s,h3,h4⟩:=dH h2
   cases b1 with
   |negSucc m=>cases h1
   | ofNat m=>
     obtain⟨v,h5,h6⟩:=zA (C:=C) h3
     cases h5;refine⟨s,_,?_,h6,h4⟩;grind [Am.binOp,shiftOp]
 ·
   rw[jT hx,jT hy];grind [dc,Y6,Am.binOp]
 . obtain⟨h1,h2⟩:=dc h;rw[iT hx,iT hy];simp only[Am.binOp,strOp];rw[An (Ak h1)];exact gy.pure (.str _) h2
 . rw[iT hx,iT hy];exact gy.pure (.bool _) h
 . rw[iT hx,iT hy];exact gy.pure (.bool _) h
 . rw[iT hx,iT hy];exact gy.pure (.bool _) h
 . rw[iT hx,iT hy];exact gy.pure (.bool _) h
 . rw[iT hx,iT hy];exact gy.pure (.bool _) h
 . rw[iT hx,iT hy];exact gy.pure (.bool _) h
 . split at h
   . rename_i hg;obtain⟨p,h1,h2⟩:=dH h;have he:=eqK h1 (fun _ _ _ _=>hg);obtain⟨us,rfl,_⟩:=oB hx;obtain⟨ws,rfl,_⟩:=oB hy;simp only[Am.binOp];rw[rb he];exact gy.pure (.bool _) h2
   grind
 . split at h
   . rename_i hg;obtain⟨p,h1,h2⟩:=dH h;have he:=eqK h1 (fun _ _ _ _=>hg);obtain⟨us,rfl,_⟩:=oB hx;obtain⟨ws,rfl,_⟩:=oB hy;simp only[Am.binOp];rw[rb he];exact gy.pure (.bool _) h2
   grind
 . rename_i n1 n2 n3;obtain⟨p,h1,h2⟩:=dH h;have he:=eqK h1 (fun a b e1 e2=>(n3 a b e1 e2).elim);have hb:Am.binOp tab a .eql t u w=(do .ok (.bool (<-eqOp tab a t u w)):R AV):=by
     grind [NJ]
   rw[hb,rb he];exact gy.pure (.bool _) h2
 . rename_i n1 n2 n3;obtain⟨p,h1,h2⟩:=dH h;have he:=eqK h1 (fun a b e1 e2=>(n3 a b e1 e2).elim);have hb:Am.binOp tab a .neq t u w=(do .ok (.bool (!(<-eqOp tab a t u w))):R AV):=by
     rcases NJ h1 hx hy with⟨k,m,j,n,rfl,rfl⟩|⟨s1,s2,rfl,rfl⟩|hne
     . grind
     . grind
     . exact hne.2
   rw[hb,rb he];exact gy.pure (.bool _) h2
 grind
end
end
section
universe u v
variable [Inhabited aK]
section
variable {tab:bC} {C:Cx} {h:SH} {a:AH}
theorem Qg {op:UnOp} {x:SV} {K:SV->Prop} {u:AV} (h:IT op x K) (hx:aQ C x u):gy C K (Am.unOp op u):=by
 unfold IT at h;split at h
 . rename_i k n;rw[jT hx];simp only[Am.unOp]
   cases hs:k.signed
   . rw[hs]at h;exact gy.pure (.int k _) h
   . rw[hs]at h;obtain⟨h1,h2⟩:=dc h;rw[Ps h1];exact gy.pure (.int k _) h2
 . rw[jT hx];obtain⟨s,h1,h2⟩:=dH h;obtain⟨v,h3,h4⟩:=zA h1;exact⟨s,v,h3,h4,h2⟩
 . rw[po hx];exact gy.pure (.bool _) h
 grind
theorem wh {x:SV} {K:Nat->Prop} {u:AV} (h:mZ x K) (hx:aQ C x u):∃n,asNat u= .ok n/\K n:=by
 unfold mZ at h;split at h
 . rename_i k n;obtain⟨h1,h2⟩:=dc h;rw[jT hx]
   cases n with
   |negSucc m=>cases h1
   |ofNat m=>exact⟨m,rfl,h2⟩
 grind
theorem x8 {ts:Fr} {ta:T AV} (hF:FS C ts ta):∀{l:List (Nat×Operand)} {m:List (Nat×SV)},tJ ts l=some m->∃vs,mD ta l= .ok vs/\vs.map (·.1)=m.map (·.1)/\bc C (m.map (·.2)) (vs.map (·.2)):=by
 intro l;induction l with
 |nil=>intro m h;simp only[tJ,By]at h;subst h;exact⟨[],rfl,rfl,bc.nil⟩
 |cons x l ih=>
  obtain⟨i,x⟩:=x;intro m h;simp only[tJ]at h;split at h
  . rename_i s r h1 h2
    cases h;obtain⟨v,hv,g1⟩:=mI hF h1;obtain⟨vs,hvs,g2,g3⟩:=ih h2;grind [bc.cons,mD,rb]
  grind
theorem yB:∀{ps:List (Nat×Nat×SV)} {qs:List (Nat×Nat×AV)} {cs:List SV} {ca:List AV} {r:List SV},bc C cs ca->qs.map (fun x=>(x.1,x.2.1))=ps.map (fun x=>(x.1,x.2.1))->bc C (ps.map (·.2.2)) (qs.map (·.2.2))->rO cs ps=some r->
  ∃ra,fill ca qs= .ok ra/\bc C r ra:=by
 intro ps;induction ps with
 |nil=>
  intro qs cs ca r hc hq _ h;simp only[rO,By]at h;subst h
  cases qs with
  |nil=>exact⟨ca,rfl,hc⟩
  |cons q qs=>grind
 | cons x ps ih=>
  intro qs cs ca r hc hq hs h
  cases qs with
  |nil=>grind
  |cons q qs=>
   obtain⟨off,n,s⟩:=x;obtain⟨off',n',v⟩:=q;simp only[A0,Dg,DP]at hq;obtain⟨⟨rfl,rfl⟩,hq⟩:=hq;obtain⟨hv,hs⟩:=hs.head;simp only[rO]at h
   cases hb:(s.known&&Nat.beq s.cells.length n'&&Nat.ble (off'+n') cs.length)
   . rw[hb]at h;cases h
   . rw[hb]at h;simp only[Ad]at hb;obtain⟨⟨hk,hl⟩,hr⟩:=hb;obtain⟨l,h1,h2⟩:=xV hv hk;obtain⟨ra,h3,h4⟩:=ih (LI hc h2 off') hq hs h;refine⟨ra,?_,h4⟩;simp only[fill];rw[rb h1,rb (rc (by rw[<-h2.1,hl,<-hc.1,hr];rfl))];exact h3
theorem WX (fs:Array Field):∀{ps:List (Nat×SV)} {vs:List (Nat×AV)} {r:List (Nat×Nat×SV)},vs.map (·.1)=ps.map (·.1)->bc C (ps.map (·.2)) (vs.map (·.2))->wj tab fs ps=some r->
  ∃ra,sP tab fs vs= .ok ra/\ra.map (fun x=>(x.1,x.2.1))=r.map (fun x=>(x.1,x.2.1))/\bc C (r.map (·.2.2)) (ra.map (·.2.2)):=by
 intro ps;induction ps with
 |nil=>
  intro vs r hv _ h;simp only[wj,By]at h;subst h
  cases vs with
  |nil=>exact⟨[],rfl,rfl,bc.nil⟩
  |cons q qs=>grind
 | cons x ps ih=>
  intro vs r hv hs h
  cases vs with
  |nil=>grind
  |cons q vs=>
   obtain⟨i,s⟩:=x;obtain⟨i',v⟩:=q;simp only[A0,Dg]at hv;obtain⟨rfl,hv⟩:=hv;obtain⟨hsv,hs⟩:=hs.head;simp only[wj]at h;split at h
   . split at h
     . rename_i n r' hn hr
       cases h;obtain⟨ra,h1,h2,h3⟩:=ih hv hs hr;simp_all[bc.cons,sP,rb,ro,siz]
     grind
   grind
theorem Me {t:TypeId} {ps:List (Nat×SV)} {vs:List (Nat×AV)} {s:SV} (hv:vs.map (·.1)=ps.map (·.1)) (hs:bc C (ps.map (·.2)) (vs.map (·.2))) (h:Hg tab t ps=some s):∃v,Am.build tab t vs= .ok v/\aQ C s v:=by
 unfold Hg at h;unfold Am.build;split at h
 . rename_i z fs hz hu;obtain⟨zv,zc,g1,g2,g3⟩:=rp (C:=C) hz;rw[rb g1,rb g2,rb (show und tab t=_ from ro hu)]
   cases hb:fs.toList.all (fun f=>(tab.siz.get f.type).isSome)
   . rw[hb]at h;cases h
   . rw[hb]at h;split at h
     . rename_i q hq;obtain⟨r,hr,rfl⟩:=AR.1 h;obtain⟨ra,h1,h2,h3⟩:=WX fs hv hs hq;obtain⟨rb',h4,h5⟩:=yB g3 h2 h3 hr;simp only;rw[rb (rc hb),rb h1,rb h4];exact⟨_,rfl, .agg h5.1 h5.2⟩
     grind
 . rename_i z n e hz hu;split at h
   . rename_i m hm;obtain⟨r,hr,rfl⟩:=AR.1 h;obtain⟨zv,zc,g1,g2,g3⟩:=rp (C:=C) hz;rw[rb g1,rb g2,rb (show und tab t=_ from ro hu)];simp only;rw[rb (show siz tab e=_ from ro hm)];obtain⟨rb',h4,h5⟩:=yB (qs:=vs.map fun x=>(x.1*m,m,x.2)) g3 (by
       have:=Aj (List.map (fun i=>(i*m,m))) hv;grind [Function.comp_def]) (by grind [Function.comp_def]) hr
     rw[rb h4];exact⟨_,rfl, .agg h5.1 h5.2⟩
   grind
 grind
def ll (o:Option Nat) (d:R Nat):R Nat:=match o with|none=>d|some n=> .ok n
theorem yX {ts:Fr} {ta:T AV} (hF:FS C ts ta) {x:Option Operand} {K:Option Nat->Prop} (h:o6 ts x K):∃o,K o/\ ∀d:R Nat,gh ta d x=ll o d/\(x=none↔o=none):=by
 unfold o6 at h;split at h
 . exact⟨none,h,fun d=>⟨rfl,by simp⟩⟩
 . obtain⟨v,h1,h2⟩:=dH h;obtain⟨u,h3,h4⟩:=mI hF h1;obtain⟨n,h5,h6⟩:=wh h2 h4;refine⟨some n,h6,fun d=>⟨?_,by simp⟩⟩;simp only[gh];rw[rb h3];exact h5
end
end
end Go.Sy
namespace Go.Sy
open Go.Am Go.RowKit
universe u v
variable [Inhabited aK]
section
variable {tab:bC} {C:Cx} {h:SH} {a:AH}
theorem tw {α:Type u} {l:List α} {lo hi:Option Nat} {K:List α->Prop} (h:mV l lo hi K):lo.getD 0<=hi.getD l.length/\hi.getD l.length<=l.length/\K ((l.drop (lo.getD 0)).take (hi.getD l.length - lo.getD 0)):=by
 unfold mV at h;split at h
 . grind
 . obtain⟨h1,h2⟩:=dc h;have h1:=Ak h1;grind [List.take_of_length_le]
 . grind [dc,Nat.le_of_ble_eq_true]
 . obtain⟨h1,h2⟩:=dc h;simp_all
theorem zg {X:Type} {L:List X} {enc:X->List SV} {v:AV} {Fz:Nat->Option AO} (hv:aT Fz (.bn X L enc) v) (hL:L≠[]):∃b off cap cs e sz ext bk,v= .sl b off L.length cap/\fb Fz b cs e sz ext bk/\0<sz/\off+L.length*sz<=cs.length/\
  (∀(i:Nat) x,L[i]? =some x->(enc x).length=sz)/\tU cap off L.length sz ext/\ ∀(i:Nat) x (j:Nat) v,L[i]? =some x->(enc x)[j]? =some v->∃u,cs[off+i*sz+j]? =some u/\aT Fz v u:=by
 cases hv with
 |ch h0 _=>grind
 |bn b off cap cs e sz ext bk u hb hs hl hn hc h1 h2=>grind
theorem zf {X:Type} {L:List X} {enc:X->List SV} {Fz:Nat->Option AO} (b off:Nat) (cap:gV) (cs:List AV) (e:TypeId) (sz:Nat) (ext:Bool) (bk:BK) (n:Nat) (hn':n=L.length)
  (hb:fb Fz b cs e sz ext bk) (hs:0<sz) (hl:off+L.length*sz<=cs.length) (hn:∀(i:Nat) x,L[i]? =some x->(enc x).length=sz) (hc:tU cap off L.length sz ext)
  (h1:∀(i:Nat) x (j:Nat) v,L[i]? =some x->(enc x)[j]? =some v->∃u,cs[off+i*sz+j]? =some u/\aT Fz v u):aT Fz (.bn X L enc) (.sl b off n cap):=by
 subst hn';refine .bn b off cap cs e sz ext bk (fun i j=>(cs[off+i*sz+j]?).getD (.bO [])) hb hs hl hn hc ?_ ?_
 all_goals grind
theorem yc {ta:T AV} {t e n:Nat} (hu:tab.und.get t=some (.slice e)) (hn:tab.siz.get e=some n) {X:Type} {L:List X} {enc:X->List SV} {v:AV} {Fz:Nat->Option AO} (hfz:∀i o,Fz i=some o->a.get i=some o) (hv:aT Fz (.bn X L enc) v)
  (hlen:∀x:X,(enc x).length=n) {lo hi:Option Operand} {l u:Option Nat} (h1:∀d:R Nat,gh ta d lo=ll l d) (h2:∀d:R Nat,gh ta d hi=ll u d)
  (hle:l.getD 0<=u.getD L.length) (hle2:u.getD L.length<=L.length):∃w,ke tab ta a t v lo hi none= .ok (w,a)/\aT Fz (.bn X ((L.drop (l.getD 0)).take (u.getD L.length - l.getD 0)) enc) w:=by
 by_cases hL:0<L.length
 case neg=>
  have hL0:L.length=0:=by omega
  have o1:gh ta (.ok 0) lo= .ok (l.getD 0):=by rw[h1];cases l<;>rfl
  have o2:∀d,gh ta (.ok d) hi= .ok (u.getD d):=by intro d;rw[h2];cases u<;>rfl
  rw[hL0]at hle hle2;have hu0:u.getD 0=0:=by omega
  have hl0:l.getD 0=0:=by omega
  have hr:((L.drop (l.getD 0)).take (u.getD L.length - l.getD 0)).length=0:=by grind
  rw[hl0]at o1;unfold ke;rw[rb (show und tab t=_ from ro hu)]
  cases hv with
  |ch h0 hv=>
   rcases hv with rfl|⟨b,off,l1,n1,k,rfl⟩|⟨a',c,rfl⟩
   . refine⟨.nils,?_, .ch hr (.inl rfl)⟩;simp only;rw[rb (show siz tab e= .ok n from ro hn),rb o1,rb (o2 0),hu0];rfl
   . refine⟨.emp b off l1 n1 k,?_, .ch hr (.inr (.inl ⟨_,_,_,_,_,rfl⟩))⟩;simp only;rw[rb (show siz tab e= .ok n from ro hn),rb o1,rb (o2 0),hu0];rfl
   . refine⟨.raw (.slice a' 0 c),?_, .ch hr (.inr (.inr ⟨_,_,rfl⟩))⟩;simp only;rw[rb (show siz tab e= .ok n from ro hn),rb o1,rb (o2 0),hu0];rfl
  | bn b off cap cs e' sz ext bk w hb hs hl hn' hc h1' h2'=>
   obtain⟨sz0,ext0,hb0,hx0⟩:=id hb;have hcl:=je (hfz _ _ hb0);rw[hL0]at hc⊢;simp only
   cases cap with
   | lit m=>
     rw[rb (show capLow a b (.lit m)= .ok m from rfl),rb (show siz tab e= .ok n from ro hn),rb o1,rb (o2 0),hu0];simp only;rw[rb (rc (by simp))];refine⟨_,rfl,?_⟩;have:(aT Fz (.bn X ((L.drop (l.getD 0)).take (0 - l.getD 0)) enc) (.sl b off ((L.drop (l.getD 0)).take (0 - l.getD 0)).length (.lit m))):=by
       refine .bn b off (.lit m) cs e' sz ext bk w hb hs (by grind) (fun i x hx=>?_) (by grind) (fun i x j v hx=>?_) (fun i x j v hx=>?_)
       all_goals grind
     grind
   | tail k=>
     obtain⟨hext,hoff⟩:=hc;subst hext;obtain⟨hz1,hz2⟩:=hx0 rfl;have hz1:=hz1.symm;subst hz1;have hcap:capLow a b (.tail k)= .ok (cs.length / sz - k):=by
       simp only[capLow];rw[rb hcl];rw[rb (rc (by grind [gJ]))];rfl
     rw[rb hcap,rb (show siz tab e= .ok n from ro hn),rb o1,rb (o2 0),hu0];simp only;rw[rb (rc (by simp))];refine⟨_,rfl,?_⟩;have:(aT Fz (.bn X ((L.drop (l.getD 0)).take (0 - l.getD 0)) enc) (.sl b off ((L.drop (l.getD 0)).take (0 - l.getD 0)).length (.tail k))):=by
       refine .bn b off (.tail k) cs e' sz true bk w hb hs (by grind) (fun i x hx=>?_) ⟨rfl,hoff⟩ (fun i x j v hx=>?_) (fun i x j v hx=>?_)
       all_goals grind
     grind
 case pos=>
  obtain⟨b,off,cap,cs,e',sz,ext,bk,rfl,hb,hs,hl,hsz,hc,hcell⟩:=zg hv (by grind);have hszn:sz=n:=by
   rw[<-hsz 0 _ (Ai hL),hlen]
  subst hszn;have o1:gh ta (.ok 0) lo= .ok (l.getD 0):=by rw[h1];cases l<;>rfl
  have o2:∀d,gh ta (.ok d) hi= .ok (u.getD d):=by intro d;rw[h2];cases u<;>rfl
  obtain⟨sz0,ext0,hb0,hx0⟩:=id hb;have hcl:=je (hfz _ _ hb0);generalize l.getD 0=i at*
  generalize hj:u.getD L.length=j at*
  have hLl:((L.drop i).take (j - i)).length=j - i:=by grind
  have hget:∀(q:Nat) x,((L.drop i).take (j - i))[q]? =some x->L[i+q]? =some x/\q<j - i:=by
   grind
  have hmul:∀q,off+i*sz+q*sz=off+(i+q)*sz:=by grind
  have hbound:off+i*sz+(j - i)*sz<=cs.length:=by
   rw[hmul];have:(i+(j - i))*sz<=L.length*sz:=A5 _ (by omega);omega
  have mk:∀cap',tU cap' (off+i*sz) (j - i) sz ext->aT Fz (.bn X ((L.drop i).take (j - i)) enc) (.sl b (off+i*sz) (j - i) cap'):=by
   grind [zf]
  have empty:j - i=0->∀w,(w= .nils\/(∃b off l n k,w= .emp b off l n k)\/ ∃a c,w= .raw (.slice a 0 c))->aT Fz (.bn X ((L.drop i).take (j - i)) enc) w:=fun h0 w hw=> .ch (by rw[hLl,h0]) hw
  unfold ke;rw[rb (show und tab t=_ from ro hu)];simp only
  cases cap with
  |lit m=>
   have hcm:L.length<=m:=hc;rw[rb (show capLow a b (.lit m)= .ok m from rfl),rb (show siz tab e= .ok sz from ro hn),rb o1,rb (o2 _),hj];simp only;rw[rb (rc (by grind [Nat.ble_eq]))];grind [zf,tU,gJ]
  |tail k=>
   obtain⟨hext,hoff⟩:=hc;subst hext;obtain⟨hz1,hz2⟩:=hx0 rfl;have hz1:=hz1.symm;subst hz1;subst hz2;have hcap:capLow a b (.tail k)= .ok (cs.length / sz - k):=by
     simp only[capLow];rw[rb hcl];rw[rb (rc (by simp only[BL,A2];exact gJ (by omega)))];rfl
   have hge:L.length<=cs.length / sz - k:=by
     have:(k+L.length)*sz<=cs.length:=by rw[Bi,<-hoff];exact hl
     have:=(Nat.le_div_iff_mul_le hs).2 this;omega
   rw[rb hcap,rb (show siz tab e= .ok sz from ro hn),rb o1,rb (o2 _),hj];simp only;rw[rb (rc (by simp only[Ad,Au];omega))];by_cases hi0:i=0
   . subst hi0;have:=mk (.tail k) ⟨rfl,by omega⟩;exact⟨_,rfl,by simpa using this⟩
   . rw[gJ hi0];by_cases hlt:i<cs.length / sz - k
     . rw[show Nat.blt i (cs.length / sz - k)=true from by simpa using hlt];exact⟨_,rfl,mk _ ⟨rfl,by rw[Bi,hoff]⟩⟩
     . rw[show Nat.blt i (cs.length / sz - k)=false from Ar.2 fun e=>hlt (by simpa using e)];exact⟨_,rfl,empty (by omega) _ (.inr (.inl ⟨_,_,_,_,_,rfl⟩))⟩
 end
 end Go.Sy
namespace Go.Sy
open Go.Am Go.RowKit
section
universe u v
variable [Inhabited aK]
section
variable {tab:bC} {view:TypeId->Option View} {C:Cx} {s:St} {ta:T AV} {a:AH}
def aU (tab:bC) (C:Cx) (s:St) (ta:T AV) (a:AH) (K:SV->St->Prop) (r:R (AV×AH)):Prop:=∃sv s' v a',K sv s'/\r= .ok (v,a')/\qg tab C s ta a sv s' v a'
theorem aU.same {K:SV->St->Prop} (hF:FS C s.ts ta) (H:HS tab C s.h a) {sv:SV} {v:AV} (hv:aQ C sv v) (hk:K sv s):aU tab C s ta a K (.ok (v,a)):=⟨sv,s,v,a,hk,rfl,qg.same hF H hv⟩
theorem aU.val {K:SV->St->Prop} (hF:FS C s.ts ta) (H:HS tab C s.h a) {r:R AV} (h:gy C (fun v=>K v s) r):aU tab C s ta a K (do .ok (<-r,a)):=by
 obtain⟨sv,v,h1,h2,h3⟩:=h;rw[rb h1];grind [aU.same]
theorem Za (hF:FS C s.ts ta) (H:HS tab C s.h a) {t:TypeId} {x:SV} {v:AV} (hv:aQ C x v) {lo hi:Option Operand} {K:SV->St->Prop} (h:Hu tab s t x lo hi K):aU tab C s ta a K (ke tab ta a t v lo hi none):=by
 obtain⟨l,h1,hl⟩:=yX hF h;obtain⟨u,h2,hu⟩:=yX hF h1;clear h h1;have h:=h2;have o1:∀d:R Nat,gh ta d lo=ll l d:=fun d=>(hl d).1
 have o2:∀d:R Nat,gh ta d hi=ll u d:=fun d=>(hu d).1
 split at h
 . rename_i c hg;rw[iT hv];obtain⟨h1,h2,h3⟩:=tw h;unfold ke;rw[rb (show und tab t=_ from ro hg)];simp only;rw[rb (show R.check "slice: max" (none:Option Operand).isNone= .ok ()from rfl),rb (show gh ta (.ok 0) lo= .ok (l.getD 0)from by rw[o1];cases l<;>rfl),rb (show gh ta (.ok c.length) hi= .ok (u.getD c.length)from by rw[o2];cases u<;>rfl),
     rb (rc (by simp_all))]
   exact aU.same hF H (.pure (.str _)) h3
 . rename_i e X L enc hg;split at h
   . rename_i n hn;obtain⟨hlen,h⟩:=h;obtain⟨h1,h2,h3⟩:=tw h;obtain⟨w,h4,h5⟩:=yc hg hn H.fz (l3 hv rfl) hlen o1 o2 h1 h2;rw[h4];exact aU.same hF H (.pure h5) h3
   grind
 . rename_i e b hg;split at h
   . rename_i X L enc t' n hb hn;obtain⟨hlen,h⟩:=h;obtain⟨h1,h2,h3⟩:=tw h;obtain⟨C',e1,e2,e3,e4,e5,e6⟩:=tY hF H hb;obtain⟨w,h4,h5⟩:=yc hg hn e3.fz (e5 v hv) hlen o1 o2 h1 h2;exact⟨_,_,w,a,h3,h4,⟨C',_,e1,e2, .pure h5,e3,e4,e6.aV _⟩,Grow.refl a⟩
   grind
 . rename_i e b off len cap hg;split at h
   . rename_i n hn;obtain⟨h1,h2⟩:=dc h
     cases hv with
     |pure hv=>cases hv
     | sl hI=>
      unfold ke;rw[rb (show und tab t=_ from ro hg)];simp only;rw[rb (show capLow a _ (.lit cap)= .ok cap from rfl),rb (show siz tab e= .ok n from ro hn),rb (show gh ta (.ok 0) lo= .ok (l.getD 0)from by rw[o1];cases l<;>rfl),
       rb (show gh ta (.ok len) hi= .ok (u.getD len)from by rw[o2];cases u<;>rfl),
       rb (rc (by grind))]
      exact aU.same hF H (.sl hI) h2
   grind
 grind
theorem HS.fresh (H:HS tab C s.h a) (ca:List AV) (e:TypeId) (sz:Nat) (ext:Bool) (bk:BK):∃C':Cx,C.le C'/\C'.Fz a.next=some (.cells ca e sz ext bk)/\HS tab C' s.h (a.new (.cells ca e sz ext bk)):=by
 classical
 let C':Cx:={C with Fz:=fun i=>if i=a.next then some (.cells ca e sz ext bk)else C.Fz i}
 have hfz:∀i o,C.Fz i=some o->C'.Fz i=some o:=by
   intro i o hi;have:=H.wf _ _ (H.fz i o hi);grind
 have hle:C.le C':=⟨fun _ _ h=>h,hfz⟩;have hblk:∀p o I,s.h.get p=some o->C.ρ p=some I->I.cap.isSome->I.β≠a.next:=by
   intro p o I hp hI hc;obtain⟨b,hb⟩:=(H.at_ hp hI).live hc;have:=H.wf _ _ hb;omega
 refine⟨C',hle,by grind,⟨?_,H.inj,?_,?_,H.lt,?_⟩⟩
 . intro p o hp;obtain⟨I,hI,ho⟩:=H.obj p o hp;refine⟨I,hI,?_⟩;have ho':=ho.le hle;by_cases hc:I.cap.isSome
   . exact ho'.congr (by rw[AH.aX,Al (hblk p o I hp hI hc)])
   . cases o with
     |cells cs t=>exact absurd ho.1 hc
     |arr X L enc t=>
      obtain⟨g1,g2,g3,g4,g5⟩:=ho';refine⟨g1,g2,g3,g4,?_⟩;grind
 . intro i o hi;simp only[C']at hi;rw[AH.aX];split at hi
   . grind
   . rename_i e;rw[Al e];exact H.fz i o hi
 . intro p o I hp hI hc;simp only[C'];rw[Al (hblk p o I hp hI hc)];exact H.dj p o I hp hI hc
 . intro i o hi;rw[AH.aX]at hi;simp only[AH.cP];split at hi
   . omega
   . have:=H.wf i o hi;omega
theorem ju {e n:Nat} (hn:tab.siz.get e=some n) (cs:List AV) (ext:Bool) (bk:BK):Am.newRow tab a e cs ext bk= .ok (a.new (.cells cs e n ext bk),a.next):=by
 simp_all[Am.newRow,rb,siz,ro]
theorem ZF {c:List UInt8} {i:Nat} {x:UInt8} (hx:c[i]? =some x) {j:Nat} {v:SV} (hv:(de x)[j]? =some v):j=0/\v= .int .u8 (.ofNat x.toNat):=by
 grind [de]
theorem vt:∀{c:List UInt8},bytesOf (c.map fun b=>AV.int .u8 (.ofNat b.toNat))= .ok c:=by
 intro c;induction c with
 |nil=>rfl
 |cons x c ih=>
  simp_all[bytesOf,rb]
theorem LA {Fz:Nat->Option AO} (hfz:∀i o,Fz i=some o->a.get i=some o) {c:List UInt8} {v:AV} (hv:aT Fz (.bn UInt8 c de) v):
  v= .nils/\c=[]\/((∃b off l n k,v= .emp b off l n k)\/ ∃a c,v= .raw (.slice a 0 c))/\c=[]\/ ∃b off cap,v= .sl b off c.length cap/\readN a b off c.length= .ok (c.map fun b=>AV.int .u8 (.ofNat b.toNat)):=by
 cases hv with
 |ch h0 hv=>
  have:=Ay h0;grind
 |bn b off cap cs e sz ext bk u hb hs hl hn hc h1 h2=>
  refine .inr (.inr ⟨b,off,cap,rfl,?_⟩);obtain⟨sz0,ext0,hb,hx0⟩:=hb;have hsz:c≠[]->sz=1:=by
    intro hc0
    cases c with
    |nil=>grind
    |cons x c=>rw[<-hn 0 x rfl];rfl
  unfold readN;rw[rb (je (hfz _ _ hb))];simp only;have hle:off+c.length<=cs.length:=by
    by_cases h0:c=[]
    all_goals grind
  rw[rb (rc (by simp_all))];congr 1
  apply BO
  intro i;rw[A3,AI];by_cases hi:i<c.length
  . rw[An hi,Dh];have hx:=Ai hi;have h0:c≠[]:=by grind
    have g1:=h1 i _ 0 _ hx rfl;have g2:=h2 i _ 0 _ hx rfl;rw[hsz h0]at g1;simp only[Nat.mul_one,BC]at g1;rw[g1,hx]
    cases g2h:u i 0 with
    |int k n=>
     rw[g2h]at g2
     cases g2;rfl
    |_=>rw[g2h]at g2;cases g2
  grind
theorem ZA (hF:FS C s.ts ta) (H:HS tab C s.h a) {src dst:TypeId} {x:SV} {v:AV} (hv:aQ C x v) {K:SV->St->Prop} (h:zQ tab s src dst x K):aU tab C s ta a K (pb tab a src dst v):=by
 have hnu:∀{d:TypeDesc},tab.und.get dst=some d->(d≠ .unsafePointer)->(∀u,d≠ .pointer u)->pb tab a src dst v=Am.convert tab a src dst v:=by
   intro d hd h1 h2;unfold pb;rw[rb (show und tab dst=_ from ro hd)]
   cases d<;>first|rfl|exact absurd rfl h1|grind
 unfold zQ at h;split at h
 . rename_i d k j n hs hd;rw[hnu hd (by simp) (by simp),jT hv];unfold Am.convert;rw[rb (show und tab src=_ from ro hs),rb (show und tab dst=_ from ro hd)];exact aU.same hF H (.pure (.int _ _)) h
 . rename_i d c hs hd;rw[hnu hd (by simp) (by simp),iT hv];unfold Am.convert;rw[rb (show und tab src=_ from ro hs),rb (show und tab dst=_ from ro hd)];exact aU.same hF H (.pure (.str _)) h
 . rename_i d e c hs hd;split at h
   . rename_i he hz;rw[hnu hd (by simp) (by simp),iT hv];unfold Am.convert;rw[rb (show und tab src=_ from ro hs),rb (show und tab dst=_ from ro hd)];obtain⟨C',g1,g2,g3⟩:=H.fresh (ofBytes c) e 1 true .mark;have hsim:aT C'.Fz (.bn UInt8 c de) (.sl a.next 0 c.length (.tail 0)):=by
       refine zf a.next 0 _ (ofBytes c) e 1 true .mark _ rfl (.of g2) (by omega) (by simp[ofBytes]) (fun i x _=>rfl) ⟨rfl,rfl⟩ ?_;intro i x j w hx hw;obtain⟨rfl,rfl⟩:=ZF hx hw;refine⟨_,?_, .int _ _⟩;grind [ofBytes]
     have hr:Am.newRow tab a e (ofBytes c) true .mark= .ok (a.new (.cells (ofBytes c) e 1 true .mark),a.next):=ju hz _ _ _;have:aU tab C s ta a K (.ok (.sl a.next 0 c.length (.tail 0),a.new (.cells (ofBytes c) e 1 true .mark))):=
       ⟨_,s,_,_,h,rfl,⟨C',[],by simp,g1.tr, .pure hsim,g3,hF.le g1,dv.new H _ _ g1 (fun p o h=>⟨o,h⟩)⟩,Grow.new a _⟩
     cases d<;>simp only<;>(rw[rb (show und tab e=_ from ro he)];simp only;rw[rb (show siz tab e= .ok 1 from ro hz),rb (show R.check "convert: size" (Nat.beq 1 1)= .ok ()from rfl),rb hr];exact this)
   grind
 . rename_i e hs hd;split at h
   . rename_i he;rw[hnu hd (by simp) (by simp),pt hv];unfold Am.convert;rw[rb (show und tab src=_ from ro hs),rb (show und tab dst=_ from ro hd)];simp only;rw[rb (show und tab e=_ from ro he)];exact aU.same hF H (.pure (.str _)) h
   grind
 . rename_i e X L enc hs hd;split at h
   . rename_i he;obtain⟨c,h1,h2⟩:=h;rw[h1]at hv;rw[hnu hd (by simp) (by simp)];unfold Am.convert;rw[rb (show und tab src=_ from ro hs),rb (show und tab dst=_ from ro hd)];rcases LA H.fz (l3 hv rfl)with⟨rfl,rfl⟩|⟨⟨b,off,l,n,k,rfl⟩|⟨a1,c1,rfl⟩,rfl⟩|⟨b,off,cap,rfl,hr⟩
     . simp only;rw[rb (show und tab e=_ from ro he)];exact aU.same hF H (.pure (.str _)) h2
     . simp only;rw[rb (show und tab e=_ from ro he)];exact aU.same hF H (.pure (.str _)) h2
     . simp only;rw[rb (show und tab e=_ from ro he)];exact aU.same hF H (.pure (.str _)) h2
     . simp only;rw[rb (show und tab e=_ from ro he)];simp only;rw[rb hr,rb vt];exact aU.same hF H (.pure (.str _)) h2
   grind
 . rename_i e b hs hd;split at h
   . rename_i X L enc t' he hb;obtain⟨c,h1,h2⟩:=h;obtain⟨C',e1,e2,e3,e4,e5,_⟩:=tY hF H hb;have hv':=e5 v hv;rw[h1]at hv';rw[hnu hd (by simp) (by simp)];unfold Am.convert;rw[rb (show und tab src=_ from ro hs),rb (show und tab dst=_ from ro hd)];rcases LA e3.fz hv' with⟨rfl,rfl⟩|⟨⟨b,off,l,n,k,rfl⟩|⟨a1,c1,rfl⟩,rfl⟩|⟨b,off,cap,rfl,hr⟩
     . simp only;rw[rb (show und tab e=_ from ro he)];exact aU.same hF H (.pure (.str _)) h2
     . simp only;rw[rb (show und tab e=_ from ro he)];exact aU.same hF H (.pure (.str _)) h2
     . simp only;rw[rb (show und tab e=_ from ro he)];exact aU.same hF H (.pure (.str _)) h2
     . simp only;rw[rb (show und tab e=_ from ro he)];simp only;rw[rb hr,rb vt];exact aU.same hF H (.pure (.str _)) h2
   grind
 . rename_i e b off len cap hs hd;split at h
   . rename_i cs t' he hb;obtain⟨hle,c,h1,h2⟩:=dc h;have hle:=Ak hle;rw[hnu hd (by simp) (by simp)]
     cases hv with
     |pure hv=>cases hv
     | @sl _ _ _ _ I hI=>
       obtain⟨_,ca,sz,g1,g2,_⟩:=H.at_ hb hI;have hcl:=g2.1;have hr:readN a I.β off len= .ok (c.map fun b=>AV.int .u8 (.ofNat b.toNat)):=by
        unfold readN;rw[rb (je g1)];simp only;rw[rb (rc (by grind))];congr 1
        apply BO
        intro i;have hS:=(g2.drop off).take len;rw[h1]at hS
        cases hq:(rM c)[i]? with
        |none=>
         have hn:=DA.1 hq;rw[BF (by rw[<-hS.1];exact hn),BF (by grind [rM])]
        |some v=>
         have hlt:=(Ae.1 hq).1;have hlt2:i<(List.take len (List.drop off ca)).length:=by rw[<-hS.1];omega
         have hsv:=hS.2 i v _ hq (Ai hlt2);grind [rM,jT]
       unfold Am.convert;rw[rb (show und tab src=_ from ro hs),rb (show und tab dst=_ from ro hd)];simp only;rw[rb (show und tab e=_ from ro he)];simp only;rw[rb hr,rb vt];exact aU.same hF H (.pure (.str _)) h2
   grind
 grind
end
end
section
universe u v
variable [Inhabited aK]
section
variable {tab:bC} {view:TypeId->Option View} {C:Cx} {s:St} {ta:T AV} {a:AH} {h:SH}
structure Told (Fz:Nat->Option AO) (X:Type) (l:List X) (enc:X->List SV) (n:Nat) (news:List AV):Prop where
 len:news.length=l.length*n
 each:∀(i:Nat) x,l[i]? =some x->(enc x).length=n
 cell:∀(i:Nat) x (j:Nat) v,l[i]? =some x->(enc x)[j]? =some v->∃u,news[i*n+j]? =some u/\aT Fz v u
 one:news.all mE=true
theorem KU {s:SV} (h:jU s=true):isScalar s=true:=by cases s<;>first|rfl|cases h
theorem Yf {Fz:Nat->Option AO} {s:SV} {v:AV} (h:aT Fz s v) (hp:jU s=true):mE v=true:=M8 (C:=⟨fun _=>none,Fz⟩) (.pure h) (KU hp)
theorem X6 {news:List AV} {n:Nat} (hn:n≠0) {m:Nat} (hl:news.length=m*n) (h:∀i j,i<m->j<n->∀u,news[i*n+j]? =some u->mE u=true):news.all mE=true:=by
 rw[AG];intro v hv;obtain⟨q,hq⟩:=Bd.1 hv;have hlt:q<m*n:=by rw[<-hl];grind
 have h1:q / n<m:=by
  apply (Nat.div_lt_iff_lt_mul (by omega)).2;omega
 have h2:q % n<n:=Nat.mod_lt _ (by omega);grind [Nat.div_add_mod]
theorem LO {X:Type} {L:List X} {enc:X->List SV} {v:AV} {Fz:Nat->Option AO} {n:Nat} (hfz:∀i o,Fz i=some o->a.get i=some o) (hv:aT Fz (.bn X L enc) v) (hn:n≠0) (he:∀x:X,(enc x).length=n/\(enc x).all jU=true):
   ∃news,source a n v= .ok (L.length,news)/\Told Fz X L enc n news:=by
 by_cases hL:L=[]
 . subst hL;have ht:Told Fz X [] enc n []:=⟨by simp,fun i x hx=>by grind,fun i x j v hx=>by grind,rfl⟩
   cases hv with
   | ch h0 hv=>
     rcases hv with rfl|⟨b,off,l,k,c,rfl⟩|⟨a,c,rfl⟩
     . exact⟨[],rfl,ht⟩
     . exact⟨[],rfl,ht⟩
     . exact⟨[],rfl,ht⟩
   | bn b off cap cs e sz ext bk u hb hs hl hsz hc h1 h2=>
     obtain⟨sz0,ext0,hb,hx0⟩:=hb;refine⟨[],?_,ht⟩;simp only[source,A7,Nat.zero_mul];unfold readN;rw[rb (je (hfz _ _ hb))];grind [rb,rc,Nat.ble_eq]
 . obtain⟨b,off,cap,cs,e',sz,ext,bk,rfl,hb,hs,hl,hsz,hc,hcell⟩:=zg hv hL;obtain⟨sz0,ext0,hb,hx0⟩:=hb;have hszn:sz=n:=by
     obtain⟨x,hx⟩:∃x,L[0]? =some x:=⟨L[0]'(by grind),by simp⟩;rw[<-hsz 0 x hx,(he x).1]
   subst hszn;have hr:readN a b off (L.length*sz)= .ok ((cs.drop off).take (L.length*sz)):=by
     unfold readN;rw[rb (je (hfz _ _ hb))];grind [rb,rc,Nat.ble_eq]
   have hlen:((cs.drop off).take (L.length*sz)).length=L.length*sz:=by grind
   have hget:∀(i j:Nat),i<L.length->j<sz->((cs.drop off).take (L.length*sz))[i*sz+j]? =cs[off+i*sz+j]? :=by
     intro i j hi hj;rw[A3,An,Dh,De]
     calc i*sz+j<i*sz+sz:=by omega
       _=(i+1)*sz:=by rw[Bi,Dn]
       _<=L.length*sz:=A5 _ hi
   have hcell':∀(i:Nat) x (j:Nat) v,L[i]? =some x->(enc x)[j]? =some v->∃u,((cs.drop off).take (L.length*sz))[i*sz+j]? =some u/\aT Fz v u:=by
     grind
   refine⟨_,?_,hlen,hsz,hcell',X6 (by omega) hlen ?_⟩
   . grind [source,rb]
   . intro i j hi hj u hu;have hx:=Ai hi;have hjl:j<(enc L[i]).length:=by rw[(he _).1];exact hj
     have hv:=Ai hjl;grind [Yf]
theorem MN (n:Nat):∀(m:Nat) (l:List SV) (i:Nat),i<m->(chunk n m l)[i]? =some ((l.drop (i*n)).take n):=by
 intro m;induction m with
 |zero=>omega
 | succ m ih=>
  intro l i h
  cases i with
  |zero=>simp[chunk]
  |succ i=>
   grind [chunk,List.drop_drop,Nat.add_mul]
theorem vw (n:Nat):∀(m:Nat) (l:List SV),(chunk n m l).length=m:=by
 intro m;induction m with
 |zero=>intro l;rfl
 |succ m ih=>grind [chunk]
theorem Pz {X:Type} {enc:X->List SV}:∀{c:List (List SV)} {K:List X->Prop},xj enc c K->∃l,l.length=c.length/\(∀(i:Nat) x q,l[i]? =some x->c[i]? =some q->enc x=q)/\K l:=by
 intro c;induction c with
 |nil=>intro K h;exact⟨[],rfl,fun i x q h=>by grind,h⟩
 |cons q c ih=>
  intro K h;obtain⟨x,hx,h⟩:=h;grind
theorem E7 {X:Type} {enc:X->List SV} {n m:Nat} (hn:n≠0) {cs:List SV} {ca:List AV} (hc:bc C cs ca) (hl:cs.length=m*n) (hp:cs.all jU=true) {l:List X} (hll:l.length=m)
   (he:∀(i:Nat) x q,l[i]? =some x->(chunk n m cs)[i]? =some q->enc x=q):Told C.Fz X l enc n ca:=by
 have hsub:∀i,i<m->i*n+n<=m*n:=by
   intro i hi
   calc i*n+n=(i+1)*n:=by rw[Bi,Dn]
     _<=m*n:=A5 _ hi
 refine⟨by rw[<-hc.1,hl,hll],?_,?_,?_⟩
 . intro i x hx;have hi:i<m:=by rw[<-hll];grind
   rw[he i x _ hx (MN n m cs i hi)];have:=hsub i hi;grind
 . intro i x j v hx hv;have hi:i<m:=by rw[<-hll];grind
   rw[he i x _ hx (MN n m cs i hi),A3]at hv;split at hv
   . rw[Dh]at hv;obtain⟨u,h1,h2⟩:=hc.get hv;grind [l3]
   grind
 grind [LM,KU]
theorem Z0 {X:Type} {L M:List X} {enc:X->List SV} {n:Nat} {ca news:List AV} {Fz:Nat->Option AO} (hl:ca.length=L.length*n) (hL:∀(i:Nat) x,L[i]? =some x->(enc x).length=n)
   (hc:∀(i:Nat) x (j:Nat) v,L[i]? =some x->(enc x)[j]? =some v->∃u,ca[i*n+j]? =some u/\aT Fz v u) (hM:Told Fz X M enc n news):
   (ca++news).length=(L++M).length*n/\(∀(i:Nat) x,(L++M)[i]? =some x->(enc x).length=n)/\
     ∀(i:Nat) x (j:Nat) v,(L++M)[i]? =some x->(enc x)[j]? =some v->∃u,(ca++news)[i*n+j]? =some u/\aT Fz v u:=by
 have hlt:∀i j,i<L.length->j<n->i*n+j<L.length*n:=by
   intro i j hi hj
   calc i*n+j<(i+1)*n:=by rw[Bi,Dn];omega
     _<=L.length*n:=A5 _ hi
 refine⟨by rw[Bn,Bn,hl,hM.len,Bi],?_,?_⟩
 . intro i x hx;by_cases hi:i<L.length
   . rw[AS hi]at hx;grind
   . rw[Bh (by omega)]at hx;exact hM.each _ x hx
 . intro i x j v hx hv;by_cases hi:i<L.length
   . rw[AS hi]at hx;have hj:j<n:=by rw[<-hL i x hx];grind
     grind
   . rw[Bh (by omega)]at hx;obtain⟨u,h1,h2⟩:=hM.cell _ x j v hx hv;refine⟨u,?_,h2⟩;have hge:L.length*n<=i*n:=A5 _ (by omega);rw[Bh (by rw[hl];omega),hl];rw[Nat.sub_mul]at h1;rw[<-h1];grind
def tL (by_ m:Nat):Prop:=(Nat.ble (m*by_) 16777216&&Nat.ble m 16777216)=true
theorem Vl (H:HS tab C h a) {d:Nat} {X:Type} {L M:List X} {enc:X->List SV} {e n by_:Nat} {u:AV} {news:List AV} (hd:h.get d=some (.arr X L enc e)) (hv:aQ C (.own d) u) (hn:tab.siz.get e=some n) (hn0:n≠0)
   (hz:np tab e n= .ok ()) (hroom:tL by_ (L.length+M.length)) (hM:Told C.Fz X M enc n news):
   ∃I v a',Am.bW tab a e n by_ u M.length news= .ok (v,a')/\dE C (.kill d) (C.put d I)/\HS tab (C.put d I) ⟨h.next,(d,some (.arr X (L++M) enc e))::jz (.kill d) h.os⟩ a'/\aQ (C.put d I) (.own d) v/\Grow a a'/\dv C h a [.kill d, .mod d] (C.put d I) ⟨h.next,(d,some (.arr X (L++M) enc e))::jz (.kill d) h.os⟩ a':=by
 have hpk:∀(I:BI) (o2:SO) p o J,h.get p=some o->C.ρ p=some J->p≠d->∃o',(SH.mk h.next ((d,some o2)::jz (.kill d) h.os)).get p=some o'/\(C.put d I).ρ p=some J:=by
   intro I o2 p o J hp hJ hpd;refine⟨o.on (.kill d),?_,by rw[kv _ _ hpd];exact hJ⟩;have h1:=tx (.kill d) h.next h.os p;grind [SH.get,kU]
 obtain⟨I0,hI0,ho⟩:=H.obj d _ hd;have ho':=ho;obtain⟨g1,g2,g3,g4,g5⟩:=ho;have hsz:I0.sz=n:=by rw[hn]at g1;grind
 have hlt:∀b i,C.Fz i=some b->i<a.next:=fun b i hi=>H.wf _ _ (H.fz _ _ hi)
 by_cases hm:M.length=0
 . have hM0:=Ay hm;subst hM0;have hnews:news=[]:=Ay (by rw[hM.len];simp);subst hnews;rw[Br];obtain⟨hT,H'⟩:=H.renew hd hI0 I0 (o:= .arr X L enc e) (a':=a) (fun i b _ h=>h) H.wf (fun hc=> .inr ⟨hc,rfl⟩) (Ac _) (fun hT=>by
     have:=ho'.turns hT;exact this)
   refine⟨I0,u,a,?_,hT,H',?_,Grow.refl a,fun p o J hp hJ hc hnd=>⟨rfl, .inl (hpk I0 _ p o J hp hJ (fun e=>hnd (by grind [lu])))⟩⟩
   . cases hv with
     |pure hv=>cases hv
     |eB hI hc=>simp[Am.bW]
     | own hI hc=>
       rw [hI0]at hI;cases hI;rw[hc]at g5;obtain⟨ca,ext,bk,k1,k2,k3,k4,k5⟩:=g5;rename_i c';have hlow:capLow a I0.β c'= .ok (I0.len):=by
        rcases k4 with⟨rfl,rfl⟩|⟨rfl,h0⟩
        . simp only[capLow];rw[rb (je k1)];rw[rb (rc (by grind [gJ]))];rw[k3,g3];congr 1
          exact Nat.mul_div_cancel _ (by omega)
        grind [capLow]
       simp only[Am.bW];rw[rb hlow,rb (je k1)];rw[rb (rc (by simp_all)),rb (rc (by rw[g3];exact hroom)),A7,BC,show Nat.ble I0.len I0.len=true from by simp];rfl
   . cases hv with
     |pure hv=>cases hv
     |eB hI hc=>exact .eB (jy _ _ _) (by rw[hI0]at hI;grind)
     |own hI hc=>rw[hI0]at hI;cases hI;exact .own (jy _ _ _) hc
 . have hbm:Nat.beq M.length 0=false:=gJ hm;have hpos:0<n:=by omega
   have newrow:∀(ca:List AV) (a1:AH) (bk:BK),a1.next=a.next->(∀i o,a1.get i=some o->a.get i=some o)->(∀i b,(I0.cap.isSome->i≠I0.β)->a.get i=some b->a1.get i=some b)->(bk≠ .ro/\bk≠ .cold)->ca.length=L.length*n->
       (∀(i:Nat) x (j:Nat) v,L[i]? =some x->(enc x)[j]? =some v->∃u,ca[i*n+j]? =some u/\aT C.Fz v u)->
       ∃I,dE C (.kill d) (C.put d I)/\HS tab (C.put d I) ⟨h.next,(d,some (.arr X (L++M) enc e))::jz (.kill d) h.os⟩ (a1.new (.cells (ca++news) e n true bk))/\aQ (C.put d I) (.own d) (.sl a.next 0 (L.length+M.length) (.tail 0))/\Grow a (a1.new (.cells (ca++news) e n true bk))/\dv C h a [.kill d, .mod d] (C.put d I) ⟨h.next,(d,some (.arr X (L++M) enc e))::jz (.kill d) h.os⟩ (a1.new (.cells (ca++news) e n true bk)):=by
     intro ca a1 bk hn1 hold1 hkeep hbk hcl hcc;let I:BI:=⟨a.next,L.length+M.length,n,some (.tail 0)⟩
     obtain⟨r1,r2,r3⟩:=Z0 hcl (fun i x hx=>by rw[<-hsz];grind) hcc hM;obtain⟨hT,H'⟩:=H.renew hd hI0 I (o:= .arr X (L++M) enc e) (a':=a1.new (.cells (ca++news) e n true bk)) (fun i b hi hb=>by
        rw[AH.aX,Al (by have:=H.wf _ _ hb;omega)];grind)
       (fun i b hi=>by
        rw[AH.aX]at hi;simp only[AH.cP];split at hi
        . omega
        . have:=H.wf _ _ (hold1 i b hi);omega)
       (fun _=> .inl (Ac _)) (by grind [AH.cP])
       (fun hT=>by
        refine⟨hn,hpos,by simp[I],r2,?_⟩;refine⟨ca++news,true,bk,by rw[AH.aX,An (by rw[hn1])],hbk,r1, .inl ⟨rfl,rfl⟩,fun i x j v hx hv=>?_⟩;obtain⟨w,w1,w2⟩:=r3 i x j v hx hv;exact⟨w,w1,w2.mono hT.1⟩)
     refine⟨I,hT,H', .own (I:=I) (jy _ _ _) rfl,⟨by grind [AH.cP],fun i o hi=>?_⟩,?_⟩
     . rw[AH.aX]at hi;grind
     . intro p o J hp hJ hc hnd;have hpd:p≠d:=fun e=>hnd (by grind [lu])
       obtain⟨b,hb⟩:=(H.at_ hp hJ).live hc;have hlt:=H.wf _ _ hb;refine⟨?_, .inl (hpk I _ p o J hp hJ hpd)⟩;rw[AH.aX,Al (by omega),hkeep J.β b (fun hc0 e=>hpd (H.inj p d o _ J I0 hp hd hJ hI0 hc hc0 e)) hb,hb]
   cases hv with
   |pure hv=>cases hv
   | eB hI hc=>
     rw[hI0]at hI;cases hI;rw[hc]at g5;have hL0:=Ay g5;subst hL0;obtain⟨I,q1,q2,q3,q4,q5⟩:=newrow [] a .rw rfl (fun i o h=>h) (fun i b _ h=>h) (by simp) (by simp) (fun i x j v hx=>by grind);grind [Am.bW,tL,rb,rc,ju]
   | own hI hc=>
     rw[hI0]at hI;cases hI;rw[hc]at g5;obtain⟨ca,ext,bk,k1,k2,k3,k4,k5⟩:=g5;rw[hsz]at k1 k3 k5;rcases k4 with⟨rfl,rfl⟩|⟨rfl,h0⟩
     . obtain⟨I,q1,q2,q3,q4,q5⟩:=newrow ca (a.kill I0.β) bk.grown rfl (fun i o hi=>by
          rw[oc]at hi;grind) (fun i b hi hb=>by rw[oc,Al (hi (by grind))];exact hb) (by cases bk<;>simp[BK.grown]) k3 k5
       refine⟨I,_,_,?_,q1,q2,q3,q4,q5⟩;have hlow:capLow a I0.β (.tail 0)= .ok L.length:=by
        simp only[capLow];rw[rb (je k1)];rw[rb (rc (by simp only[BL,A2];exact gJ hn0))];rw[k3];congr 1
        exact Nat.mul_div_cancel _ hpos
       simp only[Am.bW];rw[rb hlow,rb (je k1)];rw[rb (rc (by simp)),g3,rb (rc hroom),show Nat.ble (L.length+M.length) L.length=false from Ar.2 fun e=>by have:=Ak e;omega];rw[rb (rc (by simp only[AA,Au];omega)),rb hz,rb (rc (by
        simp only[Dc,BL,Ad];exact⟨by simpa using k2,hM.one⟩)),show ca.take (L.length*n)=ca from Aq (by omega)]
       rw[rb (ju hn _ _ _)];rfl
     . have hL0:=Ay h0;subst hL0;obtain⟨I,q1,q2,q3,q4,q5⟩:=newrow [] a .rw rfl (fun i o h=>h) (fun i b _ h=>h) (by simp) (by simp) (fun i x j v hx=>by simp at hx);simp only[Bq,A7,AA]at q2 q3 q4;refine⟨I,_,_,?_,q1,q2,q3,q4,q5⟩;have hlen0:I0.len=0:=by rw[g3];rfl
       simp only[Am.bW];rw[rb (show capLow a I0.β (.lit 0)= .ok 0 from rfl),rb (je k1)];rw[rb (rc (by simp)),hlen0,rb (rc (by have:=hroom;unfold tL at this;simpa using this)),show Nat.ble (0+M.length) 0=false from Ar.2 fun e=>by have:=Ak e;omega];simp only[Bk];rw[rb (rc (by simp)),rb hz];simp only[Nat.zero_mul,DM,Bq,AA];rw[rb (ju hn _ _ _)]
theorem Vk (H:HS tab C h a) {X:Type} {M:List X} {enc:X->List SV} {e n by_:Nat} {news:List AV} (hn:tab.siz.get e=some n) (hn0:n≠0)
   (hz:np tab e n= .ok ()) (hroom:tL by_ M.length) (hM:Told C.Fz X M enc n news):
   ∃I v a',Am.bW tab a e n by_ .nils M.length news= .ok (v,a')/\C.le (C.put h.next I)/\HS tab (C.put h.next I) (h.new (.arr X M enc e)) a'/\aQ (C.put h.next I) (.own h.next) v/\Grow a a'/\dv C h a [] (C.put h.next I) (h.new (.arr X M enc e)) a':=by
 by_cases hm:M.length=0
 . let I:BI:=⟨0,0,n,none⟩
   obtain⟨h1,h2⟩:=H.CH (o:= .arr X M enc e) I rfl (fun hle=>⟨hn,by grind,by grind,hM.each,hm⟩);exact⟨I, .nils,a,by simp[Am.bW,hm],h1,h2, .eB (I:=I) (jy _ _ _) rfl,Grow.refl a,fun p o J hp hJ hc _=>⟨rfl, .inl (by obtain⟨o2,g2⟩:=vz H (.arr X M enc e) p o hp;exact⟨o2,g2,h1.1 _ _ hJ⟩)⟩⟩
 . let I:BI:=⟨a.next,M.length,n,some (.tail 0)⟩
   obtain⟨h1,h2⟩:=H.new (ao:= .cells news e n true .rw) (o:= .arr X M enc e) I rfl (fun hle=>⟨hn,by grind,rfl,hM.each,news,true, .rw,by rw[AH.aX,An rfl],by simp,hM.len, .inl ⟨rfl,rfl⟩,fun i x j v hx hv=>by
    obtain⟨u,g1,g2⟩:=hM.cell i x j v hx hv;exact⟨u,g1,g2.mono hle.2⟩⟩)
   refine⟨I, .sl a.next 0 M.length (.tail 0),a.new (.cells news e n true .rw),?_,h1,h2, .own (I:=I) (jy _ _ _) rfl,Grow.new a _,dv.new H _ _ h1 (vz H _)⟩;simp only[Am.bW,gJ hm,Bk];rw[rb (rc hroom),rb hz,rb (ju hn _ _ _)]
end
end
section
universe u v
variable [Inhabited aK]
section
variable {tab:bC} {view:TypeId->Option View} {C:Cx} {s:St} {ta:T AV} {a:AH} {h:SH}
theorem G1 (s:St) (b p:Nat) (X:Type) (L:List X) (enc:X->List SV):((s.ev (.fj b X L enc)).del b).h.get p=if p=b then none else(s.h.get p).map (SO.on (.fj b X L enc)):=by
 simp_all[St.ev,St.del,SH.bp,tx]
theorem Wm:∀(l:List SV) (s:St) (p:Nat),s.h.get p=none->(iS l s).h.get p=none:=by
 intro l;induction l with
 |nil=>intro s p h;exact h
 | cons x l ih=>
  intro s p h
  cases x with
  |own b=>
   grind [iS,G1]
  |_=>exact ih s p h
theorem Mw:∀(l:List SV) (s:St) (C:Cx),FS C s.ts ta->HS tab C s.h a->∃C' new,(iS l s).log=s.log++new/\Tr C new C'/\HS tab C' (iS l s).h a/\FS C' (iS l s).ts ta/\
  dS C s.h a C' (iS l s).h/\jG new .nils= .nils/\ ∀d o,(iS l s).h.get d=some o->jG new (.own d)= .own d/\ ∀off n c,jG new (.sl d off n c)= .sl d off n c:=by
 intro l;induction l with
 |nil=>intro s C hF H;exact⟨C,[],by simp[iS],Tr.refl C,H,hF,dS.refl _ _ _,rfl,fun d o _=>⟨rfl,fun _ _ _=>rfl⟩⟩
 | cons x l ih=>
  intro s C hF H;have skip:iS (x::l) s=iS l s->∃C' new,(iS (x::l) s).log=s.log++new/\Tr C new C'/\HS tab C' (iS (x::l) s).h a/\FS C' (iS (x::l) s).ts ta/\
     dS C s.h a C' (iS (x::l) s).h/\jG new .nils= .nils/\ ∀d o,(iS (x::l) s).h.get d=some o->jG new (.own d)= .own d/\ ∀off n c,jG new (.sl d off n c)= .sl d off n c:=by
   intro e;rw[e];exact ih s C hF H
  cases x with
  |own b=>
   simp only[iS]at skip⊢;split
   . rename_i X L enc t hb;obtain⟨C1,e1,e2,e3,e4,_,e6⟩:=tY hF H hb;obtain⟨C2,new,f1,f2,f3,f4,f7,f5,f6⟩:=ih _ C1 e4 e3;refine⟨C2,_,by rw[f1,e1,BP],e2.trans f2,f3,f4,e6.trans f7 f2.fz,?_,fun d o hd=>?_⟩
     . rw[xA];exact f5
     . have hne:d≠b:=by
         intro e;subst e;rw[Wm l _ d (by rw[G1,An rfl])]at hd;cases hd
       obtain⟨g1,g2⟩:=f6 d o hd;constructor
       . rw[xA];simp only[jG,SV.on,gJ hne,Bk];exact g1
       . intro off n c;rw[xA];simp only[jG,SV.on,gJ hne,Bk];exact g2 off n c
   grind
  |_=>exact skip rfl
theorem Y7 (s:St) (d:Nat) (o:SO):(((s.ev (.kill d)).aY d o).note (.mod d)).log=s.log++[.kill d, .mod d]/\(((s.ev (.kill d)).aY d o).note (.mod d)).h=⟨s.h.next,(d,some o)::jz (.kill d) s.h.os⟩/\
  (((s.ev (.kill d)).aY d o).note (.mod d)).ts=qZ (.kill d) s.ts:=by
 obtain⟨ts,⟨n,os⟩,log⟩:=s;exact⟨by simp[St.ev,St.aY,St.note],rfl,rfl⟩
theorem St.nc (s:St) (o:SO):(s.new o).h=s.h.new o/\(s.new o).ts=s.ts/\(s.new o).log=s.log:=by
 obtain⟨ts,h,log⟩:=s;exact⟨rfl,rfl,rfl⟩
theorem dE.oX {C C':Cx} {d:Nat} (h:dE C (.kill d) C'):Tr C [.kill d, .mod d] C':=
 h.tr.trans (l:=[.kill d]) (dE.tr (e:= .mod d) ⟨fun _ _ h=>h,fun _ _ h=>h⟩)
theorem NT (hF:FS C s.ts ta) (H:HS tab C s.h a) {d:Nat} {X:Type} {L M:List X} {enc:X->List SV} {e n by_:Nat} {u:AV} {news:List AV} {K:SV->St->Prop} (hd:s.h.get d=some (.arr X L enc e)) (hv:aQ C (.own d) u) (hn:tab.siz.get e=some n) (hn0:n≠0)
  (hz:np tab e n= .ok ()) (hroom:tL by_ (L.length+M.length)) (hM:Told C.Fz X M enc n news) (hk:K (.own d) (((s.ev (.kill d)).aY d (.arr X (L++M) enc e)).note (.mod d))):
  aU tab C s ta a K (Am.bW tab a e n by_ u M.length news):=by
 obtain⟨I,v,a',h1,h2,h3,h4,h5,h6⟩:=Vl H hd hv hn hn0 hz hroom hM;obtain⟨e1,e2,e3⟩:=Y7 s d (.arr X (L++M) enc e);exact⟨_,_,v,a',hk,h1,⟨C.put d I,_,e1,h2.oX,h4,by rw[e2];exact h3,by rw[e3];exact hF.turns h2,by rw[e2];exact h6⟩,h5⟩
theorem Lp (hF:FS C s.ts ta) (H:HS tab C s.h a) {X:Type} {M:List X} {enc:X->List SV} {e n by_:Nat} {news:List AV} {K:SV->St->Prop} (hn:tab.siz.get e=some n) (hn0:n≠0)
  (hz:np tab e n= .ok ()) (hroom:tL by_ M.length) (hM:Told C.Fz X M enc n news) (hk:K (.own s.h.next) (s.new (.arr X M enc e))):aU tab C s ta a K (Am.bW tab a e n by_ .nils M.length news):=by
 obtain⟨I,v,a',h1,h2,h3,h4,h5,h6⟩:=Vk H hn hn0 hz hroom hM;obtain⟨e1,e2,e3⟩:=s.nc (.arr X M enc e);exact⟨_,_,v,a',hk,h1,⟨_,[],by rw[e3];simp,h2.tr,h4,by rw[e1];exact h3,by rw[e2];exact hF.le h2,by rw[e1];exact h6⟩,h5⟩
theorem Li (l m:List Ev):lu (l++m)=lu l++lu m:=by
 induction l with
 |nil=>rfl
 |cons e l ih=>cases e<;>simp[lu,ih]
theorem aU.later {C1:Cx} {s1:St} {new:List Ev} {K:SV->St->Prop} {r:R (AV×AH)} (hl:s1.log=s.log++new) (ht:Tr C new C1) (hk:dS C s.h a C1 s1.h) (h:aU tab C1 s1 ta a K r):aU tab C s ta a K r:=by
 obtain⟨sv,s',v,a',h1,h2,⟨C',new',g1,g2,g3,g4,g5,g6⟩,h4⟩:=h;refine⟨sv,s',v,a',h1,h2,⟨C',new++new',by rw[g1,hl,BP],ht.trans g2,g3,g4,g5,?_⟩,h4⟩;intro p o I hp hI hc hn;rw[Li]at hn;rcases hk p o I hp hI hc with⟨o',q1,q2⟩|⟨b,q1,q2⟩
 . exact g6 p o' I q1 q2 hc (fun e=>hn (DJ _ e))
 . exact⟨by rw[q1];exact g4.fz _ _ (g2.fz _ _ q2), .inr ⟨b,g2.fz _ _ q2⟩⟩
theorem Lv (hF:FS C s.ts ta) (H:HS tab C s.h a) {e n by_:Nat} (hn:tab.siz.get e=some n) (hn0:n≠0) (hz:np tab e n= .ok ()) {x:SV} {u w:AV} (hx:x= .nils->aQ C x u) (hx':∀d o,x= .own d->s.h.get d=some o->aQ C x u) {Y:Type} {M:List Y} {enc':Y->List SV} (hy:aT C.Fz (.bn Y M enc') w)
   {K:SV->St->Prop} (h:oR s e n by_ x Y M enc' K):∃m news,source a n w= .ok (m,news)/\aU tab C s ta a K (Am.bW tab a e n by_ u m news):=by
 unfold oR at h;split at h
 . obtain⟨he,h1⟩:=h;obtain⟨hr,hk⟩:=dc h1;obtain⟨news,g1,g2⟩:=LO H.fz hy hn0 he;rw[pt (hx rfl)];exact⟨_,_,g1,Lp hF H hn hn0 hz hr g2 hk⟩
 . rename_i d;split at h
   . rename_i X L enc e' hd;obtain⟨hee,h1⟩:=dc h;have hee:=Ag hee;subst hee;obtain⟨he,M',hM',h2⟩:=h1;obtain⟨hr,hk⟩:=dc h2;obtain⟨news,g1,g2⟩:=LO H.fz hy hn0 he
     cases hM';exact⟨_,_,g1,NT hF H hd (hx' d _ rfl hd) hn hn0 hz hr g2 hk⟩
   grind
 grind
theorem WG (hF:FS C s.ts ta) (H:HS tab C s.h a) {e n by_ m:Nat} (hn:tab.siz.get e=some n) (hn0:n≠0) (hz:np tab e n= .ok ()) {x:SV} {u:AV} (hx:x= .nils->aQ C x u) (hx':∀d o,x= .own d->s.h.get d=some o->aQ C x u) {cs:List SV} {ca:List AV} (hc:bc C cs ca)
   (hl:cs.length=m*n) (hp:cs.all jU=true) {K:SV->St->Prop} (h:qM view s e n by_ m x cs K):aU tab C s ta a K (Am.bW tab a e n by_ u m ca):=by
 unfold qM at h;split at h
 . split at h
   . obtain⟨l,h1,h2,h3⟩:=Pz h;obtain⟨hr,hk⟩:=dc h3;rw[vw]at h1;have:=Lp hF H hn hn0 hz hr (E7 hn0 hc hl hp h1 h2) hk;rw[h1]at this;rw[pt (hx rfl)];omega
   grind
 . rename_i d;split at h
   . rename_i X L enc e' hd;obtain⟨hee,h1⟩:=dc h;have hee:=Ag hee;subst hee;obtain⟨l,h1,h2,h3⟩:=Pz h1;obtain⟨hr,hk⟩:=dc h3;rw[vw]at h1;have:=NT hF H hd (hx' d _ rfl hd) hn hn0 hz hr (E7 hn0 hc hl hp h1 h2) hk;rw[h1]at this;omega
   grind
 grind
theorem WH (hF:FS C s.ts ta) (H:HS tab C s.h a) {e:TypeId} {x y:SV} {u w:AV} (hx:aQ C x u) (hy:aQ C y w) {K:SV->St->Prop} (h:GC tab view s e x y K):
   ∃n by_,tab.siz.get e=some n/\tab.byt.get e=some by_/\n≠0/\ ∃m news,source a n w= .ok (m,news)/\aU tab C s ta a K (Am.bW tab a e n by_ u m news):=by
 unfold GC at h;split at h
 . rename_i n by_ hn hby;refine⟨n,by_,hn,hby,?_⟩;obtain⟨hck,hh⟩:=dc h;simp only[Ad,A2]at hck;obtain⟨hn0,hzz⟩:=hck;have hn0:n≠0:=fun e=>by simp_all
   refine⟨hn0,?_⟩;have hz:np tab e n= .ok ():=by
     split at hzz
     . rename_i z hz;obtain⟨zv,zc,g1,g2,g3⟩:=rp (C:=C) hz;unfold np;rw[rb g1,rb g2];exact rc (by rw[<-g3.1];omega)
     grind
   split at hh
   ·
     rename_i b off m cap;split at hh
     . rename_i cs0 t0 hb0;obtain⟨C1,new,f1,f2,f3,f4,f7,f5,f6⟩:=Mw ((cs0.drop off).take (m*n)) s C hF H;have hx1:=f2.val _ _ hx;have hy1:=f2.val _ _ hy;split at hh
       . rename_i cs t1 hb1;obtain⟨hck,hh⟩:=dc hh;simp only[Ad]at hck;have hle:=Ak hck.1;rw[(f6 b _ hb1).2]at hy1
         cases hy1 with
         |pure hy1=>cases hy1
         | sl hI=>
          rename_i I;obtain⟨hcap,ca,sz,k1,k2,_⟩:=f3.at_ hb1 hI;have hsub:=(k2.drop off).take (m*n);have hsrc:source a n (.sl I.β off m (.lit cap))= .ok (m,(ca.drop off).take (m*n)):=by
           have hr:readN a I.β off (m*n)= .ok ((ca.drop off).take (m*n)):=by
            unfold readN;rw[rb (je k1)];simp only;rw[rb (rc (by simp only[Au];rw[<-k2.1];omega))]
           grind [source,rb]
          refine⟨m,_,hsrc,aU.later f1 f2 f7 (WG f4 f3 hn hn0 hz (fun e=>?_) (fun d o e hd=>?_) hsub (by simp;omega) hck.2 hh)⟩
          all_goals grind
       grind
     grind
   . exact Lv hF H hn hn0 hz (fun _=>hx) (fun _ _ _ _=>hx) (l3 hy rfl) hh
   ·
     split at hh
     . rename_i Y M enc' t' hb;obtain⟨C1,e1,e2,e3,e4,e5,e6⟩:=tY hF H hb;have hx1:=e2.val _ _ hx;obtain⟨m,news,g1,g2⟩:=Lv (u:=u) e4 e3 hn hn0 hz (fun e=>by subst e;exact hx1) (fun d o e hd=>by
         grind [G1,jG,SV.on,gJ]) (e5 w hy) hh
       exact⟨m,news,g1,g2.later e1 e2 e6⟩
     grind
   . split at hh
     . rw[pt hy,pt hx];exact⟨0,[],rfl,by simpa [Am.bW]using aU.same hF H (.pure .nils) hh⟩
     grind
   grind
 grind
end
end
section
universe u v
variable [Inhabited aK]
section
variable {tab:bC} {view:TypeId->Option View} {C:Cx} {s:St} {ta:T AV} {a:AH} {h:SH}
theorem Pn {k:IntKind}:∀{l:List SV} {m:List AV} {x:Int} {sv:SV},bc C l m->oZ k x l=some sv->∃v,tH k x m= .ok v/\aQ C sv v:=by
 intro l;induction l with
 |nil=>intro m x sv hs h;cases m with
  |nil=>cases h;exact⟨_,rfl, .pure (.int _ _)⟩
  |cons=>have:=hs.1;grind
 | cons y l ih=>intro m x sv hs h;cases m with
  |nil=>have:=hs.1;grind
  |cons w m=>
   cases y<;>simp only[oZ]at h<;>first|(cases h;done)|skip
   obtain⟨h1,h2⟩:=hs.head;rw[jT h1];grind [tH]
theorem Pm {k:IntKind}:∀{l:List SV} {m:List AV} {x:Int} {sv:SV},bc C l m->oY k x l=some sv->∃v,tG k x m= .ok v/\aQ C sv v:=by
 intro l;induction l with
 |nil=>intro m x sv hs h;cases m with
  |nil=>cases h;exact⟨_,rfl, .pure (.int _ _)⟩
  |cons=>have:=hs.1;grind
 | cons y l ih=>intro m x sv hs h;cases m with
  |nil=>have:=hs.1;grind
  |cons w m=>
   cases y<;>simp only[oY]at h<;>first|(cases h;done)|skip
   obtain⟨h1,h2⟩:=hs.head;rw[jT h1];grind [tG]
theorem Pl (H:HS tab C s.h a) {e:TypeId} {x:SV} {v:AV} (hx:aQ C x v) {n:Nat} (hn:qY s x=some n):lenOf a (.slice e) v= .ok n:=by
 unfold qY at hn;split at hn
 . cases hn;rw[pt hx];rfl
 . cases hn
   cases hx with
   | pure hx=>cases hx with
     |ch h0 hv=>
      rw[h0];rcases hv with rfl|⟨b,off,l,n,k,rfl⟩|⟨a,c,rfl⟩<;>rfl
     |bn b off cap cs e sz ext bk u hb hs hl hn hc h1 h2=>rfl
 . cases hn
   cases hx with
   |pure hx=>cases hx
   |sl hI=>rfl
 . split at hn
   . rename_i X L enc t hb
     cases hn
     cases hx with
     |pure hx=>cases hx
     |eB hI hc=>
      obtain⟨_,_,g3,_,g5⟩:=H.at_ hb hI;rw[hc]at g5;rw[g5];rfl
     |own hI hc=>
      obtain⟨_,_,g3,_,g5⟩:=H.at_ hb hI;grind [lenOf]
   grind
 grind
theorem VM (hF:FS C s.ts ta) (H:HS tab C s.h a) {b:Builtin} {ats:Array TypeId} {l:List SV} {vs:List AV} (hl:bc C l vs) {K:SV->St->Prop} (h:te tab view s b ats l K):aU tab C s ta a K (Am.builtin tab b ats vs a):=by
 unfold te at h;split at h
 ·
  rename_i x;have hv:∃v,vs=[v]/\aQ C x v:=by
   cases vs with
   |nil=>have:=hl.1;grind
   | cons v vs=>cases vs with
     |nil=>exact⟨v,rfl,hl.head.1⟩
     |cons=>have:=hl.1;grind
  obtain⟨v,rfl,hx⟩:=hv;unfold Am.builtin;simp only
  cases ht:ats[0]? with
  |none=>rw[ht]at h;grind
  |some t=>
   rw[ht]at h;rw[rb (ro rfl)];split at h
   . rename_i hg;split at h
     . rw[iT hx,rb (show und tab t=_ from ro hg)];exact aU.same hF H (.pure (.int _ _)) h
     grind
   . rename_i e hg;obtain⟨n,h1,h2⟩:=dH h;rw[rb (show und tab t=_ from ro hg)];simp only;rw[rb (Pl H hx h1)];exact aU.same hF H (.pure (.int _ _)) h2
   grind
 ·
  rename_i x y;have hv:∃u w,vs=[u,w]/\aQ C x u/\aQ C y w:=by
   cases vs with
   |nil=>have:=hl.1;grind
   | cons v vs=>cases vs with
     |nil=>have:=hl.1;grind
     | cons w vs=>cases vs with
       |nil=>exact⟨v,w,rfl,hl.head.1,hl.head.2.head.1⟩
       |cons=>have:=hl.1;grind
  obtain⟨u,w,rfl,hx,hy⟩:=hv
  cases ht:ats[0]? with
  |none=>rw[ht]at h;grind
  |some t=>
   cases ht1:ats[1]? with
   |none=>rw[ht,ht1]at h;grind
   | some t1=>
     rw[ht,ht1]at h;split at h
     . rename_i e e' hg hg';obtain⟨n,by_,hn,hby,hn0,m,news,h1,h2⟩:=WH hF H hx hy h;unfold Am.builtin;simp only;rw[ht,ht1,rb (show R.of "append" (some t)= .ok t from rfl),rb (show R.of "append" (some t1)= .ok t1 from rfl),rb (show und tab t1=_ from ro hg')];simp_all[rb,und,siz,R.of,rc,gJ]
     grind
 ·
  cases vs with
  |nil=>have:=hl.1;grind
  |cons v vs=>
   obtain⟨h1,h2⟩:=hl.head;rw[jT h1];obtain⟨sv,h3,h4⟩:=dH h;grind [Pn,Am.builtin,rb,aU.same]
 ·
  cases vs with
  |nil=>have:=hl.1;grind
  |cons v vs=>
   obtain⟨h1,h2⟩:=hl.head;rw[jT h1];obtain⟨sv,h3,h4⟩:=dH h;grind [Pm,Am.builtin,rb,aU.same]
 grind
theorem Gt (hF:FS C s.ts ta) (H:HS tab C s.h a) {cs:List SV} {ca:List AV} (hc:bc C cs ca) (e n:Nat) (hn:tab.siz.get e=some n) {K:SV->St->Prop} {sv:SV} {v:AV} (hv:∀C':Cx,∀I,C'.ρ s.h.next=some I->I.β=a.next->aQ C' sv v) (hk:K sv (s.new (.cells cs e))):
  aU tab C s ta a K (.ok (v,a.new (.cells ca e n false .rw))):=by
 let I:BI:=⟨a.next,0,n,some (.lit 0)⟩
 obtain⟨h1,h2⟩:=H.new (ao:= .cells ca e n false .rw) (o:= .cells cs e) I rfl (fun hle=>⟨rfl,ca,n,by rw[AH.aX,An rfl],hc.le hle,hn⟩);obtain⟨e1,e2,e3⟩:=s.nc (.cells cs e);exact⟨sv,_,v,_,hk,rfl,⟨C.put s.h.next I,[],by rw[e3];simp,h1.tr,hv _ I (jy _ _ _) rfl,by rw[e1];exact h2,by rw[e2];exact hF.le h1,by rw[e1];exact dv.new H _ _ h1 (vz H _)⟩,Grow.new a _⟩
theorem OZ {l:List SV} {m:List AV} (h:bc C l m):∀n,bc C (rP n l) (rep n m):=by
 intro n;induction n with
 |zero=>exact bc.nil
 |succ n ih=>exact h.append ih
theorem U2 (hF:FS C s.ts ta) (H:HS tab C s.h a) {t:TypeId} {len:Nat} {ps:List (Nat×SV)} {vs:List (Nat×AV)} (hv:vs.map (·.1)=ps.map (·.1)) (hs:bc C (ps.map (·.2)) (vs.map (·.2))) {K:SV->St->Prop} (h:xr tab view s t len ps K):
   aU tab C s ta a K (Am.buildSlice tab a t len vs):=by
 unfold xr at h;split at h
 . rename_i e hg;split at h
   . rename_i n z hn hz;obtain⟨hck,h1⟩:=dc h;simp only[Ad]at hck;obtain⟨zv,zc,g1,g2,g3⟩:=rp (C:=C) hz;have hzl:(Nat.beq zc.length n)=true:=by rw[<-g3.1];grind
     unfold Am.buildSlice;rw[rb (show und tab t=_ from ro hg)];simp only;rw[rb (show siz tab e=_ from ro hn),rb (rc hck.1),rb g1,rb g2,rb (rc hzl)];by_cases hl0:len=0
     . subst hl0;obtain⟨hck2,h2⟩:=dc h1;simp only[Ad,List.isEmpty_iff,A2]at hck2;obtain⟨rfl,hn0⟩:=hck2;have hn0:n≠0:=fun e=>by simp_all
       cases vs with
       |cons=>grind
       |nil=>
        split at h2
        . rename_i V hV;simp only[D3,rep,fill];rw[rb (show(R.ok ([]:List AV))= .ok []from rfl),rb (ju hn _ _ _)];let I:BI:=⟨a.next,0,n,some (.lit 0)⟩
          obtain⟨q1,q2⟩:=H.new (ao:= .cells [] e n false .rw) (o:= .arr V.X [] V.enc e) I rfl (fun hle=>⟨hn,by grind,rfl,fun i x hx=>by grind,[],false, .rw,by rw[AH.aX,An rfl],by simp,by simp, .inr ⟨rfl,rfl⟩,fun i x j v hx=>by grind⟩);obtain⟨e1,e2,e3⟩:=s.nc (.arr V.X [] V.enc e);exact⟨_,_,_,_,h2,rfl,⟨C.put s.h.next I,[],by rw[e3];simp,q1.tr, .own (I:=I) (jy _ _ _) rfl,by rw[e1];exact q2,by rw[e2];exact hF.le q1,by rw[e1];exact dv.new H _ _ q1 (vz H _)⟩,Grow.new a _⟩
        grind
     . rw[gJ hl0]at h1;obtain⟨cs,h2,hk⟩:=dH h1;obtain⟨ca,h3,h4⟩:=yB (qs:=vs.map fun x=>(x.1*n,n,x.2)) (OZ g3 len) (by
        have:=Aj (List.map (fun i=>(i*n,n))) hv;grind [Function.comp_def]) (by grind [Function.comp_def]) h2
       rw[rb h3,rb (ju hn _ _ _)];exact Gt hF H h4 e n hn (fun C' I hI hb=>by rw[<-hb];exact .sl hI) hk
   grind
 grind
theorem eP {ts:T AV} {x:Operand} {v:AV} (h:ev ts x= .ok v) {β:Type} (f:AV->R β):(ev ts x>>=f)=f v:=rb h f
theorem Sv (b:Nat) (C:Cx):Tr C [.mod b] C:=dE.tr (e:= .mod b) ⟨fun _ _ h=>h,fun _ _ h=>h⟩
theorem x5 {t:TypeId} {f:Nat} {fd:Field} (h:zh tab t f=some fd):vV tab t f= .ok fd:=by
 unfold zh at h;unfold vV;split at h
 all_goals simp_all[rb,und,ro]
theorem RI (hF:FS C s.ts ta) (H:HS tab C s.h a) {o:Oper} {K:SV->St->Prop} (h:mO tab view s o K):aU tab C s ta a K (fk tab ta a o):=by
 obtain⟨dst,op,type,pos,after,guard⟩:=o;unfold mO at h;unfold fk;have same1:∀{x:Operand} {K':SV->Prop},so (fM s.ts x) K'->∃sv v,ev ta x= .ok v/\aQ C sv v/\K' sv:=by
  intro x K' h;obtain⟨sv,h1,h2⟩:=dH h;grind [mI]
 cases op<;>simp only at h⊢
 case move x=>
  grind [eP,aU.same]
 case assign x=>
  grind [eP,aU.same]
 case pick c x y=>
  grind [mI,po,eP,aU.same,zG]
 case alloc e=>
  obtain⟨n,hn,h⟩:=dH h;obtain⟨cs,h1,h2⟩:=dH h;obtain⟨zv,zc,g1,g2,g3⟩:=rp (C:=C) h1;rw[rb g1,rb g2,rb (ju hn _ _ _)];exact Gt hF H g3 e n hn (fun C' I hI hb=>by rw[<-hb];exact .ptr hI) h2
 case box e x=>
  obtain⟨n,hn,h⟩:=dH h;obtain⟨sv,v,h3,h4,h2⟩:=same1 h;obtain⟨hk,h2⟩:=dc h2;obtain⟨l,g1,g2⟩:=xV h4 hk;rw[eP h3,rb g1,rb (ju hn _ _ _)];exact Gt hF H g2 e n hn (fun C' I hI hb=>by rw[<-hb];exact .ptr hI) h2
 case build t ps=>
  obtain⟨l,h1,h2⟩:=dH h;obtain⟨sv,h3,h4⟩:=dH h2;grind [x8,Me,rb,aU.same]
 case buildSlice t n ps=>
  obtain⟨l,h1,h2⟩:=dH h;grind [x8,rb,U2]
 case load t x=>
  grind [Gs,rb,aU.same]
 case store t x y=>
  obtain⟨sv,v,h3,h4,h2⟩:=same1 h;obtain⟨sw,w,g3,g4,g2⟩:=same1 h2;obtain⟨b,off,a',h',rfl,k1,k2,k3,k4,k5⟩:=Zg H h4 g4 g2;rw[eP h3];simp only;rw[eP g3,rb k1];obtain⟨ts,hh,log⟩:=s;refine⟨_,_,_,_,k3,rfl,⟨C,Cf sv,rfl,?_, .pure (.bO rfl (fun i c v hc=>by grind)),k2,hF,k5⟩,k4⟩
  cases sv<;>first|exact Sv _ C|exact Tr.refl C
 case nilCheck x=>
  obtain⟨sv,v,h3,h4,h2⟩:=same1 h;rw[eP h3];split at h2
  . cases h4 with
    |pure h=>cases h
    |ptr hI=>grind [aU.same]
  . cases h4 with
    |pure h=>cases h
    |cF hI hc=>grind [aU.same]
  . cases h4 with
    | pure h=>cases h with
      |cz b base ca e sz ext bk u hb hl h1 h2'=>grind [aU.same]
  . cases h4 with
    | pure h=>cases h with
      |fn h1 h2' h3' h4'=>grind [aU.same]
    |fn h1 h2' h3' h4'=>grind [aU.same]
  grind
 case binOp op t x y _=>
  grind [eP,aU.val,Pv]
 case unOp op _ x=>
  grind [eP,aU.val,Qg]
 case convert x y z=>
  obtain⟨sv,v,h3,h4,h2⟩:=same1 h;rw[eP h3];exact ZA hF H h4 h2
 case makeFunc fn first captured=>
  split at h
  . obtain⟨xs,h1,h2⟩:=dH h;obtain⟨ys,h3,h4⟩:=dH h2;obtain⟨us,g1,g2⟩:=rC hF h1;obtain⟨vs,g3,g4⟩:=rC hF h3;simp only;rw[rb g1,rb g3];exact aU.same hF H (.fn g2.1 g4.1 g2.2 g4.2) h4
  . exact h.elim
 case slice t x lo hi mx=>
  grind [eP,Za]
 case fieldAddr st x f=>
  obtain⟨fd,h1,h2⟩:=dH h;obtain⟨hck,h3⟩:=dc h2;obtain⟨sv,v,h4,h5,h6⟩:=same1 h3;rw[rb (x5 h1)];split at hck
  . rename_i n hn;rw[rb (show siz tab fd.type=_ from ro hn),rb (rc hck),eP h4];split at h6
    . cases h5 with
      |pure h=>cases h
      |ptr hI=>exact aU.same hF H (.ptr hI) h6
    . cases h5 with
      |pure h=>cases h
      |cF hI hc=>simp only[De];exact aU.same hF H (.cF hI hc) h6
    . cases h5 with
      | pure h=>cases h with
        |cz b base ca e sz ext bk u hb hl h1 h2'=>simp only[De];exact aU.same hF H (.pure (.cz b base ca e sz ext bk u hb hl h1 h2')) h6
    grind
  grind
 case field t x f=>
  obtain⟨fd,h1,h2⟩:=dH h;obtain⟨sv,v,h4,h5,h6⟩:=same1 h2;rw[rb (x5 h1),eP h4];grind [oB,dH,vQ,rb,aU.same]
 case indexAddr t x ix=>
  obtain⟨sj,vj,h1,h2,h3⟩:=same1 h;obtain⟨i,h4,h5⟩:=wh h3 h2;obtain⟨sv,v,h6,h7,h8⟩:=same1 h5;rw[eP h1,rb h4];split at h8
  . rename_i len e b off hg;split at h8
    . rename_i n hn;obtain⟨g1,g2⟩:=dc h8;rw[rb (show und tab t=_ from ro hg),eP h6]
      cases h7 with
      |pure h=>cases h
      |ptr hI=>simp only;rw[rb (rc g1),rb (show siz tab e=_ from ro hn)];exact aU.same hF H (.ptr hI) g2
    grind
  . rename_i e b off len cap hg;split at h8
    . rename_i n hn;obtain⟨g1,g2⟩:=dc h8;rw[rb (show und tab t=_ from ro hg),eP h6]
      cases h7 with
      |pure h=>cases h
      |sl hI=>simp only;rw[rb (rc g1),rb (show siz tab e=_ from ro hn)];exact aU.same hF H (.ptr hI) g2
    grind
  . rename_i e X L enc hg;split at h8
    . rename_i n hn;obtain⟨x,g1,g2⟩:=dH h8;obtain⟨g2,g3⟩:=dc g2;have g2:=Ag g2;have hi:=(Ae.1 g1).1;obtain⟨b,off,cap,cs,e',sz,ext,bk,rfl,hb,hs,hl,hsz,hc,hcell⟩:=zg (l3 h7 rfl) (by grind);obtain⟨sz0,ext0,hb,hx0⟩:=hb;have hszn:sz=n:=by rw[<-hsz i x g1];exact g2
      subst hszn;rw[rb (show und tab t=_ from ro hg),eP h6];simp only;rw[rb (rc (by simpa using hi)),rb (show siz tab e=_ from ro hn)];refine aU.same hF H (.pure ?_) g3;refine .cz b (off+i*sz) cs e' sz0 ext0 bk (fun j=>(cs[off+i*sz+j]?).getD (.bO [])) hb ?_ ?_ ?_
      . rw[g2];have:i*sz+sz<=L.length*sz:=by
         calc i*sz+sz=(i+1)*sz:=by rw[Bi,Dn]
          _<=L.length*sz:=A5 _ hi
        omega
      . intro j v hv;obtain⟨u,q1,_⟩:=hcell i x j v g1 hv;rw[q1];rfl
      . intro j v hv;obtain⟨u,q1,q2⟩:=hcell i x j v g1 hv;rw[q1];exact q2
    grind
  . rename_i e b hg;split at h8
    . rename_i n X L enc e' hn hb;obtain⟨g1,g2⟩:=dc h8;simp only[Ad]at g1;have hee:=Ag g1.1;subst hee;have hi:i<L.length:=by simpa using g1.2
      rw[rb (show und tab t=_ from ro hg),eP h6]
      cases h7 with
      |pure h=>cases h
      | eB hI hc=>
        obtain⟨_,_,_,_,k5⟩:=H.at_ hb hI;rw[hc]at k5;omega
      | own hI hc=>
        rename_i I c;obtain⟨k1,k2,k3,_,k5⟩:=H.at_ hb hI;have hsz:I.sz=n:=by rw[hn]at k1;grind
        simp only;rw[rb (rc (by rw[k3];simpa using hi)),rb (show siz tab e=_ from ro hn)];have hh:aQ C (.cF b i 0) (.ptr I.β (i*I.sz+0)):= .cF hI (by simp[hc]);rw[hsz,BC]at hh;rw[AA];exact aU.same hF H hh g2
    grind
  . exact h8.elim
 case index t x ix=>
  obtain⟨sj,vj,h1,h2,h3⟩:=same1 h;obtain⟨i,h4,h5⟩:=wh h3 h2;obtain⟨sv,v,h6,h7,h8⟩:=same1 h5;rw[eP h1,rb h4];split at h8
  . rename_i len e cs hg;split at h8
    . rename_i n hn;obtain⟨g1,g2⟩:=dc h8;obtain⟨su,g3,g4⟩:=dH g2;obtain⟨us,rfl,g5⟩:=oB h7;obtain⟨u,g6,g7⟩:=vQ g5 g3;rw[rb (show und tab t=_ from ro hg),eP h6];simp only;rw[rb (rc g1),rb (show siz tab e=_ from ro hn),rb g6];exact aU.same hF H g7 g4
    . exact h8.elim
  . rename_i c hg;obtain⟨b,g1,g2⟩:=dH h8;rw[rb (show und tab t=_ from ro hg),eP h6,iT h7];simp only;rw[rb (ro g1)];exact aU.same hF H (.pure (.int _ _)) g2
  . exact h8.elim
 case extract t i=>
  obtain⟨sv,v,h6,h7,h8⟩:=same1 h;rw[eP h6];split at h8
  . obtain⟨us,rfl,g5⟩:=zu h7;obtain⟨su,g3,g4⟩:=dH h8;obtain⟨u,g6,g7⟩:=g5.get g3;simp only;rw[rb (ro g6)];exact aU.same hF H g7 g4
  . exact h8.elim
 case call c=>
  split at h
  . rename_i b hb;obtain⟨l,h1,h2⟩:=dH h;obtain⟨vs,g1,g2⟩:=rC hF h1;rw[hb];simp only;rw[rb g1];exact VM hF H g2 h2
  . exact h.elim
 all_goals exact h.elim
end
end
section
universe u v
variable [Inhabited aK]
def wB (f:Nat->Option AO):Nat->T AO
 |0=> .e
 |n+1=>(wB f n).set n (f n)
theorem W9 (f:Nat->Option AO):∀n i,(wB f n).get i=if i<n then f i else none:=by
 intro n;induction n with
 |zero=>grind [wB,wV]
 |succ n ih=>
  grind [wB,T.bp]
def ofFn (next:Nat) (f:Nat->Option AO):AH:={t:=wB f next,next}
theorem ru (next:Nat) (f:Nat->Option AO) (i:Nat):(ofFn next f).get i=if i<next then f i else none:=W9 f next i
section
variable {P:Program} {tab:bC}
theorem eY.frame {fr:ak} {h h0:AH} {Θ:AV->AH->Prop} (hgo:eY P {fr,cs:=[],h:=h0} Θ) (hs:∀i o,h0.get i=some o->h.get i=some o) (hn:h0.next=h.next):
   eY P {fr,cs:=[],h} fun v h2=>∃h1,Θ v h1/\h2.next=h1.next/\h.next<=h1.next/\(∀i o,h1.get i=some o->i<h1.next)/\ ∀i o,h2.get i=some o↔(h1.get i=some o\/(h.get i=some o/\h0.get i=none/\h1.get i=none)):=by
 classical
 intro D E K base frC csC w hR hB;have hdom:∀i o,h.get i=some o->i<h.next:=(hR.all E (aw.refl _ _)).1.eG;have hd0:∀i o,h0.get i=some o->i<h0.next:=fun i o hi=>by rw[hn];grind
 have hRc:Rel D E (Am.Rest E h h0 K) {fr,cs:=[],h:=h0} base frC csC w:=by
   refine⟨fun E' he=>?_,fun i hi=>by rw[hn];exact hR.eG i hi,hR.wf⟩;obtain⟨g1,g2,g3⟩:=hR.all E' he;refine⟨?_,g2,g3⟩;rw[<-hR.fB he];exact g1.part hs hd0
 obtain⟨v,h1,hΘ,fr1,w',vC,E',D',s1,s2,s3,s4,s5,s6,s7,s8,s9,s10⟩:=hgo D E _ base frC csC w hRc hB.rest;simp only at s9;have hdom1:=(s4 E' (aw.refl _ _)).1.eG;let h2:AH:=ofFn h1.next fun i=>match h1.get i with
   |some o=>some o
   |none=>if(h0.get i).isNone then h.get i else none
 have hg2:∀i o,h2.get i=some o↔(h1.get i=some o\/(h.get i=some o/\h0.get i=none/\h1.get i=none)):=by
   intro i o;simp only[h2,ru];constructor
   . intro hh;split at hh
     . split at hh
       all_goals simp_all
     grind
   grind
 refine⟨v,h2,⟨h1,hΘ,rfl,by omega,hdom1,hg2⟩,fr1,w',vC,E',D',s1,s2,s3,?_,s5,s6,s7,s8.part,by rw[<-hn];exact s9,fun i hi=>by grind⟩;intro E'' he';obtain⟨g1,g2⟩:=s4 E'' he';have hag:=s5.trans he' s6;obtain⟨k1,k2,k3⟩:=hR.all E'' hag;refine⟨k1.join (by rw[hR.fB hag];exact g1) (by rw[hR.fB hag];exact s8) (fun i o hi=>((hg2 i o).1 hi).imp id (fun x=>⟨x.1,x.2.1⟩)) (fun i o hi=>?_),g2⟩;rcases(hg2 i o).1 hi with g|⟨g,_,_⟩
 . exact g1.eG i o g
 . have:=hdom i o g;show i<h1.next
   omega
def jq (tab:bC) (C0:Cx) (h0:SH) (a0:AH) (Q:SV->St->Prop) (v:AV) (a':AH):Prop:=
 ∃sv s' C',Q sv s'/\aQ C' sv v/\HS tab C' s'.h a'/\Tr C0 s'.log C'/\Grow a0 a'/\dv C0 h0 a0 s'.log C' s'.h a'
def cI (P:Program) (tab:bC) (g:FuncId) (C:aL):Prop:=
 ∀ fn body,tab.fns.get g=some fn->fn.body=some body->∀y,C.pre y->∀(Fz:Nat->Option AO) (a:AH) (avs:List AV),(∀i o,Fz i=some o->a.get i=some o)->(∀i o,a.get i=some o->i<a.next)->
  (C.args y).length=avs.length->(∀(i:Nat) s v,(C.args y)[i]? =some s->avs[i]? =some v->aT Fz s v)->
  eY P {fr:=ak.enter fn g body avs .normal,cs:=[],h:=a} fun v a'=>∃Fz':Nat->Option AO,(∀i o,Fz i=some o->Fz' i=some o)/\(∀i o,Fz' i=some o->a'.get i=some o)/\aT Fz' (C.res y) v/\Grow a a'/\
   (∀i o,a.get i=some o->a'.get i=some o)/\(∀i o,a'.get i=some o->i<a'.next)/\ ∀i o,Fz' i=some o->Fz i=some o\/a.next<=i
theorem cI.of {g:FuncId} {C:aL} (h:∀fn body,tab.fns.get g=some fn->fn.body=some body->∀y,C.pre y->∀(C0:Cx) (a:AH) (avs:List AV),C0.ρ=(fun _=>none)->HS tab C0 ⟨0,[]⟩ a->
     (C.args y).length=avs.length->(∀(i:Nat) s v,(C.args y)[i]? =some s->avs[i]? =some v->aT C0.Fz s v)->eY P {fr:=ak.enter fn g body avs .normal,cs:=[],h:=a} (jq tab C0 ⟨0,[]⟩ a fun v s=>
       (∀(C':Cx) (a':AH) (av:AV),HS tab C' s.h a'->aQ C' v av->∃Fz':Nat->Option AO,(∀i o,C'.Fz i=some o->Fz' i=some o)/\(∀i o,Fz' i=some o->a'.get i=some o)/\aT Fz' (C.res y) av))):cI P tab g C:=by
 intro fn body hfn hb y hy Fz a avs hfz hwf hlen hav;let h0:AH:=ofFn a.next Fz
 have hg0:∀i,h0.get i=Fz i:=by
   intro i;simp only[h0,ru];split
   . rfl
   . cases hz:Fz i with
     |none=>rfl
     |some o=>grind
 let C0:Cx:=⟨fun _=>none,Fz⟩
 have H0:HS tab C0 ⟨0,[]⟩ h0:=by
   refine⟨fun p o hp=>by grind [SH.get,look],fun p q o o' I J hp=>by grind,fun i o hi=>by rw[hg0];exact hi,fun p o I hp=>by grind,fun p I hp=>by grind,fun i o hi=>?_⟩;rw[hg0]at hi;exact hwf i o (hfz i o hi)
 have:=h fn body hfn hb y hy C0 h0 avs rfl H0 hlen hav;refine(this.frame (h:=a) (fun i o hi=>by rw[hg0]at hi;grind) rfl).mono ?_;rintro v a2 ⟨a1,⟨sv,s',C',hQ,hsv,hH,hT,hG,_⟩,hn,hle,hw1,hg2⟩;obtain⟨Fz',f1,f2,f3⟩:=hQ C' a1 v hH hsv;refine⟨Fz',fun i o hi=>f1 i o (hT.fz i o hi),fun i o hi=>(hg2 i o).2 (.inl (f2 i o hi)),f3,⟨by rw[hn];omega,fun i o hi=>?_⟩,fun i o hi=>?_,fun i o hi=>?_,fun i o hi=>?_⟩
 . rcases(hg2 i o).1 hi with g|⟨g,_,_⟩
   . rcases hG.old i o g with⟨o0,g1⟩|g1
     . rw[hg0]at g1;grind
     . exact .inr g1
   grind
 . cases hz:Fz i with
   | some o'=>
     have:=hfz i o' hz;rw[hi]at this;cases this;exact(hg2 i o).2 (.inl (f2 i o (f1 i o (hT.fz i o hz))))
   | none=>
     refine(hg2 i o).2 (.inr ⟨hi,by rw[hg0];exact hz,?_⟩)
     cases hz1:a1.get i with
     |none=>rfl
     | some o1=>
       rcases hG.old i o1 hz1 with⟨o0,g1⟩|g1
       . rw[hg0,hz]at g1;cases g1
       . have:=hwf i o hi;have e:h0.next=a.next:=rfl;omega
 . grind
 . have h3:=f2 i o hi;rcases hG.old i o h3 with⟨o0,g1⟩|g1
   . rw[hg0]at g1;have:=f1 i o0 (hT.fz i o0 g1);rw[hi]at this;grind
   . exact .inr g1
end
end
section
universe u v
variable [Inhabited aK]
def PL (Fz:Nat->Option AO) (fs:List SV) (vs:List AV):Prop:=fs.length=vs.length/\ ∀(i:Nat) f v,fs[i]? =some f->vs[i]? =some v->aT Fz f v
theorem PL.nil {Fz:Nat->Option AO}:PL Fz [] []:=⟨rfl,fun i f v h=>by grind⟩
theorem PL.cons {Fz:Nat->Option AO} {f:SV} {v:AV} {fs:List SV} {vs:List AV} (h:aT Fz f v) (t:PL Fz fs vs):PL Fz (f::fs) (v::vs):=by
 refine⟨by simp[t.1],fun i a b ha hb=>?_⟩
 cases i with
 |zero=>grind
 |succ i=>exact t.2 i a b (by grind) (by grind)
theorem PL.split {Fz:Nat->Option AO} {xs fs:List SV} {us vs:List AV} (h:PL Fz (xs++fs) (us++vs)) (hl:xs.length=us.length):PL Fz xs us/\PL Fz fs vs:=by
 refine⟨⟨hl,fun i f v hf hv=>h.2 i f v ?_ ?_⟩,⟨?_,fun i f v hf hv=>h.2 (xs.length+i) f v ?_ ?_⟩⟩
 . rw[AS (Ae.1 hf).1];exact hf
 . rw[AS (Ae.1 hv).1];exact hv
 . have:=h.1;grind
 all_goals grind
theorem PF {X X':Type} {L:List X} {L':List X'} {enc:X->List SV} {enc':X'->List SV} {Fz:Nat->Option AO} {v:AV} (h:SV.bn X' L' enc'=SV.bn X L enc) (hv:aT Fz (.bn X' L' enc') v):aT Fz (.bn X L enc) v:=h▸hv
section
variable {P:Program} {tab:bC} {cfg:iM} {ta:T AV} {a:AH}
theorem Tl {C:Cx} {s:St} (hF:FS C s.ts ta) (H:HS tab C s.h a) {d:Nat} {o0:SO} (hd:s.h.get d=some o0):∃C',((s.ev (.kill d)).del d).log=s.log++[.kill d]/\Tr C [.kill d] C'/\HS tab C' ((s.ev (.kill d)).del d).h a/\FS C' ((s.ev (.kill d)).del d).ts ta/\
   dS C s.h a C' ((s.ev (.kill d)).del d).h/\dE C (.kill d) C'/\ ∀I,C.ρ d=some I->I.cap.isSome->C'.Fz I.β=a.get I.β:=by
 obtain⟨ts,⟨n,os⟩,log⟩:=s;obtain⟨I,hI,ho⟩:=H.obj d _ hd;obtain⟨C',hT,H',hfb,hρ⟩:=H.freeze (e:= .kill d) hd hI (fun C' h1 h2 _=>Xv C' h1 h2);refine⟨C',rfl,hT.tr,H',hF.turns hT,?_,hT,fun J hJ hc=>by rw[hI]at hJ;grind⟩;intro p o J hp hJ hc;by_cases e:p=d
 . subst e;rw[hI]at hJ;cases hJ;obtain⟨b,hb⟩:=(H.at_ hp hI).live hc;grind
 simp_all[St.ev,St.del,SH.bp,tx]
theorem GD (htab:cfg.tab=tab):∀(n:Nat) (fs as1:List SV) (vs:List AV) (s:St) (C:Cx) (K:St->Prop),ee cfg n fs as1 s K->bc C as1 vs->FS C s.ts ta->HS tab C s.h a->
  ∃C' new s',s'.log=s.log++new/\Tr C new C'/\HS tab C' s'.h a/\FS C' s'.ts ta/\dS C s.h a C' s'.h/\K s'/\PL C'.Fz fs vs:=by
 intro n;induction n with
 |zero=>intro fs as1 vs s C K h;exact h.elim
 | succ n ih =>
  intro fs as1 vs s C K h hs0 hF H;have lift:∀{f:SV} {fs:List SV} {a0:SV} {as1:List SV} {v:AV} {vs:List AV},ee cfg n fs as1 s K->bc C as1 vs->(∀Fz':Nat->Option AO,(∀i o,C.Fz i=some o->Fz' i=some o)->aT Fz' f v)->
    ∃C' new s',s'.log=s.log++new/\Tr C new C'/\HS tab C' s'.h a/\FS C' s'.ts ta/\dS C s.h a C' s'.h/\K s'/\PL C'.Fz (f::fs) (v::vs):=by
   intro f fs a0 as1 v vs h hs hv;obtain⟨C',new,s',g1,g2,g3,g4,g5,g6,g7⟩:=ih fs as1 vs s C K h hs hF H;exact⟨C',new,s',g1,g2,g3,g4,g5,g6,PL.cons (hv _ g2.fz) g7⟩
  have liftP:∀{f:SV} {fs:List SV} {as1:List SV} {v:AV} {vs:List AV},ee cfg n fs as1 s K->bc C as1 vs->aT C.Fz f v->
    ∃C' new s',s'.log=s.log++new/\Tr C new C'/\HS tab C' s'.h a/\FS C' s'.ts ta/\dS C s.h a C' s'.h/\K s'/\PL C'.Fz (f::fs) (v::vs):=fun h hs hv=>lift (a0:= .any) h hs (fun Fz' hf=>hv.mono hf)
  cases fs with
  | nil=>
   cases as1 with
   |nil=>
    cases vs with
    |nil=>exact⟨C,[],s,by simp,Tr.refl C,H,hF,dS.refl _ _ _,h,PL.nil⟩
    |cons=>have:=hs0.1;grind
   |cons=>grind [ee]
  | cons f fs=>
   cases as1 with
   |nil=>grind [ee]
   | cons x as1=>
    cases vs with
    |nil=>have:=hs0.1;grind
    | cons v vs=>
     obtain⟨hx,hs⟩:=hs0.head;simp only[ee]at h;split at h
     . exact liftP h hs (.any _)
     . obtain⟨rfl,h⟩:=h;rw[po hx];exact liftP h hs (.bool _)
     . obtain⟨h1,h2,h3⟩:=dc h;have h1:=AN h1;subst h1;rw[jT hx,h2];exact liftP h3 hs (.int _ _)
     . obtain⟨rfl,h⟩:=h;rw[iT hx];exact liftP h hs (.str _)
     . exact liftP h hs (l3 hx rfl)
     . obtain⟨rfl,h⟩:=h;exact liftP h hs (l3 hx rfl)
     . exact liftP h hs (l3 hx rfl)
     . exact liftP h hs (l3 hx rfl)
     . exact liftP h hs (l3 hx rfl)
     . obtain⟨h1,h⟩:=h;exact liftP h hs (PF h1 (l3 hx rfl))
     . obtain⟨rfl,h⟩:=h;rw[pt hx];exact liftP h hs (.ch rfl (.inl rfl))
     . rename_i X L enc b;split at h
       . rename_i X' L' enc' t hb;obtain⟨h1,h⟩:=h;obtain⟨C1,e1,e2,e3,e4,e5,e6⟩:=tY hF H hb;have hs1:bc C1 (fW (.fj b X' L' enc') as1) vs:=by
           rw[pA];refine⟨by simp[hs.1],fun i q w hq hw=>?_⟩;rw[AI]at hq;obtain⟨q0,hq0,rfl⟩:=AR.1 hq;exact e2.val q0 w (hs.2 i q0 w hq0 hw)
         obtain⟨C',new,s',g1,g2,g3,g4,g5,g6,g7⟩:=ih fs _ vs _ C1 K h hs1 e4 e3;exact⟨C',_,s',by rw[g1,e1,BP],e2.trans g2,g3,g4,e6.trans g5 g2.fz,g6,PL.cons ((PF h1 (e5 v hx)).mono g2.fz) g7⟩
       grind
     . rename_i X L enc b off m c;split at h
       . rename_i cs e hb;split at h
         . rename_i r hr;rw[htab]at hr;obtain⟨hck,h⟩:=dc h;simp only[Ad,A2]at hck;obtain⟨⟨⟨hr0,hmc⟩,hle⟩,hpu⟩:=hck;have hr0:r≠0:=fun e=>by simp_all
           have hmc:=Ak hmc;have hle:=Ak hle;obtain⟨h1,h⟩:=h;obtain⟨C1,e1,e2,e3,e4,e5,e6,e7⟩:=Tl hF H hb;have hs1:bc C1 (fW (.kill b) as1) vs:=hs.turns e6;obtain⟨C',new,s',g1,g2,g3,g4,g5,g6,g7⟩:=ih fs _ vs _ C1 K h hs1 e4 e3;refine⟨C',_,s',by rw[g1,e1,BP],e2.trans g2,g3,g4,e5.trans g5 g2.fz,g6,PL.cons ?_ g7⟩
           cases hx with
           |pure hx=>cases hx
           | sl hI=>
            rename_i I;obtain⟨hcap,ca,sz,k1,k2,k3⟩:=H.at_ hb hI;have hszr:r=sz:=by rw[hr]at k3;grind
            subst hszr;have hfz:=e7 I hI hcap;rw[k1]at hfz;have hLm:L.length=m:=by
             have:=Aj List.length h1;rw[vw]at this;grind
            have hsub:=(k2.drop off).take (m*r);have hT:Told C.Fz X L enc r ((ca.drop off).take (m*r)):=E7 hr0 hsub (by simp;omega) hpu hLm (fun i x q hx hq=>by
             rw[h1,AI,hx]at hq;grind)
            subst hLm;refine aT.mono g2.fz (zf I.β off _ ca e _ false .rw _ rfl (.of hfz) (by omega) (by rw[<-k2.1];omega) hT.each hmc ?_);intro i x j w hx hw;obtain⟨u,q1,q2⟩:=hT.cell i x j w hx hw;refine⟨u,?_,q2.mono e2.fz⟩;rw[A3]at q1;simp_all[De]
         grind
       grind
     . obtain⟨h1,h⟩:=dc h;have h1:=Ag h1;obtain⟨us,rfl,hu⟩:=oB hx;obtain⟨C',new,s',g1,g2,g3,g4,g5,g6,g7⟩:=ih _ _ (us++vs) s C K h (hu.append hs) hF H;obtain⟨q1,q2⟩:=g7.split (h1.trans hu.1);exact⟨C',new,s',g1,g2,g3,g4,g5,g6,PL.cons (.agg q1.1 q1.2) q2⟩
     . rename_i f xs us g ys ws;obtain⟨h1,h'⟩:=dc h;clear h;have h:=h';simp only[Ad]at h1;obtain⟨⟨h0,h1⟩,h2⟩:=h1;have h0:=Ag h0;have h1:=Ag h1;have h2:=Ag h2;subst h0;have hfn:∃y' w',v= .fn (.func f) y' w'/\bc C ys y'/\bc C ws w':=by
         cases hx with
         | pure hx=>cases hx with
           |fn k1 k2 k3 k4=>exact⟨_,_,rfl,⟨k1,fun i q r a b=> .pure (k3 i q r a b)⟩,⟨k2,fun i q r a b=> .pure (k4 i q r a b)⟩⟩
         |fn k1 k2 k3 k4=>exact⟨_,_,rfl,⟨k1,k3⟩,⟨k2,k4⟩⟩
       obtain⟨y',w',rfl,k1,k2⟩:=hfn;obtain⟨C',new,s',g1,g2,g3,g4,g5,g6,g7⟩:=ih _ _ (y'++(w'++vs)) s C K h (k1.append (k2.append hs)) hF H;obtain⟨q1,q2⟩:=g7.split (h1.trans k1.1);obtain⟨q2,q3⟩:=q2.split (h2.trans k2.1);exact⟨C',new,s',g1,g2,g3,g4,g5,g6,PL.cons (.fn q1.1 q2.1 q1.2 q2.2) q3⟩
     grind
end
end
section
universe u v
variable [Inhabited aK]
theorem om {α:Type u}:∀{l:List α} {K:List α->Prop},kI l K->K l:=by
 intro l;induction l with
 |nil=>intro K h;exact h
 |cons x l ih=>intro K h;exact ih (K:=fun l'=>K (x::l')) h
theorem XJ {v:SV} {K:SV->Prop} (h:He v K):K v:=by
 cases v<;>simp only[He]at h<;>first|exact h|exact om h|grind [om]
theorem XI {o:SO} {K:SO->Prop} (h:PB o K):K o:=by
 cases o with
 |cells cs t=>exact om (K:=fun cs=>K (.cells cs t)) h
 |arr X L enc t=>exact h
theorem Mu {h:SH} {K:SH->Prop} (hh:wy h K):K h:=by
 obtain⟨n,os⟩:=h;simp only[wy]at hh;grind [XI]
theorem xP {α:Type}:∀{t:T α} {K:T α->Prop},pw t K->K t:=by
 intro t;induction t with
 |e=>intro K h;exact h
 |n v l r ihl ihr=>
  grind [pw]
section
variable {P:Program} {tab:bC} {cfg:iM} {rec:SM->(SV->St->Prop)->Prop} {C:Cx} {s:St} {ta:T AV} {a:AH}
def pC (P:Program) (tab:bC) (rec:SM->(SV->St->Prop)->Prop):Prop:=
 ∀(f:FuncId) (fn:Func) (body:Code) (args:List SV) (h:SH) (a:AH) (C:Cx) (avs:List AV) (Q:SV->St->Prop),tab.fns.get f=some fn->fn.body=some body->
  rec ⟨f,Nat.max fn.ntmps args.length,h.next,[.code body],⟨Fr.of args 0,h,[]⟩⟩ Q->HS tab C h a->bc C args avs->eY P {fr:=ak.enter fn f body avs .normal,cs:=[],h:=a} (jq tab C h a Q)
theorem ZJ (htab:cfg.tab=tab) (hrec:pC P tab rec) (hcon:∀g C,cfg.ia g=some C->cI P tab g C) {f:FuncId} {args:List SV} {avs:List AV} {K:SV->St->Prop} (h:Hz cfg rec f args s K) (hF:FS C s.ts ta) (H:HS tab C s.h a) (hs:bc C args avs):
   ∃fn body,tab.fns.get f=some fn/\fn.body=some body/\eY P {fr:=ak.enter fn f body avs .normal,cs:=[],h:=a} fun v a'=>a.next<=a'.next/\ ∃sv s',K sv s'/\qg tab C s ta a sv s' v a':=by
 unfold Hz at h;rw[htab]at h;split at h
 . rename_i fn hfn;split at h
   . rename_i body hb;refine⟨fn,body,hfn,hb,?_⟩;split at h
     . rename_i Cn hCn;obtain⟨y,h⟩:=h;obtain⟨C1,new,s1,g1,g2,g3,g4,g5,⟨hpre,hk⟩,g7⟩:=GD htab 1000 _ _ _ _ _ _ h hs hF H;refine(hcon f Cn hCn fn body hfn hb y hpre C1.Fz a avs g3.fz g3.wf g7.1 g7.2).mono ?_;rintro v a' ⟨Fz',f1,f2,f3,f4,f5,f6,f7⟩;refine⟨f4.next,_,s1,hk,⟨⟨C1.ρ,Fz'⟩,new,g1,?_, .pure f3,?_,?_,?_⟩,f4⟩
       . have hle:C1.le ⟨C1.ρ,Fz'⟩:=⟨fun _ _ h=>h,f1⟩;have:=g2.trans hle.tr;grind
       . have hle:C1.le ⟨C1.ρ,Fz'⟩:=⟨fun _ _ h=>h,f1⟩;refine⟨fun p o hp=>?_,g3.inj,f2,fun p o I hp hI hc=>?_,g3.lt,f6⟩
         . obtain⟨I,hI,ho⟩:=g3.obj p o hp;refine⟨I,hI,?_⟩;have ho':=ho.le hle;by_cases hc:I.cap.isSome
           . obtain⟨b,hb'⟩:=ho.live hc;exact ho'.congr ((f5 _ _ hb').trans hb'.symm)
           . cases o with
             |cells cs t=>exact absurd ho.1 hc
             | arr X L enc t=>
               obtain⟨q1,q2,q3,q4,q5⟩:=ho';refine⟨q1,q2,q3,q4,?_⟩;grind
         . show Fz' I.β=none
           cases hz:Fz' I.β with
           |none=>rfl
           | some b=>
             rcases f7 _ _ hz with hz1|hz1
             . have:=g3.dj p o I hp hI hc;rw[hz1]at this;omega
             . obtain⟨b',hb'⟩:=(g3.at_ hp hI).live hc;have:=g3.wf _ _ hb';omega
       . have hle:C1.le ⟨C1.ρ,Fz'⟩:=⟨fun _ _ h=>h,f1⟩;grind [FS.le]
       . intro p o I hp hI hc _;obtain⟨b,hb'⟩:=(H.at_ hp hI).live hc;refine⟨by rw[hb'];grind,?_⟩;rcases g5 p o I hp hI hc with h1|⟨b,_,h2⟩
         all_goals grind
     . obtain⟨ts,hh,log⟩:=s;refine(hrec f fn body args hh a C avs _ hfn hb h H hs).mono ?_;rintro v a' ⟨sv,s',C',hk,q1,q2,q3,q4,q5⟩;obtain⟨ts',h',log'⟩:=s';exact⟨q4.next,sv,_,hk,⟨C',log',rfl,q3,q1,q2,hF.log q3,q5⟩,q4⟩
   grind
 grind
theorem NK (htab:cfg.tab=tab) (hrec:pC P tab rec) (hcon:∀g C,cfg.ia g=some C->cI P tab g C) {o:Oper} {K:SV->St->Prop} (h:zS cfg rec s o K) (hF:FS C s.ts ta) (H:HS tab C s.h a):
   iN P tab ta a o fun v a'=>∃sv s',K sv s'/\qg tab C s ta a sv s' v a':=by
 have hsop:mO cfg.tab cfg.view s o K->iN P tab ta a o fun v a'=>∃sv s',K sv s'/\qg tab C s ta a sv s' v a':=by
   intro h;rw[htab]at h;obtain⟨sv,s',v,a',h1,h2,h3⟩:=RI hF H h;exact .inl ⟨v,a',h2,h3.grow.next,sv,s',h1,h3⟩
 unfold zS at h;split at h
 . rename_i c hc;split at h
   . rename_i f hf;obtain⟨args,h1,h2⟩:=dH h;obtain⟨sf,h3,h4⟩:=dH h2;obtain⟨avs,g1,g2⟩:=rC hF h1;obtain⟨vf,g3,g4⟩:=mI hF h3;split at h4
     . rename_i g first captured;have hfn:∃us ws,vf= .fn (.func g) us ws/\bc C first us/\bc C captured ws:=by
        cases g4 with
        |pure hx=>cases hx with
         |fn k1 k2 k3 k4=>exact⟨_,_,rfl,⟨k1,fun i q r a b=> .pure (k3 i q r a b)⟩,⟨k2,fun i q r a b=> .pure (k4 i q r a b)⟩⟩
        |fn k1 k2 k3 k4=>exact⟨_,_,rfl,⟨k1,k3⟩,⟨k2,k4⟩⟩
       obtain⟨us,ws,rfl,k1,k2⟩:=hfn;obtain⟨fn,body,q1,q2,q3⟩:=ZJ htab hrec hcon h4 hF H ((k1.append g2).append k2);exact .inr ⟨c,f,g,us,ws,avs,fn,body,hc,hf,g3,g1,q1,q2,q3⟩
     grind
   grind
 grind
theorem Fq {ops:Array Oper} {o:Oper} {K:Bool->St->Prop} (h:wz ops o s K) (hF:FS C s.ts ta):∃b s',K b s'/\wanted ops o ta= .ok b/\FS C s'.ts ta/\s'.h=s.h/\s'.log=s.log:=by
 unfold wz at h;unfold wanted;split at h
 . grind
 . rename_i j w hg;rw[hg];simp only;obtain⟨ts,hh,log⟩:=s;split at h
   . rename_i d hd;simp only at h;rw[hd];simp only[DB];have lit:∀p:Bool,look ts d=some (.bool p)->ta.get d=some (.bool p):=by
       intro p hp;have h1:=hF d _ hp;have h2:=po h1
       cases hg:ta.get d with
       |none=>rw[hg]at h2;grind
       |some v=>rw[hg]at h2;grind
     have putb:∀p:Bool,ta.get d=some (.bool p)->FS C ((d, .bool p)::ts) ta:=by
       intro p hp t q hq;rw[kU]at hq;split at hq
       . rename_i e
         cases hq;rw[e,hp];exact .pure (.bool p)
       . exact hF t q hq
     split at h
     . rename_i p hp;have hta:=lit p hp;rw[hta];rcases zG h with⟨rfl,h⟩|⟨rfl,h⟩
       . exact⟨w,_,h,by cases w<;>rfl,putb true hta,rfl,rfl⟩
       . exact⟨!w,_,h,by cases w<;>rfl,putb false hta,rfl,rfl⟩
     . rename_i cs hp;have h1:=hF d _ hp;grind [zu]
     grind
   grind
def ik (nt:Nat) (ta:T AV) (d:Option Tmp) (v:AV):T AV:=match d with|some d=>bif Nat.blt d nt then ta.set d (some v)else ta|none=>ta
theorem tA {nt:Nat} {d:Option Tmp} {sv:SV} {v:AV} {K:St->Prop} (h:jR nt s d sv K) (hF:FS C s.ts ta) (hv:aQ C sv v):
  ∃s',K s'/\FS C s'.ts (ik nt ta d v)/\s'.h=s.h/\s'.log=s.log:=by
 obtain⟨ts,hh,log⟩:=s;unfold jR at h
 cases d with
 |none=>exact⟨_,Mu (K:=fun h=>K ⟨ts,h,log⟩) h,hF,rfl,rfl⟩
 |some d=>
  simp only[ik]at h⊢
  cases hb:Nat.blt d nt
  . rw[hb]at h;grind
  . rw[hb]at h;have h:=Mu (K:=fun h=>K ⟨(d,sv)::ts,h,log⟩) (XJ (K:=fun v=>wy hh fun h=>K ⟨(d,v)::ts,h,log⟩) h);exact⟨_,h,hF.put hv,rfl,rfl⟩
end
end
section
universe u v
variable [Inhabited aK]
mutual
theorem Ko (e:Ev):∀(s:SV) (n:Nat),s.lt n=true->n<=e.id->s.on e=s
 | .bool b,n,_,_=>by simp[SV.on]
 | .int k m,n,_,_=>by simp[SV.on]
 | .str s,n,_,_=>by simp[SV.on]
 | .bq,n,_,_=>by simp[SV.on]
 | .wp _,n,_,_=>by simp[SV.on]
 | .ptr b off,n,h,he=>by
  simp only[SV.lt,B6]at h
  cases e<;>simp only[SV.on,Ev.id]at* <;>first|rfl|(rw[gJ (by omega)];rfl)
 | .cF b i off,n,h,he=>by
  simp only[SV.lt,B6]at h
  cases e<;>simp only[SV.on,Ev.id]at* <;>first|rfl|(rw[gJ (by omega)];rfl)
 | .cz cs off,n,_,_=>by simp[SV.on]
 | .nils,n,_,_=>by simp[SV.on]
 | .sl b off l c,n,h,he=>by
  simp only[SV.lt,B6]at h
  cases e<;>simp only[SV.on,Ev.id]at* <;>first|rfl|(rw[gJ (by omega)];rfl)
 | .own b,n,h,he=>by
  simp only[SV.lt,B6]at h
  cases e<;>simp only[SV.on,Ev.id]at* <;>first|rfl|(rw[gJ (by omega)];rfl)
 | .bn X L enc,n,_,_=>by simp[SV.on]
 | .bP,n,_,_=>by simp[SV.on]
 | .map b,n,_,_=>by simp[SV.on]
 | .bR,n,_,_=>by simp[SV.on]
 | .fn f xs ys,n,h,he=>by
  simp only[SV.lt,Ad]at h;simp only[SV.on,wT e xs n h.1 he,wT e ys n h.2 he]
 | .agg cs,n,h,he=>by
  simp only[SV.lt]at h;simp only[SV.on,wT e cs n h he]
 | .bO cs,n,h,he=>by
  simp only[SV.lt]at h;simp only[SV.on,wT e cs n h he]
 | .any,n,_,_=>by simp[SV.on]
theorem wT (e:Ev):∀(l:List SV) (n:Nat),mN n l=true->n<=e.id->fW e l=l
 |[],n,_,_=>by simp[fW]
 |v::l,n,h,he=>by
  simp only[mN,Ad]at h;simp only[fW,Ko e v n h.1 he,wT e l n h.2 he]
end
theorem Ow:∀(log:List Ev) (s:SV) (n:Nat),s.lt n=true->(∀e∈log,n<=e.id)->jG log s=s:=by
 intro log;induction log with
 |nil=>intro s n _ _;rfl
 |cons e l ih=>
  grind [jG,Ko]
theorem eA {n:Nat}:∀{l:List SV},mN n l=true↔∀s∈l,s.lt n=true:=by
 intro l;induction l with
 |nil=>simp[mN]
 |cons v l ih=>grind [mN]
theorem yV {n:Nat} {l:List SV} (h:mN n l=true) {i:Nat} {s:SV} (hs:l[i]? =some s):s.lt n=true:=eA.1 h s (BA hs)
open Classical in
noncomputable def Cx.cut (C:Cx) (n:Nat):Cx:={C with ρ:=fun p=>if p<n then C.ρ p else none}
theorem oh (C:Cx) {n p:Nat} (h:p<n):(C.cut n).ρ p=C.ρ p:=by grind [Cx.cut]
theorem aQ.cut {C:Cx} {n:Nat} {s:SV} {v:AV} (h:aQ C s v) (hl:s.lt n=true):aQ (C.cut n) s v:=by
 induction h with
 |pure h=>exact .pure h
 |ptr h=>grind [SV.lt,Nat.blt_eq,ptr,oh]
 |cF h hc=>grind [SV.lt,Nat.blt_eq,cF,oh]
 |eB h hc=>grind [SV.lt,Nat.blt_eq,eB,oh]
 |own h hc=>grind [SV.lt,Nat.blt_eq,own,oh]
 |sl h=>grind [SV.lt,Nat.blt_eq,sl,oh]
 |fn h1 h2 _ _ ih3 ih4=>
  grind [SV.lt,fn,yV]
 |agg h1 _ ih=>grind [SV.lt,agg,yV]
 |bO h1 _ ih=>grind [SV.lt,bO,yV]
theorem aT.low {Fz:Nat->Option AO} {n:Nat} {s:SV} {v:AV} (h:aT Fz s v):s.lt n=true:=by
 induction h with
 |fn h1 h2 _ _ ih3 ih4=>
  simp only[SV.lt,Ad];constructor
  . rw[eA];intro s hs;obtain⟨i,hi⟩:=Bd.1 hs;exact ih3 i s _ hi (Ai (by rw[<-h1];grind))
  . rw[eA];intro s hs;obtain⟨i,hi⟩:=Bd.1 hs;exact ih4 i s _ hi (Ai (by rw[<-h2];grind))
 |agg h1 _ ih=>
  simp only[SV.lt];rw[eA];intro s hs;obtain⟨i,hi⟩:=Bd.1 hs;exact ih i s _ hi (Ai (by rw[<-h1];grind))
 |bO h1 _ ih=>
  simp only[SV.lt];rw[eA];intro s hs;obtain⟨i,hi⟩:=Bd.1 hs;exact ih i s _ hi (Ai (by rw[<-h1];grind))
 |_=>rfl
theorem aQ.low {C:Cx} {n:Nat} (hC:∀p I,C.ρ p=some I->p<n) {s:SV} {v:AV} (h:aQ C s v):s.lt n=true:=by
 induction h with
 |pure h=>exact h.low
 |ptr h=>simp_all[SV.lt]
 |cF h hc=>simp_all[SV.lt]
 |eB h hc=>simp_all[SV.lt]
 |own h hc=>simp_all[SV.lt]
 |sl h=>simp_all[SV.lt]
 |fn h1 h2 _ _ ih3 ih4=>
  simp only[SV.lt,Ad];constructor
  . rw[eA];intro s hs;obtain⟨i,hi⟩:=Bd.1 hs;exact ih3 i s _ hi (Ai (by rw[<-h1];grind))
  . rw[eA];intro s hs;obtain⟨i,hi⟩:=Bd.1 hs;exact ih4 i s _ hi (Ai (by rw[<-h2];grind))
 |agg h1 _ ih=>
  simp only[SV.lt];rw[eA];intro s hs;obtain⟨i,hi⟩:=Bd.1 hs;exact ih i s _ hi (Ai (by rw[<-h1];grind))
 |bO h1 _ ih=>
  simp only[SV.lt];rw[eA];intro s hs;obtain⟨i,hi⟩:=Bd.1 hs;exact ih i s _ hi (Ai (by rw[<-h1];grind))
section
variable {P:Program} {tab:bC} {cfg:iM}
structure jn (fr:ak) (fn:FuncId) (nt:Nat):Prop where
 fn:fr.fn=fn
 nt:fr.nt=nt
 mode:fr.mode= .run
 defers:fr.defers=[]
 kind:fr.kind= .normal
 round:fr.round=none
theorem jn.todo {fr:ak} {fn:FuncId} {nt:Nat} (h:jn fr fn nt) (ts:T AV) (k:List bU):jn {fr with tmps:=ts,todo:=k} fn nt:=⟨h.fn,h.nt,h.mode,h.defers,h.kind,h.round⟩
def SI (tab:bC) (C0:Cx) (h0:SH) (a0:AH) (ta:T AV) (a:AH) (s:St):Prop:=∃C,FS C s.ts ta/\HS tab C s.h a/\Tr C0 s.log C/\Grow a0 a/\dv C0 h0 a0 s.log C s.h a
inductive TS (HO:(Fr->SH->List Ev->Prop)->Code->List bU->Prop):List eK->List bU->Prop
 |nil:TS HO [] []
 |code {k:List eK} {k':List bU} (c:Code) (h:TS HO k k'):TS HO (.code c::k) (.code c::k')
 |inBlock {k:List eK} {k':List bU} (id:Nat) (h:TS HO k k'):TS HO (.inBlock id::k) (.inBlock id::k')
 |inLoop {k:List eK} {k':List bU} (b:Code) (h:TS HO k k'):TS HO (.inLoop b::k) (.inLoop b::k')
 |inScope {k:List eK} {k':List bU} (b:Code) (h:TS HO k k'):TS HO (.inScope b::k) (.inScope b::k')
 |inRegion {k:List eK} {k':List bU} (ops:Array Oper) (l:List Nat) (h:TS HO k k'):TS HO (.inRegion ops l::k) (.inRegion ops l::k')
 |head {k:List eK} {k':List bU} (jd:Fr->SH->List Ev->Prop) (b:Code) (h:TS HO k k') (ho:HO jd b k'):TS HO (.head jd::k) (.inLoop b::k')
theorem TS.exit {HO:(Fr->SH->List Ev->Prop)->Code->List bU->Prop} {id:Nat}:∀{k:List eK} {k':List bU} {k1:List eK},TS HO k k'->oK id k=some k1->∃k1',Am.exitTo id k'=some k1'/\TS HO k1 k1':=by
 intro k k' k1 h;induction h with
 |nil=>intro h;cases h
 |inBlock j h ih=>
  grind [oK,Am.exitTo]
 |code c h ih=>grind [oK,Am.exitTo]
 |inLoop b h ih=>grind [oK,Am.exitTo]
 |inScope b h ih=>grind [oK,Am.exitTo]
 |inRegion ops l h ih=>grind [oK,Am.exitTo]
 |head jd b h ho ih=>grind [oK,Am.exitTo]
theorem qzd (htab:cfg.tab=tab) {C:Cx} {s:St} {ta:T AV} {a:AH} (hF:FS C s.ts ta) (H:HS tab C s.h a):∀{l:List ResultVar} {K:List SV->Prop},nz cfg s l K->∃vs svs,Am.results tab a ta l= .ok vs/\bc C svs vs/\K svs:=by
 intro l;induction l with
 |nil=>intro K h;exact⟨[],[],rfl,bc.nil,h⟩
 | cons x l ih=>
  intro K h
  cases x with
  |tmp t=>
   obtain⟨v,h1,h2⟩:=dH h;obtain⟨vs,svs,g1,g2,g3⟩:=ih h2;refine⟨_,_,?_,bc.cons (hF t v h1) g2,g3⟩;grind [Am.results,rb]
  | cell b t=>
   simp only[nz]at h;rw[htab]at h;obtain⟨p,h1,h2⟩:=dH h;obtain⟨bb,off,u,sv,h3,h4,h5,h6⟩:=Gs H (hF b p h1) h2;obtain⟨vs,svs,g1,g2,g3⟩:=ih h6;refine⟨_,_,?_,bc.cons h5 g2,g3⟩;simp only[Am.results]
   cases hg:ta.get b with
   |none=>rw[hg]at h3;grind
   |some w=>
    rw[hg]at h3;grind [rb]
theorem Qc (pr:gx P tab) (htab:cfg.tab=tab) {fn:FuncId} {nt:Nat} {s:St} {Q:SV->St->Prop} {C0:Cx} {h0:SH} {a0 a:AH} {fr:ak} (h:pI cfg fn s Q) (hf:jn fr fn nt) (hS:SI tab C0 h0 a0 fr.tmps a s)
   (ht:fr.todo=[]\/ ∃k,fr.todo= .code .ret::k):eY P {fr,cs:=[],h:=a} (jq tab C0 h0 a0 Q):=by
 obtain⟨C,hF,H,hT,hG,hK⟩:=hS;have hstep:Am.step tab sub0 {fr,cs:=[],h:=a}= .ok (.next {fr:={fr with mode:= .returning},cs:=[],h:=a}):=by
   rcases ht with ht|⟨k,ht⟩
   . simp only[Am.step,hf.mode,ht,Am.leave,hf.round]
   . simp only[Am.step,hf.mode,ht,Am.leave,hf.round]
 refine eY.next pr hstep ?_;unfold pI at h;rw[htab]at h;split at h
 . rename_i func hfn;obtain⟨vs,svs,g1,g2,g3⟩:=qzd htab hF H h;have hdone:Am.step tab sub0 {fr:={fr with mode:= .returning},cs:=[],h:=a}= .ok (.done (Am.result vs) a):=by
     simp only[Am.step,Am.unwind,hf.defers,hf.fn,hfn];rw[rb g1];simp only[Am.doReturn,hf.kind]
   refine eY.done pr hdone ⟨_,s,C,g3,?_,H,hT,hG,hK⟩
   cases svs with
   | nil=>cases vs with
     |nil=>exact .bO g2.1 g2.2
     |cons=>have:=g2.1;grind
   | cons x svs=>cases vs with
     |nil=>have:=g2.1;grind
     | cons v vs=>cases svs with
      |nil=>cases vs with
       |nil=>exact g2.head.1
       |cons=>have:=g2.1;grind
      |cons y svs=>cases vs with
       |nil=>have:=g2.1;grind
       |cons w vs=>exact .bO g2.1 g2.2
 grind
end
end
section
universe u v
variable [Inhabited aK]
section
variable {P:Program} {tab:bC} {cfg:iM}
theorem dv.trans {C0 C C':Cx} {h0 h h':SH} {a0 a a':AH} {l m:List Ev} (k:dv C0 h0 a0 l C h a) (k':dv C h a m C' h' a') (hf:∀i o,C.Fz i=some o->C'.Fz i=some o) (H:∀i o,C.Fz i=some o->a.get i=some o) (H':∀i o,C'.Fz i=some o->a'.get i=some o):
   dv C0 h0 a0 (l++m) C' h' a':=by
 intro p o I hp hI hc hn;rw[Li]at hn;obtain⟨g1,g2⟩:=k p o I hp hI hc (fun e=>hn (EH _ e));rcases g2 with⟨o',h1,h2⟩|⟨b,h1⟩
 . obtain⟨g3,g4⟩:=k' p o' I h1 h2 hc (fun e=>hn (DJ _ e));grind
 grind
theorem SI.res {C0 C:Cx} {h0:SH} {a0 a a':AH} {ta:T AV} {s s':St} {sv:SV} {v:AV} (H:HS tab C s.h a) (hT:Tr C0 s.log C) (hG:Grow a0 a) (hK:dv C0 h0 a0 s.log C s.h a) (hr:qg tab C s ta a sv s' v a'):
  ∃C',aQ C' sv v/\FS C' s'.ts ta/\HS tab C' s'.h a'/\Tr C0 s'.log C'/\Grow a0 a'/\dv C0 h0 a0 s'.log C' s'.h a':=by
 obtain⟨⟨C',new,e1,e2,e3,e4,e5,e6⟩,e7⟩:=hr;exact⟨C',e3,e5,e4,by rw[e1];exact hT.trans e2,hG.trans e7,by rw[e1];exact hK.trans e6 e2.fz H.fz e4.fz⟩
theorem gr.mono {ops:Array Oper} {nt:Nat} {G G':DS->Prop} (hg:∀s,G s->G' s):∀n s,gr P tab ops nt G n s->gr P tab ops nt G' n s:=by
 intro n;induction n with
 |zero=>intro s h;exact h
 |succ n ih=>
  intro s h;obtain⟨s1,h1,h2⟩:=h;refine⟨s1,h1,h2.imp (fun x=>⟨x.1,hg _ x.2⟩) (fun⟨c,o,q1,q2,q3,q4⟩=>⟨c,o,q1,q2,q3,?_⟩)⟩;rcases q4 with⟨v,h1,k1,k2,k3,k4⟩|⟨c',f,g,first,captured,args,fn,body,k1,k2,k3,k4,k5,k6,k7⟩
  . exact .inl ⟨v,h1,k1,k2,k3,ih _ k4⟩
  . exact .inr ⟨c',f,g,first,captured,args,fn,body,k1,k2,k3,k4,k5,k6,k7.mono fun v h1 ⟨a,b,c⟩=>⟨a,b,ih _ c⟩⟩
def GU (P:Program) (tab:bC) (cfg:iM) (rec:SM->(SV->St->Prop)->Prop):Prop:=
 ∀(ops:Array Oper) (nt n:Nat) (s:St) (K:St->Prop) (ta:T AV) (a:AH) (C:Cx),zR cfg rec ops nt n ⟨s, .e,[],[]⟩ K->FS C s.ts ta->HS tab C s.h a->
  gr P tab ops nt (fun sF=>∃s' C' new,K s'/\s'.log=s.log++new/\Tr C new C'/\HS tab C' s'.h sF.h/\FS C' s'.ts sF.ts/\Grow a sF.h/\dv C s.h a new C' s'.h sF.h) n {ts:=ta,h:=a,aS:= .e,reads:=[],aI:=[]}
theorem OO {C:Cx} {s:St} {ta:T AV} {c:Operand} {p:Bool} (hF:FS C s.ts ta) (hc:fM s.ts c=some (.bool p)):FS C (fixC s c p).ts ta/\(fixC s c p).h=s.h/\(fixC s c p).log=s.log:=by
 obtain⟨ts,h,log⟩:=s
 cases c with
 |tmp t=>
  refine⟨?_,rfl,rfl⟩;intro t' q hq;simp only[fixC]at hq;rw[kU]at hq;split at hq
  . rename_i e
    cases hq;rw[e];exact hF t _ hc
  . exact hF t' q hq
 |const v=>exact⟨hF,rfl,rfl⟩
 |func f=>exact⟨hF,rfl,rfl⟩
 |global g=>exact⟨hF,rfl,rfl⟩
theorem P7 {C:Cx} {v e:SV} {av:AV} (h:xi v e) (hv:aQ C v av):aQ C e av:=by
 unfold xi at h;split at h
 . rw[<-h];exact hv
 . grind [dc]
 . rw[<-h];exact hv
 . grind [dc,Nat.eq_of_beq_eq_true]
 . grind [dc,Nat.eq_of_beq_eq_true]
 . exact hv
 . exact hv
 . exact hv
 . exact hv
 . rw[pt hv];exact .pure (.ch (by rw[h];rfl) (.inl rfl))
 . exact .pure (.any _)
 grind
theorem qxX {C:Cx}:∀{l m:List SV} {vs:List AV},qS l m->bc C l vs->bc C m vs:=by
 intro l;induction l with
 |nil=>intro m vs h hs;cases m with
  |nil=>exact hs
  |cons=>exact h.elim
 | cons a l ih=>intro m vs h hs;cases m with
  |nil=>exact h.elim
  |cons b m=>
   cases vs with
   |nil=>have:=hs.1;grind
   |cons v vs=>exact bc.cons (P7 h.1 hs.head.1) (ih h.2 hs.head.2)
theorem Zk {ts:Fr} {h eh:SH}:∀{l:Fr},lh ts h eh l->∀{t:Nat} {e:SV},look l t=some e->∃v,look ts t=some v/\qW h eh v e:=by
 intro l;induction l with
 |nil=>intro _ t e h;cases h
 |cons x l ih=>
  obtain⟨k,e0⟩:=x;intro hf t e hl;rw[kU]at hl;split at hl
  . rename_i ek
    cases hl;rw[ek];exact dH hf.1
  . exact ih hf.2 hl
theorem Nn {α:Type u}:∀{l:List (Nat×α)} {t:Nat} {v:α},look l t=some v->(t,v)∈l:=by
 intro l;induction l with
 |nil=>intro t v h;cases h
 |cons x l ih=>
  grind [kU]
theorem Zj {h e:SH}:∀{n:Nat},Hw tab h e n->∀p,p<n->uv tab h.next p (h.get p) (e.get p):=by
 intro n;induction n with
 |zero=>omega
 |succ n ih=>
  intro hf p hp;by_cases e:p=n
  . subst e;exact hf.1
  . exact ih hf.2 p (by omega)
theorem SI.fj {C0:Cx} {h0:SH} {a0 a:AH} {ta:T AV} {s:St} (hS:SI tab C0 h0 a0 ta a s) (l:List SV):SI tab C0 h0 a0 ta a (iS l s):=by
 obtain⟨C,hF,H,hT,hG,hK⟩:=hS;obtain⟨C',new,e,t,H',F',st,_⟩:=Mw l s C hF H;exact⟨C',F',H',by rw[e];exact hT.trans t,hG,by rw[e];exact hK.trans (st.aV new) t.fz H.fz H'.fz⟩
open Classical in
theorem PA (htab:cfg.tab=tab) {C0 C:Cx} {h0:SH} {a0 a:AH} {ta:T AV} {s:St} {base:Nat} (hC0:∀p I,C0.ρ p=some I->p<base) {log:List Ev} (hnew:(∀e∈s.log,base<=e.id)/\ ∀e∈log,base<=e.id) (hF:FS C s.ts ta) (H:HS tab C s.h a) (hT:Tr C0 s.log C) (hG:Grow a0 a) (hK:dv C0 h0 a0 s.log C s.h a)
   (hb0:∀p o,h0.get p=some o->p<base) {e:Fr×SH} (h1:lh s.ts s.h e.2 e.1) (h2:mX cfg.tab s.h e.2) (hl:low e.1 e.2=true) (hbn:base<=e.2.next) (hst:stay base s.h e.2=true):SI tab C0 h0 a0 ta a ⟨e.1,e.2,log⟩:=by
 obtain⟨ts,eh⟩:=e;simp only at h1 h2 hl hbn hst⊢;unfold low at hl;simp only[Ad,AG]at hl;obtain⟨hl1,hl2⟩:=hl;obtain⟨hnow,hlog⟩:=hnew;rw[htab]at h2;have hfit:=Zj h2;have hlow:∀p o,eh.get p=some o->p<eh.next/\o.lt eh.next=true:=by
   intro p o hp;unfold SH.get at hp;split at hp
   . rename_i o' ho'
     cases hp;have:=hl2 _ (Nn ho');simp_all
   grind
 let szOf (t:TypeId):Nat:=(tab.siz.get t).getD 0
 let Cy:Cx:=⟨fun p=>if p<eh.next then(match C.ρ p with
     |some I=>some I
     | none=>match eh.get p with
       |some (.arr _ _ _ t)=>some ⟨0,0,szOf t,none⟩
       |_=>none)else none,C.Fz⟩
 have hρ:∀p I,p<eh.next->C.ρ p=some I->Cy.ρ p=some I:=by
   grind
 have hcut:(C.cut eh.next).le Cy:=by
   refine⟨fun p I hp=>?_,fun _ _ h=>h⟩;grind [Cx.cut]
 have hval:∀{s:SV} {v:AV},aQ C s v->s.lt eh.next=true->aQ Cy s v:=fun h hl=>(h.cut hl).le hcut
 have hback:∀p I,Cy.ρ p=some I->I.cap.isSome->C.ρ p=some I:=by
   grind
 have hlive:∀p o I,eh.get p=some o->C.ρ p=some I->∃o',s.h.get p=some o':=by
   intro p o I hp hI;obtain⟨hlt,_⟩:=hlow p o hp;have hf:=hfit p hlt;rw[hp]at hf
   cases hs:s.h.get p with
   |some o'=>grind
   | none=>
     rw[hs]at hf
     cases o with
     |cells cs t=>exact hf.elim
     | arr X L enc t=>
       have:=Ak (dc hf).1;have:=H.lt p I hI;omega
 refine⟨Cy,?_,⟨?_,?_,H.fz,?_,?_,H.wf⟩,⟨?_,hT.fz⟩,hG,?_⟩
 ·
   intro t ev hev;obtain⟨v,hv,hfv⟩:=Zk h1 hev;have hlt:=hl1 _ (Nn hev);have hsv:=hF t v hv;unfold qW at hfv;split at hfv
   . rename_i b;split at hfv
     . rename_i X L enc t' hb1 hb2;rw[pt hsv];obtain⟨hbl,_⟩:=hlow _ _ hb2;have hf:=hfit _ hbl;rw[hb1,hb2]at hf;have hge:=Ak (dc hf).1;have hnone:C.ρ b=none:=by
        cases hz:C.ρ b with
        |none=>rfl
        |some I=>have:=H.lt _ _ hz;omega
       exact .eB (I:=⟨0,0,szOf t',none⟩) (by grind) rfl
     grind
   grind [P7]
 ·
   intro p o hp;obtain⟨hlt,hol⟩:=hlow p o hp;have hf:=hfit p hlt;rw[hp]at hf
   cases hs:s.h.get p with
   | none=>
     rw[hs]at hf
     cases o with
     |cells cs t=>exact hf.elim
     | arr X L enc t=>
       obtain⟨hge,hL,hz⟩:=dc hf;obtain⟨n,hn,hz⟩:=dH hz;obtain⟨hn0,hz⟩:=dc hz;have hge:=Ak hge;have hnone:C.ρ p=none:=by
        cases hz:C.ρ p with
        |none=>rfl
        |some I=>have:=H.lt _ _ hz;omega
       have hsz:szOf t=n:=by grind
       refine⟨⟨0,0,szOf t,none⟩,by grind,?_⟩;subst hL;have hn0:n≠0:=fun e=>by simp_all
       exact⟨by grind,by simp only[hsz];omega,rfl,fun i x hx=>by simp at hx,rfl⟩
   | some o'=>
     rw[hs]at hf;obtain⟨I,hI,ho⟩:=H.obj p o' hs;refine⟨I,hρ p I hlt hI,?_⟩
     cases o with
     | cells cs t=>
       cases o' with
       |arr X L enc t'=>exact hf.elim
       |cells cs' t'=>
        obtain⟨htt,hcs⟩:=dc hf;have htt:=Ag htt;subst htt;obtain⟨q1,ca,sz,q2,q3,q4⟩:=ho;have q5:=qxX hcs q3;exact⟨q1,ca,sz,q2,⟨q5.1,fun i x v hx hv=>hval (q5.2 i x v hx hv) (yV hol hx)⟩,q4⟩
     | arr X L enc t=>
       cases o' with
       |cells cs' t'=>exact hf.elim
       |arr X' L' enc' t'=>
        obtain⟨htt,hLL⟩:=dc hf;have htt:=Ag htt;subst htt
        cases hLL;exact ho.congr (a':=a) rfl|>fun ho=>by
          obtain⟨g1,g2,g3,g4,g5⟩:=ho;exact⟨g1,g2,g3,g4,g5⟩
 . intro p q o o' I J hp hq hI hJ hc hc' e;have hI':=hback p I hI hc;have hJ':=hback q J hJ hc';obtain⟨o1,g1⟩:=hlive p o I hp hI';obtain⟨o2,g2⟩:=hlive q o' J hq hJ';exact H.inj p q o1 o2 I J g1 g2 hI' hJ' hc hc' e
 . intro p o I hp hI hc;have hI':=hback p I hI hc;obtain⟨o1,g1⟩:=hlive p o I hp hI';exact H.dj p o1 I g1 hI' hc
 . grind
 . intro sv v hsv;have hlt:=hsv.low hC0;have h3:=hT.val _ _ hsv;rw[Ow _ _ base hlt hnow]at h3;rw[Ow _ _ base hlt hlog];exact hval h3 (hsv.low (fun p I hI=>AE (hC0 p I hI) hbn))
 . intro p o I hp hI hc hn;have hpb:=hb0 p o hp;have hn':p∉lu s.log:=by
     have :∀(l:List Ev),(∀e∈l,base<=e.id)->p∉lu l:=by
       intro l;induction l with
       |nil=>intro _ h;cases h
       |cons e l ih=>
        intro he hm;have h1:=he e As
        cases e<;>simp only[lu,Ev.id]at hm h1
        . rcases Ap.1 hm with rfl|hm
          . omega
          . exact ih (fun e' h'=>he e' (AP _ h')) hm
        . rcases Ap.1 hm with rfl|hm
          . omega
          . exact ih (fun e' h'=>he e' (AP _ h')) hm
        . exact ih (fun e' h'=>he e' (AP _ h')) hm
     exact this _ hnow
   obtain⟨g1,g2⟩:=hK p o I hp hI hc hn';refine⟨g1,?_⟩;rcases g2 with⟨o',q1,q2⟩|g2
   . have:=AG.1 hst p (List.mem_range.2 hpb);rw[q1]at this
     cases hz:eh.get p with
     |none=>rw[hz]at this;cases this
     |some o2=>exact .inl ⟨o2,rfl,hρ p I (by omega) q2⟩
   . exact .inr g2
theorem Pr (pr:gx P tab) (htab:cfg.tab=tab) (hcon:∀g C,cfg.ia g=some C->cI P tab g C) (hdraw:∀rec,pC P tab rec->GU P tab cfg rec):∀(n:Nat),pC P tab (wp cfg n)/\ ∀(fn:FuncId) (nt base:Nat) (todo:List eK) (s:St) (Q:SV->St->Prop) (C0:Cx) (h0:SH) (a0:AH),(∀p I,C0.ρ p=some I->p<base)->(∀p o,h0.get p=some o->p<base)->∀(fr:ak) (a:AH),
  wp cfg n ⟨fn,nt,base,todo,s⟩ Q->jn fr fn nt->
  TS (fun jd b k'=>∀(ts:Fr) (h:SH) (log:List Ev) (fr:ak) (a:AH),jd ts h log->fr.todo= .inLoop b::k'->jn fr fn nt->SI tab C0 h0 a0 fr.tmps a ⟨ts,h,log⟩->eY P {fr,cs:=[],h:=a} (jq tab C0 h0 a0 Q)) todo fr.todo->
  SI tab C0 h0 a0 fr.tmps a s->eY P {fr,cs:=[],h:=a} (jq tab C0 h0 a0 Q):=by
 intro n;induction n with
 |zero=>exact⟨fun f fn body args h a C avs Q _ _ h'=>h'.elim,fun fn nt base todo s Q C0 h0 a0 _ _ fr a h=>h.elim⟩
 | succ n ihn=>
  obtain ⟨ihrec,ih⟩:=ihn;have walk:∀(fn:FuncId) (nt base:Nat) (todo:List eK) (s:St) (Q:SV->St->Prop) (C0:Cx) (h0:SH) (a0:AH),(∀p I,C0.ρ p=some I->p<base)->(∀p o,h0.get p=some o->p<base)->∀(fr:ak) (a:AH),
     wp cfg (n+1) ⟨fn,nt,base,todo,s⟩ Q->jn fr fn nt->
     TS (fun jd b k'=>∀(ts:Fr) (h:SH) (log:List Ev) (fr:ak) (a:AH),jd ts h log->fr.todo= .inLoop b::k'->jn fr fn nt->SI tab C0 h0 a0 fr.tmps a ⟨ts,h,log⟩->eY P {fr,cs:=[],h:=a} (jq tab C0 h0 a0 Q)) todo fr.todo->
     SI tab C0 h0 a0 fr.tmps a s->eY P {fr,cs:=[],h:=a} (jq tab C0 h0 a0 Q):=by
    intro fn nt base todo s Q C0 h0 a0 hC0 hh0 fr a h hf hts hS;have kD:∀(k:List eK) (k':List bU) (s':St),wp cfg n ⟨fn,nt,base,k,s'⟩ Q->(Am.step tab sub0 {fr,cs:=[],h:=a}= .ok (.next {fr:={fr with todo:=k'},cs:=[],h:=a}))->
      TS (fun jd b k'=>∀(ts:Fr) (h:SH) (log:List Ev) (fr:ak) (a:AH),jd ts h log->fr.todo= .inLoop b::k'->jn fr fn nt->SI tab C0 h0 a0 fr.tmps a ⟨ts,h,log⟩->eY P {fr,cs:=[],h:=a} (jq tab C0 h0 a0 Q)) k k'->
      SI tab C0 h0 a0 fr.tmps a s'->eY P {fr,cs:=[],h:=a} (jq tab C0 h0 a0 Q):=fun k k' s' hw hstep hk hS'=>eY.next pr hstep (ih fn nt base k s' Q C0 h0 a0 hC0 hh0 _ a hw (hf.todo fr.tmps k') hk hS')
    generalize htodo:fr.todo=todo' at hts
    simp only[wp]at h
    cases hts with
    |nil=>grind [Qc]
    |inBlock id hk=>exact kD _ _ s h (by simp only[Am.step,hf.mode,htodo]) hk hS
    |inScope b hk=>exact kD _ _ s h (by simp only[Am.step,hf.mode,htodo]) hk hS
    |inLoop b hk=>exact kD _ _ s h (by simp only[Am.step,hf.mode,htodo]) (.code b (.inLoop b hk)) hS
    |head jd b hk ho=>exact ho s.ts s.h s.log fr a h htodo hf hS
    | @inRegion k k' ops l hk=>
     cases l with
     |nil=>exact kD _ _ s h (by simp only[Am.step,hf.mode,htodo]) hk hS
     |cons i rest=>
      simp only at h;split at h
      . rename_i o ho;obtain⟨C,hF,H,hT,hG,hK⟩:=hS;obtain⟨b,s1,h1,hw,hF1,eh,el⟩:=Fq h hF;have hfin:∀v,fr.finish v= .ok {fr with tmps:=fr.put o.dst v,todo:= .inRegion ops rest::k'}:=by
          grind [ak.finish]
        have hput:∀(v:AV),fr.put o.dst v=ik nt fr.tmps o.dst v:=by
          intro v;unfold ak.put ik;rw[hf.nt]
          cases o.dst<;>rfl
        have H1:HS tab C s1.h a:=by rw[eh];exact H
        have hT1:Tr C0 s1.log C:=by rw[el];exact hT
        have hK1:dv C0 h0 a0 s1.log C s1.h a:=by rw[el,eh];exact hK
        cases b with
        | false=>
          simp only[Bk]at h1;obtain⟨s2,k1,k2,k3,k4⟩:=tA (v:= .bO []) h1 hF1 (.pure (.bO rfl (fun i c v hc=>by grind)));refine eY.next pr (m':={fr:={fr with tmps:=fr.put o.dst (.bO []),todo:= .inRegion ops rest::k'},cs:=[],h:=a}) (by
           simp only[Am.step,hf.mode,htodo,ho];rw[rb hw];simp only[Ax,Bc];rw[rb (hfin _),hf.mode]) (ih fn nt base _ s2 Q C0 h0 a0 hC0 hh0 _ a k1 (hf.todo _ _) (.inRegion ops rest hk) ⟨C,?_,by rw[k3];exact H1,by rw[k4];omega,hG,by rw[k3,k4];omega⟩)
          grind
        | true=>
          refine UO pr hf.mode htodo ho hw (NK htab ihrec hcon h1 hF1 H1) (fun v=>⟨_,hfin v⟩) ?_;rintro v a1 ⟨sv,s2,k1,k2⟩ fr' hfr;rw[hfin v]at hfr
          cases hfr;obtain⟨C',q1,q2,q3,q4,q5,q6⟩:=SI.res H1 hT1 hG hK1 k2;obtain⟨s3,r1,r2,r3,r4⟩:=tA k1 q2 q1;refine ih fn nt base _ s3 Q C0 h0 a0 hC0 hh0 _ a1 r1 (hf.todo _ _) (.inRegion ops rest hk) ⟨C',?_,by rw[r3];exact q3,by rw[r4];exact q4,q5,by rw[r3,r4];exact q6⟩;grind
      grind
    | @code k k' c hk=>
     cases c with
     |skip=>exact kD _ _ s h (by simp only[Am.step,hf.mode,htodo]) hk hS
     |label l=>exact kD _ _ s h (by simp only[Am.step,hf.mode,htodo]) hk hS
     |ret=>grind [Qc]
     |seq x y=>exact kD _ _ s h (by simp only[Am.step,hf.mode,htodo]) (.code x (.code y hk)) hS
     |block id b=>exact kD _ _ s h (by simp only[Am.step,hf.mode,htodo]) (.code b (.inBlock id hk)) hS
     |scope b=>exact kD _ _ s h (by simp only[Am.step,hf.mode,htodo]) (.code b (.inScope b hk)) hS
     |exit id=>
      simp only at h;split at h
      . rename_i k1 hk1;obtain⟨k1',g1,g2⟩:=hk.exit hk1;exact kD _ _ s h (by simp only[Am.step,hf.mode,htodo,g1]) g2 hS
      grind
     |cond x y z=>
      simp only at h;split at h
      . rename_i p hp;obtain⟨C,hF,H,hT,hG,hK⟩:=hS;obtain⟨v,g1,g2⟩:=mI hF hp;rw[po g2]at g1;rcases zG h with⟨rfl,h⟩|⟨rfl,h⟩
        . obtain⟨f1,f2,f3⟩:=OO hF hp;exact kD _ _ _ h (by simp only[Am.step,hf.mode,htodo];rw[rb g1]) (.code y hk) ⟨C,f1,by rw[f2];exact H,by rw[f3];exact hT,hG,by rw[f2,f3];exact hK⟩
        . obtain⟨f1,f2,f3⟩:=OO hF hp;exact kD _ _ _ h (by simp only[Am.step,hf.mode,htodo];rw[rb g1]) (.code z hk) ⟨C,f1,by rw[f2];exact H,by rw[f3];exact hT,hG,by rw[f2,f3];exact hK⟩
      grind
     |region id ops d=>
      cases d with
      |false=>exact kD _ _ s h (by simp only[Am.step,hf.mode,htodo]) (.inRegion ops _ hk) hS
      | true=>
        obtain⟨hlt,h⟩:=dc h;obtain⟨C,hF,H,hT,hG,hK⟩:=hS;rw[<-hf.nt]at h;have hd:=hdraw (wp cfg n) ihrec ops fr.nt _ s _ fr.tmps a C h hF H;refine Uq pr hf.mode htodo hlt (n:=ops.size+1) (gr.mono ?_ _ _ hd);rintro sF ⟨s',C',new,k1,k2,k3,k4,k5,k6,k7⟩;rw[hf.nt]at k1;exact ih fn nt base _ s' Q C0 h0 a0 hC0 hh0 _ sF.h k1 (hf.todo _ _) hk ⟨C',k5,k4,by rw[k2];exact hT.trans k3,hG.trans k6,by rw[k2];exact hK.trans k7 k3.fz H.fz k4.fz⟩
     |loop b=>
      simp only at h;split at h
      . exact kD _ _ s h (by simp only[Am.step,hf.mode,htodo]) (.code b (.inLoop b hk)) hS
      . obtain⟨A,h⟩:=qvh h;have hS:=hS.fj (mY s.ts A.fj);have h:(∃x:A.α,A.ok x/\lh (dW A s).ts (dW A s).h (A.at (dW A s) x).2 (A.at (dW A s) x).1/\mX cfg.tab (dW A s).h (A.at (dW A s) x).2/\ck (stay base (dW A s).h (A.at (dW A s) x).2) True)/\
           ∀x:A.α,A.ok x->ck ((dW A s).log.all (fun e=>Nat.ble base e.id)&&(low (A.at (dW A s) x).1 (A.at (dW A s) x).2&&Nat.ble base (A.at (dW A s) x).2.next)) (wp cfg n ⟨fn,nt,base, .code b:: .head (Hx cfg A (dW A s) base x)::k,⟨(A.at (dW A s) x).1,(A.at (dW A s) x).2,(dW A s).log⟩⟩ Q):=h
        have hS:SI tab C0 h0 a0 fr.tmps a (dW A s):=hS;generalize dW A s=s at h hS
        obtain⟨⟨x0,hx0,hf1,hf2,hf3⟩,hall⟩:=h;have hrest:∀x,A.ok x->(∀e∈s.log,base<=e.id)/\low (A.at s x).1 (A.at s x).2=true/\base<=(A.at s x).2.next/\wp cfg n ⟨fn,nt,base, .code b:: .head (Hx cfg A s base x)::k,⟨(A.at s x).1,(A.at s x).2,s.log⟩⟩ Q:=by
          intro x hx;obtain⟨g1,g2⟩:=dc (hall x hx);simp_all
        have loop:∀(m:Nat) (x:A.α),A.μ x=m->A.ok x->∀(fr2:ak) (a2:AH),fr2.todo= .code b:: .inLoop b::k'->jn fr2 fn nt->SI tab C0 h0 a0 fr2.tmps a2 ⟨(A.at s x).1,(A.at s x).2,s.log⟩->eY P {fr:=fr2,cs:=[],h:=a2} (jq tab C0 h0 a0 Q):=by
          intro m;induction m using Nat.strongRecOn with
          |_ m ihm=>
           intro x hm hx fr2 a2 ht2 hf2 hS2;obtain⟨_,_,_,hw⟩:=hrest x hx;refine ih fn nt base _ _ Q C0 h0 a0 hC0 hh0 fr2 a2 hw hf2 ?_ hS2;rw[ht2];refine .code b (.head _ b hk ?_);intro ts hh log fr3 a3 hchk ht3 hf3 hS3;have hS3:=hS3.fj (mY ts A.fj);have hchk:ck ((dW A ⟨ts,hh,log⟩).log.all fun e=>Nat.ble base e.id) (∃y:A.α,A.ok y/\A.μ y<A.μ x/\lh (dW A ⟨ts,hh,log⟩).ts (dW A ⟨ts,hh,log⟩).h (A.at s y).2 (A.at s y).1/\mX cfg.tab (dW A ⟨ts,hh,log⟩).h (A.at s y).2/\ck (stay base (dW A ⟨ts,hh,log⟩).h (A.at s y).2) True):=hchk;have hS3:SI tab C0 h0 a0 fr3.tmps a3 (dW A ⟨ts,hh,log⟩):=hS3;generalize dW A ⟨ts,hh,log⟩=s3 at hchk hS3
           obtain⟨hcov,y,hy,hμ,q1,q2,q3⟩:=dc hchk;obtain⟨l0,l1,l2,_⟩:=hrest y hy;obtain⟨C,hF,H,hT,hG,hK⟩:=hS3;have hpre:(∀e∈s3.log,base<=e.id)/\ ∀e∈s.log,base<=e.id:=⟨fun e he=>Ak (AG.1 hcov e he),l0⟩;have hSy:=PA htab hC0 (s:=s3) hpre hF H hT hG hK hh0 q1 q2 l1 l2 (dc q3).1;refine eY.next pr (m':={fr:={fr3 with todo:= .code b:: .inLoop b::k'},cs:=[],h:=a3}) (by simp only[Am.step,hf3.mode,ht3]) ?_;exact ihm (A.μ y) (by omega) y rfl hy _ a3 rfl (hf3.todo fr3.tmps _) hSy
        obtain⟨l0,l1,l2,_⟩:=hrest x0 hx0;obtain⟨C,hF,H,hT,hG,hK⟩:=hS;have hS0:=PA htab hC0 (log:=s.log) ⟨l0,l0⟩ hF H hT hG hK hh0 hf1 hf2 l1 l2 (dc hf3).1;refine eY.next pr (m':={fr:={fr with todo:= .code b:: .inLoop b::k'},cs:=[],h:=a}) (by simp only[Am.step,hf.mode,htodo]) ?_;exact loop _ x0 rfl hx0 _ a rfl (hf.todo fr.tmps _) hS0
     |_=>exact h.elim
  refine⟨?_,walk⟩;intro f fn body args h a C avs Q hfn hb hw H hs;refine walk f _ h.next _ _ Q C h a H.lt (fun p o hp=>?_) _ a hw ⟨rfl,?_,rfl,rfl,rfl,rfl⟩ (.code body .nil) ⟨C,?_,H,Tr.refl C,Grow.refl a,dv.same _ _ _ _⟩
  . obtain⟨I,hI,_⟩:=H.obj p o hp;exact H.lt p I hI
  . simp only[ak.enter];rw[hs.1]
  . have hlook:∀(l:List SV) (k t:Nat),look (Fr.of l k) t=if k<=t then l[t - k]? else none:=by
     intro l;induction l with
     |nil=>grind [Fr.of,look]
     |cons v l ih=>
      grind [Fr.of,kU]
    intro t q hq;rw[hlook]at hq;obtain⟨v,h1,h2⟩:=hs.get hq;grind [ak.enter,mn]
theorem qww (pr:gx P tab) (htab:cfg.tab=tab) (hcon:∀g C,cfg.ia g=some C->cI P tab g C) (hdraw:∀rec,pC P tab rec->GU P tab cfg rec):∀n,pC P tab (wp cfg n):=fun n=>(Pr pr htab hcon hdraw n).1
end
end
section
universe u v
variable [Inhabited aK]
section
variable {tab:bC} {ta:T AV}
def Part (h0 h:AH):Prop:=∀i o,h0.get i=some o->h.get i=some o
theorem Lh {h0 h:AH} (hs:Part h0 h) {b:Nat} {r} (hp:lK h0 b= .ok r):lK h b= .ok r:=by
 unfold lK at hp⊢;split at hp
 . rename_i hg;rw[hs _ _ hg];exact hp
 grind
theorem Vt {h0 h:AH} (hs:Part h0 h) {t b off:Nat} {r} (hp:Am.loadVar tab h0 t b off= .ok r):Am.loadVar tab h t b off= .ok r:=by
 grind [Am.loadVar,readN,ay,Lh]
theorem VC {h0 h:AH} (hs:Part h0 h) {b:Nat} {c:gV} {r} (hp:capLow h0 b c= .ok r):capLow h b c= .ok r:=by
 cases c with
 |lit n=>exact hp
 |tail k=>
  grind [capLow,ay,Lh]
theorem VQ {h0 h h1:AH} (hs:Part h0 h) {t:TypeId} {x v:AV} {lo hi:Option Operand} (hp:ke tab ta h0 t x lo hi none= .ok (v,h1)):ke tab ta h t x lo hi none= .ok (v,h):=by
 unfold ke at hp⊢;obtain⟨d,hd,hp⟩:=ay.1 hp;rw[rb hd];split at hp
 . obtain⟨_,h1,hp⟩:=ay.1 hp;obtain⟨l,h2,hp⟩:=ay.1 hp;obtain⟨u,h3,hp⟩:=ay.1 hp;grind [ay]
 . obtain⟨_,h0,hp⟩:=ay.1 hp;obtain⟨l,h1,hp⟩:=ay.1 hp;obtain⟨u,h2,hp⟩:=ay.1 hp;obtain⟨m,h3,hp⟩:=ay.1 hp;obtain⟨_,h4,hp⟩:=ay.1 hp
   cases hp;rw[rb h0,rb h1,rb h2,rb h3,rb h4]
 . rename_i cap _;obtain⟨c,h0,hp⟩:=ay.1 hp;obtain⟨n,h1,hp⟩:=ay.1 hp;obtain⟨l,h2,hp⟩:=ay.1 hp;obtain⟨u,h3,hp⟩:=ay.1 hp;rw[rb (VC hs h0),rb h1,rb h2,rb h3]
   cases cap with
   |lit m=>
    simp only at hp⊢;obtain⟨_,h4,hp⟩:=ay.1 hp
    cases hp;rw[rb h4]
   |tail k=>
    simp only at hp⊢;obtain⟨_,h4,hp⟩:=ay.1 hp;rw[rb h4]
    cases h5:Nat.beq l 0<;>rw[h5]at hp<;>simp only[B9,Bk]at hp⊢
    . cases h6:Nat.blt l c<;>rw[h6]at hp<;>simp only[B9,Bk]at hp⊢ <;>(cases hp;rfl)
    . cases hp;rfl
 . obtain⟨_,h0,hp⟩:=ay.1 hp;obtain⟨l,h1,hp⟩:=ay.1 hp;obtain⟨u,h2,hp⟩:=ay.1 hp;obtain⟨_,h4,hp⟩:=ay.1 hp
   cases hp;rw[rb h0,rb h1,rb h2,rb h4]
 . obtain⟨_,h0,hp⟩:=ay.1 hp;obtain⟨l,h1,hp⟩:=ay.1 hp;obtain⟨u,h2,hp⟩:=ay.1 hp;obtain⟨_,h4,hp⟩:=ay.1 hp
   cases hp;rw[rb h0,rb h1,rb h2,rb h4]
 . cases hp
theorem XY {h0 h:AH} (hs:Part h0 h) {t:TypeId} {x y:AV} {r} (hp:eqOp tab h0 t x y= .ok r):eqOp tab h t x y= .ok r:=by
 unfold eqOp at hp⊢;split at hp
 . obtain⟨d,hd,hp⟩:=ay.1 hp;rw[rb hd];split at hp
   . obtain⟨n,h1,hp⟩:=ay.1 hp;obtain⟨_,h2,hp⟩:=ay.1 hp;rw[rb h1,rb h2];split at hp
     . grind
     . rename_i hc;simp only[hc];split at hp
       . rename_i g1 g2;rw[hs _ _ g1,hs _ _ g2];exact hp
       grind
   omega
 all_goals omega
theorem WJ {h0 h:AH} (hs:Part h0 h) {op:BinOp} {t:TypeId} {x y:AV} {r} (hp:Am.binOp tab h0 op t x y= .ok r):Am.binOp tab h op t x y= .ok r:=by
 unfold Am.binOp at hp⊢;grind [ay,XY]
theorem Xz {h0 h:AH} (hs:Part h0 h) {u:TypeDesc} {x:AV} {r} (hp:lenOf h0 u x= .ok r):lenOf h u x= .ok r:=by
 unfold lenOf at hp⊢;split at hp
 . exact hp
 . exact hp
 . exact hp
 . exact hp
 . exact hp
 . exact hp
 . obtain⟨q,h1,hp⟩:=ay.1 hp;unfold wP at h1⊢;split at h1
   . rename_i hg
     cases h1;simp only[hs _ _ hg];exact hp
   grind
 all_goals omega
theorem Ve {h0 h h1:AH} (hs:Part h0 h) {ats:Array TypeId} {l:List AV} {b:Builtin} (hb:b= .len\/b= .min\/b= .max) {v:AV} (hp:Am.builtin tab b ats l h0= .ok (v,h1)):Am.builtin tab b ats l h= .ok (v,h):=by
 rcases hb with rfl|rfl|rfl
 . cases l with
   |nil=>cases hp
   | cons x l=>
    cases l with
    |cons y l=>cases hp
    |nil=>
     unfold Am.builtin at hp⊢;simp only at hp⊢;obtain⟨t,h1,hp⟩:=ay.1 hp;obtain⟨u,h2,hp⟩:=ay.1 hp;rw[rb h1,rb h2];split at hp
     . obtain⟨w,h3,hp⟩:=ay.1 hp;rw[rb h3];split at hp
       . cases hp;rfl
       . cases hp
     . obtain⟨n,h3,hp⟩:=ay.1 hp;rw[rb (Xz hs h3)]
       cases hp;rfl
 . cases l with
   |nil=>cases hp
   |cons x l=>
    cases x<;>first|(cases hp;done)|skip
    grind [Am.builtin,ay]
 . cases l with
   |nil=>cases hp
   |cons x l=>
    cases x<;>first|(cases hp;done)|skip
    grind [Am.builtin,ay]
def uX (op:Op):Bool:=
 match op with
 | .lookup .. | .entry _| .typeAssert .. =>false
 | .slice _ _ _ _ (some _)=>false
 | .call c=>match c.callee with| .builtin .cap=>false|_=>true
 |_=>true
theorem E2 {o:Oper} (hc:cls tab o= .pure\/cls tab o= .read) (hlk:uX o.op=true)
  {h0 h h1:AH} (hs:Part h0 h) {v:AV} (hp:fk tab ta h0 o= .ok (v,h1)):fk tab ta h o= .ok (v,h):=by
 obtain⟨dst,op,type,pos,after,guard⟩:=o;unfold fk at hp⊢
 cases op<;>simp only[cls]at hc<;>simp only at hp⊢
 case slice t x lo hi mx=>
  cases mx with
  |some m=>cases hlk
  |none=>
   grind [ay,VQ]
 case load t a=>
  grind [ay,Vt]
 case binOp op t x y e=>
  obtain⟨p,h1,hp⟩:=ay.1 hp;obtain⟨q,h2,hp⟩:=ay.1 hp;grind [ay,WJ]
 case convert src dst x=>
  grind [ay,OJ,LU]
 case lookup=>cases hlk
 case entry=>cases hlk
 case typeAssert=>cases hlk
 case call c=>
  cases hcc:c.callee with
  |builtin b=>
   rw[hcc]at hp hc;grind [ay,Ve,uX]
  |value f=>rw[hcc]at hp;cases hp
  |invoke r m=>rw[hcc]at hp;cases hp
 all_goals first
  |(rcases hc with hc|hc<;>cases hc;done)
  |skip
 all_goals (repeat' first
  |(cases hp;done)
  |(cases hp;rfl)
  |(obtain⟨_,hx,hp⟩:=ay.1 hp;rw[rb hx];clear hx)
  |split at hp)
end
end
section
universe u v
variable [Inhabited aK]
section
variable {tab:bC} {view:TypeId->Option View} {C:Cx} {s:St} {ta:T AV} {a:AH} {h:SH}
def cB (C:Cx) (s:St) (a:AH) (K:SV->St->Prop) (r:R (AV×AH)):Prop:=∃sv v,K sv s/\r= .ok (v,a)/\aQ C sv v
theorem cB.same {K:SV->St->Prop} {sv:SV} {v:AV} (hv:aQ C sv v) (hk:K sv s):cB C s a K (.ok (v,a)):=⟨sv,v,hk,rfl,hv⟩
theorem cB.val {K:SV->St->Prop} {r:R AV} (h:gy C (fun v=>K v s) r):cB C s a K (do .ok (<-r,a)):=by
 obtain⟨sv,v,h1,h2,h3⟩:=h;rw[rb h1];grind [cB.same]
theorem V9 (hF:FS C s.ts ta) (H:HS tab C s.h a) {t:TypeId} {x:SV} {v:AV} (hv:aQ C x v) {lo hi:Option Operand} {K:SV->St->Prop} (hK:∀sv s1,K sv s1->s1.log=s.log) (h:Hu tab s t x lo hi K):cB C s a K (ke tab ta a t v lo hi none):=by
 obtain⟨l,h1,hl⟩:=yX hF h;obtain⟨u,h2,hu⟩:=yX hF h1;clear h h1;have h:=h2;have o1:∀d:R Nat,gh ta d lo=ll l d:=fun d=>(hl d).1
 have o2:∀d:R Nat,gh ta d hi=ll u d:=fun d=>(hu d).1
 split at h
 . rename_i c hg;rw[iT hv];obtain⟨h1,h2,h3⟩:=tw h;unfold ke;rw[rb (show und tab t=_ from ro hg)];simp only;rw[rb (show R.check "slice: max" (none:Option Operand).isNone= .ok ()from rfl),rb (show gh ta (.ok 0) lo= .ok (l.getD 0)from by rw[o1];cases l<;>rfl),rb (show gh ta (.ok c.length) hi= .ok (u.getD c.length)from by rw[o2];cases u<;>rfl),
     rb (rc (by simp_all))]
   exact cB.same (.pure (.str _)) h3
 . rename_i e X L enc hg;split at h
   . rename_i n hn;obtain⟨hlen,h⟩:=h;obtain⟨h1,h2,h3⟩:=tw h;obtain⟨w,h4,h5⟩:=yc hg hn H.fz (l3 hv rfl) hlen o1 o2 h1 h2;rw[h4];exact cB.same (.pure h5) h3
   grind
 . rename_i e b hg;split at h
   . rename_i X L enc t' n hb hn;obtain⟨hlen,h⟩:=h;obtain⟨h1,h2,h3⟩:=tw h;obtain⟨C',e1,e2,e3,e4,e5,e6⟩:=tY hF H hb;obtain⟨w,h4,h5⟩:=yc hg hn e3.fz (e5 v hv) hlen o1 o2 h1 h2;have:=hK _ _ h3;rw[e1]at this;simp_all
   grind
 . rename_i e b off len cap hg;split at h
   . rename_i n hn;obtain⟨h1,h2⟩:=dc h
     cases hv with
     |pure hv=>cases hv
     | sl hI=>
      unfold ke;rw[rb (show und tab t=_ from ro hg)];simp only;rw[rb (show capLow a _ (.lit cap)= .ok cap from rfl),rb (show siz tab e= .ok n from ro hn),rb (show gh ta (.ok 0) lo= .ok (l.getD 0)from by rw[o1];cases l<;>rfl),
       rb (show gh ta (.ok len) hi= .ok (u.getD len)from by rw[o2];cases u<;>rfl),
       rb (rc (by grind))]
      exact cB.same (.sl hI) h2
   grind
 grind
theorem C7 (hF:FS C s.ts ta) (H:HS tab C s.h a) {b:Builtin} {ats:Array TypeId} {l:List SV} {vs:List AV} (hl:bc C l vs) (hb:b= .len\/b= .min\/b= .max) {K:SV->St->Prop} (h:te tab view s b ats l K):cB C s a K (Am.builtin tab b ats vs a):=by
 unfold te at h;split at h
 ·
   rename_i x;have hv:∃v,vs=[v]/\aQ C x v:=by
    cases vs with
    |nil=>have:=hl.1;grind
    | cons v vs=>cases vs with
      |nil=>exact⟨v,rfl,hl.head.1⟩
      |cons=>have:=hl.1;grind
   obtain⟨v,rfl,hx⟩:=hv;unfold Am.builtin;simp only
   cases ht:ats[0]? with
   |none=>rw[ht]at h;grind
   |some t=>
    rw[ht]at h;rw[rb (ro rfl)];split at h
    . rename_i hg;split at h
      . rw[iT hx,rb (show und tab t=_ from ro hg)];exact cB.same (.pure (.int _ _)) h
      grind
    . rename_i e hg;obtain⟨n,h1,h2⟩:=dH h;rw[rb (show und tab t=_ from ro hg)];simp only;rw[rb (Pl H hx h1)];exact cB.same (.pure (.int _ _)) h2
    grind
 . rcases hb with hb|hb|hb<;>cases hb
 ·
   cases vs with
   |nil=>have:=hl.1;grind
   |cons v vs=>
    obtain⟨h1,h2⟩:=hl.head;rw[jT h1];obtain⟨sv,h3,h4⟩:=dH h;grind [Pn,Am.builtin,rb,cB.same]
 ·
   cases vs with
   |nil=>have:=hl.1;grind
   |cons v vs=>
    obtain⟨h1,h2⟩:=hl.head;rw[jT h1];obtain⟨sv,h3,h4⟩:=dH h;grind [Pm,Am.builtin,rb,cB.same]
 grind
theorem qwc (hF:FS C s.ts ta) (H:HS tab C s.h a) {o:Oper} (hc:cls tab o= .pure\/cls tab o= .read) {K:SV->St->Prop} (hK:∀sv s1,K sv s1->s1.log=s.log) (h:mO tab view s o K):uX o.op=true/\cB C s a K (fk tab ta a o):=by
 obtain⟨dst,op,type,pos,after,guard⟩:=o;unfold mO at h;unfold fk;have same1:∀{x:Operand} {K':SV->Prop},so (fM s.ts x) K'->∃sv v,ev ta x= .ok v/\aQ C sv v/\K' sv:=by
  intro x K' h;obtain⟨sv,h1,h2⟩:=dH h;obtain⟨v,h3,h4⟩:=mI hF h1;exact⟨sv,v,h3,h4,h2⟩
 cases op<;>simp only at h⊢ <;>simp only[cls,uX]at hc⊢
 case move x=>
  grind [eP,cB.same]
 case assign x=>
  grind [eP,cB.same]
 case pick c x y=>
  refine⟨trivial,?_⟩;split at h
  . rename_i p hc;obtain⟨v,h3,h4⟩:=mI hF hc;rw[po h4]at h3;rw[eP h3];split at h
    . rename_i p1 p2 hx hy;obtain⟨u,g1,g2⟩:=mI hF hx;obtain⟨w,g3,g4⟩:=mI hF hy;rw[po g2]at g1;rw[po g4]at g3
      cases p
      . simp only;rw[eP g3];exact cB.same (.pure (.bool _)) h
      . simp only;rw[eP g1];exact cB.same (.pure (.bool _)) h
    . rcases zG h with⟨rfl,h⟩|⟨rfl,h⟩
      . obtain⟨sv,v,h3,h4,h2⟩:=same1 h;simp only;rw[eP h3];exact cB.same h4 h2
      . obtain⟨sv,v,h3,h4,h2⟩:=same1 h;simp only;rw[eP h3];exact cB.same h4 h2
  . exact h.elim
 case build t ps=>
  refine⟨trivial,?_⟩;obtain⟨l,h1,h2⟩:=dH h;obtain⟨sv,h3,h4⟩:=dH h2;obtain⟨vs,g1,g2,g3⟩:=x8 hF h1;obtain⟨v,g4,g5⟩:=Me g2 g3 h3;rw[rb g1,rb g4];exact cB.same g5 h4
 case load t x=>
  refine⟨trivial,?_⟩;obtain⟨sv,v,h3,h4,h2⟩:=same1 h;obtain⟨b,off,u,su,rfl,g1,g2,g3⟩:=Gs H h4 h2;rw[eP h3];simp only;rw[rb g1];exact cB.same g2 g3
 case nilCheck x=>
  refine⟨trivial,?_⟩;obtain⟨sv,v,h3,h4,h2⟩:=same1 h;rw[eP h3];split at h2
  . cases h4 with
    |pure h=>cases h
    |ptr hI=>grind [cB.same]
  . cases h4 with
    |pure h=>cases h
    |cF hI hc=>grind [cB.same]
  . cases h4 with
    | pure h=>cases h with
      |cz b base ca e sz ext bk u hb hl h1 h2'=>grind [cB.same]
  . cases h4 with
    | pure h=>cases h with
      |fn h1 h2' h3' h4'=>grind [cB.same]
    |fn h1 h2' h3' h4'=>grind [cB.same]
  grind
 case binOp op t x y _=>
  grind [eP,cB.val,Pv]
 case unOp op _ x=>
  grind [eP,cB.val,Qg]
 case makeFunc fn first captured=>
  refine⟨trivial,?_⟩;split at h
  . obtain⟨xs,h1,h2⟩:=dH h;obtain⟨ys,h3,h4⟩:=dH h2;obtain⟨us,g1,g2⟩:=rC hF h1;obtain⟨vs,g3,g4⟩:=rC hF h3;simp only;rw[rb g1,rb g3];exact cB.same (.fn g2.1 g4.1 g2.2 g4.2) h4
  grind
 case fieldAddr st x f=>
  refine⟨trivial,?_⟩;obtain⟨fd,h1,h2⟩:=dH h;obtain⟨hck,h3⟩:=dc h2;obtain⟨sv,v,h4,h5,h6⟩:=same1 h3;rw[rb (x5 h1)];split at hck
  . rename_i n hn;rw[rb (show siz tab fd.type=_ from ro hn),rb (rc hck),eP h4];split at h6
    . cases h5 with
      |pure h=>cases h
      |ptr hI=>exact cB.same (.ptr hI) h6
    . cases h5 with
      |pure h=>cases h
      |cF hI hc=>simp only[De];exact cB.same (.cF hI hc) h6
    . cases h5 with
      | pure h=>cases h with
        |cz b base ca e sz ext bk u hb hl h1 h2'=>simp only[De];exact cB.same (.pure (.cz b base ca e sz ext bk u hb hl h1 h2')) h6
    grind
  grind
 case field t x f=>
  refine⟨trivial,?_⟩;obtain⟨fd,h1,h2⟩:=dH h;obtain⟨sv,v,h4,h5,h6⟩:=same1 h2;rw[rb (x5 h1),eP h4];grind [oB,dH,vQ,rb,cB.same]
 case indexAddr t x ix=>
  refine⟨trivial,?_⟩;obtain⟨sj,vj,h1,h2,h3⟩:=same1 h;obtain⟨i,h4,h5⟩:=wh h3 h2;obtain⟨sv,v,h6,h7,h8⟩:=same1 h5;rw[eP h1,rb h4];split at h8
  . rename_i len e b off hg;split at h8
    . rename_i n hn;obtain⟨g1,g2⟩:=dc h8;rw[rb (show und tab t=_ from ro hg),eP h6]
      cases h7 with
      |pure h=>cases h
      |ptr hI=>simp only;rw[rb (rc g1),rb (show siz tab e=_ from ro hn)];exact cB.same (.ptr hI) g2
    grind
  . rename_i e b off len cap hg;split at h8
    . rename_i n hn;obtain⟨g1,g2⟩:=dc h8;rw[rb (show und tab t=_ from ro hg),eP h6]
      cases h7 with
      |pure h=>cases h
      |sl hI=>simp only;rw[rb (rc g1),rb (show siz tab e=_ from ro hn)];exact cB.same (.ptr hI) g2
    grind
  . rename_i e X L enc hg;split at h8
    . rename_i n hn;obtain⟨x,g1,g2⟩:=dH h8;obtain⟨g2,g3⟩:=dc g2;have g2:=Ag g2;have hi:=(Ae.1 g1).1;obtain⟨b,off,cap,cs,e',sz,ext,bk,rfl,hb,hs,hl,hsz,hc,hcell⟩:=zg (l3 h7 rfl) (by grind);obtain⟨sz0,ext0,hb,hx0⟩:=hb;have hszn:sz=n:=by rw[<-hsz i x g1];exact g2
      subst hszn;rw[rb (show und tab t=_ from ro hg),eP h6];simp only;rw[rb (rc (by simp_all)),rb (show siz tab e=_ from ro hn)];refine cB.same (.pure ?_) g3;refine .cz b (off+i*sz) cs e' sz0 ext0 bk (fun j=>(cs[off+i*sz+j]?).getD (.bO [])) hb ?_ ?_ ?_
      . rw[g2];have:i*sz+sz<=L.length*sz:=by
         calc i*sz+sz=(i+1)*sz:=by rw[Bi,Dn]
          _<=L.length*sz:=A5 _ hi
        omega
      all_goals grind
    grind
  . rename_i e b hg;split at h8
    . rename_i n X L enc e' hn hb;obtain⟨g1,g2⟩:=dc h8;simp only[Ad]at g1;have hee:=Ag g1.1;subst hee;have hi:i<L.length:=by simp_all
      rw[rb (show und tab t=_ from ro hg),eP h6]
      cases h7 with
      |pure h=>cases h
      | eB hI hc=>
        obtain⟨_,_,_,_,k5⟩:=H.at_ hb hI;rw[hc]at k5;omega
      | own hI hc=>
        rename_i I c;obtain⟨k1,k2,k3,_,k5⟩:=H.at_ hb hI;have hsz:I.sz=n:=by rw[hn]at k1;exact(Df k1).symm
        simp only;rw[rb (rc (by rw[k3];simpa using hi)),rb (show siz tab e=_ from ro hn)];have hh:aQ C (.cF b i 0) (.ptr I.β (i*I.sz+0)):= .cF hI (by grind);rw[hsz,BC]at hh;rw[AA];grind [cB.same]
    grind
  grind
 case index t x ix=>
  refine⟨trivial,?_⟩;obtain⟨sj,vj,h1,h2,h3⟩:=same1 h;obtain⟨i,h4,h5⟩:=wh h3 h2;obtain⟨sv,v,h6,h7,h8⟩:=same1 h5;rw[eP h1,rb h4];split at h8
  . rename_i len e cs hg;split at h8
    . rename_i n hn;obtain⟨g1,g2⟩:=dc h8;obtain⟨su,g3,g4⟩:=dH g2;obtain⟨us,rfl,g5⟩:=oB h7;obtain⟨u,g6,g7⟩:=vQ g5 g3;rw[rb (show und tab t=_ from ro hg),eP h6];simp only;rw[rb (rc g1),rb (show siz tab e=_ from ro hn),rb g6];grind [cB.same]
    grind
  . rename_i c hg;obtain⟨b,g1,g2⟩:=dH h8;rw[rb (show und tab t=_ from ro hg),eP h6,iT h7];simp only;rw[rb (ro g1)];exact cB.same (.pure (.int _ _)) g2
  grind
 case extract t i=>
  refine⟨trivial,?_⟩;obtain⟨sv,v,h6,h7,h8⟩:=same1 h;rw[eP h6];split at h8
  . obtain⟨us,rfl,g5⟩:=zu h7;obtain⟨su,g3,g4⟩:=dH h8;obtain⟨u,g6,g7⟩:=g5.get g3;simp only;rw[rb (ro g6)];grind [cB.same]
  grind
 case slice t x lo hi mx=>
  cases mx with
  |some m=>exact h.elim
  | none=>
    refine⟨rfl,?_⟩;obtain⟨sv,v,h3,h4,h2⟩:=same1 h;rw[eP h3];exact V9 hF H h4 hK h2
 case call c=>
  split at h
  . rename_i b hb;obtain⟨l,h1,h2⟩:=dH h;obtain⟨vs,g1,g2⟩:=rC hF h1;rw[hb]at hc⊢;simp only at hc⊢;rw[rb g1]
    cases b<;>simp only at hc⊢ <;>first|(rcases hc with hc|hc<;>cases hc;done)|skip
    case len=>exact⟨trivial,C7 hF H g2 (.inl rfl) h2⟩
    case min=>exact⟨trivial,C7 hF H g2 (.inr (.inl rfl)) h2⟩
    case max=>exact⟨trivial,C7 hF H g2 (.inr (.inr rfl)) h2⟩
    case cap=>unfold te at h2;exact h2.elim
  . exact h.elim
 case convert src dst x=>
  refine⟨trivial,?_⟩;obtain⟨k0,j0,e1,e2⟩:=ZK hc;obtain⟨sv,v,h3,h4,h2⟩:=same1 h;rw[eP h3];unfold zQ at h2;split at h2
  . rename_i d k i n hs hd;rw[e2]at hd
    cases hd;rw[jT h4,LU e1 e2];exact cB.same (.pure (.int _ _)) h2
  all_goals first
    |exact h2.elim
    |(rename_i hd;rw[e2]at hd;cases hd;done)
 all_goals first|exact h.elim|(rcases hc with hc|hc<;>cases hc)
end
end
section
universe u v
variable [Inhabited aK]
section
variable {tab:bC} {view:TypeId->Option View} {C:Cx} {s:St} {ta:T AV} {a:AH}
def Made (tab:bC) (C:Cx) (s:St) (a:AH) (K:SV->St->Prop) (r:AH->R (AV×AH)):Prop:=
 ∃sv v so ao I,K sv (s.new so)/\(∀h':AH,h'.next=a.next->r h'= .ok (v,h'.new ao))/\I.β=a.next/\I.cap.isSome/\(∀C',C.le C'->C'.ρ s.h.next=some I->aQ C' sv v)/\ ∀(C':Cx) (a':AH),C.le C'->a'.get a.next=some ao->eL tab C' I so a'
theorem Made.cells {cs:List SV} {ca:List AV} (hc:bc C cs ca) {e n:Nat} (hn:tab.siz.get e=some n) {K:SV->St->Prop} {sv:SV} {f:Nat->AV} (hv:∀C':Cx,∀I:BI,C'.ρ s.h.next=some I->aQ C' sv (f I.β)) (hk:K sv (s.new (.cells cs e))) {r:AH->R (AV×AH)}
  (hr:∀h':AH,h'.next=a.next->r h'= .ok (f h'.next,h'.new (.cells ca e n false .rw))):Made tab C s a K r:=by
 refine⟨sv,f a.next, .cells cs e, .cells ca e n false .rw,⟨a.next,0,n,some (.lit 0)⟩,hk,fun h' hh=>by rw[hr h' hh,hh],rfl,rfl,fun C' _ hI=>hv C' _ hI,fun C' a' hle hg=>⟨rfl,ca,n,hg,hc.le hle,hn⟩⟩
theorem qwd (hF:FS C s.ts ta) {o:Oper} (hc:cls tab o= .alloc) {K:SV->St->Prop} (h:mO tab view s o K):Made tab C s a K fun h'=>fk tab ta h' o:=by
 obtain⟨dst,op,type,pos,after,guard⟩:=o;unfold mO at h;unfold fk;have same1:∀{x:Operand} {K':SV->Prop},so (fM s.ts x) K'->∃sv v,ev ta x= .ok v/\aQ C sv v/\K' sv:=by
  intro x K' h;obtain⟨sv,h1,h2⟩:=dH h;grind [mI]
 cases op<;>simp only at h⊢ <;>simp only[cls]at hc
 case alloc e=>
  obtain⟨n,hn,h⟩:=dH h;obtain⟨cs,h1,h2⟩:=dH h;obtain⟨zv,zc,g1,g2,g3⟩:=rp (C:=C) h1;exact Made.cells (f:=fun b=> .ptr b 0) g3 hn (fun C' I hI=> .ptr hI) h2 (fun h' _=>by rw[rb g1,rb g2,rb (ju hn _ _ _)])
 case box e x=>
  obtain⟨n,hn,h⟩:=dH h;obtain⟨sv,v,h3,h4,h2⟩:=same1 h;obtain⟨hk,h2⟩:=dc h2;obtain⟨l,g1,g2⟩:=xV h4 hk;exact Made.cells (f:=fun b=> .ptr b 0) g2 hn (fun C' I hI=> .ptr hI) h2 (fun h' _=>by rw[eP h3,rb g1,rb (ju hn _ _ _)])
 case buildSlice t len ps=>
  obtain⟨l,h1,h2⟩:=dH h;obtain⟨vs,g1,g2,g3⟩:=x8 hF h1;have:(fun h'=>(do let l<-mD ta ps.toList;Am.buildSlice tab h' t len l))=fun h'=>Am.buildSlice tab h' t len vs:=by
    funext h';rw[rb g1]
  rw[this];have h:=h2;clear h2;unfold xr at h;split at h
  . rename_i e hg;split at h
    . rename_i n z hn hz;obtain⟨hck,h1⟩:=dc h;obtain⟨zv,zc,q1,q2,q3⟩:=rp (C:=C) hz;have hzl:(Nat.beq zc.length n)=true:=by rw[<-q3.1];grind
      have hb:∀(h':AH) (ca:List AV),fill (rep len zc) (vs.map fun(i,v)=>(i*n,n,v))= .ok ca->Am.buildSlice tab h' t len vs= .ok (.sl h'.next 0 len (.lit len),h'.new (.cells ca e n false .rw)):=by
        simp_all[Am.buildSlice,rb,und,ro,siz,rc,ju]
      by_cases hl0:len=0
      . subst hl0;obtain⟨hck2,h2⟩:=dc h1;simp only[Ad,List.isEmpty_iff,A2]at hck2;obtain⟨rfl,hn0⟩:=hck2;have hn0:n≠0:=fun e=>by simp_all
        cases vs with
        |cons=>grind
        |nil=>
         split at h2
         . refine⟨_, .sl a.next 0 0 (.lit 0),_, .cells [] e n false .rw,⟨a.next,0,n,some (.lit 0)⟩,h2,fun h' hh=>(hb h' [] rfl).trans (by rw[hh]),rfl,rfl,fun C' _ hI=> .own hI rfl,fun C' a' hle hg=>⟨hn,by grind,rfl,fun i x hx=>by grind,[],false, .rw,hg,by simp,by simp, .inr ⟨rfl,rfl⟩,fun i x j v hx=>by grind⟩⟩
         grind
      . rw[gJ hl0]at h1;obtain⟨cs,h2,hk⟩:=dH h1;obtain⟨ca,h3,h4⟩:=yB (qs:=vs.map fun x=>(x.1*n,n,x.2)) (OZ q3 len) (by
         have:=Aj (List.map (fun i=>(i*n,n))) g2;grind [Function.comp_def]) (by grind [Function.comp_def]) h2
        exact Made.cells (f:=fun b=> .sl b 0 len (.lit len)) h4 hn (fun C' I hI=> .sl hI) hk (fun h' _=>hb h' ca h3)
    grind
  grind
 all_goals grind
end
end
section
universe u v
variable [Inhabited aK]
theorem xQ:∀(l:List (Nat×Nat)) (h:SH) (p:Nat),(pG h l).get p=if ∃x∈l,x.2=p then none else h.get p:=by
 intro l;induction l with
 |nil=>grind [pG]
 |cons x l ih=>
  intro h p;obtain⟨i,b⟩:=x;simp only[pG,ih,SH.bp];by_cases h1:∃x∈l,x.2=p
  . rw[An h1,An];grind
  . rw[Al h1];by_cases h2:p=b
    . rw[An h2,An ⟨(i,b),As,h2.symm⟩]
    grind
theorem Xr:∀(l:List (Nat×Nat)) (h:SH),(pG h l).next=h.next:=by
 intro l;induction l with
 |nil=>intro h;rfl
 |cons x l ih=>grind [pG,SH.eR]
theorem ri (h0:SH) (log:List Ev):∀(l:List (Nat×Nat)) (h:SH) (p:Nat),(l8 h h0 log l).get p=if ∃x∈l,x.2=p then jN (h0.get p) log else h.get p:=by
 intro l;induction l with
 |nil=>grind [l8]
 |cons x l ih=>
  intro h p;obtain⟨i,b⟩:=x;simp only[l8,ih,SH.bp];by_cases h1:∃x∈l,x.2=p
  . rw[An h1,An];grind
  . rw[Al h1];by_cases h2:p=b
    . rw[An h2,An ⟨(i,b),As,h2.symm⟩,h2]
    grind
theorem WI (h0:SH) (log:List Ev):∀(l:List (Nat×Nat)) (h:SH),(l8 h h0 log l).next=h.next:=by
 intro l;induction l with
 |nil=>intro h;rfl
 |cons x l ih=>grind [l8,SH.eR]
theorem Mr (h:SH) (n:Nat):∀(l:List Nat) (p:Nat),(SH.mk n (qz h l)).get p=if p∈l then h.get p else none:=by
 intro l;induction l with
 |nil=>grind [qz,SH.get,look]
 |cons b l ih=>
  grind [SH.get,qz,kU]
open Classical in
theorem Cv {a:AH} (hwf:∀i o,a.get i=some o->i<a.next) (P:Nat->Prop):∃a0:AH,a0.next=a.next/\ ∀i,a0.get i=if P i then a.get i else none:=by
 refine⟨jh a (((List.range a.next).filter fun i=>decide (¬P i)).map fun i=>(0,i)),jS _ _,fun i=>?_⟩;rw[jf];by_cases hP:P i
 . rw[An hP,Al];grind
 . rw[Al hP];split
   . rfl
   . cases hg:a.get i with
     |none=>rfl
     |some o=>simp_all
section
variable {tab:bC} {C C':Cx} {h h0:SH} {a a0:AH}
theorem HS.part (H:HS tab C h a) (hn:h0.next=h.next) (hh:∀p o,h0.get p=some o->h.get p=some o) (hp:Part a0 a) (hn0:a0.next=a.next) (hf:∀i o,C.Fz i=some o->a0.get i=some o)
   (hb:∀p o I,h0.get p=some o->C.ρ p=some I->I.cap.isSome->a0.get I.β=a.get I.β):HS tab C h0 a0:=by
 refine⟨fun p o hp=>?_,fun p q o o' I J hp hq=>H.inj p q o o' I J (hh p o hp) (hh q o' hq),hf,fun p o I hp=>H.dj p o I (hh p o hp),fun p I hI=>by rw[hn];exact H.lt p I hI,fun i o hi=>by rw[hn0];exact H.wf i o (hp i o hi)⟩;obtain⟨I,hI,ho⟩:=H.obj p o (hh p o hp);refine⟨I,hI,?_⟩;by_cases hc:I.cap.isSome
 . exact ho.congr (hb p o I hp hI hc)
 . cases o with
   |cells cs t=>exact absurd ho.1 hc
   |arr X L enc t=>
    obtain⟨g1,g2,g3,g4,g5⟩:=ho;refine⟨g1,g2,g3,g4,?_⟩;grind
end
theorem qxt:∀{l:List AV},(∀(i:Nat) v,l[i]? =some v->AV.beq v v=true)->iE l l=true:=by
 intro l;induction l with
 |nil=>intro _;rfl
 |cons v l ih=>intro h;simp only[iE,Ad];exact⟨h 0 v rfl,ih fun i w hw=>h (i+1) w (by grind)⟩
theorem XL:∀{l:List SV},kQ l=true->∀(i:Nat) (s:SV),l[i]? =some s->s.full=true:=by
 intro l;induction l with
 |nil=>grind
 |cons v l ih=>
  grind [kQ]
theorem tb {l:List SV} {m:List AV} (hl:l.length=m.length) (hf:kQ l=true) (h:∀(i:Nat) s v,l[i]? =some s->m[i]? =some v->s.full=true->AV.beq v v=true):iE m m=true:=by
 refine qxt fun i v hv=>?_
 have hi:=(Ae.1 hv).1;have hs:l[i]? =some l[i]:=Ai (by omega);grind [XL]
theorem XM {Fz:Nat->Option AO} {s:SV} {v:AV} (h:aT Fz s v) (hf:s.full=true):AV.beq v v=true:=by
 induction h with
 |any v=>cases hf
 |ch h0 hv=>rcases hv with rfl|⟨b,off,l,n,k,rfl⟩|⟨a,c,rfl⟩<;>simp[AV.beq]
 |fn h1 h2 _ _ ih3 ih4=>
  grind [SV.full,AV.beq,tb]
 |agg h1 _ ih=>grind [SV.full,AV.beq,tb]
 |bO h1 _ ih=>exact tb h1 hf ih
 |_=>simp[AV.beq]
theorem Zq {C:Cx} {s:SV} {v:AV} (h:aQ C s v) (hf:s.full=true):AV.beq v v=true:=by
 induction h with
 |pure h=>grind [XM]
 |fn h1 h2 _ _ ih3 ih4=>
  grind [SV.full,AV.beq,tb]
 |agg h1 _ ih=>exact tb h1 hf ih
 |bO h1 _ ih=>exact tb h1 hf ih
 |_=>simp[AV.beq]
def lS (C:Cx) (h:SH):List (Nat×Nat)->List (Nat×Nat)->Prop
 |[],[]=>True
 |(i,p)::l,(j,β)::m=>i=j/\(∃o I,h.get p=some o/\C.ρ p=some I/\I.cap.isSome/\I.β=β)/\lS C h l m
 |_,_=>False
theorem lS.filter {C:Cx} {h:SH} (f:Nat->Bool):∀{l m:List (Nat×Nat)},lS C h l m->lS C h (l.filter fun x=>f x.1) (m.filter fun x=>f x.1):=by
 intro l;induction l with
 |nil=>intro m hm;cases m with
  |nil=>exact hm
  |cons=>exact hm.elim
 | cons x l ih=>
  intro m hm;obtain⟨i,p⟩:=x
  cases m with
  |nil=>exact hm.elim
  |cons y m=>
   obtain⟨j,β⟩:=y;obtain⟨rfl,h1,h2⟩:=hm;simp only[B7]
   cases f i
   . grind
   . simpa using⟨rfl,h1,ih h2⟩
theorem lS.mono {C C':Cx} {h h':SH}:∀{l m:List (Nat×Nat)},lS C h l m->(∀x∈l,∀o I,h.get x.2=some o->C.ρ x.2=some I->I.cap.isSome->∃o',h'.get x.2=some o'/\C'.ρ x.2=some I)->lS C' h' l m:=by
 intro l;induction l with
 |nil=>intro m hm _;cases m with
  |nil=>exact hm
  |cons=>exact hm.elim
 | cons x l ih=>
  intro m hm hk;obtain⟨i,p⟩:=x
  cases m with
  |nil=>exact hm.elim
  |cons y m=>
   obtain⟨j,β⟩:=y;obtain⟨rfl,⟨o,I,g1,g2,g3,g4⟩,h2⟩:=hm;obtain⟨o',k1,k2⟩:=hk (i,p) As o I g1 g2 g3;exact⟨rfl,⟨o',I,k1,k2,g3,g4⟩,ih h2 (fun x hx=>hk x (AP _ hx))⟩
theorem lS.left {C:Cx} {h:SH}:∀{l m:List (Nat×Nat)},lS C h l m->∀x∈l,∃o I,h.get x.2=some o/\C.ρ x.2=some I/\I.cap.isSome/\ ∃y∈m,y.2=I.β:=by
 intro l;induction l with
 |nil=>grind
 | cons x l ih=>
  intro m hm y hy;obtain⟨i,p⟩:=x
  cases m with
  |nil=>exact hm.elim
  |cons z m=>
   obtain⟨j,β⟩:=z;obtain⟨rfl,⟨o,I,g1,g2,g3,g4⟩,h2⟩:=hm;grind [List.mem_cons_self]
theorem lS.right {C:Cx} {h:SH}:∀{l m:List (Nat×Nat)},lS C h l m->∀y∈m,∃x∈l,∃o I,h.get x.2=some o/\C.ρ x.2=some I/\I.cap.isSome/\I.β=y.2:=by
 intro l;induction l with
 |nil=>intro m hm y hy;cases m with
  |nil=>cases hy
  |cons=>exact hm.elim
 | cons x l ih=>
  intro m hm y hy;obtain⟨i,p⟩:=x
  cases m with
  |nil=>grind
  |cons z m=>
   obtain⟨j,β⟩:=z;obtain⟨rfl,⟨o,I,g1,g2,g3,g4⟩,h2⟩:=hm;grind [List.mem_cons_self]
def sH (tab:bC) (ops:Array Oper) (C:Cx) (h:SH) (a:AH) (x:Nat×T AV×AV) (rs:List Nat):Prop:=
 ∃o a0 h1,ops[x.1]? =some o/\(cls tab o= .pure\/cls tab o= .read)/\uX o.op=true/\AV.beq x.2.2 x.2.2=true/\fk tab x.2.1 a0 o= .ok (x.2.2,h1)/\
  ∀β ob,a0.get β=some ob->C.Fz β=some ob\/(a.get β=some ob/\ ∃p∈rs,∃o' I,h.get p=some o'/\C.ρ p=some I/\I.cap.isSome/\I.β=β)
theorem sH.mono {tab:bC} {ops:Array Oper} {C C':Cx} {h h':SH} {a a':AH} {x:Nat×T AV×AV} {rs:List Nat} (hx:sH tab ops C h a x rs) (hf:∀i o,C.Fz i=some o->C'.Fz i=some o)
  (hk:∀p∈rs,∀o I,h.get p=some o->C.ρ p=some I->I.cap.isSome->a'.get I.β=a.get I.β/\ ∃o',h'.get p=some o'/\C'.ρ p=some I):sH tab ops C' h' a' x rs:=by
 obtain⟨o,a0,h1,g1,g2,g3,gb,g4,g5⟩:=hx;refine⟨o,a0,h1,g1,g2,g3,gb,g4,fun β ob hb=>?_⟩;grind
structure kB (tab:bC) (ops:Array Oper) (C:Cx) (d:SD) (e:DS):Prop where
 F:FS C d.s.ts e.ts
 H:HS tab C d.s.h e.h
 aS:d.aS=e.aS
 al:lS C d.s.h d.aI e.aI
 rd:∀x∈e.reads,∃rs,(x.1,rs)∈d.reads/\sH tab ops C d.s.h e.h x rs
structure Prog (C:Cx) (d:SD) (e:DS) (new:List Ev) (C':Cx) (d':SD) (e':DS):Prop where
 log:d'.s.log=d.s.log++new
 tr:Tr C new C'
 grow:Grow e.h e'.h
 aV:dv C d.s.h e.h new C' d'.s.h e'.h
end
section
universe u v
variable [Inhabited aK]
section
variable {tab:bC} {cfg:iM} {ops:Array Oper} {nt:Nat}
theorem xG (ts:T AV) (o:Oper) (v:AV):jg nt ts o v=ik nt ts o.dst v:=by
 grind [jg,ik]
theorem Prog.refl {C C':Cx} {d d':SD} {e e':DS} (hl:d'.s.log=d.s.log) (hh:d'.s.h=d.s.h) (he:e'.h=e.h) (hc:C'=C):Prog C d e [] C' d' e':=by
 subst hc;exact⟨by grind,Tr.refl _,by rw[he];exact Grow.refl _,by rw[hh,he];grind [dv.same]⟩
open Classical in
theorem Zo (htab:cfg.tab=tab) {C:Cx} {d:SD} {e:DS} {i:Nat} {o:Oper} {K:SD->Prop} (h:Hd cfg ops nt i o d K) (S:kB tab ops C d e) (hi:ops[i]? =some o):
  ∃r d' C',vx tab ops nt i o e= .ok r/\K d'/\kB tab ops C' d' (r.getD e)/\Prog C d e [] C' d' (r.getD e):=by
 obtain⟨s,aS,reads,aI⟩:=d;obtain⟨hF,H,hanc,hal,hrd⟩:=S;simp only at hF H hanc hal hrd;simp only[Hd]at h;rw[htab]at h;obtain⟨hok,h⟩:=dc h;obtain⟨w,s1,h1,hw,hF1,eh,el⟩:=Fq h hF;subst hanc;unfold vx
 rw[rb (rc hok)];rw[rb hw]
 cases w with
 |false=>
  have h2:=xP (om h1);obtain⟨s2,k1,k2,k3,k4⟩:=tA (v:= .bO []) h2 hF1 (.pure (.bO rfl (fun i c v hc=>by grind)));refine⟨_,_,C,rfl,k1,⟨?_,?_,rfl,?_,?_⟩,Prog.refl ?_ ?_ rfl rfl⟩
  all_goals grind [xG]
 | true=>
  have Hs:HS tab C s1.h e.h:=by rw[eh];exact H
  have look:∀(hc:cls tab o= .pure\/cls tab o= .read),(kI (eS e.aS o) fun an=>pw (e.aS.set i (some an)) fun aS=>match s1 with
   | ⟨ts,h,log⟩=>kI (GZ ts o) fun rs=>ck (rs.all fun b=>aI.all fun x=> !(Nat.beq x.2 b)) (mO tab cfg.view ⟨ts,⟨h.next,qz h rs⟩,[]⟩ o fun v s'=>ck (s'.log.isEmpty&&v.full) (jR nt ⟨ts,h,log⟩ o.dst v fun s'=>K ⟨s',aS,(i,rs)::reads,aI⟩)))->
     ∃ d' v,K d'/\(∀v' hx',fk tab e.ts {t:= .e,next:=0} o= .ok (v',hx')->v'=v/\hx'.next=0)/\fk tab e.ts (jh e.h e.aI) o= .ok (v,jh e.h e.aI)/\
       ∀rd',(rd'=e.reads\/rd'=(i,e.ts,v)::e.reads)->kB tab ops C d' {e with ts:=jg nt e.ts o v,aS:=e.aS.set i (some (eS e.aS o)),reads:=rd'}/\Prog C ⟨s,e.aS,reads,aI⟩ e [] C d' {e with ts:=jg nt e.ts o v,aS:=e.aS.set i (some (eS e.aS o)),reads:=rd'}:=by
   intro hc h;have h:=xP (om h);obtain⟨ts,hh,log⟩:=s1;simp only at h eh el hF1 Hs;subst eh;have h:=om h;generalize GZ ts o=rs at h
   obtain⟨hdis,h⟩:=dc h;obtain⟨a0,hn0,hg0⟩:=Cv H.wf (fun i=>(∃ob,C.Fz i=some ob)\/ ∃p∈rs,∃o' I,s.h.get p=some o'/\C.ρ p=some I/\I.cap.isSome/\I.β=i);have hpart:Part a0 e.h:=by
     intro j ob hj;rw[hg0]at hj;grind
   have H0:HS tab C ⟨s.h.next,qz s.h rs⟩ a0:=by
     refine Hs.part rfl (fun p o' hp=>?_) hpart hn0 (fun j ob hj=>?_) (fun p o' I hp hI hcap=>?_)
     . rw[Mr]at hp;split at hp
       . exact hp
       . cases hp
     . rw[hg0,An (.inl ⟨ob,hj⟩)];exact H.fz j ob hj
     grind [Mr]
   obtain⟨hlk,sv,v,hk,hp,hv⟩:=qwc (s:=⟨ts,⟨s.h.next,qz s.h rs⟩,[]⟩) hF1 H0 hc (fun sv s1 hk=>by have:=(dc hk).1;grind) h;obtain⟨hfull,hk⟩:=dc hk;simp only[Ad]at hfull;have hbeq:=Zq hv hfull.2;obtain⟨s2,k1,k2,k3,k4⟩:=tA hk hF1 hv;have hhid:Part a0 (jh e.h e.aI):=by
     intro β ob hβ;rw[jf,Al]
     . exact hpart β ob hβ
     . rintro⟨y,hy,rfl⟩;obtain⟨x,hx,ox,Ix,x1,x2,x3,x4⟩:=hal.right y hy;rw[hg0]at hβ;split at hβ
       . rename_i hP;rcases hP with⟨ob',hP⟩|⟨p,hpm,op,Ip,p1,p2,p3,p4⟩
         . have:=H.dj x.2 ox Ix x1 x2 x3;rw[x4,hP]at this;grind
         . have:=H.inj p x.2 op ox Ip Ix p1 x1 p2 x2 p3 x3 (by rw[p4,x4]);have h5:=AG.1 (AG.1 hdis p hpm) x hx;rw[this]at h5;simp_all
       grind
   refine⟨_,v,k1,fun v' hx' hp'=>?_,E2 hc hlk hhid hp,fun rd' hrd'=>⟨⟨?_,?_,rfl,?_,?_⟩,Prog.refl ?_ ?_ rfl rfl⟩⟩
   . have h5:=E2 hc hlk (h0:={t:= .e,next:=0}) (h:=a0) (fun j ob hj=>by cases hj) hp';have h6:=xy ⟨by rcases hc with e|e<;>rw[e]<;>simp,by rcases hc with e|e<;>rw[e]<;>simp⟩ hp';rw[hp]at h5;grind
   . grind [xG]
   . grind
   . grind
   . rw[k3];intro x hx;rcases hrd' with rfl|rfl
     . obtain⟨rs',g1,g2⟩:=hrd x hx;grind
     . rcases Ap.1 hx with rfl|hx
       . refine⟨rs,As,o,a0,_,hi,hc,hlk,hbeq,hp,fun β ob hβ=>?_⟩;have hβ':=hpart β ob hβ;rw[hg0]at hβ;split at hβ
         . rename_i hP;rcases hP with⟨ob',hP⟩|hP
           . have:=H.fz _ _ hP;rw[hβ']at this;cases this;exact .inl hP
           . exact .inr ⟨hβ',hP⟩
         . cases hβ
       . obtain⟨rs',g1,g2⟩:=hrd x hx;exact⟨rs',AP _ g1,g2⟩
   all_goals grind
  cases hcl:cls tab o with
  |lD=>
   rw[hcl]at h1;exact⟨none,_,C,rfl,h1,⟨hF1,Hs,rfl,by rw[eh];exact hal,by rw[eh];exact hrd⟩,Prog.refl el eh rfl rfl⟩
  |pure=>
   obtain⟨d',v,g1,g2,g3,g4⟩:=look (.inl hcl) (by rw[hcl]at h1;exact h1)
   cases hp:fk tab e.ts {t:= .e,next:=0} o with
   | ok r=>
     obtain⟨v',hx'⟩:=r;obtain⟨rfl,hn⟩:=g2 v' hx' hp;simp only;rw[rb (rc (by rw[hn];rfl))];obtain⟨q1,q2⟩:=g4 e.reads (.inl rfl);exact⟨_,d',C,rfl,g1,q1,q2⟩
   | no _=>
     rw[g3];obtain⟨q1,q2⟩:=g4 _ (.inr rfl);exact⟨_,d',C,rfl,g1,q1,q2⟩
  |read=>
   obtain⟨d',v,g1,g2,g3,g4⟩:=look (.inr hcl) (by rw[hcl]at h1;exact h1);rw[g3];obtain⟨q1,q2⟩:=g4 _ (.inr rfl);exact⟨_,d',C,rfl,g1,q1,q2⟩
  |alloc=>
   rw[hcl]at h1;simp only at h1⊢;have h2:=xP (om h1);clear h1 look;obtain⟨ts,hh,log⟩:=s1;subst eh;obtain⟨sv,v,so,ao,I,m1,m2,m3,m4,m5,m6⟩:=qwd (s:=⟨ts,s.h,[]⟩) (a:=e.h) hF1 hcl h2;simp only[St.new]at m1;obtain⟨_,m1⟩:=dc m1;obtain⟨q1,q2⟩:=H.new (ao:=ao) (o:=so) I m3 (fun hle=>m6 _ _ hle (by rw[AH.aX,An rfl]));obtain⟨s2,k1,k2,k3,k4⟩:=tA (C:=C.put s.h.next I) m1 (FS.le q1 hF1) (m5 _ q1 (jy _ _ _));rw[rb (m2 {t:= .e,next:=e.h.next} rfl)];rw[rb (rc (by simp)),rb (ro (show AH.get _ _=some ao from by rw[AH.aX,An rfl]))];have hnew:∀p o',s.h.get p=some o'->(s.h.new so).get p=some o':=by
     intro p o' hp;obtain⟨J,hJ,_⟩:=H.obj p o' hp;have:=H.lt p J hJ;rw[SH.aX,Al (by omega)];exact hp
   have hkeep:∀p o' J,s.h.get p=some o'->C.ρ p=some J->J.cap.isSome->(e.h.new ao).get J.β=e.h.get J.β:=by
     intro p o' J hp hJ hc;obtain⟨b,hb⟩:=(H.at_ hp hJ).live hc;have:=H.wf _ _ hb;rw[AH.aX,Al (by omega)]
   refine⟨_,_,C.put s.h.next I,rfl,k1,⟨?_,?_,rfl,?_,?_⟩,⟨?_,q1.tr,?_,?_⟩⟩
   . rw[xG];exact k2
   . rw[k3];exact q2
   . rw[k3];refine⟨rfl,⟨so,I,by rw[SH.aX,An rfl],jy _ _ _,m4,m3⟩,hal.mono fun x hx o' J hp hJ hc=>⟨o',hnew _ _ hp,q1.1 _ _ hJ⟩⟩
   . rw[k3];intro x hx;obtain⟨rs,g1,g2⟩:=hrd x hx;exact⟨rs,g1,g2.mono q1.2 (fun p hp o' J hp hJ hc=>⟨hkeep p o' J hp hJ hc,o',hnew _ _ hp,q1.1 _ _ hJ⟩)⟩
   . simp only[Br];rw[k4];exact el
   . exact Grow.new _ _
   . rw[k3];exact dv.new H _ _ q1 (vz H _)
end
end
section
universe u v
variable [Inhabited aK]
section
variable {P:Program} {tab:bC} {cfg:iM} {ops:Array Oper} {nt:Nat} {rec:SM->(SV->St->Prop)->Prop}
theorem Prog.trans {C C' C'':Cx} {d d' d'':SD} {e e' e'':DS} {l m:List Ev} (p:Prog C d e l C' d' e') (q:Prog C' d' e' m C'' d'' e'') (H:∀i o,C'.Fz i=some o->e'.h.get i=some o) (H':∀i o,C''.Fz i=some o->e''.h.get i=some o):Prog C d e (l++m) C'' d'' e'':=
 ⟨by rw[q.log,p.log,BP],p.tr.trans q.tr,p.grow.trans q.grow,p.aV.trans q.aV q.tr.fz H H'⟩
theorem qy6 (htab:cfg.tab=tab):∀(l:List Oper) (k:Nat) (d:SD) (e:DS) (C:Cx) (K:SD->Prop),(∀j o,l[j]? =some o->ops[k+j]? =some o)->wO cfg ops nt k l d K->kB tab ops C d e->
  ∃e' d' C',lI tab ops nt k l e= .ok e'/\K d'/\kB tab ops C' d' e'/\Prog C d e [] C' d' e':=by
 intro l;induction l with
 |nil=>
  intro k d e C K _ h S;exact⟨e,d,C,rfl,h,S,Prog.refl rfl rfl rfl rfl⟩
 |cons o l ih=>
  intro k d e C K hl h S;have hi:=hl 0 o rfl;have hl':∀j o,l[j]? =some o->ops[k+1+j]? =some o:=fun j o' hj=>by
    have:=hl (j+1) o' (by grind);rwa [show k+1+j=k+(j+1)from by omega]
  simp only[wO,S.aS]at h;simp only[lI]
  cases hr:isReady e.aS k o
  . rw[hr]at h;grind
  . rw[hr]at h;simp only[B9]at h⊢;obtain⟨r,d1,C1,g1,g2,g3,g4⟩:=Zo htab h S (by omega);rw[rb g1];obtain⟨e',d',C',q1,q2,q3,q4⟩:=ih (k+1) d1 _ C1 K hl' g2 g3;refine⟨e',d',C',?_,q2,q3,?_⟩
    . cases r<;>exact q1
    . have:=g4.trans q4 g3.H.fz q3.H.fz;grind
theorem iN.mono {ts:T AV} {h0:AH} {o:Oper} {Θ Θ':AV->AH->Prop} (h:iN P tab ts h0 o Θ) (hi:∀v h1,h0.next<=h1.next->Θ v h1->Θ' v h1):iN P tab ts h0 o Θ':=by
 rcases h with⟨v,h1,k1,k2,k3⟩|⟨c',f,g,first,captured,args,fn,body,k1,k2,k3,k4,k5,k6,k7⟩
 . exact .inl ⟨v,h1,k1,k2,hi _ _ k2 k3⟩
 . exact .inr ⟨c',f,g,first,captured,args,fn,body,k1,k2,k3,k4,k5,k6,k7.mono fun v h1 ⟨a,b⟩=>⟨a,hi _ _ a b⟩⟩
theorem Y2 {h:AH}:∀{l:List (Nat×T AV×AV)},(∀x∈l,∃o h1,ops[x.1]? =some o/\fk tab x.2.1 h o= .ok (x.2.2,h1)/\AV.beq x.2.2 x.2.2=true)->reread tab ops h l= .ok ():=by
 intro l;induction l with
 |nil=>intro _;rfl
 |cons x l ih=>
  simp_all[reread,rb,ro,rc]
theorem L9:∀(log:List Ev) (s:SV) (b:Nat),(∀e∈log,e.id≠b)->(s= .own b\/s= .cF b 1 0\/s= .ptr b 0)->jG log s=s:=by
 intro log;induction log with
 |nil=>intro s b _ _;rfl
 | cons e l ih=>
  intro s b hb hs;have h1:=hb e As;have:s.on e=s:=by
   rcases hs with rfl|rfl|rfl<;>cases e<;>simp only[Ev.id]at h1<;>simp only[SV.on]<;>first|rfl|(rw[gJ (fun h=>h1 h.symm)];rfl)
  grind [jG]
theorem Tr.same {C C':Cx} {log:List Ev} (hT:Tr C log C') {p:Nat} {I:BI} (hI:C.ρ p=some I) (hc:I.cap.isSome) (hm:∀e∈log,e.id≠p):C'.ρ p=some I:=by
 obtain⟨c,hc'⟩:=Bz.1 hc;have h1:=hT.val _ _ (.own hI hc');rw[L9 log _ p hm (.inl rfl)]at h1;have h2:=hT.val _ _ (.cF (i:=1) (off:=0) hI hc);rw[L9 log _ p hm (.inr (.inl rfl))]at h2;obtain⟨β,len,sz,cap⟩:=I;generalize hv1:AV.sl β 0 len c=v1 at h1
 generalize hv2:AV.ptr β (1*sz+0)=v2 at h2
 cases h1 with
 |pure h=>cases h
 |eB hJ hc=>grind
 | own hJ hc=>
  rename_i J c2
  cases h2 with
  |pure h=>cases h
  |cF hJ' hc2=>
   rw[hJ]at hJ'
   cases hJ'
   cases hv1;rw[hJ];obtain⟨β',len',sz',cap'⟩:=J;grind
theorem YC (o:SO):∀(log:List Ev),∃o',jN (some o) log=some o'/\ ∀{C C':Cx} {I:BI} {a a':AH},Tr C log C'->a'.get I.β=a.get I.β->eL tab C I o a->eL tab C' I o' a':=by
 intro log
 cases o with
 | cells cs t=>
  have:∀(log:List Ev) (cs:List SV),jN (some (.cells cs t)) log=some (.cells (cs.map (jG log)) t):=by
   intro log;induction log with
   |nil=>intro cs;simp[jN];exact(List.map_id'' (fun _=>rfl) cs).symm
   |cons e l ih=>intro cs;simp only[jN,BD,SO.on,ih,pA,Dv];rfl
  refine⟨_,this log cs,fun hT hg ho=>?_⟩;obtain⟨g1,ca,sz,g2,g3,g4⟩:=ho;refine⟨g1,ca,sz,by rw[hg];exact g2,⟨by simpa using g3.1,fun i s v hs hv=>?_⟩,g4⟩;rw[AI]at hs;obtain⟨s0,h0,rfl⟩:=AR.1 hs;exact hT.val _ _ (g3.2 i s0 v h0 hv)
 | arr X L enc t=>
  have:∀(log:List Ev),jN (some (.arr X L enc t)) log=some (.arr X L enc t):=by
   intro log;induction log with
   |nil=>rfl
   |cons e l ih=>grind [jN,SO.on]
  refine⟨_,this log,fun{C C' I a a'} hT hg ho=>?_⟩;obtain⟨h1,h2,h3,h4,h5⟩:=ho;refine⟨h1,h2,h3,h4,?_⟩
  cases hcap:I.cap with
  |none=>rw[hcap]at h5;exact h5
  |some c=>
   rw[hcap]at h5;obtain⟨ca,ext,bk,g1,g2,g3,g4,g5⟩:=h5;refine⟨ca,ext,bk,by rw[hg];exact g1,g2,g3,g4,fun i x j v hx hv=>?_⟩;obtain⟨u,k1,k2⟩:=g5 i x j v hx hv;exact⟨u,k1,k2.mono hT.fz⟩
end
end
section
universe u v
variable [Inhabited aK]
section
variable {P:Program} {tab:bC} {cfg:iM} {ops:Array Oper} {nt:Nat} {rec:SM->(SV->St->Prop)->Prop}
theorem XD {p:Nat}:∀{l:List Ev},p∈lu l->∃e∈l,e.id=p:=by
 intro l;induction l with
 |nil=>intro h;cases h
 | cons e l ih=>
  intro h
  cases e with
  |kill b=>
   rcases Ap.1 h with rfl|h
   . exact⟨_,As,rfl⟩
   grind
  |mod b=>
   rcases Ap.1 h with rfl|h
   . exact⟨_,As,rfl⟩
   grind
  |fj b X L enc=>obtain⟨e,h1,h2⟩:=ih h;grind
theorem Po {log:List Ev} {b:Nat} (h:(!(da b (log.map Ev.id)))=true):∀e∈log,e.id≠b:=by
 grind [eQ]
theorem HS.bare {C C':Cx} {h h':SH} {a h1:AH} {log:List Ev} {hid hidA:List (Nat×Nat)} (H:HS tab C h a) (hal:lS C h hid hidA) (hT:Tr C log C') (H':HS tab C' h' h1) (hG:Grow (jh a hidA) h1) (hm:∀x∈hid,∀e∈log,e.id≠x.2):
   HS tab C' (l8 h' h log hid) (restore h1 a hidA)/\(∀i b,h1.get i=some b->(restore h1 a hidA).get i=h1.get i)/\(∀y∈hidA,h1.get y.2=none)/\(∀x∈hid,∀o I,h.get x.2=some o->C.ρ x.2=some I->I.cap.isSome->(restore h1 a hidA).get I.β=a.get I.β/\ ∃o',(l8 h' h log hid).get x.2=some o'/\C'.ρ x.2=some I):=by
 have hlt:∀y∈hidA,y.2<a.next:=by
   intro y hy;obtain⟨x,hx,o,I,g1,g2,g3,g4⟩:=hal.right y hy;obtain⟨b,hb⟩:=(H.at_ g1 g2).live g3;rw[<-g4];exact H.wf _ _ hb
 have hnone:∀y∈hidA,h1.get y.2=none:=by
   intro y hy
   cases hz:h1.get y.2 with
   |none=>rfl
   | some b=>
     rcases hG.old _ _ hz with⟨o0,h0⟩|hge
     . rw[jf,An ⟨y,hy,rfl⟩]at h0;cases h0
     grind [jS]
 have hlive:∀i b,h1.get i=some b->(restore h1 a hidA).get i=h1.get i:=by
   grind [pc]
 have hhid:∀x∈hid,∀o I,h.get x.2=some o->C.ρ x.2=some I->I.cap.isSome->(restore h1 a hidA).get I.β=a.get I.β/\h1.get I.β=none/\ ∃o',(l8 h' h log hid).get x.2=some o'/\C'.ρ x.2=some I/\eL tab C' I o' (restore h1 a hidA):=by
   intro x hx o I ho hI hc;obtain⟨o1,I1,g1,g2,g3,y,hy,g4⟩:=hal.left x hx;rw[hI]at g2;cases g2;have e1:(restore h1 a hidA).get I.β=a.get I.β:=by rw[pc,An ⟨y,hy,g4⟩]
   obtain⟨o',k1,k2⟩:=YC o log;refine⟨e1,by rw[<-g4];grind,o',?_,hT.same hI hc (hm x hx),k2 hT e1 (H.at_ ho hI)⟩;rw[ri,An ⟨x,hx,rfl⟩,ho];exact k1
 refine⟨⟨?_,?_,?_,?_,?_,?_⟩,hlive,hnone,fun x hx o I ho hI hc=>?_⟩
 . intro p o hp;rw[ri]at hp;split at hp
   . rename_i hex;obtain⟨x,hx,rfl⟩:=hex;obtain⟨o1,I1,g1,g2,g3,_⟩:=hal.left x hx;obtain⟨_,_,o',k1,k2,k3⟩:=hhid x hx o1 I1 g1 g2 g3;rw[ri,An ⟨x,hx,rfl⟩,hp]at k1;grind
   . obtain⟨I,hI,ho⟩:=H'.obj p o hp;refine⟨I,hI,?_⟩;by_cases hc:I.cap.isSome
     . obtain⟨b,hb⟩:=ho.live hc;exact ho.congr (hlive _ _ hb)
     . cases o with
       |cells cs t=>exact absurd ho.1 hc
       |arr X L enc t=>
        obtain⟨g1,g2,g3,g4,g5⟩:=ho;refine⟨g1,g2,g3,g4,?_⟩;grind
 . have key:∀p q o' I J,(∃x∈hid,x.2=p)->h'.get q=some o'->C'.ρ p=some I->C'.ρ q=some J->I.cap.isSome->J.cap.isSome->I.β≠J.β:=by
     rintro p q o' I J ⟨x,hx,rfl⟩ hq hI hJ hc hc' e;obtain⟨o1,I1,g1,g2,g3,_⟩:=hal.left x hx;obtain⟨_,k0,_,_,k2,_⟩:=hhid x hx o1 I1 g1 g2 g3;rw[hI]at k2;cases k2;obtain⟨b,hb⟩:=(H'.at_ hq hJ).live hc';rw[<-e,k0]at hb;cases hb
   intro p q o o' I J hp hq hI hJ hc hc' e;rw[ri]at hp hq;split at hp
   . rename_i h3;split at hq
     . rename_i h4;obtain⟨x,hx,rfl⟩:=h3;obtain⟨z,hz,rfl⟩:=h4;obtain⟨o1,I1,g1,g2,g3,_⟩:=hal.left x hx;obtain⟨_,_,_,_,k2,_⟩:=hhid x hx o1 I1 g1 g2 g3;obtain⟨o2,I2,q1,q2,q3,_⟩:=hal.left z hz;obtain⟨_,_,_,_,k3,_⟩:=hhid z hz o2 I2 q1 q2 q3;rw[hI]at k2;cases k2;rw[hJ]at k3;cases k3;exact H.inj _ _ o1 o2 I J g1 q1 g2 q2 g3 q3 e
     grind
   . split at hq
     . grind
     . exact H'.inj p q o o' I J hp hq hI hJ hc hc' e
 . intro i o hi;have:=H'.fz i o hi;rw[hlive i o this];exact this
 . intro p o I hp hI hc;rw[ri]at hp;split at hp
   . rename_i h3;obtain⟨x,hx,rfl⟩:=h3;obtain⟨o1,I1,g1,g2,g3,_⟩:=hal.left x hx;obtain⟨_,k0,_,_,k2,_⟩:=hhid x hx o1 I1 g1 g2 g3;rw[hI]at k2;cases k2
     cases hz:C'.Fz I.β with
     |none=>rfl
     | some b=>
       have:=H'.fz _ _ hz;rw[k0]at this;cases this
   . exact H'.dj p o I hp hI hc
 . intro p I hI;rw[WI];exact H'.lt p I hI
 . intro i o hi;rw[xB];rw[pc]at hi;split at hi
   . have:=H.wf i o hi;have h2:=hG.next;rw[jS]at h2;omega
   . exact H'.wf i o hi
 grind
end
end
section
universe u v
variable [Inhabited aK]
section
variable {P:Program} {tab:bC} {cfg:iM} {ops:Array Oper} {nt:Nat} {rec:SM->(SV->St->Prop)->Prop}
theorem Rq (htab:cfg.tab=tab) (hrec:pC P tab rec) (hcon:∀g C,cfg.ia g=some C->cI P tab g C) {C:Cx} {d:SD} {e:DS} {i:Nat} {o:Oper} {K:SD->Prop} (h:ur cfg rec ops nt i o d K) (S:kB tab ops C d e):
   oO P tab ops nt i o e fun e'=>∃d' C' new,K d'/\kB tab ops C' d' e'/\Prog C d e new C' d' e':=by
 obtain⟨s,aS,reads,aI⟩:=d;obtain⟨hF,H,hanc,hal,hrd⟩:=S;subst hanc;obtain⟨hok,h⟩:=dc h;obtain⟨w,s1,h1,hw,hF1,eh,el⟩:=Fq h hF;obtain⟨rfl,h1⟩:=dc h1;have h:=om (om (xP (om h1)));obtain⟨ts,hh,log⟩:=s1;subst eh;have halh:=hal.filter (fun j=> !(da j (eS e.aS o)));generalize hhd:(aI.filter fun x=> !(da x.1 (eS e.aS o)))=hid at h halh
 generalize hhA:(e.aI.filter fun x=> !(da x.1 (eS e.aS o)))=hidA at halh
 have hnot:∀p o' I,s.h.get p=some o'->C.ρ p=some I->I.cap.isSome->(¬∃x∈hid,x.2=p)->¬∃y∈hidA,y.2=I.β:=by
   rintro p o' I hp hI hc hn ⟨y,hy,hyb⟩;obtain⟨x,hx,ox,Ix,x1,x2,x3,x4⟩:=halh.right y hy;exact hn ⟨x,hx,(H.inj p x.2 o' ox I Ix hp x1 hI x2 hc x3 (by rw[x4,hyb])).symm⟩
 have hfz:∀j ob,C.Fz j=some ob->¬∃y∈hidA,y.2=j:=by
   rintro j ob hj ⟨y,hy,rfl⟩;obtain⟨x,hx,ox,Ix,x1,x2,x3,x4⟩:=halh.right y hy;have:=H.dj x.2 ox Ix x1 x2 x3;rw[x4,hj]at this;grind
 have Hh:HS tab C (pG s.h hid) (jh e.h hidA):=by
   refine H.part (Xr _ _) (fun p o' hp=>?_) (fun j ob hj=>?_) (jS _ _) (fun j ob hj=>?_) (fun p o' I hp hI hc=>?_)
   . rw[xQ]at hp;split at hp
     . cases hp
     . exact hp
   . rw[jf]at hj;split at hj
     . cases hj
     . exact hj
   . rw[jf,Al (hfz j ob hj)];exact H.fz j ob hj
   . rw[xQ]at hp;split at hp
     all_goals grind [jf]
 have heff:=NK (s:=⟨ts,pG s.h hid,[]⟩) (ta:=e.ts) htab hrec hcon h hF1 Hh;refine⟨hok,hw,?_⟩;rw[hhA];refine heff.mono ?_;rintro v h1 hle ⟨sv,s',hk,⟨⟨C',new,e1,e2,e3,e4,e5,e6⟩,e7⟩⟩;obtain⟨ts',h',log'⟩:=s';subst e1;obtain⟨hck,hk⟩:=dc hk;simp only[Ad,AG]at hck;obtain⟨hck1,hck2⟩:=hck;obtain⟨B1,B2,B3,B4⟩:=H.bare halh e2 e4 e7 (fun x hx=>Po (hck2 x hx));obtain⟨s2,k1,k2,k3,k4⟩:=tA (s:=⟨ts',l8 h' s.h log' hid,log++log'⟩) hk e5 e3;have hread:∀x∈e.reads.filter (fun x=> !(da x.1 (eS e.aS o))),∃rs,(x.1,rs)∈reads.filter (fun x=> !(da x.1 (eS e.aS o)))/\sH tab ops C s.h e.h x rs/\
     ∀p∈rs,(∀e∈log',e.id≠p)/\(h'.get p).isSome/\ ¬∃y∈hid,y.2=p:=by
   intro x hx;obtain⟨hx1,hx2⟩:=AB.1 hx;obtain⟨rs,g1,g2⟩:=hrd x hx1;have hm:(x.1,rs)∈reads.filter (fun x=> !(da x.1 (eS e.aS o))):=AB.2 ⟨g1,hx2⟩;refine⟨rs,hm,g2,fun p hp=>?_⟩;have h5:=hck1 _ hm p hp;refine⟨Po h5.1.1,h5.1.2,?_⟩;rintro⟨y,hy,rfl⟩;have h6:=h5.2 y hy;simp at h6
 have hkeep:∀p o' I,s.h.get p=some o'->C.ρ p=some I->I.cap.isSome->(∀e∈log',e.id≠p)->(h'.get p).isSome->(¬∃y∈hid,y.2=p)->
     (restore h1 e.h hidA).get I.β=e.h.get I.β/\ ∃o',(l8 h' s.h log' hid).get p=some o'/\C'.ρ p=some I:=by
   intro p o' I hp hI hc hm hs hn;obtain⟨k,_⟩:=e6 p o' I (by rw[xQ,Al hn];exact hp) hI hc (fun hmm=>by
     grind [XD])
   rw[jf,Al (hnot p o' I hp hI hc hn)]at k;obtain⟨o2,ho2⟩:=Bz.1 hs;refine⟨?_,o2,by rw[ri,Al hn];exact ho2,e2.same hI hc hm⟩;rw[pc,Al (hnot p o' I hp hI hc hn)];exact k
 have hstb:∀x∈e.reads.filter (fun x=> !(da x.1 (eS e.aS o))),∃rs,(x.1,rs)∈reads.filter (fun x=> !(da x.1 (eS e.aS o)))/\sH tab ops C' (l8 h' s.h log' hid) (restore h1 e.h hidA) x rs:=by
   intro x hx;obtain⟨rs,g1,g2,g3⟩:=hread x hx;exact⟨rs,g1,g2.mono e2.fz fun p hp o' I hpo hI hc=>hkeep p o' I hpo hI hc (g3 p hp).1 (g3 p hp).2.1 (g3 p hp).2.2⟩
 refine⟨Y2 fun x hx=>?_,_,C',log',k1,⟨?_,?_,rfl,?_,?_⟩,⟨?_,e2,?_,?_⟩⟩
 . obtain⟨rs,g1,g2,g3⟩:=hread x hx;obtain⟨ox,a0,hx1,q1,q2,q3,qb,q4,q5⟩:=g2;refine⟨ox,_,q1,E2 q2 q3 (h:=jh (restore h1 e.h hidA) hidA) (fun β ob hβ=>?_) q4,qb⟩;rcases q5 β ob hβ with hz|⟨hz,p,hp,o',I,p1,p2,p3,rfl⟩
   . rw[jf,Al (hfz β ob hz),pc,Al (hfz β ob hz)];exact e4.fz _ _ (e2.fz _ _ hz)
   . obtain⟨r1,r2,r3⟩:=g3 p hp;rw[jf,Al (hnot p o' I p1 p2 p3 r3),(hkeep p o' I p1 p2 p3 r1 r2 r3).1];exact hz
 . rw[xG];exact k2
 . rw[k3];exact B1
 . rw[k3];exact halh.mono fun x hx o' I hp hI hc=>(B4 x hx o' I hp hI hc).2
 . rw[k3];exact hstb
 . grind
 . refine⟨?_,fun j ob hj=>?_⟩
   . rw[xB];have:=e7.next;rw[jS]at this;exact this
   . rw[pc]at hj;split at hj
     . grind
     . rcases e7.old j ob hj with⟨o0,h0⟩|hge
       . rw[jf]at h0;split at h0
         . cases h0
         . exact .inl ⟨o0,h0⟩
       . rw[jS]at hge;exact .inr hge
 . rw[k3];intro p o' I hp hI hc hm;by_cases hn:∃y∈hid,y.2=p
   . obtain⟨y,hy,rfl⟩:=hn;obtain⟨q1,q2⟩:=B4 y hy o' I hp hI hc;exact⟨q1, .inl q2⟩
   . obtain⟨q1,q2⟩:=e6 p o' I (by rw[xQ,Al hn];exact hp) hI hc hm;rw[jf,Al (hnot p o' I hp hI hc hn)]at q1;refine⟨by rw[pc,Al (hnot p o' I hp hI hc hn)];exact q1,?_⟩;rcases q2 with⟨o2,r1,r2⟩|r
     . exact .inl ⟨o2,by rw[ri,Al hn];exact r1,r2⟩
     grind
theorem ND (htab:cfg.tab=tab) (hrec:pC P tab rec) (hcon:∀g C,cfg.ia g=some C->cI P tab g C):GU P tab cfg rec:=by
 have main:∀(ops:Array Oper) (nt n:Nat) (d:SD) (e:DS) (C:Cx) (K:St->Prop),zR cfg rec ops nt n d K->kB tab ops C d e->
   gr P tab ops nt (fun sF=>∃s' C' new,K s'/\s'.log=d.s.log++new/\Tr C new C'/\HS tab C' s'.h sF.h/\FS C' s'.ts sF.ts/\Grow e.h sF.h/\dv C d.s.h e.h new C' s'.h sF.h) n e:=by
  intro ops nt n;induction n with
  |zero=>intro d e C K h;exact h.elim
  |succ n ih=>
   intro d e C K h S;obtain⟨e1,d1,C1,g1,g2,g3,g4⟩:=qy6 htab ops.toList 0 d e C _ (fun j o hj=>by grind) h S;refine⟨e1,g1,?_⟩;rw[g3.aS]at g2;split at g2
   . rename_i hc;obtain⟨_,hk⟩:=dc g2;exact .inl ⟨hc,d1.s,C1,[],hk,g4.log,g4.tr,g3.H,g3.F,g4.grow,g4.aV⟩
   . rename_i c o hc;refine .inr ⟨c,o,hc,?_⟩;obtain⟨q1,q2,q3⟩:=Rq htab hrec hcon g2 g3;refine⟨q1,q2,q3.mono fun v h1 _ hΘ=>⟨hΘ.1,?_⟩⟩;obtain⟨d2,C2,new,k1,k2,k3⟩:=hΘ.2;refine gr.mono ?_ _ _ (ih d2 _ C2 K k1 k2);rintro sF ⟨s',C',new',r1,r2,r3,r4,r5,r6,r7⟩;have p:=g4.trans k3 g3.H.fz k2.H.fz;simp only[Bq]at p;exact⟨s',C',new++new',r1,by rw[r2,p.log,BP],p.tr.trans r3,r4,r5,p.grow.trans r6,p.aV.trans r7 r3.fz k2.H.fz r4.fz⟩
   grind
 intro ops nt n s K ta a C h hF H;exact main ops nt n ⟨s, .e,[],[]⟩ {ts:=ta,h:=a,aS:= .e,reads:=[],aI:=[]} C K h ⟨hF,H,rfl,trivial,fun x hx=>by cases hx⟩
theorem JQ (pr:gx P tab) (htab:cfg.tab=tab) (hcon:∀g C,cfg.ia g=some C->cI P tab g C) (n:Nat):pC P tab (wp cfg n):=
 qww pr htab hcon (fun _ hrec=>ND htab hrec hcon) n
end
end
section
universe u v
variable [Inhabited aK]
section
variable (cfg:iM)
def rQ (e v:SV) (s:St):Prop:=
 match s with
 |⟨_,h,_⟩=>match e,v with
  | .bO es, .bO vs=>ee cfg 1000 es vs ⟨[],h,[]⟩ fun _=>True
  | .bO _,_=>False
  |e,v=>ee cfg 1000 [e] [v] ⟨[],h,[]⟩ fun _=>True
end
section
variable {P:Program} {tab:bC} {cfg:iM}
theorem qzc (htab:cfg.tab=tab) {e v:SV} {s:St} (h:rQ cfg e v s) {C:Cx} {a:AH} {av:AV} (H:HS tab C s.h a) (hv:aQ C v av):∃Fz':Nat->Option AO,(∀i o,C.Fz i=some o->Fz' i=some o)/\(∀i o,Fz' i=some o->a.get i=some o)/\aT Fz' e av:=by
 obtain⟨ts,hh,log⟩:=s;have one:∀(e v:SV),ee cfg 1000 [e] [v] ⟨[],hh,[]⟩ (fun _=>True)->aQ C v av->∃Fz':Nat->Option AO,(∀i o,C.Fz i=some o->Fz' i=some o)/\(∀i o,Fz' i=some o->a.get i=some o)/\aT Fz' e av:=by
   intro e v h hv;obtain⟨C1,new,s1,g1,g2,g3,g4,g5,_,g7⟩:=GD (ta:= .e) htab 1000 _ _ [av] _ C _ h (bc.cons hv bc.nil) (fun t s hs=>by grind [look]) H;exact⟨C1.Fz,g2.fz,g3.fz,g7.2 0 e av rfl rfl⟩
 simp only[rQ]at h;split at h
 . obtain⟨us,rfl,hs⟩:=zu hv;obtain⟨C1,new,s1,g1,g2,g3,g4,g5,_,g7⟩:=GD (ta:= .e) htab 1000 _ _ us _ C _ h hs (fun t s hs=>by grind [look]) H;exact⟨C1.Fz,g2.fz,g3.fz, .bO g7.1 g7.2⟩
 all_goals grind
end
end
section
universe u v
variable [Inhabited aK]
def sJ (v:SV) (_:St):Prop:=match v with| .bool b=>b=true|_=>False
section
variable {P:Program} {tab:bC} {cfg:iM}
end
end
section
universe u v
variable [Inhabited aK]
section
variable {P:Program} {tab:bC}
theorem eY.shut (ok:bZ P tab) {f:FuncId} {fn:Func} {body:Code} {avs:List AV} {Θ:AV->AH->Prop} (hfn:tab.fns.get f=some fn) (hb:fn.body=some body) (hgo:eY P {fr:=ak.enter fn f body avs .normal,cs:=[],h:=fw} Θ)
   (hargs:∀E E',bK E avs=bK E' avs) (hv:∀v h',Θ v h'->∀E E',ag E v=ag E' v) (a:AH):eY P {fr:=ak.enter fn f body avs .normal,cs:=[],h:=a} fun v a'=>a'=a/\ ∃h',Θ v h':=by
 intro D E K base frC csC w hR hB;have hP:=ok.fns f fn hfn;obtain⟨q1,q2,q3⟩:=hR.all E (aw.refl _ _);have hR0:Rel (fun _=>False) E (KS.old w.heap.size) {fr:=ak.enter fn f body avs .normal,cs:=[],h:=fw} base frC csC w:=by
   refine⟨fun E' _=>⟨NF E' _ w (fun b h=>h) (fun b h=>h),?_,q3⟩,fun i h=>h.elim,hR.wf⟩;rw[<-q2];rw[<-nh hP hb,<-nh hP hb,hargs E' E]
 obtain⟨v,h',hΘ,fr',w',v',E',D',s1,s2,s3,s4,s5,s6,s7,s8,s9,s10⟩:=hgo _ E _ base frC csC w hR0 (fun b hb=>⟨q1.kb b (hB b hb).1,(hB b hb).2⟩);refine⟨v,a,⟨rfl,h',hΘ⟩,fr',w',v',E,D,s1,s2,s3,fun E'' he=>⟨?_,?_⟩,aw.refl _ _,fun _ h=>h,hR.eG,⟨s8.os,s8.tape,s8.output,s8.size,fun b hb'=>s8.block b (q1.kb b hb'),s8.drawn⟩,Ac _,fun i hi=> .inl hi⟩
 . obtain⟨g1,_,_⟩:=hR.all E'' he;refine⟨fun i o hi=>?_,g1.nk,g1.inj,g1.eG,fun b hb'=>AE (g1.kb b hb') s8.size,g1.im,g1.k0⟩;obtain⟨c,h1,h2⟩:=g1.obj i o hi;refine⟨c,?_,h2⟩;rw[s8.block _ (Ab.1 h1).1];exact h1
 . rw[<-(s4 E' (aw.refl _ _)).2];grind
theorem cI.shut (pr:gx P tab) {f:FuncId} {C:aL} (h:∀fn body,tab.fns.get f=some fn->fn.body=some body->∀y,C.pre y->∀avs Fz,PL Fz (C.args y) avs->(∀E E',bK E avs=bK E' avs)/\ ∃Θ:AV->AH->Prop,eY P {fr:=ak.enter fn f body avs .normal,cs:=[],h:=fw} Θ/\ ∀v h',Θ v h'->(∀E E',ag E v=ag E' v)/\aT (fun _=>none) (C.res y) v):cI P tab f C:=by
 intro fn body hfn hb y hy Fz a avs hfz hwf hlen hav;obtain⟨h1,Θ,h2,h3⟩:=h fn body hfn hb y hy avs Fz ⟨hlen,hav⟩;refine(eY.shut pr.ok hfn hb h2 h1 (fun v h' hv=>(h3 v h' hv).1) a).mono ?_;rintro v a' ⟨rfl,h',hv⟩;exact⟨Fz,fun _ _ h=>h,hfz,(h3 v h' hv).2.mono (fun _ _ h=>by cases h),Grow.refl _,fun _ _ h=>h,hwf,fun _ _ h=> .inl h⟩
theorem eY.run (pr:gx P tab) {n:Nat} {m:AM} {outs:List (AV×AH)} (h:Am.run tab n m= .ok outs):eY P m fun v h'=>(v,h')∈outs:=by
 intro D E K base frC csC w hR hB;exact(Y5 pr.ok pr.ext (fun sub hsub=>Fb pr.ok hsub pr.ext pr.mix) n).1 m outs h D E K base frC csC w hR
end
end
section
universe u v
variable [Inhabited aK]
def cJ (n:Nat):Value->AV
 | .bool b=> .bool b
 | .int k z=> .int k z
 | .string s=> .str s.data.toList
 | .pointer none=> .bq
 | .slice none 0 0=> .nils
 | .slice (some ⟨b,off,none⟩) (len+1) cap=>if b<n then .sl b off (len+1) (.lit cap)else .raw (.slice (some ⟨b,off,none⟩) (len+1) cap)
 | .map none=> .bP
 | .nilFunc=> .bR
 |v=> .raw v
def dz (n:Nat):Value->AV
 | .agg cs=> .agg (cs.toList.map (cJ n))
 |v=>cJ n v
theorem MQ {n:Nat} {E:Env} (hE:∀i,i<n->E.aC i=i) (v:Value):ag E (cJ n v)=v:=by
 unfold cJ;split<;>try (simp[ag];done)
 grind [ag,gV.val]
theorem LB {n:Nat} {E:Env} (hE:∀i,i<n->E.aC i=i) (l:List Value):bK E (l.map (cJ n))=l:=by
 induction l with
 |nil=>rfl
 |cons v l ih=>simp_all[MQ]
theorem Fw {n:Nat} {E:Env} (hE:∀i,i<n->E.aC i=i) (v:Value):ag E (dz n v)=v:=by
 unfold dz;split
 all_goals simp_all[ag,LB,MQ]
theorem xF {n:Nat} {E:Env} (hE:∀i,i<n->E.aC i=i) (l:List Value):bK E (l.map (dz n))=l:=by
 induction l with
 |nil=>rfl
 |cons v l ih=>simp_all[Fw]
def jY (tab:bC) (w:World) (b:Nat):Option AO:=
 match w.heap[b]? with
 |some (.cells arr e _)=>some (.cells (arr.toList.map (cJ w.heap.size)) e ((tab.siz.get e).getD 1) false .ro)
 |_=>none
def bY (tab:bC) (w:World):AH:=ofFn w.heap.size (jY tab w)
theorem M7 {tab:bC} {w:World} {b:Nat} {o:AO} (h:jY tab w b=some o):∃arr e fz,w.heap[b]? =some (.cells arr e fz)/\o= .cells (arr.toList.map (cJ w.heap.size)) e ((tab.siz.get e).getD 1) false .ro:=by
 grind [jY]
theorem tt {tab:bC} {w:World} {b:Nat}:(bY tab w).get b=jY tab w b:=by
 grind [bY,ru,jY]
theorem ph (tab:bC) (w:World) {E:Env} (hE:∀i,i<w.heap.size->E.aC i=i):bV E (bY tab w) (KS.old w.heap.size) w:=by
 have hro:∀i o,(bY tab w).get i=some o->o.ro/\i<w.heap.size:=by
   intro i o hi;rw[tt]at hi;obtain⟨arr,e,fz,hb,rfl⟩:=M7 hi;exact⟨trivial,(Ab.1 hb).1⟩
 refine⟨fun i o hi=>?_,fun i o hi hr=>absurd (hro i o hi).1 hr,fun i j oi oj hi hj hr=>absurd (hro i oi hi).1 hr,fun i o hi=>(hro i o hi).2,fun b hb=>hb,fun i o hi _=>?_,fun b hb=>hb⟩
 . rw[tt]at hi;obtain⟨arr,e,fz,hb,rfl⟩:=M7 hi;have hlt:=(Ab.1 hb).1;refine⟨_,by rw[hE i hlt];exact hb,arr,fz,rfl,⟨[],by grind [LB]⟩,by simp,trivial⟩
 grind
theorem yn (n:Nat) (a:Addr) (c:Nat):cJ n (.slice (some a) 0 c)= .raw (.slice (some a) 0 c):=by
 simp_all[cJ]
theorem qxq {n b off len cap:Nat} (h:len≠0) (hb:b<n):cJ n (.slice (some ⟨b,off,none⟩) len cap)= .sl b off len (.lit cap):=by
 cases len with
 |zero=>omega
 |succ len=>grind [cJ]
theorem yg {tab:bC} {w:World} {X:Type} {L:List X} {enc:X->List SV} {b off len cap:Nat} {arr:Array Value} {e:TypeId} {fz:Nat×Nat} {sz:Nat} (hb:w.heap[b]? =some (.cells arr e fz))
   (h0:0<sz) (hn:∀x∈L,(enc x).length=sz) (hl:off+L.length*sz<=arr.size) (hlen:len=L.length) (hcap:len<=cap)
   (hc:∀(i:Nat) x (j:Nat) v,L[i]? =some x->(enc x)[j]? =some v->∃u,arr[off+i*sz+j]? =some u/\aT (bY tab w).get v (cJ w.heap.size u)):
   aT (bY tab w).get (.bn X L enc) (cJ w.heap.size (.slice (some ⟨b,off,none⟩) len cap)):=by
 have hlt:=(Ab.1 hb).1;have hg:(bY tab w).get b=some (.cells (arr.toList.map (cJ w.heap.size)) e ((tab.siz.get e).getD 1) false .ro):=by
   rw[tt];grind [jY]
 subst hlen;by_cases hL:L.length=0
 . rw[hL,yn];exact .ch hL (.inr (.inr ⟨_,_,rfl⟩))
 rw[qxq hL hlt];refine .bn b off (.lit cap) _ e sz false .ro (fun i j=>cJ w.heap.size (arr[off+i*sz+j]?.getD (.bool false))) ⟨_,false,hg,fun h=>by cases h⟩ h0 (by grind) (fun i x hx=>hn x (BA hx)) hcap ?_ ?_
 . intro i x j v hx hv;obtain⟨u,hu,_⟩:=hc i x j v hx hv;simp[hu]
 . intro i x j v hx hv;obtain⟨u,hu,hs⟩:=hc i x j v hx hv;simp only[hu,Bf];exact hs
section
variable {P:Program} {tab:bC} {cfg:iM}
end
end
section
universe u v
variable [Inhabited aK]
abbrev aq (a b:Int):Prop:=a=b
theorem ah {b:Bool} {p q:Prop}:br b p q↔(b=true->p)/\(b=false->q):=by
 cases b<;>simp[br]
theorem ax {b:Bool} {p q:Prop} (h:b=true->p) (k:b=false->q):br b p q:=ah.2 ⟨h,k⟩
theorem ae {b:Bool} {p:Prop}:ck b p↔b=true/\p:=by
 cases b<;>simp[ck]
theorem aj {α:Type u} {x:Option α} {k:α->Prop}:so x k↔∃a,x=some a/\k a:=by
 cases x<;>simp[so]
theorem kt (n:Int):nn n=decide (0<=n):=by
 rw[Az]
 cases n with
 |ofNat a=>grind [nn]
 |negSucc a=>grind [nn]
theorem fT (n:Int):bw .i64 n=true↔ -9223372036854775808<=n/\n<=9223372036854775807:=by
 grind [bw,CE,CC,fg]
def cg {C:aL} (cfg:C.Y->iM) (n:Nat) (f:FuncId):Prop:=∀y:C.Y,C.pre y->ask (cfg y) n f (C.args y) (rQ (cfg y) (C.res y))
theorem bB {P:Program} {tab:bC} {C:aL} {cfg:C.Y->iM} (pr:gx P tab) (htab:∀y,(cfg y).tab=tab) (hcon:∀y g C',(cfg y).ia g=some C'->cI P tab g C') {n:Nat} {f:FuncId} (h:cg cfg n f):cI P tab f C:=by
 refine cI.of fun fn body hfn hb y hy C0 a avs hρ H hlen hav=>?_
 have h1:=h y hy;unfold ask at h1;rw[htab y,hfn]at h1;simp only[hb]at h1;refine(JQ pr (htab y) (hcon y) n f fn body (C.args y) ⟨0,[]⟩ a C0 avs _ hfn hb h1 H ⟨hlen,fun i s v hs hv=> .pure (hav i s v hs hv)⟩).mono ?_;rintro v a' ⟨sv,s',C',k1,k2,k3,k4⟩;exact⟨sv,s',C',fun C1 a1 av H1 hv1=>qzc (htab y) k1 H1 hv1,k2,k3,k4⟩
theorem bg {P:Program} {tab:bC} {ia:FuncId->Option aL} {k:FuncId} {c:aL} (hc:cI P tab k c) (h:∀g C,ia g=some C->cI P tab g C):∀g C,(bif Nat.beq g k then some c else ia g)=some C->cI P tab g C:=by
 grind [Nat.eq_of_beq_eq_true]
theorem ti {P:Program} {tab:bC}:∀g C,(none:Option aL)=some C->cI P tab g C:=fun _ _ h=>by cases h
end
end Go.Sy
namespace Go.Proofs
open Go Go.Am Go.RowKit Go.Sy
abbrev Bs:=List UInt8
def nB (b:UInt8):Int:=Int.ofNat b.toNat
def fA (s:Bs):List SV:=[.str s]
def dB (s:Bs) (c:Int):Option Nat:=s.findIdx? (fun b=>nB b==c)
def gT (s:Bs) (c:Int):Int:=match dB s c with|some i=>(i:Int)|none=> -1
def eN (s:Bs) (c:Int):Bs×Bs×Bool:=match dB s c with|some i=>(s.take i,s.drop (i+1),true)|none=>(s,[],false)
def splitB:Bs->Int->List Bs
 |[],_=>[[]]
 |b::s,c=>if nB b=c then[]::splitB s c else match splitB s c with
  |h::t=>(b::h)::t
  |[]=>[[b]]
def dK (b:UInt8):Bool:=decide (48<=nB b)&&decide (nB b<=57)
def dT (s:Bs):Nat:=(s.takeWhile dK).length
def cy (n:Int) (b:UInt8):Int:=min (n*10+(nB b - 48)) 1099511627776
def cQ (s:Bs):Bool:=match s with|b::_=>nB b==45|[]=>false
def az (s:Bs):Bs:=if cQ s then s.drop 1 else s
def bJ (s:Bs):Int×Bool:=if az s=[]\/dT (az s)<(az s).length then(0,false)else((if cQ s then -1 else 1)*(az s).foldl cy 0,true)
def nv:Nat->Nat->Bs
 |0,_=>[]
 |k+1,n=>if n<=9 then[UInt8.ofNat (48+n)]else nv k (n / 10)++[UInt8.ofNat (48+n % 10)]
def kY (n:Nat):Bs:=nv 40 n
def iD (b:UInt8):Bool:=(decide (97<=nB b)&&decide (nB b<=122))||(decide (48<=nB b)&&decide (nB b<=57))||nB b==45||nB b==95
def gW (c:Int) (e:Bool):Bool:=if c=45 then !e else(decide (97<=c)&&decide (c<=122))||(decide (48<=c)&&decide (c<=57))||c==95
def eW (s:Bs):Bool:=s !=[]&&decide (s.length<=63)&&s.all iD&&s.head? !=some 45&&s.getLast? !=some 45
def iw (p:Bs):Bool:=p !=[]&&decide (dT p=p.length)&&decide ((bJ p).1<=255)&& !(decide (1<p.length)&&p.head? ==some 48)
def fK (s:Bs):Bool:=decide ((splitB s 46).length=4)&&(splitB s 46).all iw
def dh (b:UInt8):Bool:=(decide (48<=nB b)&&decide (nB b<=57))||(decide (97<=nB b)&&decide (nB b<=102))||nB b==58||nB b==46
def ft (s:Bs):Bool:=decide (4<=s.length)&&decide (s.length<=47)&&s.head? ==some 91&&s.getLast? ==some 93&&((s.drop 1).take (s.length - 2)).all dh
def gS (s:Bs):Bool:=fK s||ft s
def dq (s:Bs):Bool:=decide (s.length<=256)&& !fK s&&(splitB s 46).all eW
def fU (s:Bs):Bs×Bool×Bool:=if(s.take 2)=[42,46]then(s.drop 2,true,false)else if s.take 1=[33]then(s.drop 1,false,true)else(s,false,false)
def fu (s:Bs):Bool:=dq (fU s).1&&(!(fU s).2.2||decide (1<(splitB (fU s).1 46).length))
theorem l4 {a b:UInt8} (h:nB a=nB b):a=b:=by
 grind [nB,UInt8.toNat_inj]
theorem fp {s:Bs} {c:Int} {i:Nat}:dB s c=some i↔∃h:i<s.length,nB s[i]=c/\ ∀j (hj:j<i),nB (s[j]'(by omega))≠c:=by
 grind [dB,List.findIdx?_eq_some_iff_getElem]
theorem jA {s:Bs} {c:Int}:dB s c=none↔∀j (hj:j<s.length),nB s[j]≠c:=by
 grind [dB,List.getElem_of_mem]
theorem FD (s:Bs) (c:Int):splitB s c≠[]:=by
 cases s with
 |nil=>simp[splitB]
 |cons b s=>
  grind [splitB]
theorem vi (s:Bs) (c:Int):splitB s c=match dB s c with|some i=>s.take i::splitB (s.drop (i+1)) c|none=>[s]:=by
 induction s with
 |nil=>simp[splitB,dB]
 |cons b s ih=>
  grind [splitB,dB]
theorem Fi (s:Bs) (c:Int):(splitB s c).length<=s.length+1:=by
 induction s with
 |nil=>simp[splitB]
 |cons b s ih=>
  grind [splitB]
theorem Wd (s:Bs) (c:Int):∀p∈splitB s c,p.length<=s.length:=by
 induction s with
 |nil=>simp[splitB]
 |cons b s ih=>
  grind [splitB]
theorem yw (s:Bs):dT s<=s.length:=(Dk _).length_le
theorem xZ {s:Bs} (h:¬dT s<s.length):∀b∈s,dK b=true:=by
 have h1:dT s=s.length:=Nat.le_antisymm (yw s) (DD h);grind [dT,List.IsPrefix.eq_of_length,List.takeWhile_prefix,List.all_takeWhile]
theorem MT {s:Bs} {j:Nat} (hj:j<dT s):∃h:j<s.length,dK s[j]=true:=by
 induction s generalizing j with
 |nil=>simp_all[dT]
 |cons b s ih=>
  by_cases hb:dK b=true
  . have hd:dT (b::s)=dT s+1:=by grind [dT,List.takeWhile_cons]
    cases j with
    |zero=>grind
    |succ j=>
     simp_all
  grind [dT,List.takeWhile_cons]
theorem Gj {s:Bs} (h:dT s<s.length):dK (s[dT s])=false:=by
 induction s with
 |nil=>grind
 |cons b s ih=>
  grind [dT,List.takeWhile_cons]
theorem qk (b:UInt8):dK b=true↔48<=nB b/\nB b<=57:=by simp[dK]
theorem We {n:Int} {b:UInt8} (hn:0<=n) (hb:dK b=true):0<=cy n b/\cy n b<=1099511627776:=by
 rw[qk]at hb;grind [cy]
theorem Lo (s:Bs) (h:∀b∈s,dK b=true):∀n:Int,0<=n->n<=1099511627776->0<=s.foldl cy n/\s.foldl cy n<=1099511627776:=by
 induction s with
 |nil=>grind
 |cons b s ih=>
  grind [We]
section
variable [Inhabited aK]
noncomputable def vwS:TypeId->Option View:=fun t=>bif Nat.beq t Ty.string then some ⟨Bs,fA⟩else none
noncomputable def bI (ia:FuncId->Option aL) (mr:FuncId->Nat->Option aJ):iM:={tab:=pJ,view:=vwS,ia,mr}
def cR {Y:Type}:Y->FuncId->Nat->Option aJ:=fun _ _ _=>none
def cu (f r:Nat) (A:aJ):FuncId->Nat->Option aJ:=fun g s=>bif Nat.beq g f&&Nat.beq s r then some A else none
def i64 (n:Int):SV:= .int .i64 n
def strs (l:List Bs):SV:= .bn Bs l fA
def tS:aL:={Y:=Bs×Int,pre:=fun y=>y.1.length<=1000000,args:=fun y=>[.str y.1, .int .u8 y.2],res:=fun y=>i64 (gT y.1 y.2)}
def zB (y:Bs×Int):aJ:={α:=Nat,ok:=fun i=>i<=y.1.length/\ ∀j (h:j<y.1.length),j<i->nB y.1[j]≠y.2,μ:=fun i=>y.1.length - i,aV:=[],aO:=fun i=>[(0, .str y.1),(1, .int .u8 y.2),(5,i64 (-1)),(8,i64 (Int.ofNat y.1.length)),(9,i64 i)],bm:=fun _=>[]}
def qP:aL:={Y:=Bs×Int,pre:=fun y=>y.1.length<=1000000,args:=fun y=>[.str y.1, .int .u8 y.2],res:=fun y=> .bO [.str (eN y.1 y.2).1, .str (eN y.1 y.2).2.1, .bool (eN y.1 y.2).2.2]}
def tE:aL:={Y:=Bs×Int,pre:=fun y=>y.1.length<=100000,args:=fun y=>[.str y.1, .int .u8 y.2],res:=fun y=>strs (splitB y.1 y.2)}
def zb (y:Bs×Int):aJ:={α:=Bs×List Bs,ok:=fun x=>splitB y.1 y.2=x.2++splitB x.1 y.2/\x.2.length+x.1.length<=y.1.length,μ:=fun x=>x.1.length,aV:=[],aO:=fun x=>[(0, .str x.1),(1, .int .u8 y.2),(5, .own 0)],bm:=fun x=>[(0, .arr Bs x.2 fA Ty.string)]}
def qQ:aL:={Y:=UInt8,pre:=fun _=>True,args:=fun y=>[.int .u8 (nB y)],res:=fun y=> .bool (dK y)}
def tR:aL:={Y:=Bs,pre:=fun y=>y.length<=1000000,args:=fun y=>[.str y],res:=fun y=>i64 (dT y)}
def zJ (y:Bs):aJ:={α:=Nat,ok:=fun i=>i<=dT y,μ:=fun i=>y.length - i,aV:=[],aO:=fun i=>[(0, .str y),(3,i64 i)],bm:=fun _=>[]}
def lU:aL:={Y:=Bs,pre:=fun y=>y.length<=1000000,args:=fun y=>[.str y],res:=fun y=> .bO [i64 (bJ y).1, .bool (bJ y).2]}
def js (y:Bs):aJ:={α:=Nat,ok:=fun i=>i<=(az y).length/\ ∀b∈az y,dK b=true,μ:=fun i=>(az y).length - i,aV:=[],aO:=fun i=>[(4, .str (az y)),(5,i64 (if cQ y then -1 else 1)),(6,i64 (((az y).take i).foldl cy 0)),(28,i64 (Int.ofNat (az y).length)),(29,i64 i)],bm:=fun _=>[]}
def y5 (y:Bs×Int):aJ:={α:=Nat,ok:=fun i=>i<=y.1.length/\ ∀j (h:j<y.1.length),j<i->nB y.1[j]≠y.2,μ:=fun i=>y.1.length - i,aV:=[],aO:=fun i=>[(0, .str y.1),(1, .int .u8 y.2),(5,i64 i)],bm:=fun _=>[]}
def tu (y:Bs×Int):aJ:={α:=Nat×Nat×List Bs,ok:=fun x=>x.1<=x.2.1/\x.2.1<=y.1.length/\splitB y.1 y.2=x.2.2++splitB (y.1.drop x.1) y.2/\x.2.2.length<=x.1/\ ∀j (h:j<y.1.length),x.1<=j->j<x.2.1->nB y.1[j]≠y.2,μ:=fun x=>y.1.length - x.2.1,aV:=[],aO:=fun x=>[(0, .str y.1),(1, .int .u8 y.2),(5, .own 0),(6,i64 x.1),(7,i64 x.2.1)],bm:=fun x=>[(0, .arr Bs x.2.2 fA Ty.string)]}
def mF (y:Bs):aJ:={α:=Nat,ok:=fun i=>i<=y.length,μ:=fun i=>y.length - i,aV:=[],aO:=fun i=>[(0, .str y),(3,i64 (Int.ofNat (min i (dT y)))),(4,i64 i)],bm:=fun _=>[]}
def cw (y:Bs):Nat:=if cQ y then 1 else 0
def jH (y:Bs):aJ:={α:=Nat,ok:=fun i=>cw y<=i/\i<=y.length/\ ∀b∈az y,dK b=true,μ:=fun i=>y.length - i,aV:=[],aO:=fun i=>[(0, .str y),(4,i64 (Int.ofNat (cw y))),(5,i64 (((az y).take (i - cw y)).foldl cy 0)),(6,i64 i)],bm:=fun _=>[]}
def Hy:aL:={Y:=Nat,pre:=fun y=>y<=1099511627776,args:=fun y=>[i64 y],res:=fun y=> .str (kY y)}
def zD (y:Nat):aJ:={α:=Nat×Nat×Bs,ok:=fun x=>x.1<=30/\x.2.2.length<=30/\kY y=nv (10+x.1) x.2.1++x.2.2/\x.2.2.length+x.1<=30/\x.2.1<10 ^ (x.1+1)/\x.2.1<=y,μ:=fun x=>x.2.1,aV:=[],aO:=fun x=>[(0,i64 x.2.1),(3, .str x.2.2)],bm:=fun _=>[]}
noncomputable def zX (f:FuncId):Option aL:=bif Nat.beq f nU then some tS else none
noncomputable def zY (f:FuncId):Option aL:=bif Nat.beq f CM then some qP else zX f
noncomputable def zZ (f:FuncId):Option aL:=bif Nat.beq f nP then some tE else bif Nat.beq f Ir then some qQ else zY f
noncomputable def tV (f:FuncId):Option aL:=bif Nat.beq f nG then some tR else bif Nat.beq f nK then some tR else zZ f
noncomputable def HA (f:FuncId):Option aL:=bif Nat.beq f nH then some lU else bif Nat.beq f nL then some lU else bif Nat.beq f nW then some tS else bif Nat.beq f nR then some tE else bif Nat.beq f nX then some Hy else tV f
noncomputable def bu (_:FuncId):Option aL:=none
end
end Go.Proofs
