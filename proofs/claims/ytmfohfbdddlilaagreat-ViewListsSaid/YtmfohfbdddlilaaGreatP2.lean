/- Part 2: an evaluator, proved sound, and its use at this seat; no condition. -/
import Derived.KernelRfl
import Derived.Test.YtmfohfbdddlilaaGreatP0
import Derived.Test.YtmfohfbdddlilaaGreatP1
set_option linter.unusedSimpArgs false
set_option linter.unusedVariables false
set_option linter.unusedSectionVars false
set_option linter.deprecated false
set_option maxRecDepth 100000
namespace Go.Sy
open Go.Am
section
universe u v
inductive SV:Type 1 where
 |bool (b:Bool)
 |int (k:IntKind) (n:Int)
 |str (s:List UInt8)
 |aQ
 |wp (a:Addr)
 |ptr (b off:Nat)
 |bJ (b i off:Nat)
 |bT (cs:List SV) (off:Nat)
 |nils
 |sl (b off len cap:Nat)
 |own (b:Nat)
 |aw (X:Type) (L:List X) (enc:X->List SV)
 |bg
 |map (b:Nat)
 |bA
 |fn (f:FuncId) (first captured:List SV)
 |agg (cs:List SV)
 |bB (vs:List SV)
 |any
inductive SO:Type 1 where
 |cells (cs:List SV) (elem:TypeId)
 |arr (X:Type) (L:List X) (enc:X->List SV) (elem:TypeId)
def so {α:Type u} (x:Option α) (k:α->Prop):Prop:=match x with|some a=>k a|none=>False
def br (b:Bool) (p q:Prop):Prop:=match b with|true=>p|false=>q
def ck (b:Bool) (p:Prop):Prop:=match b with|true=>p|false=>False
def look {α:Type u}:List (Nat×α)->Nat->Option α
 |[],_=>none
 |(k,v)::l,n=>bif Nat.beq k n then some v else look l n
abbrev Fr:=List (Nat×SV)
structure SH:Type 1 where
 next:Nat
 os:List (Nat×Option SO)
def SH.get (h:SH) (b:Nat):Option SO:=match look h.os b with|some (some o)=>some o|_=>none
def SH.set:SH->Nat->Option SO->SH
 |⟨n,os⟩,b,o=>⟨n,(b,o)::os⟩
def SH.new:SH->SO->SH
 |⟨n,os⟩,o=>⟨n+1,(n,some o)::os⟩
def Fr.of:List SV->Nat->Fr
 |[],_=>[]
 |v::l,n=>(n,v)::Fr.of l (n+1)
def re:Value->Option SV
 | .bool b=>some (.bool b)
 | .int k n=>some (.int k n)
 | .string s=>some (.str s.data.toList)
 | .pointer none=>some .aQ
 | .slice none 0 0=>some .nils
 | .map none=>some .bg
 | .nilFunc=>some .bA
 |_=>none
def gK {α:Type u} {β:Type v} (f:α->Option β):List α->Option (List β)
 |[]=>some []
 |x::l=>match f x,gK f l with|some y,some m=>some (y::m)|_,_=>none
def wy:Value->Option SV
 | .agg cs=>(gK re cs.toList).map .agg
 | .tuple vs=>(gK re vs.toList).map .bB
 |v=>re v
def ji:AV->Option SV
 | .bool b=>some (.bool b)
 | .int k n=>some (.int k n)
 | .str s=>some (.str s)
 | .aQ=>some .aQ
 | .nils=>some .nils
 | .bg=>some .bg
 | .bA=>some .bA
 |_=>none
def uW:AV->Option (List SV)
 | .agg cs=>gK ji cs
 |v=>(ji v).map fun x=>[x]
def eJ (ts:Fr):Operand->Option SV
 | .tmp t=>look ts t
 | .const v=>wy v
 | .func f=>some (.fn f [] [])
 | .global _=>none
def ju (ts:Fr) (l:List Operand):Option (List SV):=gK (eJ ts) l
def SV.cells:SV->List SV
 | .agg cs=>cs
 |v=>[v]
def ia:SV->Bool
 | .bool _| .int _ _| .str _| .aQ| .wp _| .nils| .bg| .bA| .aw _ _ _=>true
 |_=>false
def SV.known:SV->Bool
 | .any=>false
 |_=>true
def tP:SV->Bool
 | .agg _| .bB _| .any=>false
 |_=>true
section
variable (tab:aR)
def kY (t:TypeId) (cs:List SV) (off:Nat):Option SV:=
 match tab.agg.get t with
 |some true=>match tab.siz.get t with
  |some n=>bif Nat.ble (off+n) cs.length then some (.agg ((cs.drop off).take n))else none
  |none=>none
 |some false=>cs[off]?
 |none=>none
def qS (cs:List SV) (off:Nat) (vs:List SV):List SV:=cs.take off++(vs++cs.drop (off+vs.length))
def uU (h:SH) (t:TypeId) (p:SV) (k:SV->Prop):Prop:=
 match p with
 | .ptr b off=>match h.get b with
  |some (.cells cs _)=>so (kY tab t cs off) k
  |_=>False
 | .bJ b i off=>match h.get b with
  |some (.arr _ L enc _)=>so (L[i]?) fun x=>so (kY tab t (enc x) off) k
  |_=>False
 | .bT cs off=>so (kY tab t cs off) k
 |_=>False
def xC (h:SH) (t:TypeId) (p v:SV) (k:SH->Prop):Prop:=
 match tab.siz.get t with
 | some n=>ck (!(Nat.beq n 0)&&v.known&&Nat.beq v.cells.length n&&v.cells.all tP) (match p with
  | .ptr b off=>match h.get b with
   |some (.cells cs e)=>ck (Nat.ble (off+n) cs.length) (k (h.set b (some (.cells (qS cs off v.cells) e))))
   |_=>False
  |_=>False)
 |none=>False
end
end
section
universe u v
inductive Ev:Type 1 where
 |kill (b:Nat)
 |mod (b:Nat)
 |eg (b:Nat) (X:Type) (L:List X) (enc:X->List SV)
def jr:List Ev->List Nat
 |[]=>[]
 | .mod b::l=>b::jr l
 | .kill b::l=>b::jr l
 |_::l=>jr l
mutual
def SV.on (e:Ev):SV->SV
 | .bJ b i off=>match e with
  | .kill c=>bif Nat.beq b c then .any else .bJ b i off
  | .eg c _ L enc=>bif Nat.beq b c then(match L[i]? with|some x=> .bT (enc x) off|none=> .any)else .bJ b i off
  | .mod _=> .bJ b i off
 | .own b=>match e with
  | .kill c=>bif Nat.beq b c then .any else .own b
  | .eg c X L enc=>bif Nat.beq b c then .aw X L enc else .own b
  | .mod _=> .own b
 | .sl b off len cap=>match e with
  | .kill c=>bif Nat.beq b c then .any else .sl b off len cap
  | .eg c _ _ _=>bif Nat.beq b c then .any else .sl b off len cap
  | .mod _=> .sl b off len cap
 | .ptr b off=>match e with
  | .kill c=>bif Nat.beq b c then .any else .ptr b off
  | .eg c _ _ _=>bif Nat.beq b c then .any else .ptr b off
  | .mod _=> .ptr b off
 | .fn f xs ys=> .fn f (eQ e xs) (eQ e ys)
 | .agg cs=> .agg (eQ e cs)
 | .bB cs=> .bB (eQ e cs)
 |v=>v
def eQ (e:Ev):List SV->List SV
 |[]=>[]
 |v::l=>SV.on e v::eQ e l
end
def SO.on (e:Ev):SO->SO
 | .cells cs t=> .cells (eQ e cs) t
 |o=>o
def gS (e:Ev):List (Nat×Option SO)->List (Nat×Option SO)
 |[]=>[]
 |(b,none)::l=>(b,none)::gS e l
 |(b,some o)::l=>(b,some (o.on e))::gS e l
def nU (e:Ev):Fr->Fr
 |[]=>[]
 |(t,v)::l=>(t,v.on e)::nU e l
structure St:Type 1 where
 ts:Fr
 h:SH
 log:List Ev
def St.note:St->Ev->St
 |⟨ts,h,log⟩,e=>⟨ts,h,log++[e]⟩
def St.ev:St->Ev->St
 |⟨ts,⟨n,os⟩,log⟩,e=>⟨nU e ts,⟨n,gS e os⟩,log++[e]⟩
def St.new:St->SO->St
 |⟨ts,h,log⟩,o=>⟨ts,h.new o,log⟩
def St.aL:St->Nat->SO->St
 |⟨ts,h,log⟩,b,o=>⟨ts,h.set b (some o),log⟩
def St.del:St->Nat->St
 |⟨ts,h,log⟩,b=>⟨ts,h.set b none,log⟩
def St.Hv:St->SH->List Ev->St
 |⟨ts,_,log⟩,h,l=>⟨ts,h,log++l⟩
def iO {α:Type u}:List α->(List α->Prop)->Prop
 |[],K=>K []
 |x::l,K=>iO l fun l'=>K (x::l')
def xq (v:SV) (K:SV->Prop):Prop:=
 match v with
 | .bool b=>K (.bool b)
 | .int k n=>K (.int k n)
 | .str s=>K (.str s)
 | .aQ=>K .aQ
 | .wp a=>K (.wp a)
 | .ptr b off=>K (.ptr b off)
 | .bJ b i off=>K (.bJ b i off)
 | .bT cs off=>iO cs fun cs=>K (.bT cs off)
 | .nils=>K .nils
 | .sl b off n c=>K (.sl b off n c)
 | .own b=>K (.own b)
 | .aw X L enc=>K (.aw X L enc)
 | .bg=>K .bg
 | .map b=>K (.map b)
 | .bA=>K .bA
 | .fn f xs ys=>iO xs fun xs=>iO ys fun ys=>K (.fn f xs ys)
 | .agg cs=>iO cs fun cs=>K (.agg cs)
 | .bB cs=>iO cs fun cs=>K (.bB cs)
 | .any=>K .any
def Gl (o:SO) (K:SO->Prop):Prop:=
 match o with
 | .cells cs t=>iO cs fun cs=>K (.cells cs t)
 | .arr X L enc t=>K (.arr X L enc t)
def rn (h:SH) (K:SH->Prop):Prop:=
 match h with
 |⟨n,os⟩=>match os with
  |(b,some o)::l=>Gl o fun o=>K ⟨n,(b,some o)::l⟩
  |l=>K ⟨n,l⟩
def mH {α:Type}:T α->(T α->Prop)->Prop
 | .e,K=>K .e
 | .n v l r,K=>mH l fun l=>mH r fun r=>match v with
  |some a=>K (.n (some a) l r)
  |none=>K (.n none l r)
structure View:Type 1 where
 X:Type
 enc:X->List SV
def qd (tab:aR) (t:TypeId):Option (List SV):=(tab.jJ.get t).bind uW
def rJ:R AV->Option SV
 | .ok v=>ji v
 | .no _=>none
def cH (x y:Int):Bool:=
 match x with
 | .ofNat a=>match y with
  | .ofNat b=>Nat.blt a b
  | .negSucc _=>false
 | .negSucc a=>match y with
  | .ofNat _=>true
  | .negSucc b=>Nat.blt b a
def bZ (x y:Int):Bool:=
 match x with
 | .ofNat a=>match y with
  | .ofNat b=>Nat.ble a b
  | .negSucc _=>false
 | .negSucc a=>match y with
  | .ofNat _=>true
  | .negSucc b=>Nat.ble b a
def vh:IntKind->Int
 | .i8=> .negSucc 127| .i16=> .negSucc 32767| .i32=> .negSucc 2147483647| .i64=> .negSucc 9223372036854775807
 |_=> .ofNat 0
def ve:IntKind->Int
 | .i8=> .ofNat 127| .i16=> .ofNat 32767| .i32=> .ofNat 2147483647| .i64=> .ofNat 9223372036854775807
 | .u8=> .ofNat 255| .u16=> .ofNat 65535| .u32=> .ofNat 4294967295| .u64=> .ofNat 18446744073709551615
def bY (k:IntKind) (n:Int):Bool:=bZ (vh k) n&&bZ n (ve k)
def nn (n:Int):Bool:=match n with| .ofNat _=>true| .negSucc _=>false
def kM (v:SV) (k:Nat->Prop):Prop:=
 match v with
 | .int _ n=>ck (nn n) (k n.toNat)
 |_=>False
section
variable (tab:aR) (view:TypeId->Option View)
def jO (eq:TypeId->SV->SV->Option Bool):List Field->List SV->List SV->Option Bool
 |[],_,_=>some true
 | f::fs,xs,ys=>
  bif decide (f.name= "_")then jO eq fs xs ys else
   match kY tab f.type xs f.offset,kY tab f.type ys f.offset with
   |some a,some b=>match eq f.type a b,jO eq fs xs ys with
    |some p,some q=>some (p&&q)
    |_,_=>none
   |_,_=>none
def fi:Nat->TypeId->SV->SV->Option Bool
 |0,_,_,_=>none
 | d+1,t,x,y=>
  match tab.und.get t,x,y with
  |some .bool, .bool a, .bool b=>some (a==b)
  |some (.int _), .int k a, .int j b=>bif decide (k=j)then some (a==b)else none
  |some .string, .str a, .str b=>some (a==b)
  |some (.pointer _), .aQ, .aQ=>some true
  |some (.pointer _), .aQ, .ptr _ _=>some false
  |some (.pointer _), .ptr _ _, .aQ=>some false
  |some (.pointer _), .wp _, .aQ=>some false
  |some (.pointer _), .aQ, .wp _=>some false
  |some (.slice _), .nils, .nils=>some true
  |some (.map _ _), .bg, .bg=>some true
  |some (.map _ _), .bg, .map _=>some false
  |some (.map _ _), .map _, .bg=>some false
  |some (.func _ _ _), .bA, .bA=>some true
  |some (.func _ _ _), .bA, .fn .. =>some false
  |some (.func _ _ _), .fn .., .bA=>some false
  |some (.struct fs), .agg xs, .agg ys=>
   match tab.held.get t with
   |some false=>jO tab (fi d) fs.toList xs ys
   |_=>none
  |_,_,_=>none
def bX (b:UInt8):List SV:=[.int .u8 (.ofNat b.toNat)]
def uy (c:List UInt8):List SV:=c.map fun b=> .int .u8 (.ofNat b.toNat)
def xA (op:BinOp) (k:IntKind) (x y:Int) (K:SV->Prop):Prop:=
 let fit (n:Int):Prop:=bif k.signed then ck (bY k n) (K (.int k n))else K (.int k (k.wrap n))
 match op with
 | .add=>fit (x+y)
 | .sub=>fit (x - y)
 | .mul=>fit (x*y)
 | .quo=>ck (!(y==0)) (fit (x.tdiv y))
 | .rem=>ck (!(y==0)) (K (.int k (x.tmod y)))
 | .eql=>K (.bool (x==y))
 | .neq=>K (.bool (!(x==y)))
 | .lss=>K (.bool (cH x y))
 | .leq=>K (.bool (bZ x y))
 | .gtr=>K (.bool (cH y x))
 | .geq=>K (.bool (bZ y x))
 |op=>so (rJ (intOp op k x y)) K
def oM (op:BinOp) (t:TypeId) (x y:SV) (K:SV->Prop):Prop:=
 match op,x,y with
 | .shl, .int k a, .int _ b=>ck (nn b) (so (rJ (.ok (.int k (k.wrap (a*2 ^ (min b.toNat k.bits)))))) K)
 | .shr, .int k a, .int _ b=>ck (nn b) (so (rJ (.ok (.int k (a.fdiv (2 ^ (min b.toNat k.bits)))))) K)
 |op, .int k a, .int j b=>ck (decide (k=j)) (xA op k a b K)
 | .add, .str a, .str b=>ck (Nat.ble (a.length+b.length) 1048576) (K (.str (a++b)))
 | .eql, .str a, .str b=>K (.bool (a==b))
 | .neq, .str a, .str b=>K (.bool (!(a==b)))
 | .lss, .str a, .str b=>K (.bool (Op.bytesLess a b))
 | .leq, .str a, .str b=>K (.bool (Op.bytesLess a b||a==b))
 | .gtr, .str a, .str b=>K (.bool (!(Op.bytesLess a b||a==b)))
 | .geq, .str a, .str b=>K (.bool (!Op.bytesLess a b))
 | .eql, .agg a, .agg b=>match tab.jP.get t with|some false=>so (fi tab 8 t (.agg a) (.agg b)) fun p=>K (.bool p)|_=>False
 | .neq, .agg a, .agg b=>match tab.jP.get t with|some false=>so (fi tab 8 t (.agg a) (.agg b)) fun p=>K (.bool (!p))|_=>False
 | .eql,x,y=>so (fi tab 8 t x y) fun p=>K (.bool p)
 | .neq,x,y=>so (fi tab 8 t x y) fun p=>K (.bool (!p))
 |_,_,_=>False
def yc (op:UnOp) (x:SV) (K:SV->Prop):Prop:=
 match op,x with
 | .neg, .int k n=>bif k.signed then ck (bY k (0 - n)) (K (.int k (0 - n)))else K (.int k (k.wrap (0 - n)))
 | .xor, .int k n=>so (rJ (unOp .xor (.int k n))) K
 | .not, .bool b=>K (.bool (!b))
 |_,_=>False
def oI (cs:List SV):List (Nat×Nat×SV)->Option (List SV)
 |[]=>some cs
 |(off,n,v)::rest=>bif v.known&&Nat.beq v.cells.length n&&Nat.ble (off+n) cs.length then oI (qS cs off v.cells) rest else none
def rf (fs:Array Field):List (Nat×SV)->Option (List (Nat×Nat×SV))
 |[]=>some []
 | (i,v)::rest=>match fs[i]? with
  |some f=>match tab.siz.get f.type,rf fs rest with
   |some n,some r=>some ((f.offset,n,v)::r)
   |_,_=>none
  |none=>none
def pY (ts:Fr):List (Nat×Operand)->Option (List (Nat×SV))
 |[]=>some []
 |(i,x)::l=>match eJ ts x,pY ts l with
  |some v,some r=>some ((i,v)::r)
  |_,_=>none
def xm (t:TypeId) (ps:List (Nat×SV)):Option SV:=
 match qd tab t,tab.und.get t with
 | some z,some (.struct fs)=>bif fs.toList.all (fun f=>(tab.siz.get f.type).isSome)then
   match rf tab fs ps with
   |some q=>(oI z q).map .agg
   |none=>none
  else none
 |some z,some (.array _ e)=>match tab.siz.get e with
  |some n=>(oI z (ps.map fun(i,v)=>(i*n,n,v))).map .agg
  |none=>none
 |_,_=>none
def oJ:Nat->List SV->List SV
 |0,_=>[]
 |n+1,l=>l++oJ n l
def sL (s:St) (t:TypeId) (len:Nat) (ps:List (Nat×SV)) (K:SV->St->Prop):Prop:=
 match tab.und.get t with
 | some (.slice e)=>match tab.siz.get e,qd tab e with
  | some n,some z=>ck (Nat.ble (len*n) 16777216&&Nat.beq z.length n) (bif Nat.beq len 0 then
    ck (ps.isEmpty&& !(Nat.beq n 0)) (match view e with
    |some V=>K (.own s.h.next) (s.new (.arr V.X [] V.enc e))
    |none=>False)
   else so (oI (oJ len z) (ps.map fun(i,v)=>(i*n,n,v))) fun cs=>K (.sl s.h.next 0 len len) (s.new (.cells cs e)))
  |_,_=>False
 |_=>False
def mo (ts:Fr) (x:Option Operand) (K:Option Nat->Prop):Prop:=
 match x with
 |none=>K none
 |some y=>so (eJ ts y) fun v=>kM v fun n=>K (some n)
def kI {α:Type u} (l:List α) (lo hi:Option Nat) (K:List α->Prop):Prop:=
 match lo,hi with
 |none,none=>K l
 |some a,none=>ck (Nat.ble a l.length) (K (l.drop a))
 |none,some b=>ck (Nat.ble b l.length) (K (l.take b))
 |some a,some b=>ck (Nat.ble a b&&Nat.ble b l.length) (K ((l.drop a).take (b - a)))
def ru (s:St) (t:TypeId) (x:SV) (lo hi:Option Operand) (K:SV->St->Prop):Prop:=
 mo s.ts lo fun l=>mo s.ts hi fun u=>
 match tab.und.get t,x with
 |some .string, .str c=>kI c l u fun c'=>K (.str c') s
 |some (.slice e), .aw X L enc=>match tab.siz.get e with
  |some n=>(∀x:X,(enc x).length=n)/\kI L l u fun L'=>K (.aw X L' enc) s
  |none=>False
 |some (.slice e), .own b=>match s.h.get b,tab.siz.get e with
  |some (.arr X L enc _),some n=>(∀x:X,(enc x).length=n)/\kI L l u fun L'=>K (.aw X L' enc) ((s.ev (.eg b X L enc)).del b)
  |_,_=>False
 | some (.slice e), .sl b off len cap=>match tab.siz.get e with
  |some n=>let a:=l.getD 0
   let c:=u.getD len
   ck (Nat.ble a c&&Nat.ble c cap) (K (.sl b (bif Nat.beq cap a then off else off+a*n) (c - a) (cap - a)) s)
  |none=>False
 |_,_=>False
def uG (s:St) (src dst:TypeId) (x:SV) (K:SV->St->Prop):Prop:=
 match tab.und.get src,tab.und.get dst,x with
 |some _,some (.int k), .int _ n=>K (.int k (k.wrap n)) s
 |some _,some .string, .str c=>K (.str c) s
 |some _,some (.slice e), .str c=>match tab.und.get e,tab.siz.get e with
  |some (.int .u8),some 1=>K (.aw UInt8 c bX) s
  |_,_=>False
 |some (.slice e),some .string, .nils=>match tab.und.get e with
  |some (.int .u8)=>K (.str []) s
  |_=>False
 |some (.slice e),some .string, .aw X L enc=>match tab.und.get e with
  |some (.int .u8)=>∃c:List UInt8,SV.aw X L enc=SV.aw UInt8 c bX/\K (.str c) s
  |_=>False
 |some (.slice e),some .string, .own b=>match tab.und.get e,s.h.get b with
  |some (.int .u8),some (.arr X L enc _)=>∃c:List UInt8,SV.aw X L enc=SV.aw UInt8 c bX/\K (.str c) s
  |_,_=>False
 |some (.slice e),some .string, .sl b off len _=>match tab.und.get e,s.h.get b with
  |some (.int .u8),some (.cells cs _)=>ck (Nat.ble (off+len) cs.length) (∃c:List UInt8,(cs.drop off).take len=uy c/\K (.str c) s)
  |_,_=>False
 |_,_,_=>False
def uq (t:TypeId) (f:Nat):Option Field:=
 match tab.und.get t with
 |some (.struct fs)=>fs[f]?
 |_=>none
def l4 (n:Nat):Nat->List SV->List (List SV)
 |0,_=>[]
 |m+1,l=>l.take n::l4 n m (l.drop n)
def sr {X:Type} (enc:X->List SV):List (List SV)->(List X->Prop)->Prop
 |[],K=>K []
 |c::cs,K=>∃x:X,enc x=c/\sr enc cs fun l=>K (x::l)
def fW:List SV->St->St
 |[],s=>s
 | .own b::l,s=>match s.h.get b with
  |some (.arr X L enc _)=>fW l ((s.ev (.eg b X L enc)).del b)
  |_=>fW l s
 |_::l,s=>fW l s
def me (s:St) (e n by_:Nat) (x:SV) (Y:Type) (M:List Y) (enc':Y->List SV) (K:SV->St->Prop):Prop:=
 match x with
 | .nils=>(∀x:Y,(enc' x).length=n/\(enc' x).all ia=true)/\ck (Nat.ble (M.length*by_) 16777216&&Nat.ble M.length 16777216) (K (.own s.h.next) (s.new (.arr Y M enc' e)))
 | .own d=>match s.h.get d with
  |some (.arr X L enc e')=>ck (Nat.beq e e') ((∀x:Y,(enc' x).length=n/\(enc' x).all ia=true)/\ ∃M':List X,SV.aw Y M enc'=SV.aw X M' enc/\ck (Nat.ble ((L.length+M'.length)*by_) 16777216&&Nat.ble (L.length+M'.length) 16777216) (K (.own d) (((s.ev (.kill d)).aL d (.arr X (L++M') enc e)).note (.mod d))))
  |_=>False
 |_=>False
def nG (s:St) (e n by_ m:Nat) (x:SV) (cs:List SV) (K:SV->St->Prop):Prop:=
 match x with
 | .nils=>match view e with
  |some V=>sr V.enc (l4 n m cs) fun l=>ck (Nat.ble (l.length*by_) 16777216&&Nat.ble l.length 16777216) (K (.own s.h.next) (s.new (.arr V.X l V.enc e)))
  |none=>False
 | .own d=>match s.h.get d with
  |some (.arr X L enc e')=>ck (Nat.beq e e') (sr enc (l4 n m cs) fun l=>ck (Nat.ble ((L.length+l.length)*by_) 16777216&&Nat.ble (L.length+l.length) 16777216) (K (.own d) (((s.ev (.kill d)).aL d (.arr X (L++l) enc e)).note (.mod d))))
  |_=>False
 |_=>False
def xb (s:St) (e:TypeId) (x y:SV) (K:SV->St->Prop):Prop:=
 match tab.siz.get e,tab.byt.get e with
 | some n,some by_=>
  ck (!(Nat.beq n 0)&&(match qd tab e with|some z=>Nat.beq z.length n|none=>false))
  (match y with
  | .sl b off m _=>match s.h.get b with
   |some (.cells cs0 _)=>
    match(fW ((cs0.drop off).take (m*n)) s).h.get b with
    |some (.cells cs _)=>ck (Nat.ble (off+m*n) cs.length&&((cs.drop off).take (m*n)).all ia) (nG view (fW ((cs0.drop off).take (m*n)) s) e n by_ m x ((cs.drop off).take (m*n)) K)
    |_=>False
   |_=>False
  | .aw Y M enc'=>me s e n by_ x Y M enc' K
  | .own b=>match s.h.get b with
   |some (.arr Y M enc' _)=>me ((s.ev (.eg b Y M enc')).del b) e n by_ x Y M enc' K
   |_=>False
  | .nils=>match x with
   | .nils=>K .nils s
   |_=>False
  |_=>False)
 |_,_=>False
def mn (k:IntKind):Int->List SV->Option SV
 |x,[]=>some (.int k x)
 |x, .int _ y::l=>mn k (if y<x then y else x) l
 |_,_=>none
def ml (k:IntKind):Int->List SV->Option SV
 |x,[]=>some (.int k x)
 |x, .int _ y::l=>ml k (if y>x then y else x) l
 |_,_=>none
def nS (s:St) (x:SV):Option Nat:=
 match x with
 | .nils=>some 0
 | .aw _ L _=>some L.length
 | .sl _ _ n _=>some n
 | .own b=>match s.h.get b with
  |some (.arr _ L _ _)=>some L.length
  |_=>none
 |_=>none
def pI (s:St) (b:Builtin) (ats:Array TypeId) (args:List SV) (K:SV->St->Prop):Prop:=
 match b,args with
 | .len,[x]=>match(ats[0]?).bind tab.und.get with
  |some .string=>match x with| .str c=>K (.int .i64 (.ofNat c.length)) s|_=>False
  |some (.slice _)=>so (nS s x) fun n=>K (.int .i64 (.ofNat n)) s
  |_=>False
 | .append,[x,y]=>match(ats[0]?).bind tab.und.get,(ats[1]?).bind tab.und.get with
  |some (.slice e),some (.slice _)=>xb tab view s e x y K
  |_,_=>False
 | .min, .int k x::l=>so (mn k x l) fun v=>K v s
 | .max, .int k x::l=>so (ml k x l) fun v=>K v s
 |_,_=>False
def uV:SV->List Ev
 | .ptr b _=>[.mod b]
 |_=>[]
def kD (s:St) (o:Oper) (K:SV->St->Prop):Prop:=
 match o.op with
 | .move x=>so (eJ s.ts x) fun v=>K v s
 | .assign x=>so (eJ s.ts x) fun v=>K v s
 | .pick c a b=>match eJ s.ts c with
  |some (.bool p)=>match eJ s.ts a,eJ s.ts b with
   |some (.bool x),some (.bool y)=>K (.bool (bif p then x else y)) s
   |u,v=>br p (so u fun v=>K v s) (so v fun v=>K v s)
  |_=>False
 | .alloc e=>so (tab.siz.get e) fun _=>so (qd tab e) fun cs=>K (.ptr s.h.next 0) (s.new (.cells cs e))
 | .box e x=>so (tab.siz.get e) fun _=>so (eJ s.ts x) fun v=>ck v.known (K (.ptr s.h.next 0) (s.new (.cells v.cells e)))
 | .build t ps=>so (pY s.ts ps.toList) fun l=>so (xm tab t l) fun v=>K v s
 | .buildSlice t n ps=>so (pY s.ts ps.toList) fun l=>sL tab view s t n l K
 | .load t a=>so (eJ s.ts a) fun p=>uU tab s.h t p fun v=>K v s
 | .store t a x=>so (eJ s.ts a) fun p=>so (eJ s.ts x) fun v=>xC tab s.h t p v fun h'=>K (.bB []) (s.Hv h' (uV p))
 | .nilCheck x=>so (eJ s.ts x) fun v=>match v with
  | .ptr .. | .bJ .. | .bT .. | .fn .. =>K v s
  |_=>False
 | .binOp op t x y _=>so (eJ s.ts x) fun a=>so (eJ s.ts y) fun b=>oM tab op t a b fun v=>K v s
 | .unOp op _ x=>so (eJ s.ts x) fun a=>yc op a fun v=>K v s
 | .convert a b x=>so (eJ s.ts x) fun v=>uG tab s a b v K
 | .makeFunc fn first captured=>match fn with
  | .func f=>so (ju s.ts first.toList) fun xs=>so (ju s.ts captured.toList) fun ys=>K (.fn f xs ys) s
  |_=>False
 | .slice t x lo hi none=>so (eJ s.ts x) fun v=>ru tab s t v lo hi K
 | .fieldAddr st x f=>so (uq tab st f) fun fd=>ck (match tab.siz.get fd.type with|some n=> !(Nat.beq n 0)|none=>false) (so (eJ s.ts x) fun v=>match v with
  | .ptr b off=>K (.ptr b (off+fd.offset)) s
  | .bJ b i off=>K (.bJ b i (off+fd.offset)) s
  | .bT cs off=>K (.bT cs (off+fd.offset)) s
  |_=>False)
 | .field t x f=>so (uq tab t f) fun fd=>so (eJ s.ts x) fun v=>match v with
  | .agg cs=>so (kY tab fd.type cs fd.offset) fun u=>K u s
  |_=>False
 | .indexAddr t x ix=>so (eJ s.ts ix) fun j=>kM j fun i=>so (eJ s.ts x) fun v=>match tab.und.get t,v with
  |some (.array len e), .ptr b off=>match tab.siz.get e with
   |some n=>ck (Nat.blt i len) (K (.ptr b (off+i*n)) s)
   |none=>False
  |some (.slice e), .sl b off len _=>match tab.siz.get e with
   |some n=>ck (Nat.blt i len) (K (.ptr b (off+i*n)) s)
   |none=>False
  |some (.slice e), .aw _ L enc=>match tab.siz.get e with
   |some n=>so (L[i]?) fun x=>ck (Nat.beq (enc x).length n) (K (.bT (enc x) 0) s)
   |none=>False
  |some (.slice e), .own b=>match tab.siz.get e,s.h.get b with
   |some _,some (.arr _ L _ e')=>ck (Nat.beq e e'&&Nat.blt i L.length) (K (.bJ b i 0) s)
   |_,_=>False
  |_,_=>False
 | .index t x ix=>so (eJ s.ts ix) fun j=>kM j fun i=>so (eJ s.ts x) fun v=>match tab.und.get t,v with
  |some (.array len e), .agg cs=>match tab.siz.get e with
   |some n=>ck (Nat.blt i len) (so (kY tab e cs (i*n)) fun u=>K u s)
   |none=>False
  |some .string, .str c=>so (c[i]?) fun b=>K (.int .u8 (.ofNat b.toNat)) s
  |_,_=>False
 | .extract t i=>so (eJ s.ts t) fun v=>match v with
  | .bB vs=>so (vs[i]?) fun u=>K u s
  |_=>False
 | .call c=>match c.callee with
  | .builtin b=>so (ju s.ts c.args.toList) fun l=>pI tab view s b c.argTypes l K
  |_=>False
 |_=>False
end
end
section
universe u v
structure aP:Type 1 where
 Y:Type
 pre:Y->Prop
 args:Y->List SV
 res:Y->SV
structure aS:Type 1 where
 α:Type
 ok:α->Prop
 μ:α->Nat
 bG:List Nat
 bM:α->List (Nat×SV)
 cK:α->List (Nat×SO)
 eg:List Nat:=[]
 link:Option (α->α->Prop):=none
structure gR:Type 1 where
 tab:aR
 view:TypeId->Option View
 fS:FuncId->Option aP
 lI:FuncId->Nat->Option aS
inductive dD:Type 1 where
 |code (c:Code)
 |inBlock (id:Nat)
 |inLoop (body:Code)
 |head (gq:Fr->SH->List Ev->Prop)
 |inScope (body:Code)
 |inRegion (ops:Array Oper) (l:List Nat)
structure SM:Type 1 where
 fn:FuncId
 nt:Nat
 base:Nat
 todo:List dD
 s:St
mutual
def SV.lt (n:Nat):SV->Bool
 | .ptr b _=>Nat.blt b n
 | .bJ b _ _=>Nat.blt b n
 | .own b=>Nat.blt b n
 | .sl b _ _ _=>Nat.blt b n
 | .map b=>Nat.blt b n
 | .fn _ xs ys=>fQ n xs&&fQ n ys
 | .agg cs=>fQ n cs
 | .bB cs=>fQ n cs
 |_=>true
def fQ (n:Nat):List SV->Bool
 |[]=>true
 |v::l=>SV.lt n v&&fQ n l
end
mutual
def SV.full:SV->Bool
 | .any=>false
 | .fn _ xs ys=>iX xs&&iX ys
 | .agg cs=>iX cs
 | .bB cs=>iX cs
 |_=>true
def iX:List SV->Bool
 |[]=>true
 |v::l=>SV.full v&&iX l
end
def SO.lt (n:Nat):SO->Bool
 | .cells cs _=>fQ n cs
 | .arr .. =>true
def Ev.id:Ev->Nat
 | .kill b=>b
 | .mod b=>b
 | .eg b _ _ _=>b
def sq (v e:SV):Prop:=
 match v,e with
 | .bool a, .bool b=>a=b
 | .int k a, .int j b=>ck (decide (k=j)) (a=b)
 | .str a, .str b=>a=b
 | .ptr a i, .ptr b j=>ck (Nat.beq a b&&Nat.beq i j) True
 | .own a, .own b=>ck (Nat.beq a b) True
 | .aQ, .aQ=>True
 | .nils, .nils=>True
 | .bg, .bg=>True
 | .bA, .bA=>True
 | .nils, .aw _ L _=>L=[]
 |_, .any=>True
 |v,e=>v=e
def nP:List SV->List SV->Prop
 |[],[]=>True
 |a::l,b::m=>sq a b/\nP l m
 |_,_=>False
def qp (o e:SO):Prop:=
 match o,e with
 | .cells a t, .cells b u=>ck (Nat.beq t u) (nP a b)
 | .arr X L enc t, .arr X' L' enc' u=>ck (Nat.beq t u) (SV.aw X L enc=SV.aw X' L' enc')
 |_,_=>False
def qq (tab:aR) (next p:Nat) (o e:Option SO):Prop:=
 match e,o with
 |none,_=>True
 |some (.arr X L enc t),some o=>qp o (.arr X L enc t)
 |some (.arr X L enc t),none=>ck (Nat.ble next p) (L=[]/\so (tab.siz.get t) fun n=>ck (!(Nat.beq n 0)) (∀x:X,(enc x).length=n))
 |some e,some o=>qp o e
 |some _,none=>False
def xZ (tab:aR) (h e:SH):Nat->Prop
 |0=>True
 |n+1=>qq tab h.next n (h.get n) (e.get n)/\xZ tab h e n
def kJ (tab:aR) (h e:SH):Prop:=xZ tab h e e.next
def nR (h eh:SH) (v e:SV):Prop:=
 match e,v with
 | .own b, .nils=>match h.get b,eh.get b with|none,some (.arr ..)=>True|_,_=>False
 |e,v=>sq v e
def jh (ts:Fr) (h eh:SH):Fr->Prop
 |[]=>True
 |(t,e)::l=>so (look ts t) (fun v=>nR h eh v e)/\jh ts h eh l
def stay (n:Nat) (h eh:SH):Bool:=(List.range n).all fun p=>match h.get p,eh.get p with|some _,none=>false|_,_=>true
def wV (ts:Fr) (e:Fr):List Nat->Fr
 |[]=>e
 |t::l=>match look ts t with|some v=>(t,v)::wV ts e l|none=>wV ts e l
def qA:SH->List (Nat×SO)->SH
 |h,[]=>h
 |⟨n,os⟩,(b,o)::l=>qA ⟨Nat.max n (b+1),(b,some o)::os⟩ l
def aS.at (A:aS) (s:St) (x:A.α):Fr×SH:=(wV s.ts (A.bM x) A.bG,qA s.h (A.cK x))
def low (ts:Fr) (h:SH):Bool:=ts.all (fun x=>x.2.lt h.next)&&h.os.all (fun x=>Nat.blt x.1 h.next&&(match x.2 with|some o=>o.lt h.next|none=>true))
def lL:Code->Option Nat
 | .region id _ _=>some id
 | .seq a b=>match lL a with|some r=>some r|none=>lL b
 | .cond _ a b=>match lL a with|some r=>some r|none=>lL b
 | .block _ b=>lL b
 | .loop b=>lL b
 | .scope b=>lL b
 | .rangeFunc _ _ a b=>match lL a with|some r=>some r|none=>lL b
 |_=>none
def lW (id:Nat):List dD->Option (List dD)
 | .inBlock j::k=>bif Nat.beq j id then some k else lW id k
 |_::k=>lW id k
 |[]=>none
section
variable (cfg:gR)
def dd:Nat->List SV->List SV->St->(St->Prop)->Prop
 |0,_,_,_,_=>False
 |_+1,[],[],s,K=>K s
 | n+1,f::fs,a::as1,s,K=>
  match f,a with
  | .any,_=>dd n fs as1 s K
  | .bool x, .bool y=>y=x/\dd n fs as1 s K
  | .int k x, .int j y=>ck (decide (k=j)) (y=x/\dd n fs as1 s K)
  | .str x, .str y=>y=x/\dd n fs as1 s K
  | .aQ, .aQ=>dd n fs as1 s K
  | .wp x, .wp y=>y=x/\dd n fs as1 s K
  | .nils, .nils=>dd n fs as1 s K
  | .bg, .bg=>dd n fs as1 s K
  | .bA, .bA=>dd n fs as1 s K
  | .aw X L enc, .aw X' L' enc'=>SV.aw X' L' enc'=SV.aw X L enc/\dd n fs as1 s K
  | .aw _ L _, .nils=>L=[]/\dd n fs as1 s K
  | .aw X L enc, .own b=>match s.h.get b with
   |some (.arr X' L' enc' _)=>SV.aw X' L' enc'=SV.aw X L enc/\dd n fs (eQ (.eg b X' L' enc') as1) ((s.ev (.eg b X' L' enc')).del b) K
   |_=>False
  | .aw X L enc, .sl b off m c=>match s.h.get b with
   |some (.cells cs e)=>match cfg.tab.siz.get e with
    |some r=>ck (!(Nat.beq r 0)&&Nat.ble m c&&Nat.ble (off+m*r) cs.length&&((cs.drop off).take (m*r)).all ia) (l4 r m ((cs.drop off).take (m*r))=L.map enc/\dd n fs (eQ (.kill b) as1) ((s.ev (.kill b)).del b) K)
    |none=>False
   |_=>False
  | .agg xs, .agg ys=>ck (Nat.beq xs.length ys.length) (dd n (xs++fs) (ys++as1) s K)
  | .fn f xs us, .fn g ys vs=>ck (Nat.beq f g&&Nat.beq xs.length ys.length&&Nat.beq us.length vs.length) (dd n (xs++(us++fs)) (ys++(vs++as1)) s K)
  |_,_=>False
 |_,_,_,_,_=>False
def qh:List Ev->Fr->Fr
 |[],ts=>ts
 |e::l,ts=>qh l (nU e ts)
def xN (rec:SM->(SV->St->Prop)->Prop) (f:FuncId) (args:List SV) (s:St) (K:SV->St->Prop):Prop:=
 match cfg.tab.fns.get f with
 | some fn=>match fn.body with
  | some body=>match cfg.fS f with
   |some C=>∃y:C.Y,dd cfg 1000 (C.args y) args s fun s=>C.pre y/\K (C.res y) s
   | none=>match s with
    |⟨ts,h,log⟩=>rec ⟨f,Nat.max fn.ntmps args.length,h.next,[.code body],⟨Fr.of args 0,h,[]⟩⟩ fun v s'=>
     match s' with
     |⟨_,h',log'⟩=>K v ⟨qh log' ts,h',log++log'⟩
  |none=>False
 |none=>False
def gZ (nt:Nat) (s:St) (d:Option Tmp) (v:SV) (K:St->Prop):Prop:=
 match s,d with
 |⟨ts,h,log⟩,some d=>bif Nat.blt d nt then xq v fun v=>rn h fun h=>K ⟨(d,v)::ts,h,log⟩else K ⟨ts,h,log⟩
 |⟨ts,h,log⟩,none=>rn h fun h=>K ⟨ts,h,log⟩
def rp (ops:Array Oper) (o:Oper) (s:St) (K:Bool->St->Prop):Prop:=
 match o.guard with
 |none=>K true s
 | some (j,w)=>
  match(ops[j]?).bind (·.dst)with
  | some d=>match s with
   |⟨ts,h,log⟩=>match look ts d with
    |some (.bool p)=>br p (K w ⟨(d, .bool true)::ts,h,log⟩) (K (!w) ⟨(d, .bool false)::ts,h,log⟩)
    |some (.bB _)=>K false ⟨ts,h,log⟩
    |_=>False
  |none=>K false s
def uz (rec:SM->(SV->St->Prop)->Prop) (s:St) (o:Oper) (K:SV->St->Prop):Prop:=
 match o.op with
 | .call c=>match c.callee with
  | .value f=>so (ju s.ts c.args.toList) fun args=>so (eJ s.ts f) fun v=>match v with
   | .fn g first captured=>xN cfg rec g (first++args++captured) s K
   |_=>False
  |_=>kD cfg.tab cfg.view s o K
 |_=>kD cfg.tab cfg.view s o K
structure SD:Type 1 where
 s:St
 aC:T (List Nat)
 reads:List (Nat×List Nat)
 ax:List (Nat×Nat)
def mO:SH->List (Nat×Nat)->SH
 |h,[]=>h
 |h,(_,b)::l=>mO (h.set b none) l
def gV (o:Option SO):List Ev->Option SO
 |[]=>o
 |e::l=>gV (o.map (SO.on e)) l
def j3 (h h0:SH) (log:List Ev):List (Nat×Nat)->SH
 |[]=>h
 |(_,b)::l=>j3 (h.set b (gV (h0.get b) log)) h0 log l
def xh (ts:Fr) (o:Oper):List Nat:=
 match o.op with
 | .load _ a=>match eJ ts a with
  |some (.ptr b _)=>[b]
  |some (.bJ b _ _)=>[b]
  |_=>[]
 | .indexAddr _ x _=>match eJ ts x with
  |some (.own b)=>[b]
  |_=>[]
 | .call c=>match c.args.toList with
  |[x]=>match eJ ts x with
   |some (.own b)=>[b]
   |_=>[]
  |_=>[]
 |_=>[]
def nm (h:SH):List Nat->List (Nat×Option SO)
 |[]=>[]
 |b::l=>(b,h.get b)::nm h l
def xp (ops:Array Oper) (nt i:Nat) (o:Oper) (d:SD) (K:SD->Prop):Prop:=
 match d with
 |⟨s,aC,reads,ax⟩=>
 ck (gY aC ops i o) (rp ops o s fun w s=>
  bif !w then iO (dg aC o) fun an=>mH (aC.set i (some an)) fun aC=>gZ nt s o.dst (.bB []) fun s=>K ⟨s,aC,reads,ax⟩
  else match cls cfg.tab o with
  | .iK=>K ⟨s,aC,reads,ax⟩
  | .alloc=>iO (dg aC o) fun an=>mH (aC.set i (some an)) fun anc'=>match s with
   |⟨ts,h,log⟩=>kD cfg.tab cfg.view ⟨ts,h,[]⟩ o fun v s'=>match s' with
    |⟨ts',h',log'⟩=>ck log'.isEmpty (gZ nt ⟨ts',h',log⟩ o.dst v fun s'=>K ⟨s',anc',reads,(i,h.next)::ax⟩)
  |_=>iO (dg aC o) fun an=>mH (aC.set i (some an)) fun aC=>match s with
   |⟨ts,h,log⟩=>iO (xh ts o) fun rs=>ck (rs.all fun b=>ax.all fun x=> !(Nat.beq x.2 b)) (kD cfg.tab cfg.view ⟨ts,⟨h.next,nm h rs⟩,[]⟩ o fun v s'=>ck (s'.log.isEmpty&&v.full) (gZ nt ⟨ts,h,log⟩ o.dst v fun s'=>K ⟨s',aC,(i,rs)::reads,ax⟩)))
def rG (ops:Array Oper) (nt:Nat):Nat->List Oper->SD->(SD->Prop)->Prop
 |_,[],d,K=>K d
 |i,o::l,d,K=>
  bif fT d.aC i o then xp cfg ops nt i o d fun d'=>rG ops nt (i+1) l d' K
  else rG ops nt (i+1) l d K
def nO (rec:SM->(SV->St->Prop)->Prop) (ops:Array Oper) (nt i:Nat) (o:Oper) (d:SD) (K:SD->Prop):Prop:=
 match d with
 |⟨s,aC,reads,ax⟩=>
 ck (gY aC ops i o) (rp ops o s fun w s=>
  ck w (iO (dg aC o) fun an=>mH (aC.set i (some an)) fun aC=>
   iO (ax.filter fun x=> !(bS x.1 an)) fun hid=>iO (reads.filter fun x=> !(bS x.1 an)) fun reads=>match s with
   | ⟨ts,h,log⟩=>uz cfg rec ⟨ts,mO h hid,[]⟩ o fun v s'=>match s' with
    |⟨ts',h',log'⟩=>ck ((reads.all fun x=>x.2.all fun b=> !(bS b (log'.map Ev.id))&&(h'.get b).isSome&&hid.all fun y=> !(Nat.beq y.2 b))&&hid.all fun x=> !(bS x.2 (log'.map Ev.id)))
     (gZ nt ⟨ts',j3 h' h log' hid,log++log'⟩ o.dst v fun s'=>K ⟨s',aC,reads,hid⟩)))
def rD (rec:SM->(SV->St->Prop)->Prop) (ops:Array Oper) (nt:Nat):Nat->SD->(St->Prop)->Prop
 |0,_,_=>False
 |n+1,d,K=>rG cfg ops nt 0 ops.toList d fun d1=>
  match ic d1.aC 0 ops.toList with
  |[]=>ck ((List.range ops.size).all fun i=>(d1.aC.get i).isSome) (K d1.s)
  |[(i,o)]=>nO cfg rec ops nt i o d1 fun d2=>rD rec ops nt n d2 K
  |_=>False
def j5 (s:St):List ResultVar->(List SV->Prop)->Prop
 |[],K=>K []
 | .tmp t::l,K=>so (look s.ts t) fun v=>j5 s l fun vs=>K (v::vs)
 | .cell a t::l,K=>so (look s.ts a) fun p=>uU cfg.tab s.h t p fun v=>j5 s l fun vs=>K (v::vs)
def mP (fn:FuncId) (s:St) (Q:SV->St->Prop):Prop:=
 match cfg.tab.fns.get fn with
 |some fn=>j5 cfg s fn.results.toList fun vs=>Q (match vs with|[v]=>v|vs=> .bB vs) s
 |none=>False
def fixC (s:St) (c:Operand) (p:Bool):St:=
 match s,c with
 |⟨ts,h,log⟩, .tmp t=>⟨(t, .bool p)::ts,h,log⟩
 |s,_=>s
def kK (ts:Fr):List Nat->List SV
 |[]=>[]
 |t::l=>match look ts t with|some v=>v::kK ts l|none=>kK ts l
def cR (A:aS) (s:St):St:=fW (kK s.ts A.eg) s
def xF (A:aS) (s:St) (base:Nat) (x:A.α) (ts:Fr) (h:SH) (log:List Ev):Prop:=
 match cR A ⟨ts,h,log⟩with
 |⟨ts,h,log⟩=>ck (log.all fun e=>Nat.ble base e.id) (∃y:A.α,A.ok y/\A.μ y<A.μ x/\jh ts h (A.at s y).2 (A.at s y).1/\kJ cfg.tab h (A.at s y).2/\ck (stay base h (A.at s y).2) True)
def PB (A:aS) (s:St) (base:Nat) (cont:(Fr->SH->List Ev->Prop)->St->Prop):Prop:=
 match cR A s with
 |⟨ts,h,log⟩=>(∃x:A.α,A.ok x/\jh ts h (A.at ⟨ts,h,log⟩ x).2 (A.at ⟨ts,h,log⟩ x).1/\kJ cfg.tab h (A.at ⟨ts,h,log⟩ x).2/\ck (stay base h (A.at ⟨ts,h,log⟩ x).2) True)/\
  ∀x:A.α,A.ok x->ck (log.all (fun e=>Nat.ble base e.id)&&(low (A.at ⟨ts,h,log⟩ x).1 (A.at ⟨ts,h,log⟩ x).2&&Nat.ble base (A.at ⟨ts,h,log⟩ x).2.next)) (cont (xF cfg A ⟨ts,h,log⟩ base x) ⟨(A.at ⟨ts,h,log⟩ x).1,(A.at ⟨ts,h,log⟩ x).2,log⟩)
def aS.when (A:aS) (R:A.α->A.α->Prop) (x0:A.α):aS:={α:=A.α,ok:=fun x=>A.ok x/\R x0 x,μ:=A.μ,bG:=A.bG,bM:=A.bM,cK:=A.cK,eg:=A.eg}
def xH (A:aS) (K:aS->Prop):Prop:=
 match A.link with
 |none=>K A
 |some R=>∃x0:A.α,K (A.when R x0)
theorem MK {A:aS} {K:aS->Prop} (h:xH A K):∃A',K A':=by
 unfold xH at h;split at h
 . exact⟨_,h⟩
 . obtain⟨x0,h⟩:=h;exact⟨_,h⟩
def wp:Nat->SM->(SV->St->Prop)->Prop
 |0,_,_=>False
 | n+1,⟨fn,nt,base,todo,s⟩,Q=>
  match todo with
  |[]=>mP cfg fn s Q
  | .code .ret::_=>mP cfg fn s Q
  | .code .skip::k=>wp n ⟨fn,nt,base,k,s⟩ Q
  | .code (.label _)::k=>wp n ⟨fn,nt,base,k,s⟩ Q
  | .inBlock _::k=>wp n ⟨fn,nt,base,k,s⟩ Q
  | .inScope _::k=>wp n ⟨fn,nt,base,k,s⟩ Q
  | .code (.seq a b)::k=>wp n ⟨fn,nt,base, .code a:: .code b::k,s⟩ Q
  | .code (.cond c a b)::k=>match eJ s.ts c with
   |some (.bool p)=>br p (wp n ⟨fn,nt,base, .code a::k,fixC s c true⟩ Q) (wp n ⟨fn,nt,base, .code b::k,fixC s c false⟩ Q)
   |_=>False
  | .code (.block id b)::k=>wp n ⟨fn,nt,base, .code b:: .inBlock id::k,s⟩ Q
  | .code (.scope b)::k=>wp n ⟨fn,nt,base, .code b:: .inScope b::k,s⟩ Q
  | .code (.loop b)::k=>match(lL b).bind (cfg.lI fn)with
   |none=>wp n ⟨fn,nt,base, .code b:: .inLoop b::k,s⟩ Q
   |some A=>xH A fun A=>PB cfg A s base fun gq s'=>wp n ⟨fn,nt,base, .code b:: .head gq::k,s'⟩ Q
  | .inLoop b::k=>wp n ⟨fn,nt,base, .code b:: .inLoop b::k,s⟩ Q
  | .head gq::_=>gq s.ts s.h s.log
  | .code (.exit id)::k=>match lW id k with
   |some k'=>wp n ⟨fn,nt,base,k',s⟩ Q
   |none=>False
  | .code (.region _ ops false)::k=>wp n ⟨fn,nt,base, .inRegion ops (List.range ops.size)::k,s⟩ Q
  | .code (.region _ ops true)::k=>ck (np 0 ops.toList) (rD cfg (wp n) ops nt (ops.size+1) ⟨s, .e,[],[]⟩ fun s=>wp n ⟨fn,nt,base,k,s⟩ Q)
  | .inRegion _ []::k=>wp n ⟨fn,nt,base,k,s⟩ Q
  | .inRegion ops (i::rest)::k=>match ops[i]? with
   |some o=>rp ops o s fun w s=>
    bif w then uz cfg (wp n) s o fun v s'=>gZ nt s' o.dst v fun s'=>wp n ⟨fn,nt,base, .inRegion ops rest::k,s'⟩ Q
    else gZ nt s o.dst (.bB []) fun s'=>wp n ⟨fn,nt,base, .inRegion ops rest::k,s'⟩ Q
   |none=>False
  |_=>False
def ask (n:Nat) (f:FuncId) (args:List SV) (Q:SV->St->Prop):Prop:=
 match cfg.tab.fns.get f with
 |some fn=>match fn.body with
  |some body=>wp cfg n ⟨f,Nat.max fn.ntmps args.length,0,[.code body],⟨Fr.of args 0,⟨0,[]⟩,[]⟩⟩ Q
  |none=>False
 |none=>False
end
end
end Go.Sy
namespace Go.Sy
open Go.Am Go.RowKit
section
variable [Inhabited aD]
theorem _root_.Go.Am.dN.rest {E:Env} {h h0:AH} {K:KS} {w:World} (hB:dN K w):dN (Am.Rest E h h0 K) w:=fun b hb=>⟨.inl (hB b hb).1,(hB b hb).2⟩
def cA (w:World):Prop:=∀b,b<(default:aD).old.size->w.heap[b]? =(default:aD).old[b]?
theorem cA.lt {w:World} (h:cA w) {b:Nat} (hb:b<(default:aD).old.size):b<w.heap.size:=by
 have:=h b hb;rw[A6 hb]at this;exact(Aa.1 this).1
theorem cA.kG {w:World} (h:cA w):dN (KS.old w.heap.size) w:=fun b hb=>⟨h.lt hb,h b hb⟩
theorem cA.below {w w':World} (h:cA w) (hb:Below w.heap.size w w'):cA w':=fun b hb'=>by rw[hb.block b (h.lt hb')];exact h b hb'
theorem cA.nT (h:(default:aD).old.size=0) (w:World):cA w:=fun b hb=>by omega
theorem _root_.Go.Am.dN.nT (h:(default:aD).old.size=0) (K:KS) (w:World):dN K w:=fun b hb=>by omega
def dM (P:Program) (m:AM) (Ψ:AV->AH->Prop):Prop:=
 ∀(D:Nat->Prop) (E:Env) (K:KS) (base:List Frame) (frC:Frame) (csC:List Frame) (w:World),Rel D E K m base frC csC w->dN K w->
  ∃v h',Ψ v h'/\Am.Ends P m.h.next (lone frC csC w) D E K v h' base (bot m.fr m.cs) w
structure fg (P:Program) (tab:aR):Prop where
 ok:bC P tab
 ext:jG P tab
 mix:P.follows .mixedOrders=true
theorem dM.mono {P:Program} {m:AM} {Ψ Φ:AV->AH->Prop} (h:dM P m Ψ) (hi:∀v h',Ψ v h'->Φ v h'):dM P m Φ:=by
 intro D E K base frC csC w hR hB;obtain⟨v,h',h1,h2⟩:=h D E K base frC csC w hR hB;exact⟨v,h',hi v h' h1,h2⟩
def sub0:FuncId->List AV->AH->R (List (AV×AH)):=fun _ _ _=> .no "sub0"
theorem ub {P:Program} {tab:aR}:jH P tab sub0:=by
 intro f fn body args h outs _ _ ho
 cases ho
section
variable {P:Program} {tab:aR} (pr:fg P tab) {Ψ:AV->AH->Prop}
include pr
theorem dM.next {m m':AM} (hs:Am.step tab sub0 m= .ok (.next m')) (h:dM P m' Ψ):dM P m Ψ:=by
 intro D E K base frC csC w hR hB;obtain⟨hb,fr',cs',w',E',D',s1,s2,s3,s4,s5,s6,s7⟩:=vV pr.ok ub pr.ext (vO pr.ok ub pr.ext pr.mix) hs hR;obtain⟨v,h',h1,h2⟩:=h D' E' K base fr' cs' w' s2 (hB.kept s5);rw[hb]at h2;exact⟨v,h',h1,Am.Ends.trans s1 s3 s4 s5 s6 s7 h2⟩
theorem dM.done {m:AM} {v:AV} {h:AH} (hs:Am.step tab sub0 m= .ok (.done v h)) (hv:Ψ v h):dM P m Ψ:=by
 intro D E K base frC csC w hR hB;exact⟨v,h,hv,vV pr.ok ub pr.ext (vO pr.ok ub pr.ext pr.mix) hs hR⟩
end
def fX (P:Program) (tab:aR) (ts:T AV) (h0:AH) (o:Oper) (Θ:AV->AH->Prop):Prop:=
 (∃v h1,dZ tab ts h0 o= .ok (v,h1)/\h0.next<=h1.next/\Θ v h1)\/
 (∃c f g first captured args fn body,o.op= .call c/\c.callee= .value f/\ev ts f= .ok (.fn (.func g) first captured)/\ir ts c.args.toList= .ok args/\
  tab.fns.get g=some fn/\fn.body=some body/\dM P {fr:=ag.enter fn g body (first++args++captured) .normal,cs:=[],h:=h0} fun v h1=>h0.next<=h1.next/\Θ v h1)
theorem fX.congr {P:Program} {tab:aR} {ts ts':T AV} {h0:AH} {o:Oper} {Θ:AV->AH->Prop} (hops:∀x∈o.op.operands,ev ts x=ev ts' x) (hp:fX P tab ts h0 o Θ):fX P tab ts' h0 o Θ:=by
 rcases hp with⟨v,h1,hp,hle,hΘ⟩|⟨c,f,g,first,captured,args,fn,body,hc,hcf,hu,hargs,hfn,hb',hgo⟩
 . exact .inl ⟨v,h1,by rw[<-qB o hops];exact hp,hle,hΘ⟩
 . refine .inr ⟨c,f,g,first,captured,args,fn,body,hc,hcf,?_,?_,hfn,hb',hgo⟩
   . rw[<-hops f (by simp[hc,Op.operands,Call.operands,hcf])];exact hu
   . rw[<-qN c.args.toList fun x hx=>hops x (by simp[hc,Op.operands,Call.operands,hcf];right;simpa using hx)];exact hargs
section
variable {P:Program} {tab:aR} (pr:fg P tab)
variable {D:Nat->Prop} {E:Env} {K:KS} {base:List Frame} {frC:Frame} {csC:List Frame} {w:World}
variable {fr:ag} {cs:List ag} {h h0:AH} {ops:Array Oper} {i:Nat} {rest:List Nat} {o:Oper}
include pr
theorem zG {Θ:AV->AH->Prop} (hR:Rel D E K {fr,cs,h} base frC csC w) (hB:dN K w) (a:gE frC ops i rest o) (hp:fX P tab fr.tmps h0 o Θ)
   (hs:∀i o,h0.get i=some o->h.get i=some o) (hd0:∀i o,h0.get i=some o->i<h0.next) (hltD:∀i,D i->i<h0.next):
   ∃ v h1,Θ v h1/\h0.next<=h1.next/\ ∀fr' h2,fr.finish v= .ok fr'->(∀i o,h2.get i=some o->h1.get i=some o\/(h.get i=some o/\h0.get i=none))->
     (∀i o,h2.get i=some o->i<h2.next\/(h1.get i=some o/\h1.next<=h2.next))->h2.next=h1.next->fu P h0.next (lone frC csC w) D E K {fr:=fr',cs,h:=h2} base w:=by
 rcases hp with⟨v,h1,hp,hle,hΘ⟩|⟨c,f,g,first,captured,args,fn,body,hc,hcf,hu,hargs,hfn,hb,hgo⟩
 . refine⟨v,h1,hΘ,hle,fun fr' h2 hf hg hd2 hnx=>?_⟩;refine po (qF pr.ok hR a hp hf hs hd0 hg hd2 (fun i=>i=h0.next/\h0.next<h1.next) (fun h=>⟨rfl,h⟩) (fun i hi=>⟨hi.1,fun hd=>by have:=hltD i hd;omega⟩) ?_) (by simp only;omega) (fun i hi=>by omega);rintro i (hi|hi)
   . have:=hltD i hi;omega
   . omega
 . have ok:=pr.ok;have hρ:∀E',ai D E E'->∀x u,ev fr.tmps x= .ok u->frC.eval x=ae E' u:=by
     intro E' he x u hx;rw[<-(hR.all E' he).2.1];exact oq hR.wf.1 E' hx
   have hd:pN (.fn (.func g) first captured) args= .ok {target:= .fn (.func g) captured,args:=first++args}:=rfl;have hres:∀E',ai D E E'->Deferred.ofValue (frC.eval f) (c.args.map frC.eval)=pure (dV E' {target:= .fn (.func g) captured,args:=first++args}):=by
     intro E' he;rw[<-sJ hd E',hρ E' he _ _ hu,<-ot (hρ E' he) _ _ hargs];congr 1
     simp[<-De]
   have hrob:=vx hres;have hnd:∀c',o.op≠ .defer c':=by rw[hc];intro c' e;cases e
   have hctx:Ctx P (lone frC csC w) frC csC w .normal (dV E {target:= .fn (.func g) captured,args:=first++args}):=wk a (.inr hnd) (by simp[execOp,hc,resolve,hcf,hres E (ai.refl _ _)]);have hinv:∀E',ai D E E'->invoke (dV E {target:= .fn (.func g) captured,args:=first++args}).target (dV E {target:= .fn (.func g) captured,args:=first++args}).args=callFunc g (aU E' (first++args++captured)).toArray:=by
     intro E' he;rw[<-hrob E' he];simp only[dV,l6,invoke,cI];simp
   have hP:=ok.fns g fn hfn;have hn:fn.name≠ "runtime.NumGoroutine" :=by simpa using ok.sy g fn hfn
   have hrun:∀a,(callFunc g a).run P w= .ok (.enter g a) w:=by
     intro a;simp[callFunc,hP,hn,hb]
   have hstep:∀E',ai D E E'->Go.step P (lone frC csC w)= .next (lone (Frame.enter P g (aU E' (first++args++captured)).toArray .normal) (frC::csC) w):=fun E' he=>
     hctx.enter _ _ _ (by rw[hinv E' he,hrun])
   have hargsC:∀E',ai D E E'->(aU E' (first++args++captured)).toArray=(aU E (first++args++captured)).toArray:=by
     intro E' he;have h4:=hrun (aU E' (first++args++captured)).toArray;rw[<-hinv E' he,hinv E (ai.refl _ _),hrun]at h4;simpa using h4.symm
   have hRc:Rel D E (Am.Rest E h h0 K) {fr:=ag.enter fn g body (first++args++captured) .normal,cs:=[],h:=h0} (frC::csC) (Frame.enter P g (aU E (first++args++captured)).toArray .normal) (frC::csC) w:=by
     refine⟨fun E' he=>⟨?_,?_,rfl⟩,hltD,pK _ _ _ _ _,fun f hf=>by cases hf⟩
     . rw[<-hR.ep he];exact(hR.all E' he).1.part hs hd0
     . rw[<-hargsC E' he,lO hP hb]
   obtain⟨v,h1,⟨hle,hΘ⟩,he2⟩:=hgo D E (Am.Rest E h h0 K) (frC::csC) _ _ w hRc hB.rest;refine⟨v,h1,hΘ,hle,fun fr' h2 hf hg hd2 hnx=>?_⟩;have hfc:=jB hf;obtain⟨fr1,w',vC,E',D',s1,s2,s3,s4,s5,s6,s7,s8,s9,s10⟩:=he2;refine⟨frC.finish vC,csC,w',E',D',?_,⟨?_,?_,?_⟩,s5,s6,s8.part,by simp only;omega,s10⟩
   . exact(Steps.head (hstep E (ai.refl _ _)) s1).trans (.one (step_leave_returned s3))
   . intro E'' he';obtain⟨g1,g2⟩:=s4 E'' he';have hag:=s5.trans he' s6;obtain⟨k1,k2,k3⟩:=hR.all E'' hag;refine⟨k1.join (by rw[hR.ep hag];exact g1) (by rw[hR.ep hag];exact s8) hg (fun i o hi=>(hd2 i o hi).elim id (fun h=>AJ (g1.dE i o h.1) h.2)),?_,k3⟩;rw[<-(hfc E'').1,<-g2,<-k2]
   . intro i hi;have:=s7 i hi;simp only;omega
   . exact⟨(hfc E).2.1 hR.wf.1,hR.wf.2⟩
theorem P0 {Θ:AV->AH->Prop} {Ψ:AV->AH->Prop} {k:List bj} (hm:fr.mode= .run) (ht:fr.todo= .inRegion ops (i::rest)::k) (ho:ops[i]? =some o) (hw:wanted ops o fr.tmps= .ok true) (hp:fX P tab fr.tmps h o Θ)
  (hfin:∀v,∃fr',fr.finish v= .ok fr') (hk:∀v h1,Θ v h1->∀fr',fr.finish v= .ok fr'->dM P {fr:=fr',cs,h:=h1} Ψ):dM P {fr,cs,h} Ψ:=by
 intro D E K base frC csC w hR hB;have hdom:=(hR.all E (ai.refl _ _)).1.dE;obtain⟨v,h1,hΘ,hle,hgets⟩:=zG pr hR hB (kF hR hm ht ho hw) hp (fun _ _ h=>h) hdom (fun i hi=>hR.dE i hi);obtain⟨fr',hf⟩:=hfin v;obtain⟨frC',csC',w',E',D',s1,s2,s3,s4,s5,s6,s7⟩:=hgets fr' h1 hf (fun _ _ h=> .inl h) (fun _ _ h=> .inr ⟨h,Af _⟩) rfl;obtain⟨v',h',g1,g2⟩:=hk v h1 hΘ fr' hf D' E' K base frC' csC' w' s2 (hB.kept s5);refine⟨v',h',g1,?_⟩;have hb:=gz (jB hf E).2.2 cs;rw[hb]at g2;exact Am.Ends.trans s1 s3 s4 s5 s6 s7 g2
end
end
section
variable [Inhabited aD]
def l8 (P:Program) (tab:aR) (ops:Array Oper) (nt i:Nat) (o:Oper) (s:DS) (Φ:DS->Prop):Prop:=
 gY s.aC ops i o=true/\wanted ops o s.ts= .ok true/\
 fX P tab s.ts (gu s.h (s.ax.filter fun x=> !(bS x.1 (dg s.aC o)))) o fun v h1=>
  reread tab ops (gu (gN h1 s.h (s.ax.filter fun x=> !(bS x.1 (dg s.aC o)))) (s.ax.filter fun x=> !(bS x.1 (dg s.aC o)))) (s.reads.filter fun x=> !(bS x.1 (dg s.aC o)))= .ok ()/\
  Φ {ts:=fG nt s.ts o v,h:=gN h1 s.h (s.ax.filter fun x=> !(bS x.1 (dg s.aC o))),aC:=s.aC.set i (some (dg s.aC o)),reads:=s.reads.filter fun x=> !(bS x.1 (dg s.aC o)),ax:=s.ax.filter fun x=> !(bS x.1 (dg s.aC o))}
def eW (P:Program) (tab:aR) (ops:Array Oper) (nt:Nat) (G:DS->Prop):Nat->DS->Prop
 |0,_=>False
 |n+1,s=>∃s1,jE tab ops nt 0 ops.toList s= .ok s1/\((ic s1.aC 0 ops.toList=[]/\G s1)\/
  ∃c o,ic s1.aC 0 ops.toList=[(c,o)]/\l8 P tab ops nt c o s1 (eW P tab ops nt G n))
def uI (P:Program) (tab:aR) (ops:Array Oper) (nt:Nat) (G:DS->Prop) (n:Nat) (s1:DS):Prop:=
 (ic s1.aC 0 ops.toList=[]/\G s1)\/ ∃c o,ic s1.aC 0 ops.toList=[(c,o)]/\l8 P tab ops nt c o s1 (eW P tab ops nt G n)
section
variable {P:Program} {tab:aR} (pr:fg P tab)
variable {D:Nat->Prop} {E:Env} {K:KS} {base:List Frame} {frC:Frame} {csC:List Frame} {w:World}
variable {ops:Array Oper} {fr0:ag} {cs:List ag} {k:List bj} {lo:Nat} {s:DS} {Φ:DS->Prop} {X:Nat->Prop} {tsR:T AV} {hR:AH} {j:Nat} {l:List Nat} {o:Oper}
open Classical in
include pr in
theorem KM (H:cz tab ops fr0.nt fr0.tmps lo s X) (Q:dK ops fr0 cs k base s X D E K tsR hR (j::l) frC csC w) (hB:dN K w) (hm:fr0.mode= .run) (ho:ops[j]? =some o) (hr:fT s.aC j o=true)
   (hd:l8 P tab ops fr0.nt j o s Φ) (hready:∀p∈gm o,X p):∃s2,Φ s2/\cz tab ops fr0.nt fr0.tmps lo s2 (fun i=>X i\/i=j)/\pV P ops fr0 cs k base s2 (fun i=>X i\/i=j) D E K lo l frC csC w:=by
 obtain⟨hok,hb,hp⟩:=hd;obtain⟨hnone,hpre⟩:=nf hr;obtain⟨hok1,hok2⟩:=tU hok;have hxj:¬X j:=fun h=>by have:=H.cx j h;rw[hnone]at this;cases this
 have hanX:∀p∈dg s.aC o,X p:=by
   intro p hp;rcases dz.1 hp with h|⟨q,hq,ap,h1,h2⟩
   . exact hready p h
   . exact H.oN q ap (hready q hq) h1 p h2
 generalize hhid:(s.ax.filter fun x=> !(bS x.1 (dg s.aC o)))=hid at*
 have hidm:∀x,x∈hid↔x∈s.ax/\x.1∉dg s.aC o:=by
   intro x;rw[<-hhid,Au];constructor
   . rintro⟨h1,h2⟩;refine⟨h1,fun hm=>?_⟩;rw[cu.2 hm]at h2;cases h2
   . rintro⟨h1,h2⟩;refine⟨h1,?_⟩
     cases hb:bS x.1 (dg s.aC o)with
     |true=>exact absurd (cu.1 hb) h2
     |false=>rfl
 have hidj:∀x∈hid,x.1≠j:=by
   intro x hx e;have:=(H.al x ((hidm x).1 hx).1).2.1;rw[e,hnone]at this;cases this
 have hl:∀t∈lY ops o,tsR.get t=s.ts.get t:=by
   intro t ht;by_cases hw:∃jj oj,ops[jj]? =some oj/\oj.dst=some t/\(s.aC.get jj).isSome
   . obtain⟨jj,oj,g1,g2,g3⟩:=hw;exact Q.mT jj oj t (hready jj (hok1 t ht jj oj g1 g2 g3)) g1 g2
   . rw[Q.mS t (fun jj oj hx hoj hd=>hw ⟨jj,oj,hoj,hd,H.cx jj hx⟩),H.nA t (fun jj oj hc hoj hd=>hw ⟨jj,oj,hoj,hd,hc⟩)]
 obtain⟨hops,hwant⟩:=vR hl;have a:=kF Q.rel hm rfl ho (by rw[hwant];exact hb);obtain⟨v,h1,⟨hrr,hΦ⟩,hle,hgets0⟩:=zG pr Q.rel hB a (h0:=gu s.h hid) (hp.congr (fun x hx=>(hops x hx).symm))
   (by
     intro i ob h;rw[gy]at h;split at h
     . cases h
     . rename_i hne;refine(Q.hr i ob).2 ⟨h,fun x hx e=>?_⟩;by_cases hc:x.1∈dg s.aC o
       . exact hanX _ hc
       . exact absurd ⟨x,(hidm x).2 ⟨hx,hc⟩,e⟩ hne)
   (by
     intro i ob h;rw[gy]at h;split at h
     . cases h
     . rw[hU];exact H.hd i ob h)
   (by intro i hi;rw[hU,<-Q.hn];exact Q.rel.dE i hi)
 rw[hU]at hle;have hfin:=vB (fr0:=fr0) (tsR:=tsR) (l:=l) (k:=k) ho v;let h2:=gN h1 s.h hid
 let pd:=hid.filter fun x=>decide (¬(X x.1\/x.1=j))
 let hR2:=gu h2 pd
 have hg2:∀i,h2.get i=if ∃x∈hid,x.2=i then s.h.get i else h1.get i:=fun i=>mA _ _ _ _
 have hn2:h2.next=h1.next:=pv _ _ _;have hchar:∀i ob,hR2.get i=some ob↔h2.get i=some ob/\ ∀x∈hid,x.2=i->X x.1\/x.1=j:=by
   intro i ob;simp only[hR2,gy];constructor
   . intro h;split at h
     . cases h
     . rename_i hne;refine⟨h,fun x hx e=>?_⟩;by_cases hc:X x.1\/x.1=j
       . exact hc
       . exact absurd ⟨x,by simp only[pd,Au];exact⟨hx,by simpa using hc⟩,e⟩ hne
   . rintro⟨h1,h2⟩;rw[if_neg]
     . exact h1
     . rintro⟨x,hx,e⟩;simp only[pd,Au]at hx;have:=h2 x hx.1 e;exact absurd this (by simpa using hx.2)
 have hR2n:hR2.next=h1.next:=(hU _ _).trans hn2;have hgets:=hgets0 _ hR2 hfin
   (by
     intro i ob h;obtain⟨h3,h4⟩:=(hchar i ob).1 h;rw[hg2]at h3;split at h3
     . rename_i hex;right;refine⟨(Q.hr i ob).2 ⟨h3,fun x hx e=>?_⟩,by rw[gy,if_pos hex]⟩;obtain⟨y,hy,e'⟩:=hex;have:x=y:=H.nc x hx y ((hidm y).1 hy).1 (e.trans e'.symm);subst this;exact(h4 x hy e').resolve_right (hidj x hy)
     . exact .inl h3)
   (by
     intro i ob h;obtain⟨h3,_⟩:=(hchar i ob).1 h;rw[hg2]at h3;rw[hR2n];split at h3
     . have:=H.hd i ob h3;left;omega
     . exact .inr ⟨h3,Af _⟩)
   hR2n
 obtain⟨frC',csC',w',E1,D1,s1,rel1,ag1,dd1,kp1,_,new1⟩:=hgets;rw[hU]at new1;have hdom2:∀i ob,h2.get i=some ob->i<h2.next:=by
   intro i ob h;rw[hn2];rw[hg2]at h;split at h
   . have:=H.hd i ob h;omega
   . rename_i hne;have h3:=(hchar i ob).2 ⟨by rw[hg2,if_neg hne];exact h,fun x hx e=>absurd ⟨x,hx,e⟩ hne⟩;have:=(rel1.all E1 (ai.refl _ _)).1.dE i ob h3;rw[<-hR2n];exact this
 refine⟨_,hΦ,?_,fG fr0.nt tsR o v,hR2,frC',csC',w',D1,E1,s1,⟨rel1,hchar,hR2n.trans hn2.symm,?_,?_,?_⟩,ag1,dd1,kp1,?_⟩
 . refine H.iK ho hr hok hanX rfl rfl (by simp only;rw[pv];exact hle) (fun x hx=>((hidm x).1 hx).1) (fun x hx hn=>(hidm x).2 ⟨hx,hn⟩) ?_ hdom2 ?_
   . intro x hx;show h2.get x.2=s.h.get x.2
     rw[hg2,if_pos ⟨x,hx,rfl⟩]
   . intro j' oj tj vj hmr hjan hoj hce hca;have hmf:(j',tj,vj)∈s.reads.filter (fun x=> !(bS x.1 (dg s.aC o))):=by
       rw[Au];refine⟨hmr,?_⟩
       cases hb:bS j' (dg s.aC o)with
       |true=>exact absurd (cu.1 hb) hjan
       |false=>rfl
     refine⟨hmf,?_⟩;obtain⟨oj',hr',g1,g2⟩:=zA _ hrr _ _ _ hmf;rw[hoj]at g1
     cases g1;have hsame:=sX ⟨hce,hca⟩ g2;subst hsame;refine⟨_,g2,?_⟩;intro b ob hg;rw[gy]at hg;split at hg
     . cases hg
     . rename_i hne;exact⟨by rw[hU];exact hdom2 b ob hg,hg,fun x hx e=>hne ⟨x,hx,e⟩⟩
 . intro i oi t hi hoi hd;show(fG fr0.nt tsR o v).get t=(fG fr0.nt s.ts o v).get t
   rw[jA,jA];by_cases hc:o.dst=some t/\t<fr0.nt
   . rw[if_pos hc,if_pos hc]
   . rw[if_neg hc,if_neg hc];rcases hi with hi|rfl
     . exact Q.mT i oi t hi hoi hd
     . rw[ho]at hoi
       cases hoi;have hge:fr0.nt<=t:=DO (fun hlt=>hc ⟨hd,hlt⟩);rw[H.qj t hge];exact Q.rel.wf.1 t hge
 . intro t ht;rw[jA,if_neg (fun h=>ht j o (.inr rfl) ho h.1)];exact Q.mS t (fun i oi hi hoi=>ht i oi (.inl hi) hoi)
 . intro x hx hnx hD;have hxm:=((hidm x).1 hx).1;rcases new1 x.2 hD with hd|hd
   . exact Q.dp x hxm (fun h=>hnx (.inl h)) hd
   . have:=(H.al x hxm).1;omega
 . intro i hi;rcases new1 i hi with h|h
   . exact .inl h
   . exact .inr (Ay H.nx h)
end
section
variable {P:Program} {tab:aR} (pr:fg P tab)
variable {K:KS} {base:List Frame}
variable {ops:Array Oper} {fr0:ag} {cs:List ag} {k:List bj} {lo:Nat}
def nE (P:Program) (fr0:ag) (cs:List ag) (k:List bj) (base:List Frame) (K:KS) (lo:Nat) (G:DS->Prop) (D:Nat->Prop) (E:Env) (frC:Frame) (csC:List Frame) (w:World):Prop:=
 ∃sF frC' csC' w' D' E',G sF/\Steps P (lone frC csC w) (lone frC' csC' w')/\Rel D' E' K {fr:={fr0 with tmps:=sF.ts,todo:=k},cs,h:=sF.h} base frC' csC' w'/\ai D E E'/\(∀i,D i->D' i)/\Kept K w w'/\(∀i,D' i->D i\/lo<=i)/\lo<=sF.h.next
include pr in
theorem vk (hm:fr0.mode= .run) (hlt:np 0 ops.toList=true):∀(fuel t:Nat) (listed:Array Bool) (s:DS) (G:DS->Prop) (n:Nat) (D:Nat->Prop) (E:Env) (tsR:T AV) (hR:AH) (frC:Frame) (csC:List Frame) (w:World),
  listed.size=ops.size->l7 ops.size listed<=fuel->uI P tab ops fr0.nt G n s->cz tab ops fr0.nt fr0.tmps lo s (di listed)->
  dK ops fr0 cs k base s (di listed) D E K tsR hR (Region.linearise.go .any ops fuel t listed []) frC csC w->dN K w->nE P fr0 cs k base K lo G D E frC csC w:=by
 have hend:∀(listed:Array Bool) (s:DS) (G:DS->Prop) (n:Nat) (D:Nat->Prop) (E:Env) (tsR:T AV) (hR:AH) (frC:Frame) (csC:List Frame) (w:World),(∀j,j<ops.size->di listed j)->
    uI P tab ops fr0.nt G n s->cz tab ops fr0.nt fr0.tmps lo s (di listed)->dK ops fr0 cs k base s (di listed) D E K tsR hR [] frC csC w->nE P fr0 cs k base K lo G D E frC csC w:=by
  intro listed s G n D E tsR hR frC csC w hall htodo H Q;rcases htodo with⟨_,hG⟩|⟨c,o,hc,_⟩
  . have hts:∀t,tsR.get t=s.ts.get t:=by
      intro t;by_cases hw:∃(j:Nat) (oj:Oper),ops[j]? =some oj/\oj.dst=some t
      . obtain⟨j,oj,h1,h2⟩:=hw;exact Q.mT j oj t (hall j (Aa.1 h1).1) h1 h2
      . rw[Q.mS t (fun j oj _ h1 h2=>hw ⟨j,oj,h1,h2⟩),H.nA t (fun j oj _ h1 h2=>hw ⟨j,oj,h1,h2⟩)]
    have hst:∀E',Go.step P (lone (aX E' {fr0 with tmps:=tsR,todo:= .inRegion ops []::k}) csC w)= .next (lone (aX E' {fr0 with tmps:=tsR,todo:=k}) csC w):=
      fun E'=>step_lone_go (by simp[stepG,stepG.exec,aX,hm,eC,cY])
    have hconc:∀E',aX E' {fr0 with tmps:=s.ts,todo:=k}=aX E' {fr0 with tmps:=tsR,todo:=k}:=by
      intro E';have:fK E' s.ts fr0.nt=fK E' tsR fr0.nt:=by
        unfold fK rF;simp only[hts]
      simp only[aX,this]
    have hfr:=(Q.rel.all E (ai.refl _ _)).2.1;simp only at hfr;refine⟨s,aX E {fr0 with tmps:=tsR,todo:=k},csC,w,D,E,hG, .one (by rw[<-hfr];exact hst E),⟨fun E' he=>?_,fun i hi=>?_,?_,Q.rel.wf.2⟩,ai.refl _ _,fun _ h=>h,Kept.refl K w,fun i hi=> .inl hi,H.nx⟩
    . obtain⟨g1,g2,g3⟩:=Q.rel.all E' he;refine⟨g1.same (fun i ob h=>(Q.hr i ob).2 ⟨h,fun x hx _=>?_⟩) (by simp only;rw[Q.hn];exact Af _),?_,g3⟩
      . obtain⟨o,ho⟩:=H.op _ (H.al x hx).2.1;exact hall _ (Aa.1 ho).1
      . simp only;rw[hconc E'];have h1:=hst E';simp only at g2;rw[g2,<-hfr,hst E]at h1;exact(og (by simpa using h1)).1.symm
    . have:=Q.rel.dE i hi;simp only at this⊢;rw[Q.hn]at this;exact this
    . intro t ht;have:=Q.rel.wf.1 t ht;simp only at this⊢;rw[<-hts t];exact this
  . have hcm:(c,o)∈ic s.aC 0 ops.toList:=by rw[hc];exact An
    obtain⟨j',h1,h2,h3⟩:=yV _ _ _ _ _ hcm;have hlt':c<ops.size:=by
      have:=(Ac.1 h2).1;simp at this;omega
    have:=H.cx c (hall c hlt');rw[(nf h3).1]at this
    cases this
 intro fuel;induction fuel with
 |zero=>
  intro t listed s G n D E tsR hR frC csC w hsz hu htodo H Q hB;exact hend listed s G n D E tsR hR frC csC w (CZ (by omega)) htodo H (by simpa [Region.linearise.go]using Q)
 | succ fuel ih=>
  intro t listed s G n D E tsR hR frC csC w hsz hu htodo H Q hB;simp only[Region.linearise.go]at Q;change dK ops fr0 cs k base s (di listed) D E K tsR hR (match(Region.ready .any ops listed)[t % (Region.ready .any ops listed).length]? with
    |some i=>Region.linearise.go .any ops fuel (t / (Region.ready .any ops listed).length) (listed.setIfInBounds i true) [i]
    |none=>[].reverse) frC csC w at Q
  have hget:∀j,j<ops.size->(listed.getD j true=false↔¬di listed j):=by
    intro j hj;unfold di;have:j<listed.size:=by omega
    simp[Array.getD,this]
  cases hi:(Region.ready .any ops listed)[t % (Region.ready .any ops listed).length]? with
  | none=>
    rw[hi]at Q;have hnil:Region.ready .any ops listed=[]:=by
      cases hr:Region.ready .any ops listed with
      |nil=>rfl
      | cons x xs=>
        rw[hr]at hi;have hlt:t % (x::xs).length<(x::xs).length:=Nat.mod_lt _ (by simp);rw[D6]at hi;omega
    have hall:∀j,j<ops.size->di listed j:=by
      intro j;induction j using Nat.strongRecOn with
      | _ j ihj=>
        intro hj;by_cases hx:di listed j
        . exact hx
        . exfalso;have hm':j∈Region.ready .any ops listed:=by
           rw[mem_ready];refine⟨(hget j hj).2 hx,ops[j],A6 hj,?_⟩;intro e he hb;have hp:e.on∈gm ops[j]:=Ar.2 ⟨e,Au.2 ⟨by simpa using he,hb⟩,rfl⟩;have hlt':=CQ ops.toList 0 hlt j ops[j] (by simp[hj]) e.on hp;exact ihj e.on (by omega) (by omega)
          rw[hnil]at hm'
          cases hm'
    exact hend listed s G n D E tsR hR frC csC w hall htodo H Q
  | some i =>
    rw[hi]at Q;simp only at Q;rw[linearise_go_acc,DA,Dn]at Q;obtain⟨hl1,o,ho,hdeps⟩:=mem_ready.1 (BC hi);have hin:i<ops.size:=(Aa.1 ho).1;have hx:=(hget i hin).1 hl1;have hready:∀p∈gm o,di listed p:=by
      intro p hp;obtain⟨e,he,rfl⟩:=Ar.1 hp;obtain⟨he1,he2⟩:=Au.1 he;exact hdeps e (by simpa using he1) he2
    have hsz':(listed.setIfInBounds i true).size=ops.size:=by simp[hsz]
    have hu':l7 ops.size (listed.setIfInBounds i true)<=fuel:=by
      have:=FT hin (by omega) hx;omega
    have hX':di (listed.setIfInBounds i true)=fun j=>di listed j\/j=i:=tV (by omega)
    have hfin:∀(s':DS) (n':Nat),uI P tab ops fr0.nt G n' s'->cz tab ops fr0.nt fr0.tmps lo s' (fun j=>di listed j\/j=i)->
        pV P ops fr0 cs k base s' (fun j=>di listed j\/j=i) D E K lo (Region.linearise.go .any ops fuel (t / (Region.ready .any ops listed).length) (listed.setIfInBounds i true) []) frC csC w->nE P fr0 cs k base K lo G D E frC csC w:=by
      intro s' n' htd H' hc;obtain⟨tsR',hR',frC',csC',w',D',E',c1,c2,c3,c4,c5,c6⟩:=hc;obtain⟨sF,frF,cSF,wF,DF,EF,f0,f1,f2,f3,f4,f5,f6,f7⟩:=ih _ (listed.setIfInBounds i true) s' G n' D' E' tsR' hR' frC' csC' w' hsz' hu' htd (by rw[hX'];exact H') (by rw[hX'];exact c2) (hB.kept c5);exact⟨sF,frF,cSF,wF,DF,EF,f0,c1.trans f1,f2,c3.trans f3 c4,fun x hx=>f4 x (c4 x hx),c5.trans f5,fun x hx=>(f6 x hx).elim (c6 x) .inr,f7⟩
    by_cases hC:(s.aC.get i).isSome=true
    . exact hfin s n htodo (H.qo hC ho hready) (zI pr.ok H Q hm ho hC hx hready)
    . have hr:fT s.aC i o=true:=by
        unfold fT;simp only[Ab,AA];exact⟨by simpa using hC,fun p hp=>H.cx p (hready p hp)⟩
      have hcm:(i,o)∈ic s.aC 0 ops.toList:=by
        have:=Cv ops.toList 0 s.aC i o (by simpa using ho) (by simpa using hr);simpa using this
      rcases htodo with⟨hc,_⟩|⟨c,o',hc,hd⟩
      . rw[hc]at hcm;cases hcm
      . rw [hc]at hcm;rcases Ag.1 hcm with e|hcm
        . cases e;obtain⟨s2,hloop,H2,tsR',hR',frC',csC',w',D',E',c1,c2,c3,c4,c5,c6⟩:=KM pr H Q hB hm ho hr hd hready
          cases n with
          |zero=>exact hloop.elim
          | succ n=>
           obtain⟨s3,hpass,htd3⟩:=hloop;have hpl:∀j o,ops.toList[j]? =some o->ops[0+j]? =some o:=by
            intro j o hj;simpa using hj
           obtain⟨hR3,Q3⟩:=tl ops.toList 0 s2 s3 hR' hpl hpass H2 c2;exact hfin s3 n htd3 (sG ops.toList 0 s2 s3 hpl hpass H2) ⟨tsR',hR3,frC',csC',w',D',E',c1,Q3,c3,c4,c5,c6⟩
        . cases hcm
include pr in
theorem PN {Ψ:AV->AH->Prop} {h:AH} {id:Nat} {n:Nat} (hm:fr0.mode= .run) (ht:fr0.todo= .code (.region id ops true)::k) (hlt:np 0 ops.toList=true)
  (hd:eW P tab ops fr0.nt (fun sF=>dM P {fr:={fr0 with tmps:=sF.ts,todo:=k},cs,h:=sF.h} Ψ) n {ts:=fr0.tmps,h,aC:= .e,reads:=[],ax:=[]}):dM P {fr:=fr0,cs,h} Ψ:=by
 intro D E K base frC csC w hR hB;obtain⟨n,rfl⟩:∃n',n=n'+1:=by
  cases n with
  |zero=>exact hd.elim
  |succ n=>exact⟨n,rfl⟩
 obtain⟨s1,hpass,htodo⟩:=hd;let s0:DS:={ts:=fr0.tmps,h,aC:= .e,reads:=[],ax:=[]}
 let ord:=w.tape w.drawn (.order frC.fn id)
 let l:=Go.Region.linearise.go .any ops ops.size ord (Array.replicate ops.size false) []
 have hstep:∀E',ai D E E'->Go.step P (lone frC csC w)= .next (lone (aX E' {fr0 with tmps:=fr0.tmps,todo:= .inRegion ops l::k}) csC w.drew):=by
  intro E' he;have e1:=(hR.all E' he).2.1;simp only at e1;refine step_lone_go ?_;have hmC:frC.mode= .run:=by rw[<-e1];simp[aX,hm,eC]
  have htC:frC.todo= .code (.region id ops true)::k.map (cY E'):=by rw[<-e1];simp[aX,ht,cY]
  have hrun:(choose (.order frC.fn id)).run P w= .ok ord w.drew:=by
    simp only[choose,Sem.run,Question.forced,Ai,Az,Question.cut];rfl
  have hsch:Go.Region.schedule (P.follows .mixedOrders) ops ord=l:=by
    simp only[Go.Region.schedule,pr.mix,E2,if_true];rfl
  have hgoal:aX E' {fr0 with tmps:=fr0.tmps,todo:= .inRegion ops l::k}={frC with todo:= .inRegion ops l::k.map (cY E')}:=by
    rw[<-e1];rfl
  rw[hgoal];unfold stepG stepG.exec;simp only[hmC,htC,BX,Ai,Az,hrun,hsch,GStep.bare_go]
 have hdom:=(hR.all E (ai.refl _ _)).1.dE;have H0:cz tab ops fr0.nt fr0.tmps h.next s0 (di (Array.replicate ops.size false)):=by
  have hnone:∀j,s0.aC.get j=none:=fun _=>rfl
  refine⟨fun j hj=>absurd hj (pG _ _),fun j a hj=>absurd hj (pG _ _),?_,?_,?_,fun _ _=>rfl,?_,fun x hx=>(by cases hx),Af _,hR.wf.1,fun x hx=>(by cases hx),hdom⟩
  . intro j hj;rw[hnone]at hj;cases hj
  . intro j a o hj;rw[hnone]at hj;cases hj
  . intro i j oi oj d hi;rw[hnone]at hi;cases hi
  . intro j hj;rw[hnone]at hj;cases hj
 have Q0:dK ops fr0 cs k base s0 (di (Array.replicate ops.size false)) D E K fr0.tmps h l (aX E {fr0 with tmps:=fr0.tmps,todo:= .inRegion ops l::k}) csC w.drew:=by
  refine⟨⟨fun E' he=>?_,hR.dE,hR.wf⟩,fun i ob=>⟨fun h=>⟨h,fun x hx=>(by cases hx)⟩,fun h=>h.1⟩,rfl,fun j o t hx=>absurd hx (pG _ _),fun _ _=>rfl,fun x hx=>by cases hx⟩;obtain⟨g1,g2,g3⟩:=hR.all E' he;refine⟨g1.drew,?_,g3⟩;have h1:=hstep E' he;rw[hstep E (ai.refl _ _)]at h1;exact(og (by simpa using h1)).1.symm
 have htodo:uI P tab ops fr0.nt (fun sF=>dM P {fr:={fr0 with tmps:=sF.ts,todo:=k},cs,h:=sF.h} Ψ) n s1:=htodo;have hpl:∀j o,ops.toList[j]? =some o->ops[0+j]? =some o:=by
  intro j o hj;simpa using hj
 obtain⟨hR1,Q1⟩:=tl ops.toList 0 s0 s1 h hpl hpass H0 Q0;have H1:=sG ops.toList 0 s0 s1 hpl hpass H0;obtain⟨sF,frC',csC',w',D',E',f0,f1,f2,f3,f4,f5,f6,f7⟩:=vk pr hm hlt ops.size ord (Array.replicate ops.size false) s1 _ n D E fr0.tmps hR1 _ csC w.drew (by simp)
  (by unfold l7;have:=Bi (fun i=> !(Array.replicate ops.size false).getD i false) (List.range ops.size);simpa using this) htodo H1 Q1 hB
 obtain⟨v,h',g1,g2⟩:=f0 D' E' K base frC' csC' w' f2 (dN.kept (w:=w.drew) hB f5);have hb:bot {fr0 with tmps:=sF.ts,todo:=k} cs=bot fr0 cs:=gz (fr:=fr0) (fr':={fr0 with tmps:=sF.ts,todo:=k}) rfl cs;simp only at g2;rw[hb]at g2;exact⟨v,h',g1,Am.Ends.trans (Steps.head (hstep E (ai.refl _ _)) f1) f3 f4 ((Kept.drew K w).trans f5) f7 f6 g2⟩
end
end
section
universe u v
variable [Inhabited aD]
structure BI where
 β:Nat
 len:Nat
 sz:Nat
 cap:Option fb
structure Cx where
 ρ:Nat->Option BI
 Fz:Nat->Option AO
def nz (cap:fb) (off n sz:Nat) (ext:Bool):Prop:=
 match cap with
 | .lit m=>n<=m
 | .tail k=>ext=true/\off=k*sz
def dQ (Fz:Nat->Option AO) (b:Nat) (cs:List AV) (e:TypeId) (sz:Nat) (ext:Bool) (bk:BK):Prop:=
 ∃sz0 ext0,Fz b=some (.cells cs e sz0 ext0 bk)/\(ext=true->sz0=sz/\ext0=true)
theorem dQ.of {Fz:Nat->Option AO} {b:Nat} {cs:List AV} {e:TypeId} {sz:Nat} {ext:Bool} {bk:BK} (h:Fz b=some (.cells cs e sz ext bk)):dQ Fz b cs e sz ext bk:=⟨sz,ext,h,fun h=>⟨rfl,h⟩⟩
theorem dQ.mono {Fz Fz':Nat->Option AO} (hf:∀i o,Fz i=some o->Fz' i=some o) {b:Nat} {cs:List AV} {e:TypeId} {sz:Nat} {ext:Bool} {bk:BK} (h:dQ Fz b cs e sz ext bk):dQ Fz' b cs e sz ext bk:=by
 obtain⟨s,x,h1,h2⟩:=h;exact⟨s,x,hf _ _ h1,h2⟩
inductive aF (Fz:Nat->Option AO):SV->AV->Prop
 |bool (b:Bool):aF Fz (.bool b) (.bool b)
 |int (k:IntKind) (n:Int):aF Fz (.int k n) (.int k n)
 |str (s:List UInt8):aF Fz (.str s) (.str s)
 |aQ:aF Fz .aQ .aQ
 |wp (a:Addr):aF Fz (.wp a) (.raw (.pointer (some a)))
 |nils:aF Fz .nils .nils
 |bg:aF Fz .bg .bg
 |bA:aF Fz .bA .bA
 |any (v:AV):aF Fz .any v
 |bL {X:Type} {L:List X} {enc:X->List SV} {v:AV} (h0:L.length=0) (hv:v= .nils\/(∃b off l n k,v= .emp b off l n k)\/ ∃a c,v= .raw (.slice a 0 c)):aF Fz (.aw X L enc) v
 |aw {X:Type} {L:List X} {enc:X->List SV} (b off:Nat) (cap:fb) (cs:List AV) (e:TypeId) (sz:Nat) (ext:Bool) (bk:BK) (u:Nat->Nat->AV)
  (hb:dQ Fz b cs e sz ext bk) (hs:0<sz) (hl:off+L.length*sz<=cs.length) (hn:∀(i:Nat) x,L[i]? =some x->(enc x).length=sz) (hc:nz cap off L.length sz ext)
  (h1:∀(i:Nat) x (j:Nat) v,L[i]? =some x->(enc x)[j]? =some v->cs[off+i*sz+j]? =some (u i j)) (h2:∀(i:Nat) x (j:Nat) v,L[i]? =some x->(enc x)[j]? =some v->aF Fz v (u i j)):aF Fz (.aw X L enc) (.sl b off L.length cap)
 |bT {cs:List SV} {off:Nat} (b base:Nat) (ca:List AV) (e:TypeId) (sz:Nat) (ext:Bool) (bk:BK) (u:Nat->AV) (hb:Fz b=some (.cells ca e sz ext bk)) (hl:base+cs.length<=ca.length)
  (h1:∀(j:Nat) v,cs[j]? =some v->ca[base+j]? =some (u j)) (h2:∀(j:Nat) v,cs[j]? =some v->aF Fz v (u j)):aF Fz (.bT cs off) (.ptr b (base+off))
 |fn {f:FuncId} {xs ys:List SV} {us vs:List AV} (h1:xs.length=us.length) (h2:ys.length=vs.length) (h3:∀(i:Nat) x u,xs[i]? =some x->us[i]? =some u->aF Fz x u) (h4:∀(i:Nat) x u,ys[i]? =some x->vs[i]? =some u->aF Fz x u):aF Fz (.fn f xs ys) (.fn (.func f) us vs)
 |agg {cs:List SV} {vs:List AV} (h1:cs.length=vs.length) (h2:∀(i:Nat) c v,cs[i]? =some c->vs[i]? =some v->aF Fz c v):aF Fz (.agg cs) (.agg vs)
 |bB {cs:List SV} {vs:List AV} (h1:cs.length=vs.length) (h2:∀(i:Nat) c v,cs[i]? =some c->vs[i]? =some v->aF Fz c v):aF Fz (.bB cs) (.bB vs)
inductive aA (C:Cx):SV->AV->Prop
 |pure {s:SV} {v:AV} (h:aF C.Fz s v):aA C s v
 |ptr {b off:Nat} {I:BI} (h:C.ρ b=some I):aA C (.ptr b off) (.ptr I.β off)
 |bJ {b i off:Nat} {I:BI} (h:C.ρ b=some I) (hc:I.cap.isSome):aA C (.bJ b i off) (.ptr I.β (i*I.sz+off))
 |dI {b:Nat} {I:BI} (h:C.ρ b=some I) (hc:I.cap=none):aA C (.own b) .nils
 |own {b:Nat} {I:BI} {c:fb} (h:C.ρ b=some I) (hc:I.cap=some c):aA C (.own b) (.sl I.β 0 I.len c)
 |sl {b off n c:Nat} {I:BI} (h:C.ρ b=some I):aA C (.sl b off n c) (.sl I.β off n (.lit c))
 |fn {f:FuncId} {xs ys:List SV} {us vs:List AV} (h1:xs.length=us.length) (h2:ys.length=vs.length) (h3:∀(i:Nat) x u,xs[i]? =some x->us[i]? =some u->aA C x u) (h4:∀(i:Nat) x u,ys[i]? =some x->vs[i]? =some u->aA C x u):aA C (.fn f xs ys) (.fn (.func f) us vs)
 |agg {cs:List SV} {vs:List AV} (h1:cs.length=vs.length) (h2:∀(i:Nat) c v,cs[i]? =some c->vs[i]? =some v->aA C c v):aA C (.agg cs) (.agg vs)
 |bB {cs:List SV} {vs:List AV} (h1:cs.length=vs.length) (h2:∀(i:Nat) c v,cs[i]? =some c->vs[i]? =some v->aA C c v):aA C (.bB cs) (.bB vs)
theorem fc {b c:Nat} (h:¬b=c):Nat.beq b c=false:=AY.2 fun e=>h (Ad e)
def aM (C:Cx) (l:List SV) (m:List AV):Prop:=l.length=m.length/\ ∀(i:Nat) s v,l[i]? =some s->m[i]? =some v->aA C s v
theorem aM.nil {C:Cx}:aM C [] []:=⟨rfl,fun i s v h=>by simp at h⟩
theorem aM.cons {C:Cx} {s:SV} {v:AV} {l:List SV} {m:List AV} (h:aA C s v) (t:aM C l m):aM C (s::l) (v::m):=by
 refine⟨by simp[t.1],fun i a b ha hb=>?_⟩
 cases i with
 |zero=>simp at ha hb;subst ha;subst hb;exact h
 |succ i=>exact t.2 i a b (by simpa using ha) (by simpa using hb)
theorem aM.head {C:Cx} {s:SV} {v:AV} {l:List SV} {m:List AV} (h:aM C (s::l) (v::m)):aA C s v/\aM C l m:=
 ⟨h.2 0 s v rfl rfl,by simpa using h.1,fun i a b ha hb=>h.2 (i+1) a b (by simpa using ha) (by simpa using hb)⟩
theorem aM.append {C:Cx} {l l':List SV} {m m':List AV} (h:aM C l m) (h':aM C l' m'):aM C (l++l') (m++m'):=by
 refine⟨by simp[h.1,h'.1],fun i a b ha hb=>?_⟩;by_cases hi:i<l.length
 . rw[AL hi]at ha;rw[AL (by rw[<-h.1];exact hi)]at hb;exact h.2 i a b ha hb
 . rw[A3 (by omega)]at ha;rw[A3 (by rw[<-h.1];omega),<-h.1]at hb;exact h'.2 _ a b ha hb
theorem aM.take {C:Cx} {l:List SV} {m:List AV} (h:aM C l m) (n:Nat):aM C (l.take n) (m.take n):=by
 refine⟨by simp[h.1],fun i a b ha hb=>?_⟩;rw[AU]at ha hb;split at ha
 . rename_i hi;rw[if_pos hi]at hb;exact h.2 i a b ha hb
 . cases ha
theorem aM.drop {C:Cx} {l:List SV} {m:List AV} (h:aM C l m) (n:Nat):aM C (l.drop n) (m.drop n):=by
 refine⟨by simp[h.1],fun i a b ha hb=>?_⟩;rw[BD]at ha hb;exact h.2 _ a b ha hb
theorem aF.mono {Fz Fz':Nat->Option AO} (hf:∀i o,Fz i=some o->Fz' i=some o) {s:SV} {v:AV} (h:aF Fz s v):aF Fz' s v:=by
 induction h with
 |bool b=>exact .bool b
 |int k n=>exact .int k n
 |str s=>exact .str s
 |aQ=>exact .aQ
 |wp a=>exact .wp a
 |nils=>exact .nils
 |bg=>exact .bg
 |bA=>exact .bA
 |any v=>exact .any v
 |bL h0 hv=>exact .bL h0 hv
 |aw b off cap cs e sz ext bk u hb hs hl hn hc h1 _ ih=>exact .aw b off cap cs e sz ext bk u (hb.mono hf) hs hl hn hc h1 ih
 |bT b base ca e sz ext bk u hb hl h1 _ ih=>exact .bT b base ca e sz ext bk u (hf _ _ hb) hl h1 ih
 |fn h1 h2 _ _ ih3 ih4=>exact .fn h1 h2 ih3 ih4
 |agg h1 _ ih=>exact .agg h1 ih
 |bB h1 _ ih=>exact .bB h1 ih
theorem mK (e:Ev) (l:List SV):eQ e l=l.map (SV.on e):=by
 induction l with
 |nil=>simp[eQ]
 |cons a l ih=>simp[eQ,ih]
theorem aF.on {Fz:Nat->Option AO} {s:SV} {v:AV} (h:aF Fz s v) (e:Ev):aF Fz (s.on e) v:=by
 induction h with
 |bool b=>simp only[SV.on];exact .bool b
 |int k n=>simp only[SV.on];exact .int k n
 |str s=>simp only[SV.on];exact .str s
 |aQ=>simp only[SV.on];exact .aQ
 |wp a=>simp only[SV.on];exact .wp a
 |nils=>simp only[SV.on];exact .nils
 |bg=>simp only[SV.on];exact .bg
 |bA=>simp only[SV.on];exact .bA
 |any v=>simp only[SV.on];exact .any v
 |bL h0 hv=>simp only[SV.on];exact .bL h0 hv
 |aw b off cap cs e sz ext bk u hb hs hl hn hc h1 h2 _=>simp only[SV.on];exact .aw b off cap cs e sz ext bk u hb hs hl hn hc h1 h2
 |bT b base ca e sz ext bk u hb hl h1 h2 _=>simp only[SV.on];exact .bT b base ca e sz ext bk u hb hl h1 h2
 |fn h1 h2 _ _ ih3 ih4=>
  simp only[SV.on,mK];refine .fn (by simpa using h1) (by simpa using h2) (fun i x u hx hu=>?_) (fun i x u hx hu=>?_)
  . rw[Av]at hx;obtain⟨y,hy,rfl⟩:=Ap.1 hx;exact ih3 i y u hy hu
  . rw[Av]at hx;obtain⟨y,hy,rfl⟩:=Ap.1 hx;exact ih4 i y u hy hu
 |agg h1 _ ih=>
  simp only[SV.on,mK];refine .agg (by simpa using h1) (fun i x u hx hu=>?_);rw[Av]at hx;obtain⟨y,hy,rfl⟩:=Ap.1 hx;exact ih i y u hy hu
 |bB h1 _ ih=>
  simp only[SV.on,mK];refine .bB (by simpa using h1) (fun i x u hx hu=>?_);rw[Av]at hx;obtain⟨y,hy,rfl⟩:=Ap.1 hx;exact ih i y u hy hu
def cE (C:Cx) (e:Ev) (C':Cx):Prop:=
 (∀i o,C.Fz i=some o->C'.Fz i=some o)/\
 match e with
 | .mod _=>∀p I,C.ρ p=some I->C'.ρ p=some I
 | .kill b=>∀p I,p≠b->C.ρ p=some I->C'.ρ p=some I
 | .eg b X L enc=>(∀p I,p≠b->C.ρ p=some I->C'.ρ p=some I)/\ ∀I,C.ρ b=some I->
  (∀v,aA C (.own b) v->aF C'.Fz (.aw X L enc) v)/\(∀(i:Nat) off v x,L[i]? =some x->aA C (.bJ b i off) v->aF C'.Fz (.bT (enc x) off) v)
theorem aA.turns {C C':Cx} {e:Ev} (ht:cE C e C') {s:SV} {v:AV} (h:aA C s v):aA C' (s.on e) v:=by
 induction h with
 |pure h=>exact .pure ((h.mono ht.1).on e)
 | @ptr b off I h=>
  simp only[SV.on]
  cases e with
  |mod c=>exact .ptr (ht.2 _ _ h)
  | kill c=>
    by_cases hb:b=c
    . simp[hb];exact .pure (.any _)
    . simp only[fc hb,AN];exact .ptr (ht.2 _ _ hb h)
  | eg c X L enc=>
    by_cases hb:b=c
    . simp[hb];exact .pure (.any _)
    . simp only[fc hb,AN];exact .ptr (ht.2.1 _ _ hb h)
 | @bJ b i off I h hc=>
  simp only[SV.on]
  cases e with
  |mod c=>exact .bJ (ht.2 _ _ h) hc
  | kill c=>
    by_cases hb:b=c
    . simp[hb];exact .pure (.any _)
    . simp only[fc hb,AN];exact .bJ (ht.2 _ _ hb h) hc
  | eg c X L enc=>
    by_cases hb:b=c
    . subst hb;simp only[BN,Bd];split
      . rename_i x hx;exact .pure ((ht.2.2 I h).2 i off _ x hx (.bJ h hc))
      . exact .pure (.any _)
    . simp only[fc hb,AN];exact .bJ (ht.2.1 _ _ hb h) hc
 | @dI b I h hc=>
  simp only[SV.on]
  cases e with
  |mod c=>exact .dI (ht.2 _ _ h) hc
  | kill c=>
    by_cases hb:b=c
    . simp[hb];exact .pure (.any _)
    . simp only[fc hb,AN];exact .dI (ht.2 _ _ hb h) hc
  | eg c X L enc=>
    by_cases hb:b=c
    . subst hb;simp only[BN,Bd];exact .pure ((ht.2.2 I h).1 _ (.dI h hc))
    . simp only[fc hb,AN];exact .dI (ht.2.1 _ _ hb h) hc
 | @own b I c' h hc=>
  simp only[SV.on]
  cases e with
  |mod c=>exact .own (ht.2 _ _ h) hc
  | kill c=>
    by_cases hb:b=c
    . simp[hb];exact .pure (.any _)
    . simp only[fc hb,AN];exact .own (ht.2 _ _ hb h) hc
  | eg c X L enc=>
    by_cases hb:b=c
    . subst hb;simp only[BN,Bd];exact .pure ((ht.2.2 I h).1 _ (.own h hc))
    . simp only[fc hb,AN];exact .own (ht.2.1 _ _ hb h) hc
 | @sl b off n c' I h=>
  simp only[SV.on]
  cases e with
  |mod c=>exact .sl (ht.2 _ _ h)
  | kill c=>
    by_cases hb:b=c
    . simp[hb];exact .pure (.any _)
    . simp only[fc hb,AN];exact .sl (ht.2 _ _ hb h)
  | eg c X L enc=>
    by_cases hb:b=c
    . simp[hb];exact .pure (.any _)
    . simp only[fc hb,AN];exact .sl (ht.2.1 _ _ hb h)
 |fn h1 h2 _ _ ih3 ih4=>
  simp only[SV.on,mK];refine .fn (by simpa using h1) (by simpa using h2) (fun i x u hx hu=>?_) (fun i x u hx hu=>?_)
  . rw[Av]at hx;obtain⟨y,hy,rfl⟩:=Ap.1 hx;exact ih3 i y u hy hu
  . rw[Av]at hx;obtain⟨y,hy,rfl⟩:=Ap.1 hx;exact ih4 i y u hy hu
 |agg h1 _ ih=>
  simp only[SV.on,mK];refine .agg (by simpa using h1) (fun i x u hx hu=>?_);rw[Av]at hx;obtain⟨y,hy,rfl⟩:=Ap.1 hx;exact ih i y u hy hu
 |bB h1 _ ih=>
  simp only[SV.on,mK];refine .bB (by simpa using h1) (fun i x u hx hu=>?_);rw[Av]at hx;obtain⟨y,hy,rfl⟩:=Ap.1 hx;exact ih i y u hy hu
def gC:List Ev->SV->SV
 |[],s=>s
 |e::l,s=>gC l (s.on e)
theorem sI (l m:List Ev) (s:SV):gC (l++m) s=gC m (gC l s):=by
 induction l generalizing s with
 |nil=>rfl
 |cons e l ih=>exact ih _
structure Tr (C:Cx) (log:List Ev) (C':Cx):Prop where
 val:∀s v,aA C s v->aA C' (gC log s) v
 fz:∀i o,C.Fz i=some o->C'.Fz i=some o
theorem Tr.refl (C:Cx):Tr C [] C:=⟨fun _ _ h=>h,fun _ _ h=>h⟩
theorem Tr.trans {C C' C'':Cx} {l m:List Ev} (h:Tr C l C') (k:Tr C' m C''):Tr C (l++m) C'':=
 ⟨fun s v hs=>by rw[sI];exact k.val _ _ (h.val _ _ hs),fun i o hi=>k.fz i o (h.fz i o hi)⟩
theorem cE.tr {C C':Cx} {e:Ev} (h:cE C e C'):Tr C [e] C':=⟨fun _ _ hs=>hs.turns h,h.1⟩
def Cx.le (C C':Cx):Prop:=(∀p I,C.ρ p=some I->C'.ρ p=some I)/\ ∀i o,C.Fz i=some o->C'.Fz i=some o
theorem aA.le {C C':Cx} (hc:C.le C') {s:SV} {v:AV} (h:aA C s v):aA C' s v:=by
 induction h with
 |pure h=>exact .pure (h.mono hc.2)
 |ptr h=>exact .ptr (hc.1 _ _ h)
 |bJ h hs=>exact .bJ (hc.1 _ _ h) hs
 |dI h hs=>exact .dI (hc.1 _ _ h) hs
 |own h hs=>exact .own (hc.1 _ _ h) hs
 |sl h=>exact .sl (hc.1 _ _ h)
 |fn h1 h2 _ _ ih3 ih4=>exact .fn h1 h2 ih3 ih4
 |agg h1 _ ih=>exact .agg h1 ih
 |bB h1 _ ih=>exact .bB h1 ih
theorem Cx.le.tr {C C':Cx} (h:C.le C'):Tr C [] C':=⟨fun _ _ hs=>hs.le h,h.2⟩
theorem Cx.le_refl (C:Cx):C.le C:=⟨fun _ _ h=>h,fun _ _ h=>h⟩
def dh (tab:aR) (C:Cx) (I:BI) (o:SO) (a:AH):Prop:=
 match o with
 | .cells cs e=>I.cap.isSome/\ ∃ca sz,a.get I.β=some (.cells ca e sz false .rw)/\aM C cs ca/\tab.siz.get e=some sz
 | .arr X L enc e=>tab.siz.get e=some I.sz/\0<I.sz/\I.len=L.length/\(∀(i:Nat) x,L[i]? =some x->(enc x).length=I.sz)/\
  match I.cap with
  |none=>L.length=0
  |some c=>∃ca ext bk,a.get I.β=some (.cells ca e I.sz ext bk)/\(bk≠ .ro/\bk≠ .cold)/\ca.length=L.length*I.sz/\((c= .tail 0/\ext=true)\/(c= .lit 0/\L.length=0))/\
   ∀(i:Nat) x (j:Nat) v,L[i]? =some x->(enc x)[j]? =some v->∃u,ca[i*I.sz+j]? =some u/\aF C.Fz v u
structure HS (tab:aR) (C:Cx) (h:SH) (a:AH):Prop where
 obj:∀p o,h.get p=some o->∃I,C.ρ p=some I/\dh tab C I o a
 inj:∀p q o o' I J,h.get p=some o->h.get q=some o'->C.ρ p=some I->C.ρ q=some J->I.cap.isSome->J.cap.isSome->I.β=J.β->p=q
 fz:∀i o,C.Fz i=some o->a.get i=some o
 dj:∀p o I,h.get p=some o->C.ρ p=some I->I.cap.isSome->C.Fz I.β=none
 lt:∀p I,C.ρ p=some I->p<h.next
 wf:∀i o,a.get i=some o->i<a.next
def FS (C:Cx) (ts:Fr) (ta:T AV):Prop:=∀t s,look ts t=some s->aA C s ((ta.get t).getD (.bB []))
end
section
universe u v
variable [Inhabited aD]
theorem iZ {α:Type u} (k:Nat) (v:α) (l:List (Nat×α)) (n:Nat):look ((k,v)::l) n=if n=k then some v else look l n:=by
 simp only[look];by_cases h:n=k
 . subst h;simp
 . rw[if_neg h,fc (fun e=>h e.symm)];rfl
theorem SH.aO (h:SH) (b p:Nat) (o:Option SO):(h.set b o).get p=if p=b then o else h.get p:=by
 obtain⟨n,os⟩:=h;simp only[SH.set,SH.get,iZ];by_cases e:p=b
 . simp[e];cases o<;>rfl
 . simp[e]
theorem SH.aK (h:SH) (p:Nat) (o:SO):(h.new o).get p=if p=h.next then some o else h.get p:=by
 obtain⟨n,os⟩:=h;simp only[SH.new,SH.get,iZ];by_cases e:p=n<;>simp[e]
theorem SH.dH (h:SH) (b:Nat) (o:Option SO):(h.set b o).next=h.next:=by obtain⟨n,os⟩:=h;rfl
theorem SH.cw (h:SH) (o:SO):(h.new o).next=h.next+1:=by obtain⟨n,os⟩:=h;rfl
theorem ML (e:Ev) (os:List (Nat×Option SO)) (p:Nat):look (gS e os) p=(look os p).map fun o=>o.map (SO.on e):=by
 induction os with
 |nil=>rfl
 |cons x l ih=>
  obtain⟨b,o⟩:=x
  cases o with
  |none=>simp only[gS,iZ,ih];split<;>simp
  |some o=>simp only[gS,iZ,ih];split<;>simp
theorem pS (e:Ev) (n:Nat) (os:List (Nat×Option SO)) (p:Nat):(SH.mk n (gS e os)).get p=((SH.mk n os).get p).map (SO.on e):=by
 simp only[SH.get,ML]
 cases h:look os p with
 |none=>rfl
 |some o=>cases o<;>rfl
theorem Fq (e:Ev) (ts:Fr) (t:Nat):look (nU e ts) t=(look ts t).map (SV.on e):=by
 induction ts with
 |nil=>rfl
 |cons x l ih=>
  obtain⟨b,v⟩:=x;simp only[nU,iZ,ih];split<;>simp
theorem FS.turns {C C':Cx} {e:Ev} (ht:cE C e C') {ts:Fr} {ta:T AV} (h:FS C ts ta):FS C' (nU e ts) ta:=by
 intro t s hs;rw[Fq]at hs;obtain⟨s0,h0,rfl⟩:=Ap.1 hs;exact(h t s0 h0).turns ht
theorem FS.le {C C':Cx} (hc:C.le C') {ts:Fr} {ta:T AV} (h:FS C ts ta):FS C' ts ta:=fun t s hs=>(h t s hs).le hc
theorem FS.log {C C':Cx} {log:List Ev} (ht:Tr C log C') {ts:Fr} {ta:T AV} (h:FS C ts ta):FS C' (qh log ts) ta:=by
 have key:∀(log:List Ev) (ts:Fr) (t:Nat),look (qh log ts) t=(look ts t).map (gC log):=by
  intro log;induction log with
  |nil=>intro ts t;simp[qh];cases look ts t<;>rfl
  |cons e l ih=>
   intro ts t;simp only[qh,ih,Fq,Option.map_map];rfl
 intro t s hs;rw[key]at hs;obtain⟨s0,h0,rfl⟩:=Ap.1 hs;exact ht.val _ _ (h t s0 h0)
theorem FS.put {C:Cx} {ts:Fr} {ta:T AV} (h:FS C ts ta) {t:Nat} {s:SV} {v:AV} (hv:aA C s v):FS C ((t,s)::ts) (ta.set t (some v)):=by
 intro t' s' hs;rw[iZ]at hs;rw[T.aO];split at hs
 . rename_i e
   cases hs;simpa [e]using hv
 . rename_i e;simpa [e]using h t' s' hs
theorem aM.le {C C':Cx} (hc:C.le C') {l:List SV} {m:List AV} (h:aM C l m):aM C' l m:=⟨h.1,fun i s v hs hv=>(h.2 i s v hs hv).le hc⟩
theorem aM.turns {C C':Cx} {e:Ev} (ht:cE C e C') {l:List SV} {m:List AV} (h:aM C l m):aM C' (eQ e l) m:=by
 rw[mK];refine⟨by simp[h.1],fun i s v hs hv=>?_⟩;rw[Av]at hs;obtain⟨s0,h0,rfl⟩:=Ap.1 hs;exact(h.2 i s0 v h0 hv).turns ht
section
variable {tab:aR} {C C':Cx} {I:BI} {o:SO} {a a':AH} {h:SH}
theorem dh.congr (hg:a'.get I.β=a.get I.β) (ho:dh tab C I o a):dh tab C I o a':=by
 cases o with
 |cells cs e=>
  simp only[dh,hg]at ho⊢;exact ho
 |arr X L enc e=>
  simp only[dh,hg]at ho⊢;exact ho
theorem dh.le (hc:C.le C') (ho:dh tab C I o a):dh tab C' I o a:=by
 cases o with
 |cells cs e=>
  obtain⟨h1,ca,sz,h2,h3,h4⟩:=ho;exact⟨h1,ca,sz,h2,h3.le hc,h4⟩
 | arr X L enc e=>
  obtain⟨h1,h2,h3,h4,h5⟩:=ho;refine⟨h1,h2,h3,h4,?_⟩
  cases hcap:I.cap with
  |none=>rw[hcap]at h5;exact h5
  |some c=>
   rw[hcap]at h5;obtain⟨ca,ext,bk,g1,g2,g3,g4,g5⟩:=h5;refine⟨ca,ext,bk,g1,g2,g3,g4,fun i x j v hx hv=>?_⟩;obtain⟨u,k1,k2⟩:=g5 i x j v hx hv;exact⟨u,k1,k2.mono hc.2⟩
theorem dh.turns {e:Ev} (ht:cE C e C') (ho:dh tab C I o a):dh tab C' I (o.on e) a:=by
 cases o with
 |cells cs t=>
  obtain⟨h1,ca,sz,h2,h3,h4⟩:=ho;exact⟨h1,ca,sz,h2,h3.turns ht,h4⟩
 | arr X L enc t=>
  obtain⟨h1,h2,h3,h4,h5⟩:=ho;refine⟨h1,h2,h3,h4,?_⟩
  cases hcap:I.cap with
  |none=>rw[hcap]at h5;exact h5
  |some c=>
   rw[hcap]at h5;obtain⟨ca,ext,bk,g1,g2,g3,g4,g5⟩:=h5;refine⟨ca,ext,bk,g1,g2,g3,g4,fun i x j v hx hv=>?_⟩;obtain⟨u,k1,k2⟩:=g5 i x j v hx hv;exact⟨u,k1,k2.mono ht.1⟩
theorem dh.live (ho:dh tab C I o a) (hc:I.cap.isSome):∃b,a.get I.β=some b:=by
 cases o with
 |cells cs e=>
  obtain⟨_,ca,sz,h2,_⟩:=ho;exact⟨_,h2⟩
 |arr X L enc e=>
  obtain⟨_,_,_,_,h5⟩:=ho;obtain⟨c,hc⟩:=By.1 hc;rw[hc]at h5;obtain⟨ca,ext,bk,g1,_⟩:=h5;exact⟨_,g1⟩
open Classical in
noncomputable def Cx.put (C:Cx) (p:Nat) (I:BI):Cx:={C with ρ:=fun q=>if q=p then some I else C.ρ q}
theorem gQ (C:Cx) (p:Nat) (I:BI):(C.put p I).ρ p=some I:=by simp[Cx.put]
theorem iB (C:Cx) {p q:Nat} (I:BI) (h:q≠p):(C.put p I).ρ q=C.ρ q:=by simp[Cx.put,h]
structure Grow (a a':AH):Prop where
 next:a.next<=a'.next
 old:∀i o,a'.get i=some o->(∃o0,a.get i=some o0)\/a.next<=i
theorem Grow.refl (a:AH):Grow a a:=⟨Af _,fun i o h=> .inl ⟨o,h⟩⟩
theorem Grow.trans {a b c:AH} (h:Grow a b) (k:Grow b c):Grow a c:=
 ⟨Ay h.next k.next,fun i o hi=>(k.old i o hi).elim (fun⟨o',ho⟩=>h.old i o' ho) (fun hl=> .inr (Ay h.next hl))⟩
theorem Grow.new (a:AH) (o:AO):Grow a (a.new o):=⟨by simp,fun i o' hi=>by
 rw[AH.aK]at hi;split at hi
 . rename_i e;exact .inr (by omega)
 . exact .inl ⟨o',hi⟩⟩
theorem HS.new (H:HS tab C h a) {ao:AO} {o:SO} (I:BI) (hI:I.β=a.next) (ho:C.le (C.put h.next I)->dh tab (C.put h.next I) I o (a.new ao)):
   C.le (C.put h.next I)/\HS tab (C.put h.next I) (h.new o) (a.new ao):=by
 have hle:C.le (C.put h.next I):=by
   refine⟨fun p J hp=>?_,fun i o h=>h⟩;have:=H.lt p J hp;rw[iB _ _ (by omega)];exact hp
 refine⟨hle,?_⟩;have hold:∀p o',(h.new o).get p=some o'->p≠h.next->h.get p=some o':=by
   intro p o' hp hne;rw[SH.aK,if_neg hne]at hp;exact hp
 have hne:∀p o',h.get p=some o'->p≠h.next:=by
   intro p o' hp e;obtain⟨J,hJ,_⟩:=H.obj p o' hp;have:=H.lt p J hJ;omega
 have hblk:∀p o' J,h.get p=some o'->C.ρ p=some J->J.cap.isSome->J.β<a.next:=by
   intro p o' J hp hJ hc;obtain⟨J',hJ',hs⟩:=H.obj p o' hp;rw[hJ]at hJ';cases hJ';obtain⟨b,hb⟩:=hs.live hc;exact H.wf _ _ hb
 refine⟨?_,?_,?_,?_,?_,?_⟩
 . intro p o' hp;by_cases e:p=h.next
   . subst e;rw[SH.aK,if_pos rfl]at hp
     cases hp;exact⟨I,gQ _ _ _,ho hle⟩
   . have hp':=hold p o' hp e;obtain⟨J,hJ,hs⟩:=H.obj p o' hp';refine⟨J,hle.1 _ _ hJ,?_⟩;have hs':=hs.le hle;by_cases hc:J.cap.isSome
     . refine hs'.congr ?_;have:=hblk p o' J hp' hJ hc;rw[AH.aK,if_neg (by omega)]
     . cases o' with
       |cells cs t=>exact absurd hs.1 hc
       |arr X L enc t=>
        obtain⟨h1,h2,h3,h4,h5⟩:=hs';refine⟨h1,h2,h3,h4,?_⟩
        cases hcap:J.cap with
        |none=>rw[hcap]at h5;exact h5
        |some c=>rw[hcap]at hc;simp at hc
 . intro p q o1 o2 J J' hp hq hJ hJ' hc hc' e;by_cases e1:p=h.next
   . by_cases e2:q=h.next
     . rw[e1,e2]
     . exfalso;subst e1;rw[gQ]at hJ;cases hJ;rw[iB _ _ e2]at hJ';have:=hblk q o2 J' (hold q o2 hq e2) hJ' hc';omega
   . rw[iB _ _ e1]at hJ;by_cases e2:q=h.next
     . exfalso;subst e2;rw[gQ]at hJ';cases hJ';have:=hblk p o1 J (hold p o1 hp e1) hJ hc;omega
     . rw[iB _ _ e2]at hJ';exact H.inj p q o1 o2 J J' (hold p o1 hp e1) (hold q o2 hq e2) hJ hJ' hc hc' e
 . intro i o' hi;have:=H.fz i o' hi;have hl:=H.wf _ _ this;rw[AH.aK,if_neg (by omega)];exact this
 . intro p o' J hp hJ hc;by_cases e:p=h.next
   . subst e;rw[gQ]at hJ;cases hJ;rw[hI]
     cases hz:(C.put h.next I).Fz a.next with
     |none=>rfl
     | some o2=>
       have:=H.wf _ _ (H.fz _ _ hz);omega
   . rw[iB _ _ e]at hJ;exact H.dj p o' J (hold p o' hp e) hJ hc
 . intro p J hJ;rw[SH.cw];by_cases e:p=h.next
   . omega
   . rw[iB _ _ e]at hJ;have:=H.lt p J hJ;omega
 . intro i o' hi;rw[AH.aK]at hi;simp only[AH.cw];split at hi
   . omega
   . have:=H.wf i o' hi;omega
theorem HS.vl (H:HS tab C h a) {o:SO} (I:BI) (hI:I.cap=none) (ho:C.le (C.put h.next I)->dh tab (C.put h.next I) I o a):
   C.le (C.put h.next I)/\HS tab (C.put h.next I) (h.new o) a:=by
 have hle:C.le (C.put h.next I):=by
   refine⟨fun p J hp=>?_,fun i o h=>h⟩;have:=H.lt p J hp;rw[iB _ _ (by omega)];exact hp
 refine⟨hle,?_⟩;have hold:∀p o',(h.new o).get p=some o'->p≠h.next->h.get p=some o':=by
   intro p o' hp hne;rw[SH.aK,if_neg hne]at hp;exact hp
 refine⟨?_,?_,H.fz,?_,?_,H.wf⟩
 . intro p o' hp;by_cases e:p=h.next
   . subst e;rw[SH.aK,if_pos rfl]at hp
     cases hp;exact⟨I,gQ _ _ _,ho hle⟩
   . obtain⟨J,hJ,hs⟩:=H.obj p o' (hold p o' hp e);exact⟨J,hle.1 _ _ hJ,hs.le hle⟩
 . intro p q o1 o2 J J' hp hq hJ hJ' hc hc' e;by_cases e1:p=h.next
   . subst e1;rw[gQ]at hJ;cases hJ;rw[hI]at hc;simp at hc
   . rw[iB _ _ e1]at hJ;by_cases e2:q=h.next
     . subst e2;rw[gQ]at hJ';cases hJ';rw[hI]at hc';simp at hc'
     . rw[iB _ _ e2]at hJ';exact H.inj p q o1 o2 J J' (hold p o1 hp e1) (hold q o2 hq e2) hJ hJ' hc hc' e
 . intro p o' J hp hJ hc;by_cases e:p=h.next
   . subst e;rw[gQ]at hJ;cases hJ;rw[hI]at hc;simp at hc
   . rw[iB _ _ e]at hJ;exact H.dj p o' J (hold p o' hp e) hJ hc
 . intro p J hJ;rw[SH.cw];by_cases e:p=h.next
   . omega
   . rw[iB _ _ e]at hJ;have:=H.lt p J hJ;omega
theorem HS.renew (H:HS tab C h a) {d:Nat} {o0:SO} {I0:BI} (hd:h.get d=some o0) (hI0:C.ρ d=some I0) (I:BI) {o:SO}
   (hold:∀i b,(I0.cap.isSome->i≠I0.β)->a.get i=some b->a'.get i=some b) (hwf:∀i b,a'.get i=some b->i<a'.next)
   (hnew:I.cap.isSome->a.next<=I.β\/(I0.cap.isSome/\I.β=I0.β)) (hn:a.next<=a'.next) (ho:cE C (.kill d) (C.put d I)->dh tab (C.put d I) I o a'):
   cE C (.kill d) (C.put d I)/\HS tab (C.put d I) ⟨h.next,(d,some o)::gS (.kill d) h.os⟩ a':=by
 have hT:cE C (.kill d) (C.put d I):=⟨fun i o h=>h,fun p J hp hJ=>by rw[iB _ _ hp];exact hJ⟩;refine⟨hT,?_⟩;have hget:∀p,(SH.mk h.next ((d,some o)::gS (.kill d) h.os)).get p=if p=d then some o else(h.get p).map (SO.on (.kill d)):=by
   intro p;have h1:=pS (.kill d) h.next h.os p;simp only[SH.get,iZ]at h1⊢;by_cases e:p=d
   . simp[e]
   . simp only[if_neg e];exact h1
 have hback:∀p o',(SH.mk h.next ((d,some o)::gS (.kill d) h.os)).get p=some o'->p≠d->∃o1,h.get p=some o1/\o'=o1.on (.kill d):=by
   intro p o' hp hne;rw[hget,if_neg hne]at hp;obtain⟨o1,h1,h2⟩:=Ap.1 hp;exact⟨o1,h1,h2.symm⟩
 have hlive:∀p o1 J,h.get p=some o1->C.ρ p=some J->dh tab C J o1 a:=by
   intro p o1 J hp hJ;obtain⟨J',hJ',hs⟩:=H.obj p o1 hp;rw[hJ]at hJ';cases hJ';exact hs
 have hne:∀p o1 J,h.get p=some o1->C.ρ p=some J->J.cap.isSome->p≠d->(I0.cap.isSome->J.β≠I0.β):=by
   intro p o1 J hp hJ hc hpd hc0 e;exact hpd (H.inj p d o1 o0 J I0 hp hd hJ hI0 hc hc0 e)
 refine⟨?_,?_,?_,?_,?_,hwf⟩
 . intro p o' hp;by_cases e:p=d
   . subst e;rw[hget,if_pos rfl]at hp
     cases hp;exact⟨I,gQ _ _ _,ho hT⟩
   . obtain⟨o1,h1,rfl⟩:=hback p o' hp e;obtain⟨J,hJ,hs⟩:=H.obj p o1 h1;refine⟨J,hT.2 p J e hJ,?_⟩;have hs':=hs.turns hT;by_cases hc:J.cap.isSome
     . obtain⟨b,hb⟩:=hs.live hc;exact hs'.congr ((hold _ _ (hne p o1 J h1 hJ hc e) hb).trans hb.symm)
     . cases o1 with
       |cells cs t=>exact absurd hs.1 hc
       |arr X L enc t=>
        obtain⟨g1,g2,g3,g4,g5⟩:=hs';refine⟨g1,g2,g3,g4,?_⟩
        cases hcap:J.cap with
        |none=>rw[hcap]at g5;exact g5
        |some c=>rw[hcap]at hc;simp at hc
 . have key:∀q o2 J,(SH.mk h.next ((d,some o)::gS (.kill d) h.os)).get q=some o2->q≠d->(C.put d I).ρ q=some J->J.cap.isSome->I.cap.isSome->I.β≠J.β:=by
     intro q o2 J hq e2 hJ' hc' hc e;rw[iB _ _ e2]at hJ';obtain⟨o3,h3,rfl⟩:=hback q o2 hq e2;obtain⟨b,hb⟩:=(hlive q o3 J h3 hJ').live hc';have hlt:=H.wf _ _ hb;rcases hnew hc with hge|⟨h0,he⟩
     . omega
     . exact hne q o3 J h3 hJ' hc' e2 h0 (by rw[<-e,he])
   intro p q o1 o2 J J' hp hq hJ hJ' hc hc' e;by_cases e1:p=d
   . by_cases e2:q=d
     . rw[e1,e2]
     . exfalso;subst e1;rw[gQ]at hJ;cases hJ;exact key q o2 J' hq e2 hJ' hc' hc e
   . by_cases e2:q=d
     . exfalso;subst e2;rw[gQ]at hJ';cases hJ';exact key p o1 J hp e1 hJ hc hc' e.symm
     . rw[iB _ _ e1]at hJ;rw[iB _ _ e2]at hJ';obtain⟨o3,h3,_⟩:=hback p o1 hp e1;obtain⟨o4,h4,_⟩:=hback q o2 hq e2;exact H.inj p q o3 o4 J J' h3 h4 hJ hJ' hc hc' e
 . intro i b hi;have h1:=H.fz i b hi;refine hold i b (fun hc e=>?_) h1;subst e;have:=H.dj d o0 I0 hd hI0 hc;rw[show C.Fz I0.β=some b from hi]at this;cases this
 . intro p o' J hp hJ hc;by_cases e:p=d
   . subst e;rw[gQ]at hJ;cases hJ;rcases hnew hc with hge|⟨h0,he⟩
     . cases hz:C.Fz I.β with
       |none=>exact hz
       |some o2=>
        have:=H.wf _ _ (H.fz _ _ hz);omega
     . rw[he];exact H.dj p o0 I0 hd hI0 h0
   . rw[iB _ _ e]at hJ;obtain⟨o3,h3,_⟩:=hback p o' hp e;exact H.dj p o3 J h3 hJ hc
 . intro p J hJ;by_cases e:p=d
   . subst e;exact H.lt p I0 hI0
   . rw[iB _ _ e]at hJ;exact H.lt p J hJ
end
end
section
universe u v
variable [Inhabited aD]
section
variable {tab:aR} {C C':Cx} {I:BI} {o:SO} {a a':AH} {h:SH}
theorem HS.at_ (H:HS tab C h a) {p:Nat} {o:SO} {I:BI} (hp:h.get p=some o) (hI:C.ρ p=some I):dh tab C I o a:=by
 obtain⟨J,hJ,hs⟩:=H.obj p o hp;rw[hI]at hJ;cases hJ;exact hs
theorem HS.mod (H:HS tab C h a) {d:Nat} {o0:SO} {I0:BI} (hd:h.get d=some o0) (hI0:C.ρ d=some I0) (hb:I0.cap.isSome) {o:SO} {ao:AO} (ho:dh tab C I0 o (a.set I0.β ao)):
   HS tab C (h.set d (some o)) (a.set I0.β ao):=by
 have hback:∀p o',(h.set d (some o)).get p=some o'->p≠d->h.get p=some o':=by
   intro p o' hp hne;rw[SH.aO,if_neg hne]at hp;exact hp
 have hany:∀p o',(h.set d (some o)).get p=some o'->∃o1,h.get p=some o1:=by
   intro p o' hp;by_cases e:p=d
   . exact⟨o0,e▸hd⟩
   . exact⟨o',hback p o' hp e⟩
 have hlt:=H.wf _ _ ((H.at_ hd hI0).live hb).choose_spec;refine⟨?_,?_,?_,?_,?_,?_⟩
 . intro p o' hp;by_cases e:p=d
   . subst e;rw[SH.aO,if_pos rfl]at hp
     cases hp;exact⟨I0,hI0,ho⟩
   . have hp':=hback p o' hp e;obtain⟨J,hJ,hs⟩:=H.obj p o' hp';refine⟨J,hJ,?_⟩;by_cases hc:J.cap.isSome
     . refine hs.congr ?_;rw[AH.aO,if_neg];intro e';exact e (H.inj p d o' o0 J I0 hp' hd hJ hI0 hc hb e')
     . cases o' with
       |cells cs t=>exact absurd hs.1 hc
       |arr X L enc t=>
        obtain⟨g1,g2,g3,g4,g5⟩:=hs;refine⟨g1,g2,g3,g4,?_⟩
        cases hcap:J.cap with
        |none=>rw[hcap]at g5;exact g5
        |some c=>rw[hcap]at hc;simp at hc
 . intro p q o1 o2 J J' hp hq hJ hJ' hc hc' e;obtain⟨o3,h3⟩:=hany p o1 hp;obtain⟨o4,h4⟩:=hany q o2 hq;exact H.inj p q o3 o4 J J' h3 h4 hJ hJ' hc hc' e
 . intro i b hi;have h1:=H.fz i b hi;rw[AH.aO,if_neg]
   . exact h1
   . intro e;subst e;have:=H.dj d o0 I0 hd hI0 hb;rw[hi]at this;cases this
 . intro p o' J hp hJ hc;obtain⟨o3,h3⟩:=hany p o' hp;exact H.dj p o3 J h3 hJ hc
 . intro p J hJ;rw[SH.dH];exact H.lt p J hJ
 . intro i b hi;rw[AH.aO]at hi;simp only[AH.dH];split at hi
   . rename_i e;rw[e];exact hlt
   . exact H.wf i b hi
open Classical in
noncomputable def Cx.freeze (C:Cx) (β:Nat) (p:Prop) (o:Option AO):Cx:={C with Fz:=fun i=>if p/\i=β then o else C.Fz i}
theorem HS.freeze (H:HS tab C h a) {d:Nat} {o0:SO} {I0:BI} (hd:h.get d=some o0) (hI0:C.ρ d=some I0) {e:Ev} (he:∀C':Cx,(∀i o,C.Fz i=some o->C'.Fz i=some o)->(∀p I,C.ρ p=some I->C'.ρ p=some I)->
     (I0.cap.isSome->C'.Fz I0.β=a.get I0.β)->cE C e C'):
   ∃C',cE C e C'/\HS tab C' ⟨h.next,(d,none)::gS e h.os⟩ a/\(I0.cap.isSome->C'.Fz I0.β=a.get I0.β)/\C'.ρ=C.ρ:=by
 classical
 let C':Cx:=C.freeze I0.β (I0.cap.isSome=true) (a.get I0.β)
 have hfz:∀i o,C.Fz i=some o->C'.Fz i=some o:=by
   intro i o hi;simp only[C',Cx.freeze];split
   . rename_i hc;obtain⟨hb,rfl⟩:=hc;have:=H.dj d o0 I0 hd hI0 hb;rw[hi]at this;cases this
   . exact hi
 have hfb:I0.cap.isSome->C'.Fz I0.β=a.get I0.β:=by
   intro hb;simp[C',Cx.freeze,hb]
 have hback':∀i o,C'.Fz i=some o->C.Fz i=some o\/(I0.cap.isSome/\i=I0.β/\a.get i=some o):=by
   intro i o hi;simp only[C',Cx.freeze]at hi;split at hi
   . rename_i hc;exact .inr ⟨hc.1,hc.2,by rw[hc.2];exact hi⟩
   . exact .inl hi
 have hT:=he C' hfz (fun p I h=>h) hfb;refine⟨C',hT,?_,hfb,rfl⟩;have hget:∀p,(SH.mk h.next ((d,none)::gS e h.os)).get p=if p=d then none else(h.get p).map (SO.on e):=by
   intro p;have h1:=pS e h.next h.os p;simp only[SH.get,iZ]at h1⊢;by_cases e:p=d
   . simp[e]
   . simp only[if_neg e];exact h1
 have hback:∀p o',(SH.mk h.next ((d,none)::gS e h.os)).get p=some o'->p≠d/\ ∃o1,h.get p=some o1/\o'=o1.on e:=by
   intro p o' hp;rw[hget]at hp;split at hp
   . cases hp
   . rename_i hne;obtain⟨o1,h1,h2⟩:=Ap.1 hp;exact⟨hne,o1,h1,h2.symm⟩
 refine⟨?_,?_,?_,?_,H.lt,H.wf⟩
 . intro p o' hp;obtain⟨hne,o1,h1,rfl⟩:=hback p o' hp;obtain⟨J,hJ,hs⟩:=H.obj p o1 h1;exact⟨J,hJ,hs.turns hT⟩
 . intro p q o1 o2 J J' hp hq hJ hJ' hc hc' e;obtain⟨_,o3,h3,_⟩:=hback p o1 hp;obtain⟨_,o4,h4,_⟩:=hback q o2 hq;exact H.inj p q o3 o4 J J' h3 h4 hJ hJ' hc hc' e
 . intro i b hi;rcases hback' i b hi with h1|⟨_,_,h1⟩
   . exact H.fz i b h1
   . exact h1
 . intro p o' J hp hJ hc;obtain⟨hne,o3,h3,_⟩:=hback p o' hp
   cases hz:C'.Fz J.β with
   |none=>rfl
   | some b=>
     rcases hback' _ b hz with h1|⟨hb,h1,_⟩
     . have:=H.dj p o3 J h3 hJ hc;rw[h1]at this;cases this
     . exact absurd (H.inj p d o3 o0 J I0 h3 hd hJ hI0 hc hb h1) hne
theorem Kt (H:HS tab C h a) {d:Nat} {X:Type} {L:List X} {enc:X->List SV} {t:TypeId} {I0:BI} (hd:h.get d=some (.arr X L enc t)) (hI0:C.ρ d=some I0) (C':Cx)
   (hfz:∀i o,C.Fz i=some o->C'.Fz i=some o) (hρ:∀p I,C.ρ p=some I->C'.ρ p=some I) (hb:I0.cap.isSome->C'.Fz I0.β=a.get I0.β):cE C (.eg d X L enc) C':=by
 refine⟨hfz,fun p I _ h=>hρ p I h,fun I hI=>?_⟩;rw[hI0]at hI;cases hI;obtain⟨g1,g2,g3,g4,g5⟩:=H.at_ hd hI0;constructor
 . intro v hv
   cases hv with
   |pure h=>cases h
   |dI hI hc=>
    rw[hI0]at hI;cases hI;rw[hc]at g5;exact .bL g5 (.inl rfl)
   |own hI hc=>
    rw[hI0]at hI;cases hI;rw[hc]at g5;obtain⟨ca,ext,bk,k1,k2,k3,k4,k5⟩:=g5;rw[g3];refine .aw I0.β 0 _ ca t I0.sz ext bk (fun i j=>(ca[0+i*I0.sz+j]?).getD (.bB [])) (.of (by rw[hb (by simp[hc]),k1])) g2 (by omega) g4 ?_ ?_ ?_
    . rcases k4 with⟨rfl,rfl⟩|⟨rfl,h0⟩
      . exact⟨rfl,by simp⟩
      . simp[nz,h0]
    . intro i x j v hx hv;obtain⟨u,k6,_⟩:=k5 i x j v hx hv;rw[Ax,k6];rfl
    . intro i x j v hx hv;obtain⟨u,k6,k7⟩:=k5 i x j v hx hv;rw[Ax,k6];exact k7.mono hfz
 . intro i off v x hx hv
   cases hv with
   |pure h=>cases h
   | bJ hI hc=>
    rw[hI0]at hI;cases hI;obtain⟨c,hc'⟩:=By.1 hc;rw[hc']at g5;obtain⟨ca,ext,bk,k1,k2,k3,k4,k5⟩:=g5;refine .bT I0.β (i*I0.sz) ca t I0.sz ext bk (fun j=>(ca[i*I0.sz+j]?).getD (.bB [])) (by rw[hb hc,k1]) ?_ ?_ ?_
    . have hlt:=(Ac.1 hx).1;rw[k3,g4 i x hx]
      calc i*I0.sz+I0.sz=(i+1)*I0.sz:=by rw[Bp,Dz]
        _<=L.length*I0.sz:=Bo _ hlt
    . intro j v hv;obtain⟨u,k6,_⟩:=k5 i x j v hx hv;rw[k6];rfl
    . intro j v hv;obtain⟨u,k6,k7⟩:=k5 i x j v hx hv;rw[k6];exact k7.mono hfz
theorem J3 {d:Nat} (C':Cx) (hfz:∀i o,C.Fz i=some o->C'.Fz i=some o) (hρ:∀p I,C.ρ p=some I->C'.ρ p=some I):cE C (.kill d) C':=⟨hfz,fun p I _ h=>hρ p I h⟩
end
def cr (C:Cx) (h:SH) (a:AH) (new:List Ev) (C':Cx) (h':SH) (a':AH):Prop:=∀p o I,h.get p=some o->C.ρ p=some I->I.cap.isSome->p∉jr new->
 a'.get I.β=a.get I.β/\((∃o',h'.get p=some o'/\C'.ρ p=some I)\/ ∃b,C'.Fz I.β=some b)
theorem cr.same (C:Cx) (h:SH) (a:AH) (new:List Ev):cr C h a new C h a:=fun _ o _ hp hI _ _=>⟨rfl, .inl ⟨o,hp,hI⟩⟩
theorem cr.new {tab:aR} {C C':Cx} {h h':SH} {a:AH} (H:HS tab C h a) (o:AO) (new:List Ev) (hle:C.le C') (hh:∀p o,h.get p=some o->∃o',h'.get p=some o'):cr C h a new C' h' (a.new o):=by
 intro p o' I hp hI hc _;obtain⟨b,hb⟩:=(H.at_ hp hI).live hc;have:=H.wf _ _ hb;obtain⟨o2,h2⟩:=hh p o' hp;exact⟨by rw[AH.aK,if_neg (by omega)], .inl ⟨o2,h2,hle.1 _ _ hI⟩⟩
theorem qK {tab:aR} {C:Cx} {h:SH} {a:AH} (H:HS tab C h a) (o:SO):∀p o',h.get p=some o'->∃o2,(h.new o).get p=some o2:=by
 intro p o' hp;obtain⟨I,hI,_⟩:=H.obj p o' hp;have:=H.lt p I hI;exact⟨o',by rw[SH.aK,if_neg (by omega)];exact hp⟩
structure na (tab:aR) (C:Cx) (s:St) (ta:T AV) (a:AH) (sv:SV) (s':St) (v:AV) (a':AH):Prop where
 ex:∃C' new,s'.log=s.log++new/\Tr C new C'/\aA C' sv v/\HS tab C' s'.h a'/\FS C' s'.ts ta/\cr C s.h a new C' s'.h a'
 grow:Grow a a'
theorem na.same {tab:aR} {C:Cx} {s:St} {ta:T AV} {a:AH} {sv:SV} {v:AV} (hF:FS C s.ts ta) (H:HS tab C s.h a) (hv:aA C sv v):na tab C s ta a sv s v a:=
 ⟨⟨C,[],by simp,Tr.refl C,hv,H,hF,cr.same _ _ _ _⟩,Grow.refl a⟩
def cO (C:Cx) (h:SH) (a:AH) (C1:Cx) (h1:SH):Prop:=∀p o I,h.get p=some o->C.ρ p=some I->I.cap.isSome->(∃o',h1.get p=some o'/\C1.ρ p=some I)\/ ∃b,a.get I.β=some b/\C1.Fz I.β=some b
theorem cO.refl (C:Cx) (h:SH) (a:AH):cO C h a C h:=fun p o I hp hI _=> .inl ⟨o,hp,hI⟩
theorem cO.trans {C C1 C2:Cx} {h h1 h2:SH} {a:AH} (k:cO C h a C1 h1) (k':cO C1 h1 a C2 h2) (hf:∀i o,C1.Fz i=some o->C2.Fz i=some o):cO C h a C2 h2:=by
 intro p o I hp hI hc;rcases k p o I hp hI hc with⟨o',h1,h2⟩|⟨b,h1,h2⟩
 . exact k' p o' I h1 h2 hc
 . exact .inr ⟨b,h1,hf _ _ h2⟩
theorem cO.bG {C C1:Cx} {h h1:SH} {a:AH} (k:cO C h a C1 h1) (new:List Ev):cr C h a new C1 h1 a:=
 fun p o I hp hI hc _=>⟨rfl,(k p o I hp hI hc).imp id (fun⟨b,_,h⟩=>⟨b,h⟩)⟩
theorem j9 {tab:aR} {C:Cx} {s:St} {ta:T AV} {a:AH} (hF:FS C s.ts ta) (H:HS tab C s.h a) {d:Nat} {X:Type} {L:List X} {enc:X->List SV} {t:TypeId} (hd:s.h.get d=some (.arr X L enc t)):
   ∃C',((s.ev (.eg d X L enc)).del d).log=s.log++[.eg d X L enc]/\Tr C [.eg d X L enc] C'/\HS tab C' ((s.ev (.eg d X L enc)).del d).h a/\FS C' ((s.ev (.eg d X L enc)).del d).ts ta/\
    (∀v,aA C (.own d) v->aF C'.Fz (.aw X L enc) v)/\cO C s.h a C' ((s.ev (.eg d X L enc)).del d).h:=by
 obtain⟨ts,⟨n,os⟩,log⟩:=s;obtain⟨I,hI,ho⟩:=H.obj d _ hd;obtain⟨C',hT,H',hfb,hρ⟩:=H.freeze hd hI (Kt H hd hI);refine⟨C',rfl,hT.tr,H',hF.turns hT,(hT.2.2 I hI).1,?_⟩;intro p o J hp hJ hc;by_cases e:p=d
 . subst e;rw[hI]at hJ;cases hJ;obtain⟨b,hb⟩:=(H.at_ hp hI).live hc;exact .inr ⟨b,hb,by rw[hfb hc,hb]⟩
 . refine .inl ⟨o.on (.eg d X L enc),?_,by rw[hρ];exact hJ⟩;simp only[St.ev,St.del,SH.aO,if_neg e];rw[pS,hp];rfl
end
section
universe u v
variable [Inhabited aD]
theorem rb {α β:Type} {x:R α} {a:α} (h:x= .ok a) (f:α->R β):(x>>=f)=f a:=by rw[h];rfl
theorem ro {α:Type} {s:String} {x:Option α} {a:α} (h:x=some a):R.of s x= .ok a:=by rw[h];rfl
theorem rc {s:String} {b:Bool} (h:b=true):R.check s b= .ok ():=by rw[h];rfl
theorem cF {α:Type u} {x:Option α} {k:α->Prop} (h:so x k):∃a,x=some a/\k a:=by
 cases x with
 |none=>exact h.elim
 |some a=>exact⟨a,rfl,h⟩
theorem cd {b:Bool} {p:Prop} (h:ck b p):b=true/\p:=by
 cases b with
 |false=>exact h.elim
 |true=>exact⟨rfl,h⟩
theorem uM {b:Bool} {p q:Prop} (h:br b p q):(b=true/\p)\/(b=false/\q):=by
 cases b with
 |false=>exact .inr ⟨rfl,h⟩
 |true=>exact .inl ⟨rfl,h⟩
theorem wS {α:Type u} {β:Type v} {f:α->Option β}:∀{l:List α} {m:List β},gK f l=some m->l.length=m.length/\ ∀(i:Nat) a b,l[i]? =some a->m[i]? =some b->f a=some b:=by
 intro l;induction l with
 |nil=>intro m h;simp only[gK,AI]at h;subst h;exact⟨rfl,fun i a b h=>by simp at h⟩
 |cons x l ih=>
  intro m h;simp only[gK]at h;split at h
  . rename_i y m' hy hm
    cases h;obtain⟨h1,h2⟩:=ih hm;refine⟨by simp[h1],fun i a b ha hb=>?_⟩
    cases i with
    |zero=>simp at ha hb;subst ha;subst hb;exact hy
    |succ i=>exact h2 i a b (by simpa using ha) (by simpa using hb)
  . cases h
section
variable {tab:aR} {C:Cx}
theorem vT {v:Value} {s:SV} (h:re v=some s):aA C s (mJ v):=by
 unfold re at h;split at h<;>cases h<;>simp only[mJ]<;>exact .pure (by constructor)
theorem IV {v:Value} {s:SV} (h:wy v=some s):aA C s (ou v):=by
 unfold wy at h;split at h
 . rename_i cs;obtain⟨l,hl,rfl⟩:=Ap.1 h;obtain⟨h1,h2⟩:=wS hl;refine .agg (by simp[<-h1]) (fun i c v hc hv=>?_);rw[Av]at hv;obtain⟨w,hw,rfl⟩:=Ap.1 hv;exact vT (h2 i w c hw hc)
 . rename_i cs;obtain⟨l,hl,rfl⟩:=Ap.1 h;obtain⟨h1,h2⟩:=wS hl;refine .bB (by simp[<-h1]) (fun i c v hc hv=>?_);rw[Av]at hv;obtain⟨w,hw,rfl⟩:=Ap.1 hv;exact vT (h2 i w c hw hc)
 . rename_i h1 h2;have:ou v=mJ v:=by
    cases v with
    |agg cs=>exact absurd rfl (h1 cs)
    |tuple cs=>exact absurd rfl (h2 cs)
    |_=>rfl
   rw[this];exact vT h
theorem F5 {v:AV} {s:SV} (h:ji v=some s):aA C s v:=by
 unfold ji at h;split at h<;>cases h<;>exact .pure (by constructor)
theorem jF {ts:Fr} {ta:T AV} (hF:FS C ts ta) {x:Operand} {s:SV} (h:eJ ts x=some s):∃v,ev ta x= .ok v/\aA C s v:=by
 cases x with
 |tmp t=>exact⟨_,rfl,hF t s h⟩
 |const v=>exact⟨_,rfl,IV h⟩
 |func f=>
  simp only[eJ,AI]at h;subst h;exact⟨_,rfl, .fn rfl rfl (fun i x u hx=>by simp at hx) (fun i x u hx=>by simp at hx)⟩
 |global g=>cases h
theorem oz {ts:Fr} {ta:T AV} (hF:FS C ts ta):∀{l:List Operand} {m:List SV},ju ts l=some m->∃vs,ir ta l= .ok vs/\aM C m vs:=by
 intro l;induction l with
 |nil=>intro m h;simp only[ju,gK,AI]at h;subst h;exact⟨[],rfl,aM.nil⟩
 |cons x l ih=>
  intro m h;simp only[ju,gK]at h;split at h
  . rename_i y m' hy hm
    cases h;obtain⟨v,hv,h1⟩:=jF hF hy;obtain⟨vs,hvs,h2⟩:=ih hm;refine⟨v::vs,?_,aM.cons h1 h2⟩;simp only[ir];rw[rb hv,rb hvs]
  . cases h
theorem aM.get {cs:List SV} {ca:List AV} (h:aM C cs ca) {i:Nat} {s:SV} (hs:cs[i]? =some s):∃v,ca[i]? =some v/\aA C s v:=by
 have hlt:i<ca.length:=by rw[<-h.1];exact(Ac.1 hs).1
 exact⟨ca[i],Ae hlt,h.2 i s _ hs (Ae hlt)⟩
theorem pM {cs:List SV} {ca:List AV} (hc:aM C cs ca) {t off:Nat} {s:SV} (h:kY tab t cs off=some s):∃v,Am.part tab t ca off= .ok v/\aA C s v:=by
 unfold kY at h;unfold Am.part;split at h
 . rename_i hg;split at h
   . rename_i n hn
     cases hb:Nat.ble (off+n) cs.length
     . rw[hb]at h;cases h
     . rw[hb]at h;cases h;refine⟨.agg ((ca.drop off).take n),?_, .agg ((hc.drop off).take n).1 ((hc.drop off).take n).2⟩;rw[rb (show Am.isAgg tab t= .ok true from ro hg)];simp only[if_true];rw[rb (show siz tab t= .ok n from ro hn)]
   . cases h
 . rename_i hg;obtain⟨v,h1,h2⟩:=hc.get h;refine⟨v,?_,h2⟩;rw[rb (show Am.isAgg tab t= .ok false from ro hg)];simp only[Ai,Az];exact ro h1
 . cases h
theorem yT {cs vs:List SV} {ca va:List AV} (hc:aM C cs ca) (hv:aM C vs va) (off:Nat):aM C (qS cs off vs) (lR ca off va):=by
 unfold qS lR;rw[hv.1];exact(hc.take off).append (hv.append (hc.drop _))
theorem tv {s:SV} {v:AV} (h:aA C s v) (hk:s.known=true):∃l,v.cells= .ok l/\aM C s.cells l:=by
 have one:∀{s:SV} {v:AV},aA C s v->aM C [s] [v]:=fun h=>aM.cons h aM.nil
 cases h with
 | pure h=>
  cases h with
  |any v=>cases hk
  |agg h1 h2=>exact⟨_,rfl,h1,fun i s v hs hv=> .pure (h2 i s v hs hv)⟩
  |bool b=>exact⟨_,rfl,one (.pure (.bool b))⟩
  |int k n=>exact⟨_,rfl,one (.pure (.int k n))⟩
  |str s=>exact⟨_,rfl,one (.pure (.str s))⟩
  |aQ=>exact⟨_,rfl,one (.pure .aQ)⟩
  |wp a=>exact⟨_,rfl,one (.pure (.wp a))⟩
  |nils=>exact⟨_,rfl,one (.pure .nils)⟩
  |bg=>exact⟨_,rfl,one (.pure .bg)⟩
  |bA=>exact⟨_,rfl,one (.pure .bA)⟩
  |bL h0 hv=>
   rcases hv with rfl|⟨b,off,l,n,k,rfl⟩|⟨a,c,rfl⟩
   . exact⟨_,rfl,one (.pure (.bL h0 (.inl rfl)))⟩
   . exact⟨_,rfl,one (.pure (.bL h0 (.inr (.inl ⟨_,_,_,_,_,rfl⟩))))⟩
   . exact⟨_,rfl,one (.pure (.bL h0 (.inr (.inr ⟨_,_,rfl⟩))))⟩
  |aw b off cap cs e sz ext bk u hb hs hl hn hc h1 h2=>exact⟨_,rfl,one (.pure (.aw b off cap cs e sz ext bk u hb hs hl hn hc h1 h2))⟩
  |bT b base ca e sz ext bk u hb hl h1 h2=>exact⟨_,rfl,one (.pure (.bT b base ca e sz ext bk u hb hl h1 h2))⟩
  |fn h1 h2 h3 h4=>exact⟨_,rfl,one (.pure (.fn h1 h2 h3 h4))⟩
  |bB h1 h2=>exact⟨_,rfl,one (.pure (.bB h1 h2))⟩
 |ptr h=>exact⟨_,rfl,one (.ptr h)⟩
 |bJ h hc=>exact⟨_,rfl,one (.bJ h hc)⟩
 |dI h hc=>exact⟨_,rfl,one (.dI h hc)⟩
 |own h hc=>exact⟨_,rfl,one (.own h hc)⟩
 |sl h=>exact⟨_,rfl,one (.sl h)⟩
 |fn h1 h2 h3 h4=>exact⟨_,rfl,one (.fn h1 h2 h3 h4)⟩
 |agg h1 h2=>exact⟨_,rfl,h1,h2⟩
 |bB h1 h2=>exact⟨_,rfl,one (.bB h1 h2)⟩
theorem zZ {s:SV} {v:AV} (h:aA C s v) (hk:tP s=true):ku v=true:=by
 cases h with
 |pure h=>
  cases h with
  |any v=>cases hk
  |agg h1 h2=>cases hk
  |bB h1 h2=>cases hk
  |bL h0 hv=>rcases hv with rfl|⟨b,off,l,n,k,rfl⟩|⟨a,c,rfl⟩<;>rfl
  |_=>rfl
 |agg h1 h2=>cases hk
 |bB h1 h2=>cases hk
 |_=>rfl
theorem zq {cs:List SV} {ca:List AV} (hc:aM C cs ca) (h:cs.all tP=true):ca.all ku=true:=by
 rw[AA]at h⊢;intro v hv;obtain⟨i,hi⟩:=Bq.1 hv;have hlt:i<cs.length:=by rw[hc.1];exact(Ac.1 hi).1
 exact zZ (hc.2 i _ v (Ae hlt) hi) (h _ (Bb hlt))
theorem om {t:TypeId} {z:List SV} (h:qd tab t=some z):∃zv zc,zero tab t= .ok zv/\zv.cells= .ok zc/\aM C z zc:=by
 unfold qd at h;obtain⟨zv,h1,h2⟩:=Ec.1 h;refine⟨zv,?_⟩
 cases zv with
 |agg cs=>
  simp only[uW]at h2;obtain⟨g1,g2⟩:=wS h2;exact⟨cs,ro h1,rfl,g1.symm,fun i s v hs hv=>F5 (g2 i v s hv hs)⟩
 |raw v=>simp[uW,ji]at h2
 | _=>
  simp only[uW,ji,A2,BQ,AI]at h2
  first
   |(cases h2;done)
   |(subst h2;exact⟨_,ro h1,rfl,aM.cons (.pure (by constructor)) aM.nil⟩)
end
end
section
universe u v
variable [Inhabited aD]
section
variable {tab:aR} {C:Cx} {h:SH} {a:AH}
theorem fU {b:Nat} {ca:List AV} {e:TypeId} {sz:Nat} {ext:Bool} {bk:BK} (hb:a.get b=some (.cells ca e sz ext bk)):iw a b= .ok (ca,e,sz,ext,bk):=by
 unfold iw;rw[hb]
theorem xg {b base:Nat} {ca:List AV} {e:TypeId} {sz:Nat} {ext:Bool} {bk:BK} (hb:a.get b=some (.cells ca e sz ext bk)) {cs:List SV} (hl:base+cs.length<=ca.length)
   (hc:∀(j:Nat) s,cs[j]? =some s->∃u,ca[base+j]? =some u/\aA C s u) {t off:Nat} {sv:SV} (hp:kY tab t cs off=some sv):∃u,Am.loadVar tab a t b (base+off)= .ok u/\aA C sv u:=by
 unfold kY at hp;unfold Am.loadVar;split at hp
 . rename_i hg;split at hp
   . rename_i n hn
     cases hle:Nat.ble (off+n) cs.length
     . rw[hle]at hp;cases hp
     . rw[hle]at hp;cases hp;have hle:=Aj hle;rw[rb (show Am.isAgg tab t= .ok true from ro hg)];simp only[if_true];rw[rb (show siz tab t= .ok n from ro hn)];have hr:readN a b (base+off) n= .ok ((ca.drop (base+off)).take n):=by
         unfold readN;rw[rb (fU hb)];simp only;rw[rb (rc (by simp only[AQ];omega))]
       rw[rb hr];refine⟨_,rfl, .agg (by simp;omega) (fun i s u hs hu=>?_)⟩;rw[AU]at hs hu;split at hs
       . rename_i hi;rw[if_pos hi]at hu;rw[BD]at hs hu;obtain⟨w,hw,hsim⟩:=hc _ s hs;rw[<-BW]at hw;rw[hw]at hu
         cases hu;exact hsim
       . cases hs
   . cases hp
 . rename_i hg;obtain⟨u,hu,hsim⟩:=hc off sv hp;rw[rb (show Am.isAgg tab t= .ok false from ro hg)];simp only[Ai,Az];rw[rb (fU hb)];exact⟨u,ro hu,hsim⟩
 . cases hp
theorem wu (H:HS tab C h a) {p:SV} {v:AV} (hv:aA C p v) {t:TypeId} {K:SV->Prop} (hl:uU tab h t p K):∃b off u sv,v= .ptr b off/\Am.loadVar tab a t b off= .ok u/\aA C sv u/\K sv:=by
 unfold uU at hl;split at hl
 . rename_i b off;split at hl
   . rename_i cs e hb;obtain⟨sv,hp,hk⟩:=cF hl
     cases hv with
     |pure h=>cases h
     |ptr hI=>
      obtain⟨_,ca,sz,h2,h3,_⟩:=H.at_ hb hI;obtain⟨u,h4,h5⟩:=xg h2 (base:=0) (cs:=cs) (by rw[h3.1];omega) (fun j s hs=>by rw[Ax];exact h3.get hs) hp;rw[Ax]at h4;exact⟨_,_,u,sv,rfl,h4,h5,hk⟩
   . exact hl.elim
 . rename_i b i off;split at hl
   . rename_i X L enc e hb;obtain⟨x,hx,hl⟩:=cF hl;obtain⟨sv,hp,hk⟩:=cF hl
     cases hv with
     |pure h=>cases h
     | bJ hI hc=>
      rename_i I;obtain⟨g1,g2,g3,g4,g5⟩:=H.at_ hb hI;obtain⟨c,hc'⟩:=By.1 hc;rw[hc']at g5;obtain⟨ca,ext,bk,k1,k2,k3,k4,k5⟩:=g5;have hlt:=(Ac.1 hx).1;obtain⟨u,h4,h5⟩:=xg k1 (base:=i*I.sz) (cs:=enc x) (by
       rw[k3,g4 i x hx,<-Nat.succ_mul];exact Bo _ hlt) (fun j s hs=>by
       obtain⟨u,q1,q2⟩:=k5 i x j s hx hs;exact⟨u,q1, .pure q2⟩) hp
      exact⟨_,_,u,sv,rfl,h4,h5,hk⟩
   . exact hl.elim
 . rename_i cs off;obtain⟨sv,hp,hk⟩:=cF hl
   cases hv with
   | pure h=>
     cases h with
     |bT b base ca e sz ext bk u hb hl h1 h2=>
      obtain⟨w,h4,h5⟩:=xg (H.fz _ _ hb) (base:=base) (cs:=cs) hl (fun j s hs=>⟨_,h1 j s hs, .pure (h2 j s hs)⟩) hp;exact⟨_,_,w,sv,rfl,h4,h5,hk⟩
 . exact hl.elim
theorem jT {s:SV} {v:AV} (h:aA C s v) (hp:ia s=true):aF C.Fz s v:=by
 cases h with
 |pure h=>exact h
 |_=>cases hp
theorem Jb {t:TypeId} {b off n:Nat} {v:AV} {l ca:List AV} {e:TypeId} {sz:Nat} {ext:Bool} {bk:BK} (hn:tab.siz.get t=some n) (hv:v.cells= .ok l) (hl:l.length=n) (hn0:n≠0)
  (hb:a.get b=some (.cells ca e sz ext bk)) (hbk:(bk≠ .ro/\bk≠ .cold)) (hr:off+n<=ca.length) (h1:l.all ku=true):Am.storeVar tab a t b off v= .ok (a.set b (.cells (lR ca off l) e sz ext bk)):=by
 unfold Am.storeVar;rw[rb (show siz tab t= .ok n from ro hn),rb hv,rb (rc (by simp[hl]))];unfold writeN
 cases l with
 |nil=>exact absurd hl.symm hn0
 |cons x l=>
  simp only;rw[rb (fU hb)];simp only;rw[rb (rc (by simpa using hbk)),rb (rc (by rw[hl];simp only[AQ];exact hr)),rb (rc h1)]
theorem La (H:HS tab C h a) {p s:SV} {v w:AV} (hv:aA C p v) (hw:aA C s w) {t:TypeId} {K:SH->Prop} (hl:xC tab h t p s K):
   ∃b off a' h',v= .ptr b off/\Am.storeVar tab a t b off w= .ok a'/\HS tab C h' a'/\K h'/\Grow a a'/\cr C h a (uV p) C h' a':=by
 unfold xC at hl;split at hl
 . rename_i n hn;obtain⟨hck,hl⟩:=cd hl;simp only[Ab,AX]at hck;obtain⟨⟨⟨hn0,hkn⟩,hlen⟩,hsc⟩:=hck;have hn0:n≠0:=fun e=>by subst e;simp at hn0
   have hlen:=Ad hlen;obtain⟨l,hl1,hl2⟩:=tv hw hkn;have hone:=zq hl2 hsc;have hll:l.length=n:=by rw[<-hl2.1,hlen]
   split at hl
   . rename_i b off _;split at hl
     . rename_i cs e hb;obtain⟨hr,hk⟩:=cd hl;have hr:=Aj hr
       cases hv with
       |pure h=>cases h
       |ptr hI=>
        rename_i I;obtain⟨hc,ca,sz,h2,h3,h3s⟩:=H.at_ hb hI;refine⟨_,_,_,_,rfl,Jb hn hl1 hll hn0 h2 (by simp) (by rw[<-h3.1];exact hr) hone,H.mod hb hI hc (o:= .cells (qS cs off s.cells) e) ⟨hc,_,sz,by rw[AH.aO,if_pos rfl],yT h3 hl2 off,h3s⟩,hk,⟨by simp,fun i o hi=>?_⟩,?_⟩
        . rw[AH.aO]at hi;split at hi
          . rename_i e';exact .inl ⟨_,e'▸h2⟩
          . exact .inl ⟨_,hi⟩
        . intro q o J hq hJ hcJ hn;have hqb:q≠b:=fun e'=>hn (by simp[uV,jr,e'])
          refine⟨?_, .inl ⟨o,by rw[SH.aO,if_neg hqb];exact hq,hJ⟩⟩;rw[AH.aO,if_neg];intro e';exact hqb (H.inj q _ o _ J I hq hb hJ hI hcJ hc e')
     . exact hl.elim
   . exact hl.elim
 . exact hl.elim
end
end
section
universe u v
variable [Inhabited aD]
section
variable {tab:aR} {C:Cx} {h:SH} {a:AH}
theorem Nb :∀(d:Nat) (t:TypeId) (x y:SV) (u w:AV) (p:Bool),fi tab d t x y=some p->aA C x u->aA C y w->eqT tab d t u w= .ok p:=by
 intro d;induction d with
 |zero=>intro t x y u w p h;simp only[fi]at h;cases h
 | succ d ih=>
  have hgo :∀(fs:List Field) (xs ys:List SV) (us ws:List AV) (p:Bool),jO tab (fi tab d) fs xs ys=some p->aM C xs us->aM C ys ws->eqFields tab (eqT tab d) us ws fs= .ok p:=by
   intro fs;induction fs with
   |nil=>intro xs ys us ws p h _ _;simp only[jO,AI]at h;subst h;rfl
   | cons f fs ihf=>
     intro xs ys us ws p h hx hy;simp only[jO]at h;simp only[eqFields];by_cases hn:f.name= "_"
     . simp only[hn,decide_true,Bd]at h;simp only[hn,ne_eq,Dp,Az];exact ihf xs ys us ws p h hx hy
     . simp only[hn,EV,AN]at h;simp only[ne_eq,hn,Be,if_true];split at h
       . rename_i s1 s2 h1 h2;split at h
         . rename_i p1 q1 h3 h4
           cases h;obtain⟨v1,g1,k1⟩:=pM hx h1;obtain⟨v2,g2,k2⟩:=pM hy h2;rw[rb g1,rb g2,rb (ih _ _ _ _ _ _ h3 k1 k2)]
           cases p1 with
           |true=>simp only[if_true,BH];exact ihf xs ys us ws q1 h4 hx hy
           |false=>simp only[Ai,Az,BZ]
         . cases h
       . cases h
  intro t x y u w p h hx hy;unfold fi at h;split at h
  all_goals first
   |(cases h;done)
   |skip
  all_goals (rename_i hg)
  case h_1=> 
   cases h;cases hx with
   | pure hx=>cases hx with
     | bool=>cases hy with
       | pure hy=>cases hy with
         |bool=>simp only[eqT];rw[rb (show und tab t=_ from ro hg)]
  case h_2 =>
   rename_i k1 a1 k2 a2
   cases hk:decide (k1=k2)
   . rw[hk]at h;cases h
   . rw[hk]at h;cases h;have hk:=BA hk
     cases hx with
     | pure hx=>cases hx with
       | int=>cases hy with
         | pure hy=>cases hy with
           |int=>simp only[eqT];rw[rb (show und tab t=_ from ro hg)];simp only[hk,if_true]
  case h_3=>
   cases h;cases hx with
   | pure hx=>cases hx with
     | str=>cases hy with
       | pure hy=>cases hy with
         |str=>simp only[eqT];rw[rb (show und tab t=_ from ro hg)]
  case h_4=>
   cases h;cases hx with
   | pure hx=>cases hx with
     | aQ=>cases hy with
       | pure hy=>cases hy with
         |aQ=>simp only[eqT];rw[rb (show und tab t=_ from ro hg)]
  case h_5=>
   cases h;cases hx with
   | pure hx=>cases hx with
     | aQ=>cases hy with
       |pure hy=>cases hy
       |ptr hI=>simp only[eqT];rw[rb (show und tab t=_ from ro hg)]
  case h_6=>
   cases h;cases hx with
   |pure hx=>cases hx
   | ptr hI=>cases hy with
     | pure hy=>cases hy with
       |aQ=>simp only[eqT];rw[rb (show und tab t=_ from ro hg)]
  case h_7=>
   cases h;cases hx with
   | pure hx=>cases hx with
     | wp=>cases hy with
       | pure hy=>cases hy with
         |aQ=>simp only[eqT];rw[rb (show und tab t=_ from ro hg)]
  case h_8=>
   cases h;cases hx with
   | pure hx=>cases hx with
     | aQ=>cases hy with
       | pure hy=>cases hy with
         |wp=>simp only[eqT];rw[rb (show und tab t=_ from ro hg)]
  case h_9=>
   cases h;cases hx with
   | pure hx=>cases hx with
     | nils=>cases hy with
       | pure hy=>cases hy with
         |nils=>simp only[eqT];rw[rb (show und tab t=_ from ro hg)]
  case h_10=>
   cases h;cases hx with
   | pure hx=>cases hx with
     | bg=>cases hy with
       | pure hy=>cases hy with
         |bg=>simp only[eqT];rw[rb (show und tab t=_ from ro hg)]
  case h_11=>cases hy with
   |pure hy=>cases hy
  case h_12=>cases hx with
   |pure hx=>cases hx
  case h_13=>
   cases h;cases hx with
   | pure hx=>cases hx with
     | bA=>cases hy with
       | pure hy=>cases hy with
         |bA=>simp only[eqT];rw[rb (show und tab t=_ from ro hg)]
  case h_14=>
   cases h;cases hx with
   | pure hx=>cases hx with
     | bA=>cases hy with
       | pure hy=>cases hy with
         |fn=>simp only[eqT];rw[rb (show und tab t=_ from ro hg)]
       |fn=>simp only[eqT];rw[rb (show und tab t=_ from ro hg)]
  case h_15=>
   cases h;cases hy with
   | pure hy=>cases hy with
     | bA=>cases hx with
       | pure hx=>cases hx with
         |fn=>simp only[eqT];rw[rb (show und tab t=_ from ro hg)]
       |fn=>simp only[eqT];rw[rb (show und tab t=_ from ro hg)]
  case h_16=>
   split at h
   . rename_i hh;have hA:∀{cs:List SV} {v:AV},aA C (.agg cs) v->∃us,v= .agg us/\aM C cs us:=by
       intro cs v hv
       cases hv with
       | pure hv=>cases hv with
         |agg h1 h2=>exact⟨_,rfl,h1,fun i s v hs hv=> .pure (h2 i s v hs hv)⟩
       |agg h1 h2=>exact⟨_,rfl,h1,h2⟩
     obtain⟨us,e1,h1⟩:=hA hx;obtain⟨ws,e2,h2⟩:=hA hy;subst e1;subst e2;simp only[eqT];rw[rb (show und tab t=_ from ro hg)];simp only[hh];exact hgo _ _ _ _ _ _ h h1 h2
   . cases h
theorem kV {cs:List SV} {v:AV} (hv:aA C (.agg cs) v):∃us,v= .agg us/\aM C cs us:=by
 cases hv with
 |pure hv=>cases hv with
  |agg h1 h2=>exact⟨_,rfl,h1,fun i s v hs hv=> .pure (h2 i s v hs hv)⟩
 |agg h1 h2=>exact⟨_,rfl,h1,h2⟩
theorem um {cs:List SV} {v:AV} (hv:aA C (.bB cs) v):∃us,v= .bB us/\aM C cs us:=by
 cases hv with
 |pure hv=>cases hv with
  |bB h1 h2=>exact⟨_,rfl,h1,fun i s v hs hv=> .pure (h2 i s v hs hv)⟩
 |bB h1 h2=>exact⟨_,rfl,h1,h2⟩
theorem hZ {k:IntKind} {n:Int} {v:AV} (hv:aA C (.int k n) v):v= .int k n:=by
 cases hv with
 |pure hv=>cases hv;rfl
theorem gj {s:List UInt8} {v:AV} (hv:aA C (.str s) v):v= .str s:=by
 cases hv with
 |pure hv=>cases hv;rfl
theorem kS {b:Bool} {v:AV} (hv:aA C (.bool b) v):v= .bool b:=by
 cases hv with
 |pure hv=>cases hv;rfl
theorem mD {v:AV} (hv:aA C .nils v):v= .nils:=by
 cases hv with
 |pure hv=>cases hv;rfl
theorem dY (x y:Int):cH x y=decide (x<y):=by
 rw[Bh,Ah];unfold cH
 cases x with
 |ofNat a=>cases y with
  |ofNat b=>simp
  |negSucc b=>simp;omega
 |negSucc a=>cases y with
  |ofNat b=>simp;omega
  |negSucc b=>simp;omega
theorem gT (x y:Int):bZ x y=decide (x<=y):=by
 rw[Bh,Ah];unfold bZ
 cases x with
 |ofNat a=>cases y with
  |ofNat b=>simp
  |negSucc b=>simp;omega
 |negSucc a=>cases y with
  |ofNat b=>simp;omega
  |negSucc b=>simp;omega
theorem FW {k:IntKind} {n:Int} (h:bY k n=true):k.wrap n=n:=by
 unfold bY at h;rw[gT,gT]at h;simp only[Ab,Ah]at h;obtain⟨h1,h2⟩:=h
 cases k<;>simp only[vh,ve,IntKind.wrap,IntKind.signed,IntKind.bits]at* <;>simp at* <;>omega
theorem uj {r:R AV} {s:SV} (h:rJ r=some s):∃v,r= .ok v/\aA C s v:=by
 cases r with
 |no w=>cases h
 |ok v=>exact⟨v,rfl,F5 h⟩
theorem M9 {t:TypeId} {x y:SV} {u w:AV} {p:Bool} (h:fi tab 8 t x y=some p) (hx:aA C x u) (hy:aA C y w) (hg:∀a b,x= .agg a->y= .agg b->tab.jP.get t=some false):eqOp tab a t u w= .ok p:=by
 have hh:=Nb 8 t x y u w p h hx hy;have e:∀(u w:AV),(∀b i c j,u= .ptr b i->w= .ptr c j->False)->(∀a b,u= .agg a->w= .agg b->False)->(u= .fA->w= .fA->False)->eqOp tab a t u w=eqT tab 8 t u w:=by
  intro u w h1 h2 h3;unfold eqOp;split
  . exact(h1 _ _ _ _ rfl rfl).elim
  . exact(h2 _ _ rfl rfl).elim
  . exact(h3 rfl rfl).elim
  . rfl
 have h0:=h;unfold fi at h;split at h
 case h_17=>cases h
 case h_16=>
  obtain⟨us,rfl,_⟩:=kV hx;obtain⟨ws,rfl,_⟩:=kV hy;unfold eqOp;simp only[hg _ _ rfl rfl];exact hh
 all_goals
  rw[e u w ?_ ?_ ?_]
  . exact hh
  all_goals (intros;subst_vars)
  all_goals first
    | (cases hx with
     |pure hx=>cases hx
     |_=>(cases hy with
      |pure hy=>cases hy))
    |(cases hx with
     |pure hx=>cases hx)
    |(cases hy with
     |pure hy=>cases hy)
    |skip
end
end
section
universe u v
variable [Inhabited aD]
section
variable {tab:aR} {C:Cx} {h:SH} {a:AH}
def eZ (C:Cx) (K:SV->Prop) (r:R AV):Prop:=∃s v,r= .ok v/\aA C s v/\K s
theorem eZ.pure {K:SV->Prop} {s:SV} {v:AV} (h:aF C.Fz s v) (hk:K s):eZ C K (.ok v):=⟨s,v,rfl, .pure h,hk⟩
theorem K2 {op:BinOp} {k:IntKind} {x y:Int} {K:SV->Prop} (h:xA op k x y K):eZ C K (intOp op k x y):=by
 have fit:∀n:Int,(bif k.signed then ck (bY k n) (K (.int k n))else K (.int k (k.wrap n)))->eZ C K (.ok (.int k (k.wrap n))):=by
  intro n hn
  cases hs:k.signed
  . rw[hs]at hn;exact eZ.pure (.int k _) hn
  . rw[hs]at hn;obtain⟨h1,h2⟩:=cd hn;rw[FW h1];exact eZ.pure (.int k _) h2
 unfold xA at h
 cases op
 case add=>exact fit _ h
 case sub=>exact fit _ h
 case mul=>exact fit _ h
 case quo=>
  obtain⟨h1,h2⟩:=cd h;have hy:¬y=0:=by simpa using h1
  simp only[intOp,if_neg hy];exact fit _ h2
 case rem=>
  obtain⟨h1,h2⟩:=cd h;have hy:¬y=0:=by simpa using h1
  simp only[intOp,if_neg hy];exact eZ.pure (.int k _) h2
 case eql=>exact eZ.pure (.bool _) h
 case neq=>exact eZ.pure (.bool _) h
 case lss=>have h:K (.bool (cH x y)):=h;rw[dY]at h;exact eZ.pure (.bool _) h
 case leq=>have h:K (.bool (bZ x y)):=h;rw[gT]at h;exact eZ.pure (.bool _) h
 case gtr=>have h:K (.bool (cH y x)):=h;rw[dY]at h;exact eZ.pure (.bool _) h
 case geq=>have h:K (.bool (bZ y x)):=h;rw[gT]at h;exact eZ.pure (.bool _) h
 all_goals
  obtain⟨s,h1,h2⟩:=cF h;obtain⟨v,h3,h4⟩:=uj h1;exact⟨s,v,h3,h4,h2⟩
theorem C9 {t:TypeId} {x y:SV} {p:Bool} {u w:AV} (h:fi tab 8 t x y=some p) (hx:aA C x u) (hy:aA C y w):
  (∃k m j n,x= .int k m/\y= .int j n)\/(∃s s',x= .str s/\y= .str s')\/
   (Am.binOp tab a .eql t u w=(do .ok (.bool (<-eqOp tab a t u w)):R AV)/\Am.binOp tab a .neq t u w=(do .ok (.bool (!(<-eqOp tab a t u w))):R AV)):=by
 have key:(∀k m j n,u= .int k m->w= .int j n->False)->(∀s s',u= .str s->w= .str s'->False)->
   (Am.binOp tab a .eql t u w=(do .ok (.bool (<-eqOp tab a t u w)):R AV)/\Am.binOp tab a .neq t u w=(do .ok (.bool (!(<-eqOp tab a t u w))):R AV)):=by
  intro h1 h2;constructor<;>(unfold Am.binOp;split<;>first|contradiction|(exact(h1 _ _ _ _ rfl rfl).elim)|(exact(h2 _ _ rfl rfl).elim)|rfl|(rename_i hh _;cases hh)|skip)
 unfold fi at h;split at h
 case h_2=>exact .inl ⟨_,_,_,_,rfl,rfl⟩
 case h_3=>exact .inr (.inl ⟨_,_,rfl,rfl⟩)
 case h_17=>cases h
 all_goals
  refine .inr (.inr (key ?_ ?_))
  all_goals (intros;subst_vars)
  all_goals first
   |(cases hx with
    |pure hx=>cases hx)
   |(cases hy with
    |pure hy=>cases hy)
   |(cases hx)
   |skip
theorem F0 {op:BinOp} {t:TypeId} {x y:SV} {K:SV->Prop} {u w:AV} (h:oM tab op t x y K) (hx:aA C x u) (hy:aA C y w):eZ C K (Am.binOp tab a op t u w):=by
 have eqK:∀{p:Bool},fi tab 8 t x y=some p->(∀a b,x= .agg a->y= .agg b->tab.jP.get t=some false)->eqOp tab a t u w= .ok p:=fun h1 h2=>M9 h1 hx hy h2
 unfold oM at h;split at h
 ·
   rw[hZ hx,hZ hy];rename_i k a1 j b1;obtain⟨h1,h2⟩:=cd h;obtain⟨s,h3,h4⟩:=cF h2
   cases b1 with
   |negSucc m=>cases h1
   | ofNat m=>
     obtain⟨v,h5,h6⟩:=uj (C:=C) h3
     cases h5;refine⟨s,_,?_,h6,h4⟩;simp only[Am.binOp,shiftOp];rw[if_neg (by simp)]
 ·
   rw[hZ hx,hZ hy];rename_i k a1 j b1;obtain⟨h1,h2⟩:=cd h;obtain⟨s,h3,h4⟩:=cF h2
   cases b1 with
   |negSucc m=>cases h1
   | ofNat m=>
     obtain⟨v,h5,h6⟩:=uj (C:=C) h3
     cases h5;refine⟨s,_,?_,h6,h4⟩;simp only[Am.binOp,shiftOp];rw[if_neg (by simp)]
 ·
   rename_i k a1 j b1 hn1 hn2;rw[hZ hx,hZ hy];obtain⟨h1,h2⟩:=cd h;have hk:k=j:=BA h1;subst hk;have:=K2 (C:=C) h2
   cases op<;>simp only[Am.binOp,if_true]<;>first|exact this|exact(hn1 rfl).elim|exact(hn2 rfl).elim
 . obtain⟨h1,h2⟩:=cd h;rw[gj hx,gj hy];simp only[Am.binOp,strOp];rw[if_pos (Aj h1)];exact eZ.pure (.str _) h2
 . rw[gj hx,gj hy];exact eZ.pure (.bool _) h
 . rw[gj hx,gj hy];exact eZ.pure (.bool _) h
 . rw[gj hx,gj hy];exact eZ.pure (.bool _) h
 . rw[gj hx,gj hy];exact eZ.pure (.bool _) h
 . rw[gj hx,gj hy];exact eZ.pure (.bool _) h
 . rw[gj hx,gj hy];exact eZ.pure (.bool _) h
 . split at h
   . rename_i hg;obtain⟨p,h1,h2⟩:=cF h;have he:=eqK h1 (fun _ _ _ _=>hg);obtain⟨us,rfl,_⟩:=kV hx;obtain⟨ws,rfl,_⟩:=kV hy;simp only[Am.binOp];rw[rb he];exact eZ.pure (.bool _) h2
   . exact h.elim
 . split at h
   . rename_i hg;obtain⟨p,h1,h2⟩:=cF h;have he:=eqK h1 (fun _ _ _ _=>hg);obtain⟨us,rfl,_⟩:=kV hx;obtain⟨ws,rfl,_⟩:=kV hy;simp only[Am.binOp];rw[rb he];exact eZ.pure (.bool _) h2
   . exact h.elim
 . rename_i n1 n2 n3;obtain⟨p,h1,h2⟩:=cF h;have he:=eqK h1 (fun a b e1 e2=>(n3 a b e1 e2).elim);have hb:Am.binOp tab a .eql t u w=(do .ok (.bool (<-eqOp tab a t u w)):R AV):=by
     rcases C9 h1 hx hy with⟨k,m,j,n,rfl,rfl⟩|⟨s1,s2,rfl,rfl⟩|hne
     . exact(n1 _ _ _ _ rfl rfl).elim
     . exact(n2 _ _ rfl rfl).elim
     . exact hne.1
   rw[hb,rb he];exact eZ.pure (.bool _) h2
 . rename_i n1 n2 n3;obtain⟨p,h1,h2⟩:=cF h;have he:=eqK h1 (fun a b e1 e2=>(n3 a b e1 e2).elim);have hb:Am.binOp tab a .neq t u w=(do .ok (.bool (!(<-eqOp tab a t u w))):R AV):=by
     rcases C9 h1 hx hy with⟨k,m,j,n,rfl,rfl⟩|⟨s1,s2,rfl,rfl⟩|hne
     . exact(n1 _ _ _ _ rfl rfl).elim
     . exact(n2 _ _ rfl rfl).elim
     . exact hne.2
   rw[hb,rb he];exact eZ.pure (.bool _) h2
 . exact h.elim
end
end
section
universe u v
variable [Inhabited aD]
section
variable {tab:aR} {C:Cx} {h:SH} {a:AH}
theorem GB {op:UnOp} {x:SV} {K:SV->Prop} {u:AV} (h:yc op x K) (hx:aA C x u):eZ C K (Am.unOp op u):=by
 unfold yc at h;split at h
 . rename_i k n;rw[hZ hx];simp only[Am.unOp]
   cases hs:k.signed
   . rw[hs]at h;exact eZ.pure (.int k _) h
   . rw[hs]at h;obtain⟨h1,h2⟩:=cd h;rw[FW h1];exact eZ.pure (.int k _) h2
 . rw[hZ hx];obtain⟨s,h1,h2⟩:=cF h;obtain⟨v,h3,h4⟩:=uj h1;exact⟨s,v,h3,h4,h2⟩
 . rw[kS hx];exact eZ.pure (.bool _) h
 . exact h.elim
theorem rk {x:SV} {K:Nat->Prop} {u:AV} (h:kM x K) (hx:aA C x u):∃n,asNat u= .ok n/\K n:=by
 unfold kM at h;split at h
 . rename_i k n;obtain⟨h1,h2⟩:=cd h;rw[hZ hx]
   cases n with
   |negSucc m=>cases h1
   |ofNat m=>exact⟨m,rfl,h2⟩
 . exact h.elim
theorem tk {ts:Fr} {ta:T AV} (hF:FS C ts ta):∀{l:List (Nat×Operand)} {m:List (Nat×SV)},pY ts l=some m->∃vs,kq ta l= .ok vs/\vs.map (·.1)=m.map (·.1)/\aM C (m.map (·.2)) (vs.map (·.2)):=by
 intro l;induction l with
 |nil=>intro m h;simp only[pY,AI]at h;subst h;exact⟨[],rfl,rfl,aM.nil⟩
 |cons x l ih=>
  obtain⟨i,x⟩:=x;intro m h;simp only[pY]at h;split at h
  . rename_i s r h1 h2
    cases h;obtain⟨v,hv,g1⟩:=jF hF h1;obtain⟨vs,hvs,g2,g3⟩:=ih h2;refine⟨(i,v)::vs,?_,by simp[g2],aM.cons g1 g3⟩;simp only[kq];rw[rb hv,rb hvs]
  . cases h
theorem tM:∀{ps:List (Nat×Nat×SV)} {qs:List (Nat×Nat×AV)} {cs:List SV} {ca:List AV} {r:List SV},aM C cs ca->qs.map (fun x=>(x.1,x.2.1))=ps.map (fun x=>(x.1,x.2.1))->aM C (ps.map (·.2.2)) (qs.map (·.2.2))->oI cs ps=some r->
  ∃ra,fill ca qs= .ok ra/\aM C r ra:=by
 intro ps;induction ps with
 |nil=>
  intro qs cs ca r hc hq _ h;simp only[oI,AI]at h;subst h
  cases qs with
  |nil=>exact⟨ca,rfl,hc⟩
  |cons q qs=>simp at hq
 | cons x ps ih=>
  intro qs cs ca r hc hq hs h
  cases qs with
  |nil=>simp at hq
  |cons q qs=>
   obtain⟨off,n,s⟩:=x;obtain⟨off',n',v⟩:=q;simp only[AF,BE,BV]at hq;obtain⟨⟨rfl,rfl⟩,hq⟩:=hq;simp only[AF]at hs;obtain⟨hv,hs⟩:=hs.head;simp only[oI]at h
   cases hb:(s.known&&Nat.beq s.cells.length n'&&Nat.ble (off'+n') cs.length)
   . rw[hb]at h;cases h
   . rw[hb]at h;simp only[Bd]at h;simp only[Ab]at hb;obtain⟨⟨hk,hl⟩,hr⟩:=hb;obtain⟨l,h1,h2⟩:=tv hv hk;obtain⟨ra,h3,h4⟩:=ih (yT hc h2 off') hq hs h;refine⟨ra,?_,h4⟩;simp only[fill];rw[rb h1,rb (rc (by rw[<-h2.1,hl,<-hc.1,hr];rfl))];exact h3
theorem JG (fs:Array Field):∀{ps:List (Nat×SV)} {vs:List (Nat×AV)} {r:List (Nat×Nat×SV)},vs.map (·.1)=ps.map (·.1)->aM C (ps.map (·.2)) (vs.map (·.2))->rf tab fs ps=some r->
  ∃ra,nX tab fs vs= .ok ra/\ra.map (fun x=>(x.1,x.2.1))=r.map (fun x=>(x.1,x.2.1))/\aM C (r.map (·.2.2)) (ra.map (·.2.2)):=by
 intro ps;induction ps with
 |nil=>
  intro vs r hv _ h;simp only[rf,AI]at h;subst h
  cases vs with
  |nil=>exact⟨[],rfl,rfl,aM.nil⟩
  |cons q qs=>simp at hv
 | cons x ps ih=>
  intro vs r hv hs h
  cases vs with
  |nil=>simp at hv
  |cons q vs=>
   obtain⟨i,s⟩:=x;obtain⟨i',v⟩:=q;simp only[AF,BE]at hv;obtain⟨rfl,hv⟩:=hv;simp only[AF]at hs;obtain⟨hsv,hs⟩:=hs.head;simp only[rf]at h;split at h
   . rename_i f hf;split at h
     . rename_i n r' hn hr
       cases h;obtain⟨ra,h1,h2,h3⟩:=ih hv hs hr;refine⟨(f.offset,n,v)::ra,?_,by simp[h2],aM.cons hsv h3⟩;simp only[nX];rw[rb (show R.of "field" _= .ok f from ro hf),rb (show siz tab f.type= .ok n from ro hn),rb h1]
     . cases h
   . cases h
theorem zS {t:TypeId} {ps:List (Nat×SV)} {vs:List (Nat×AV)} {s:SV} (hv:vs.map (·.1)=ps.map (·.1)) (hs:aM C (ps.map (·.2)) (vs.map (·.2))) (h:xm tab t ps=some s):∃v,Am.build tab t vs= .ok v/\aA C s v:=by
 unfold xm at h;unfold Am.build;split at h
 . rename_i z fs hz hu;obtain⟨zv,zc,g1,g2,g3⟩:=om (C:=C) hz;rw[rb g1,rb g2,rb (show und tab t=_ from ro hu)]
   cases hb:fs.toList.all (fun f=>(tab.siz.get f.type).isSome)
   . rw[hb]at h;cases h
   . rw[hb]at h;simp only[Bd]at h;split at h
     . rename_i q hq;obtain⟨r,hr,rfl⟩:=Ap.1 h;obtain⟨ra,h1,h2,h3⟩:=JG fs hv hs hq;obtain⟨rb',h4,h5⟩:=tM g3 h2 h3 hr;simp only;rw[rb (rc hb),rb h1,rb h4];exact⟨_,rfl, .agg h5.1 h5.2⟩
     . cases h
 . rename_i z n e hz hu;split at h
   . rename_i m hm;obtain⟨r,hr,rfl⟩:=Ap.1 h;obtain⟨zv,zc,g1,g2,g3⟩:=om (C:=C) hz;rw[rb g1,rb g2,rb (show und tab t=_ from ro hu)];simp only;rw[rb (show siz tab e=_ from ro hm)];obtain⟨rb',h4,h5⟩:=tM (qs:=vs.map fun x=>(x.1*m,m,x.2)) g3 (by
       simp only[BB];have:=Aq (List.map (fun i=>(i*m,m))) hv;simpa [BB,B0]using this) (by simpa [BB,B0]using hs) hr
     rw[rb h4];exact⟨_,rfl, .agg h5.1 h5.2⟩
   . cases h
 . cases h
def jk (o:Option Nat) (d:R Nat):R Nat:=match o with|none=>d|some n=> .ok n
theorem tT {ts:Fr} {ta:T AV} (hF:FS C ts ta) {x:Option Operand} {K:Option Nat->Prop} (h:mo ts x K):∃o,K o/\ ∀d:R Nat,eF ta d x=jk o d/\(x=none↔o=none):=by
 unfold mo at h;split at h
 . exact⟨none,h,fun d=>⟨rfl,by simp⟩⟩
 . obtain⟨v,h1,h2⟩:=cF h;obtain⟨u,h3,h4⟩:=jF hF h1;obtain⟨n,h5,h6⟩:=rk h2 h4;refine⟨some n,h6,fun d=>⟨?_,by simp⟩⟩;simp only[eF];rw[rb h3];exact h5
end
end
end Go.Sy
namespace Go.Sy
open Go.Am Go.RowKit
universe u v
variable [Inhabited aD]
section
variable {tab:aR} {C:Cx} {h:SH} {a:AH}
theorem pP {α:Type u} {l:List α} {lo hi:Option Nat} {K:List α->Prop} (h:kI l lo hi K):lo.getD 0<=hi.getD l.length/\hi.getD l.length<=l.length/\K ((l.drop (lo.getD 0)).take (hi.getD l.length - lo.getD 0)):=by
 unfold kI at h;split at h
 . simpa using h
 . rename_i a;obtain⟨h1,h2⟩:=cd h;have h1:=Aj h1;refine⟨by simpa using h1,by simp,?_⟩;simp only[AK,Option.getD_none];rw[AP (by simp)];exact h2
 . rename_i b;obtain⟨h1,h2⟩:=cd h;have h1:=Aj h1;refine⟨by simp,by simpa using h1,by simpa using h2⟩
 . rename_i a b;obtain⟨h1,h2⟩:=cd h;simp only[Ab]at h1;exact⟨by simpa using Aj h1.1,by simpa using Aj h1.2,h2⟩
theorem uw {X:Type} {L:List X} {enc:X->List SV} {v:AV} {Fz:Nat->Option AO} (hv:aF Fz (.aw X L enc) v) (hL:L≠[]):∃b off cap cs e sz ext bk,v= .sl b off L.length cap/\dQ Fz b cs e sz ext bk/\0<sz/\off+L.length*sz<=cs.length/\
  (∀(i:Nat) x,L[i]? =some x->(enc x).length=sz)/\nz cap off L.length sz ext/\ ∀(i:Nat) x (j:Nat) v,L[i]? =some x->(enc x)[j]? =some v->∃u,cs[off+i*sz+j]? =some u/\aF Fz v u:=by
 cases hv with
 |bL h0 _=>exact absurd (AZ h0) hL
 |aw b off cap cs e sz ext bk u hb hs hl hn hc h1 h2=>exact⟨b,off,cap,cs,e,sz,ext,bk,rfl,hb,hs,hl,hn,hc,fun i x j v hx hv=>⟨_,h1 i x j v hx hv,h2 i x j v hx hv⟩⟩
theorem uv {X:Type} {L:List X} {enc:X->List SV} {Fz:Nat->Option AO} (b off:Nat) (cap:fb) (cs:List AV) (e:TypeId) (sz:Nat) (ext:Bool) (bk:BK) (n:Nat) (hn':n=L.length)
   (hb:dQ Fz b cs e sz ext bk) (hs:0<sz) (hl:off+L.length*sz<=cs.length) (hn:∀(i:Nat) x,L[i]? =some x->(enc x).length=sz) (hc:nz cap off L.length sz ext)
   (h1:∀(i:Nat) x (j:Nat) v,L[i]? =some x->(enc x)[j]? =some v->∃u,cs[off+i*sz+j]? =some u/\aF Fz v u):aF Fz (.aw X L enc) (.sl b off n cap):=by
 subst hn';refine .aw b off cap cs e sz ext bk (fun i j=>(cs[off+i*sz+j]?).getD (.bB [])) hb hs hl hn hc ?_ ?_
 . intro i x j v hx hv;obtain⟨u,h2,_⟩:=h1 i x j v hx hv;rw[h2];rfl
 . intro i x j v hx hv;obtain⟨u,h2,h3⟩:=h1 i x j v hx hv;rw[h2];exact h3
theorem sZ {ta:T AV} {t e n:Nat} (hu:tab.und.get t=some (.slice e)) (hn:tab.siz.get e=some n) {X:Type} {L:List X} {enc:X->List SV} {v:AV} {Fz:Nat->Option AO} (hfz:∀i o,Fz i=some o->a.get i=some o) (hv:aF Fz (.aw X L enc) v)
  (hlen:∀x:X,(enc x).length=n) {lo hi:Option Operand} {l u:Option Nat} (h1:∀d:R Nat,eF ta d lo=jk l d) (h2:∀d:R Nat,eF ta d hi=jk u d)
  (hle:l.getD 0<=u.getD L.length) (hle2:u.getD L.length<=L.length):∃w,iy tab ta a t v lo hi none= .ok (w,a)/\aF Fz (.aw X ((L.drop (l.getD 0)).take (u.getD L.length - l.getD 0)) enc) w:=by
 by_cases hL:0<L.length
 case neg=>
  have hL0:L.length=0:=by omega
  have o1:eF ta (.ok 0) lo= .ok (l.getD 0):=by rw[h1];cases l<;>rfl
  have o2:∀d,eF ta (.ok d) hi= .ok (u.getD d):=by intro d;rw[h2];cases u<;>rfl
  rw[hL0]at hle hle2;have hu0:u.getD 0=0:=by omega
  have hl0:l.getD 0=0:=by omega
  have hr:((L.drop (l.getD 0)).take (u.getD L.length - l.getD 0)).length=0:=by simp;omega
  rw[hl0]at o1;unfold iy;rw[rb (show und tab t=_ from ro hu)]
  cases hv with
  |bL h0 hv=>
   rcases hv with rfl|⟨b,off,l1,n1,k,rfl⟩|⟨a',c,rfl⟩
   . refine⟨.nils,?_, .bL hr (.inl rfl)⟩;simp only;rw[rb (show siz tab e= .ok n from ro hn),rb o1,rb (o2 0),hu0];rfl
   . refine⟨.emp b off l1 n1 k,?_, .bL hr (.inr (.inl ⟨_,_,_,_,_,rfl⟩))⟩;simp only;rw[rb (show siz tab e= .ok n from ro hn),rb o1,rb (o2 0),hu0];rfl
   . refine⟨.raw (.slice a' 0 c),?_, .bL hr (.inr (.inr ⟨_,_,rfl⟩))⟩;simp only;rw[rb (show siz tab e= .ok n from ro hn),rb o1,rb (o2 0),hu0];rfl
  | aw b off cap cs e' sz ext bk w hb hs hl hn' hc h1' h2'=>
   obtain⟨sz0,ext0,hb0,hx0⟩:=id hb;have hcl:=fU (hfz _ _ hb0);rw[hL0]at hc⊢;simp only
   cases cap with
   | lit m=>
     rw[rb (show capLow a b (.lit m)= .ok m from rfl),rb (show siz tab e= .ok n from ro hn),rb o1,rb (o2 0),hu0];simp only;rw[rb (rc (by simp))];refine⟨_,rfl,?_⟩;have:(aF Fz (.aw X ((L.drop (l.getD 0)).take (0 - l.getD 0)) enc) (.sl b off ((L.drop (l.getD 0)).take (0 - l.getD 0)).length (.lit m))):=by
       refine .aw b off (.lit m) cs e' sz ext bk w hb hs (by simp[hL0]at*;omega) (fun i x hx=>?_) (by simp[nz]) (fun i x j v hx=>?_) (fun i x j v hx=>?_)
       all_goals (simp at hx)
     simp at this⊢;exact this
   | tail k=>
     obtain⟨hext,hoff⟩:=hc;subst hext;obtain⟨hz1,hz2⟩:=hx0 rfl;have hz1:=hz1.symm;subst hz1;subst hz2;have hcap:capLow a b (.tail k)= .ok (cs.length / sz - k):=by
       simp only[capLow];rw[rb hcl];simp only;rw[rb (rc (by simp only[BH,AX];exact fc (by omega)))];rfl
     rw[rb hcap,rb (show siz tab e= .ok n from ro hn),rb o1,rb (o2 0),hu0];simp only;rw[rb (rc (by simp))];refine⟨_,rfl,?_⟩;have:(aF Fz (.aw X ((L.drop (l.getD 0)).take (0 - l.getD 0)) enc) (.sl b off ((L.drop (l.getD 0)).take (0 - l.getD 0)).length (.tail k))):=by
       refine .aw b off (.tail k) cs e' sz true bk w hb hs (by simp[hL0]at*;omega) (fun i x hx=>?_) ⟨rfl,hoff⟩ (fun i x j v hx=>?_) (fun i x j v hx=>?_)
       all_goals (simp at hx)
     simp at this⊢;exact this
 case pos=>
  obtain⟨b,off,cap,cs,e',sz,ext,bk,rfl,hb,hs,hl,hsz,hc,hcell⟩:=uw hv (by rintro rfl;simp at hL);have hszn:sz=n:=by
   rw[<-hsz 0 _ (Ae hL),hlen]
  subst hszn;have o1:eF ta (.ok 0) lo= .ok (l.getD 0):=by rw[h1];cases l<;>rfl
  have o2:∀d,eF ta (.ok d) hi= .ok (u.getD d):=by intro d;rw[h2];cases u<;>rfl
  obtain⟨sz0,ext0,hb0,hx0⟩:=id hb;have hcl:=fU (hfz _ _ hb0);generalize l.getD 0=i at*
  generalize hj:u.getD L.length=j at*
  have hLl:((L.drop i).take (j - i)).length=j - i:=by simp;omega
  have hget:∀(q:Nat) x,((L.drop i).take (j - i))[q]? =some x->L[i+q]? =some x/\q<j - i:=by
   intro q x hx;rw[AU]at hx;split at hx
   . rename_i hq;rw[BD]at hx;exact⟨hx,hq⟩
   . cases hx
  have hmul:∀q,off+i*sz+q*sz=off+(i+q)*sz:=by intro q;rw[Bp];omega
  have hbound:off+i*sz+(j - i)*sz<=cs.length:=by
   rw[hmul];have:(i+(j - i))*sz<=L.length*sz:=Bo _ (by omega);omega
  have mk:∀cap',nz cap' (off+i*sz) (j - i) sz ext->aF Fz (.aw X ((L.drop i).take (j - i)) enc) (.sl b (off+i*sz) (j - i) cap'):=by
   intro cap' hcap;refine uv b (off+i*sz) cap' cs e' sz ext bk _ hLl.symm hb hs (by rw[hLl];exact hbound) (fun q x hx=>hsz _ x (hget q x hx).1) (by rw[hLl];exact hcap) ?_;intro q x k s hx hs';obtain⟨w,g1,g2⟩:=hcell _ x k s (hget q x hx).1 hs';exact⟨w,by rw[hmul];exact g1,g2⟩
  have empty:j - i=0->∀w,(w= .nils\/(∃b off l n k,w= .emp b off l n k)\/ ∃a c,w= .raw (.slice a 0 c))->aF Fz (.aw X ((L.drop i).take (j - i)) enc) w:=fun h0 w hw=> .bL (by rw[hLl,h0]) hw
  unfold iy;rw[rb (show und tab t=_ from ro hu)];simp only
  cases cap with
  |lit m=>
   have hcm:L.length<=m:=hc;rw[rb (show capLow a b (.lit m)= .ok m from rfl),rb (show siz tab e= .ok sz from ro hn),rb o1,rb (o2 _),hj];simp only;rw[rb (rc (by simp only[Ab,AQ];omega))];refine⟨_,rfl,?_⟩;by_cases hm:m=i
   . subst hm;simp only[BN,Bd];have h0:j - m=0:=by omega
     rw[h0];refine uv b off _ cs e' sz ext bk 0 (by simp) hb hs (by simp;omega) (fun q x hx=>by simp at hx) (by simp[nz]) (fun q x k s hx=>by simp at hx)
   . rw[fc hm];simp only[AN];exact mk _ (by simp only[nz];omega)
  |tail k=>
   obtain⟨hext,hoff⟩:=hc;subst hext;obtain⟨hz1,hz2⟩:=hx0 rfl;have hz1:=hz1.symm;subst hz1;subst hz2;have hcap:capLow a b (.tail k)= .ok (cs.length / sz - k):=by
     simp only[capLow];rw[rb hcl];simp only;rw[rb (rc (by simp only[BH,AX];exact fc (by omega)))];rfl
   have hge:L.length<=cs.length / sz - k:=by
     have:(k+L.length)*sz<=cs.length:=by rw[Bp,<-hoff];exact hl
     have:=(E4 hs).2 this;omega
   rw[rb hcap,rb (show siz tab e= .ok sz from ro hn),rb o1,rb (o2 _),hj];simp only;rw[rb (rc (by simp only[Ab,AQ];omega))];by_cases hi0:i=0
   . subst hi0;simp only[BN,Bd];have:=mk (.tail k) ⟨rfl,by simpa using hoff⟩;simp only[Ed,Bu,Dc]at this;exact⟨_,rfl,by simpa using this⟩
   . rw[fc hi0];simp only[AN];by_cases hlt:i<cs.length / sz - k
     . rw[show Nat.blt i (cs.length / sz - k)=true from by simpa using hlt];simp only[Bd];exact⟨_,rfl,mk _ ⟨rfl,by rw[Bp,hoff]⟩⟩
     . rw[show Nat.blt i (cs.length / sz - k)=false from AY.2 fun e=>hlt (by simpa using e)];simp only[AN];exact⟨_,rfl,empty (by omega) _ (.inr (.inl ⟨_,_,_,_,_,rfl⟩))⟩
 end
 end Go.Sy
namespace Go.Sy
open Go.Am Go.RowKit
section
universe u v
variable [Inhabited aD]
section
variable {tab:aR} {view:TypeId->Option View} {C:Cx} {s:St} {ta:T AV} {a:AH}
def aB (tab:aR) (C:Cx) (s:St) (ta:T AV) (a:AH) (K:SV->St->Prop) (r:R (AV×AH)):Prop:=∃sv s' v a',K sv s'/\r= .ok (v,a')/\na tab C s ta a sv s' v a'
theorem aB.same {K:SV->St->Prop} (hF:FS C s.ts ta) (H:HS tab C s.h a) {sv:SV} {v:AV} (hv:aA C sv v) (hk:K sv s):aB tab C s ta a K (.ok (v,a)):=⟨sv,s,v,a,hk,rfl,na.same hF H hv⟩
theorem aB.val {K:SV->St->Prop} (hF:FS C s.ts ta) (H:HS tab C s.h a) {r:R AV} (h:eZ C (fun v=>K v s) r):aB tab C s ta a K (do .ok (<-r,a)):=by
 obtain⟨sv,v,h1,h2,h3⟩:=h;rw[rb h1];exact aB.same hF H h2 h3
theorem K6 (hF:FS C s.ts ta) (H:HS tab C s.h a) {t:TypeId} {x:SV} {v:AV} (hv:aA C x v) {lo hi:Option Operand} {K:SV->St->Prop} (h:ru tab s t x lo hi K):aB tab C s ta a K (iy tab ta a t v lo hi none):=by
 unfold ru at h;obtain⟨l,h1,hl⟩:=tT hF h;obtain⟨u,h2,hu⟩:=tT hF h1;clear h h1;have h:=h2;clear h2;have o1:∀d:R Nat,eF ta d lo=jk l d:=fun d=>(hl d).1
 have o2:∀d:R Nat,eF ta d hi=jk u d:=fun d=>(hu d).1
 clear hl hu;split at h
 . rename_i c hg;rw[gj hv];obtain⟨h1,h2,h3⟩:=pP h;unfold iy;rw[rb (show und tab t=_ from ro hg)];simp only;rw[rb (show R.check "slice: max" (none:Option Operand).isNone= .ok ()from rfl),rb (show eF ta (.ok 0) lo= .ok (l.getD 0)from by rw[o1];cases l<;>rfl),rb (show eF ta (.ok c.length) hi= .ok (u.getD c.length)from by rw[o2];cases u<;>rfl),
     rb (rc (by simp only[Ab,AQ];omega))]
   exact aB.same hF H (.pure (.str _)) h3
 . rename_i e X L enc hg;split at h
   . rename_i n hn;obtain⟨hlen,h⟩:=h;obtain⟨h1,h2,h3⟩:=pP h;obtain⟨w,h4,h5⟩:=sZ hg hn H.fz (jT hv rfl) hlen o1 o2 h1 h2;rw[h4];exact aB.same hF H (.pure h5) h3
   . exact h.elim
 . rename_i e b hg;split at h
   . rename_i X L enc t' n hb hn;obtain⟨hlen,h⟩:=h;obtain⟨h1,h2,h3⟩:=pP h;obtain⟨C',e1,e2,e3,e4,e5,e6⟩:=j9 hF H hb;obtain⟨w,h4,h5⟩:=sZ hg hn e3.fz (e5 v hv) hlen o1 o2 h1 h2;exact⟨_,_,w,a,h3,h4,⟨C',_,e1,e2, .pure h5,e3,e4,e6.bG _⟩,Grow.refl a⟩
   . exact h.elim
 . rename_i e b off len cap hg;split at h
   . rename_i n hn;obtain⟨h1,h2⟩:=cd h;simp only[Ab]at h1
     cases hv with
     |pure hv=>cases hv
     | sl hI=>
      unfold iy;rw[rb (show und tab t=_ from ro hg)];simp only;rw[rb (show capLow a _ (.lit cap)= .ok cap from rfl),rb (show siz tab e= .ok n from ro hn),rb (show eF ta (.ok 0) lo= .ok (l.getD 0)from by rw[o1];cases l<;>rfl),
       rb (show eF ta (.ok len) hi= .ok (u.getD len)from by rw[o2];cases u<;>rfl),
       rb (rc (by simp only[Ab];exact h1))]
      exact aB.same hF H (.sl hI) h2
   . exact h.elim
 . exact h.elim
theorem HS.fresh (H:HS tab C s.h a) (ca:List AV) (e:TypeId) (sz:Nat) (ext:Bool) (bk:BK):∃C':Cx,C.le C'/\C'.Fz a.next=some (.cells ca e sz ext bk)/\HS tab C' s.h (a.new (.cells ca e sz ext bk)):=by
 classical
 let C':Cx:={C with Fz:=fun i=>if i=a.next then some (.cells ca e sz ext bk)else C.Fz i}
 have hfz:∀i o,C.Fz i=some o->C'.Fz i=some o:=by
   intro i o hi;have:=H.wf _ _ (H.fz i o hi);simp only[C'];rw[if_neg (by omega)];exact hi
 have hle:C.le C':=⟨fun _ _ h=>h,hfz⟩;have hblk:∀p o I,s.h.get p=some o->C.ρ p=some I->I.cap.isSome->I.β≠a.next:=by
   intro p o I hp hI hc;obtain⟨b,hb⟩:=(H.at_ hp hI).live hc;have:=H.wf _ _ hb;omega
 refine⟨C',hle,by simp[C'],⟨?_,H.inj,?_,?_,H.lt,?_⟩⟩
 . intro p o hp;obtain⟨I,hI,ho⟩:=H.obj p o hp;refine⟨I,hI,?_⟩;have ho':=ho.le hle;by_cases hc:I.cap.isSome
   . exact ho'.congr (by rw[AH.aK,if_neg (hblk p o I hp hI hc)])
   . cases o with
     |cells cs t=>exact absurd ho.1 hc
     |arr X L enc t=>
      obtain⟨g1,g2,g3,g4,g5⟩:=ho';refine⟨g1,g2,g3,g4,?_⟩
      cases hcap:I.cap with
      |none=>rw[hcap]at g5;exact g5
      |some c=>rw[hcap]at hc;simp at hc
 . intro i o hi;simp only[C']at hi;rw[AH.aK];split at hi
   . rename_i e;rw[if_pos e];exact hi
   . rename_i e;rw[if_neg e];exact H.fz i o hi
 . intro p o I hp hI hc;simp only[C'];rw[if_neg (hblk p o I hp hI hc)];exact H.dj p o I hp hI hc
 . intro i o hi;rw[AH.aK]at hi;simp only[AH.cw];split at hi
   . omega
   . have:=H.wf i o hi;omega
theorem gv {e n:Nat} (hn:tab.siz.get e=some n) (cs:List AV) (ext:Bool) (bk:BK):Am.newRow tab a e cs ext bk= .ok (a.new (.cells cs e n ext bk),a.next):=by
 unfold Am.newRow;rw[rb (show siz tab e= .ok n from ro hn)]
theorem Lu {c:List UInt8} {i:Nat} {x:UInt8} (hx:c[i]? =some x) {j:Nat} {v:SV} (hv:(bX x)[j]? =some v):j=0/\v= .int .u8 (.ofNat x.toNat):=by
 cases j with
 |zero=>simp[bX]at hv;exact⟨rfl,hv.symm⟩
 |succ j=>simp[bX]at hv
theorem qD:∀{c:List UInt8},bytesOf (c.map fun b=>AV.int .u8 (.ofNat b.toNat))= .ok c:=by
 intro c;induction c with
 |nil=>rfl
 |cons x c ih=>
  simp only[AF,bytesOf];rw[rb ih];simp
theorem za {Fz:Nat->Option AO} (hfz:∀i o,Fz i=some o->a.get i=some o) {c:List UInt8} {v:AV} (hv:aF Fz (.aw UInt8 c bX) v):
  v= .nils/\c=[]\/((∃b off l n k,v= .emp b off l n k)\/ ∃a c,v= .raw (.slice a 0 c))/\c=[]\/ ∃b off cap,v= .sl b off c.length cap/\readN a b off c.length= .ok (c.map fun b=>AV.int .u8 (.ofNat b.toNat)):=by
 cases hv with
 |bL h0 hv=>
  have:=AZ h0;rcases hv with rfl|hv
  . exact .inl ⟨rfl,this⟩
  . exact .inr (.inl ⟨hv,this⟩)
 | aw b off cap cs e sz ext bk u hb hs hl hn hc h1 h2=>
  refine .inr (.inr ⟨b,off,cap,rfl,?_⟩);obtain⟨sz0,ext0,hb,hx0⟩:=hb;have hsz:c≠[]->sz=1:=by
    intro hc0
    cases c with
    |nil=>exact absurd rfl hc0
    |cons x c=>rw[<-hn 0 x rfl];rfl
  unfold readN;rw[rb (fU (hfz _ _ hb))];simp only;have hle:off+c.length<=cs.length:=by
    by_cases h0:c=[]
    . subst h0;simp at hl⊢;exact hl
    . rw[hsz h0]at hl;omega
  rw[rb (rc (by simp only[AQ];exact hle))];congr 1
  apply BO
  intro i;rw[AU,Av];by_cases hi:i<c.length
  . rw[if_pos hi,BD];have hx:=Ae hi;have h0:c≠[]:=by rintro rfl;simp at hi
    have g1:=h1 i _ 0 _ hx rfl;have g2:=h2 i _ 0 _ hx rfl;rw[hsz h0]at g1;simp only[E8,Bu]at g1;rw[g1,hx]
    cases g2h:u i 0 with
    | int k n=>
      rw[g2h]at g2
      cases g2;rfl
    |_=>rw[g2h]at g2;cases g2
  . rw[if_neg hi,Ba (by omega)];rfl
theorem LQ (hF:FS C s.ts ta) (H:HS tab C s.h a) {src dst:TypeId} {x:SV} {v:AV} (hv:aA C x v) {K:SV->St->Prop} (h:uG tab s src dst x K):aB tab C s ta a K (lN tab a src dst v):=by
 have hnu:∀{d:TypeDesc},tab.und.get dst=some d->(d≠ .unsafePointer)->(∀u,d≠ .pointer u)->lN tab a src dst v=Am.convert tab a src dst v:=by
   intro d hd h1 h2;unfold lN;rw[rb (show und tab dst=_ from ro hd)]
   cases d<;>first|rfl|exact absurd rfl h1|exact absurd rfl (h2 _)
 unfold uG at h;split at h
 . rename_i d k j n hs hd;rw[hnu hd (by simp) (by simp),hZ hv];unfold Am.convert;rw[rb (show und tab src=_ from ro hs),rb (show und tab dst=_ from ro hd)];exact aB.same hF H (.pure (.int _ _)) h
 . rename_i d c hs hd;rw[hnu hd (by simp) (by simp),gj hv];unfold Am.convert;rw[rb (show und tab src=_ from ro hs),rb (show und tab dst=_ from ro hd)];exact aB.same hF H (.pure (.str _)) h
 . rename_i d e c hs hd;split at h
   . rename_i he hz;rw[hnu hd (by simp) (by simp),gj hv];unfold Am.convert;rw[rb (show und tab src=_ from ro hs),rb (show und tab dst=_ from ro hd)];obtain⟨C',g1,g2,g3⟩:=H.fresh (kr c) e 1 true .mark;have hsim:aF C'.Fz (.aw UInt8 c bX) (.sl a.next 0 c.length (.tail 0)):=by
       refine uv a.next 0 _ (kr c) e 1 true .mark _ rfl (.of g2) (by omega) (by simp[kr]) (fun i x _=>rfl) ⟨rfl,rfl⟩ ?_;intro i x j w hx hw;obtain⟨rfl,rfl⟩:=Lu hx hw;refine⟨_,?_, .int _ _⟩;simp[kr,hx]
     have hr:Am.newRow tab a e (kr c) true .mark= .ok (a.new (.cells (kr c) e 1 true .mark),a.next):=gv hz _ _ _;have:aB tab C s ta a K (.ok (.sl a.next 0 c.length (.tail 0),a.new (.cells (kr c) e 1 true .mark))):=
       ⟨_,s,_,_,h,rfl,⟨C',[],by simp,g1.tr, .pure hsim,g3,hF.le g1,cr.new H _ _ g1 (fun p o h=>⟨o,h⟩)⟩,Grow.new a _⟩
     cases d<;>simp only<;>(rw[rb (show und tab e=_ from ro he)];simp only;rw[rb (show siz tab e= .ok 1 from ro hz),rb (show R.check "convert: size" (Nat.beq 1 1)= .ok ()from rfl),rb hr];exact this)
   . exact h.elim
 . rename_i e hs hd;split at h
   . rename_i he;rw[hnu hd (by simp) (by simp),mD hv];unfold Am.convert;rw[rb (show und tab src=_ from ro hs),rb (show und tab dst=_ from ro hd)];simp only;rw[rb (show und tab e=_ from ro he)];exact aB.same hF H (.pure (.str _)) h
   . exact h.elim
 . rename_i e X L enc hs hd;split at h
   . rename_i he;obtain⟨c,h1,h2⟩:=h;rw[h1]at hv;rw[hnu hd (by simp) (by simp)];unfold Am.convert;rw[rb (show und tab src=_ from ro hs),rb (show und tab dst=_ from ro hd)];rcases za H.fz (jT hv rfl)with⟨rfl,rfl⟩|⟨⟨b,off,l,n,k,rfl⟩|⟨a1,c1,rfl⟩,rfl⟩|⟨b,off,cap,rfl,hr⟩
     . simp only;rw[rb (show und tab e=_ from ro he)];exact aB.same hF H (.pure (.str _)) h2
     . simp only;rw[rb (show und tab e=_ from ro he)];exact aB.same hF H (.pure (.str _)) h2
     . simp only;rw[rb (show und tab e=_ from ro he)];exact aB.same hF H (.pure (.str _)) h2
     . simp only;rw[rb (show und tab e=_ from ro he)];simp only;rw[rb hr,rb qD];exact aB.same hF H (.pure (.str _)) h2
   . exact h.elim
 . rename_i e b hs hd;split at h
   . rename_i X L enc t' he hb;obtain⟨c,h1,h2⟩:=h;obtain⟨C',e1,e2,e3,e4,e5,_⟩:=j9 hF H hb;have hv':=e5 v hv;rw[h1]at hv';rw[hnu hd (by simp) (by simp)];unfold Am.convert;rw[rb (show und tab src=_ from ro hs),rb (show und tab dst=_ from ro hd)];rcases za e3.fz hv' with⟨rfl,rfl⟩|⟨⟨b,off,l,n,k,rfl⟩|⟨a1,c1,rfl⟩,rfl⟩|⟨b,off,cap,rfl,hr⟩
     . simp only;rw[rb (show und tab e=_ from ro he)];exact aB.same hF H (.pure (.str _)) h2
     . simp only;rw[rb (show und tab e=_ from ro he)];exact aB.same hF H (.pure (.str _)) h2
     . simp only;rw[rb (show und tab e=_ from ro he)];exact aB.same hF H (.pure (.str _)) h2
     . simp only;rw[rb (show und tab e=_ from ro he)];simp only;rw[rb hr,rb qD];exact aB.same hF H (.pure (.str _)) h2
   . exact h.elim
 . rename_i e b off len cap hs hd;split at h
   . rename_i cs t' he hb;obtain⟨hle,c,h1,h2⟩:=cd h;have hle:=Aj hle;rw[hnu hd (by simp) (by simp)]
     cases hv with
     |pure hv=>cases hv
     | @sl _ _ _ _ I hI=>
       obtain⟨_,ca,sz,g1,g2,_⟩:=H.at_ hb hI;have hcl:=g2.1;have hr:readN a I.β off len= .ok (c.map fun b=>AV.int .u8 (.ofNat b.toNat)):=by
        unfold readN;rw[rb (fU g1)];simp only;rw[rb (rc (by simp only[AQ];omega))];congr 1
        apply BO
        intro i;have hS:=(g2.drop off).take len;rw[h1]at hS
        cases hq:(uy c)[i]? with
        |none=>
         have hn:=D6.1 hq;rw[Ba (by rw[<-hS.1];exact hn),Ba (by simpa [uy]using hn)]
        |some v=>
         have hlt:=(Ac.1 hq).1;have hlt2:i<(List.take len (List.drop off ca)).length:=by rw[<-hS.1];exact hlt
         have hsv:=hS.2 i v _ hq (Ae hlt2);unfold uy at hq;rw[Av]at hq⊢;obtain⟨b',hb',rfl⟩:=Ap.1 hq;rw[Ae hlt2,hZ hsv,hb'];rfl
       unfold Am.convert;rw[rb (show und tab src=_ from ro hs),rb (show und tab dst=_ from ro hd)];simp only;rw[rb (show und tab e=_ from ro he)];simp only;rw[rb hr,rb qD];exact aB.same hF H (.pure (.str _)) h2
   . exact h.elim
 . exact h.elim
end
end
section
universe u v
variable [Inhabited aD]
section
variable {tab:aR} {view:TypeId->Option View} {C:Cx} {s:St} {ta:T AV} {a:AH} {h:SH}
structure Told (Fz:Nat->Option AO) (X:Type) (l:List X) (enc:X->List SV) (n:Nat) (news:List AV):Prop where
 len:news.length=l.length*n
 each:∀(i:Nat) x,l[i]? =some x->(enc x).length=n
 cell:∀(i:Nat) x (j:Nat) v,l[i]? =some x->(enc x)[j]? =some v->∃u,news[i*n+j]? =some u/\aF Fz v u
 one:news.all ku=true
theorem yy {s:SV} (h:ia s=true):tP s=true:=by cases s<;>first|rfl|cases h
theorem Lp {Fz:Nat->Option AO} {s:SV} {v:AV} (h:aF Fz s v) (hp:ia s=true):ku v=true:=zZ (C:=⟨fun _=>none,Fz⟩) (.pure h) (yy hp)
theorem Ju {news:List AV} {n:Nat} (hn:n≠0) {m:Nat} (hl:news.length=m*n) (h:∀i j,i<m->j<n->∀u,news[i*n+j]? =some u->ku u=true):news.all ku=true:=by
 rw[AA];intro v hv;obtain⟨q,hq⟩:=Bq.1 hv;have hlt:q<m*n:=by rw[<-hl];exact(Ac.1 hq).1
 have h1:q / n<m:=by
  apply (Nat.div_lt_iff_lt_mul (by omega)).2;exact hlt
 have h2:q % n<n:=Nat.mod_lt _ (by omega);refine h (q / n) (q % n) h1 h2 v ?_;rw[Nat.mul_comm,Nat.div_add_mod];exact hq
theorem zt {X:Type} {L:List X} {enc:X->List SV} {v:AV} {Fz:Nat->Option AO} {n:Nat} (hfz:∀i o,Fz i=some o->a.get i=some o) (hv:aF Fz (.aw X L enc) v) (hn:n≠0) (he:∀x:X,(enc x).length=n/\(enc x).all ia=true):
   ∃news,source a n v= .ok (L.length,news)/\Told Fz X L enc n news:=by
 by_cases hL:L=[]
 . subst hL;have ht:Told Fz X [] enc n []:=⟨by simp,fun i x hx=>by simp at hx,fun i x j v hx=>by simp at hx,rfl⟩
   cases hv with
   | bL h0 hv=>
     rcases hv with rfl|⟨b,off,l,k,c,rfl⟩|⟨a,c,rfl⟩
     . exact⟨[],rfl,ht⟩
     . exact⟨[],rfl,ht⟩
     . exact⟨[],rfl,ht⟩
   | aw b off cap cs e sz ext bk u hb hs hl hsz hc h1 h2=>
     obtain⟨sz0,ext0,hb,hx0⟩:=hb;refine⟨[],?_,ht⟩;simp only[source,AE,Ed];unfold readN;rw[rb (fU (hfz _ _ hb))];simp only;rw[rb (rc (by simp only[AQ];simpa using hl))];simp;rfl
 . obtain⟨b,off,cap,cs,e',sz,ext,bk,rfl,hb,hs,hl,hsz,hc,hcell⟩:=uw hv hL;obtain⟨sz0,ext0,hb,hx0⟩:=hb;have hszn:sz=n:=by
     obtain⟨x,hx⟩:∃x,L[0]? =some x:=⟨L[0]'(by cases L with|nil=>exact absurd rfl hL|cons=>simp),by simp⟩;rw[<-hsz 0 x hx,(he x).1]
   subst hszn;have hr:readN a b off (L.length*sz)= .ok ((cs.drop off).take (L.length*sz)):=by
     unfold readN;rw[rb (fU (hfz _ _ hb))];simp only;rw[rb (rc (by simp only[AQ];exact hl))]
   have hlen:((cs.drop off).take (L.length*sz)).length=L.length*sz:=by simp;omega
   have hget:∀(i j:Nat),i<L.length->j<sz->((cs.drop off).take (L.length*sz))[i*sz+j]? =cs[off+i*sz+j]? :=by
     intro i j hi hj;rw[AU,if_pos,BD,BW]
     calc i*sz+j<i*sz+sz:=by omega
       _=(i+1)*sz:=by rw[Bp,Dz]
       _<=L.length*sz:=Bo _ hi
   have hcell':∀(i:Nat) x (j:Nat) v,L[i]? =some x->(enc x)[j]? =some v->∃u,((cs.drop off).take (L.length*sz))[i*sz+j]? =some u/\aF Fz v u:=by
     intro i x j v hx hv;obtain⟨u,h1,h2⟩:=hcell i x j v hx hv;refine⟨u,?_,h2⟩;rw[hget i j (Ac.1 hx).1 (by rw[<-(he x).1];exact(Ac.1 hv).1)];exact h1
   refine⟨_,?_,hlen,hsz,hcell',Ju (by omega) hlen ?_⟩
   . simp only[source];rw[rb hr]
   . intro i j hi hj u hu;have hx:=Ae hi;have hjl:j<(enc L[i]).length:=by rw[(he _).1];exact hj
     have hv:=Ae hjl;obtain⟨w,h1,h2⟩:=hcell' i _ j _ hx hv;rw[hu]at h1;cases h1;exact Lp h2 (AA.1 (he L[i]).2 _ (Bb hjl))
theorem zU (n:Nat):∀(m:Nat) (l:List SV) (i:Nat),i<m->(l4 n m l)[i]? =some ((l.drop (i*n)).take n):=by
 intro m;induction m with
 |zero=>intro l i h;omega
 | succ m ih=>
  intro l i h
  cases i with
  |zero=>simp[l4]
  |succ i=>
   simp only[l4,A8];rw[ih _ _ (by omega),List.drop_drop,Bp,Dz,Nat.add_comm]
theorem wh (n:Nat):∀(m:Nat) (l:List SV),(l4 n m l).length=m:=by
 intro m;induction m with
 |zero=>intro l;rfl
 |succ m ih=>intro l;simp[l4,ih]
theorem Gj {X:Type} {enc:X->List SV}:∀{c:List (List SV)} {K:List X->Prop},sr enc c K->∃l,l.length=c.length/\(∀(i:Nat) x q,l[i]? =some x->c[i]? =some q->enc x=q)/\K l:=by
 intro c;induction c with
 |nil=>intro K h;exact⟨[],rfl,fun i x q h=>by simp at h,h⟩
 |cons q c ih=>
  intro K h;obtain⟨x,hx,h⟩:=h;obtain⟨l,h1,h2,h3⟩:=ih h;refine⟨x::l,by simp[h1],fun i y r hy hr=>?_,h3⟩
  cases i with
  |zero=>simp at hy hr;subst hy;subst hr;exact hx
  |succ i=>exact h2 i y r (by simpa using hy) (by simpa using hr)
theorem vJ {X:Type} {enc:X->List SV} {n m:Nat} (hn:n≠0) {cs:List SV} {ca:List AV} (hc:aM C cs ca) (hl:cs.length=m*n) (hp:cs.all ia=true) {l:List X} (hll:l.length=m)
   (he:∀(i:Nat) x q,l[i]? =some x->(l4 n m cs)[i]? =some q->enc x=q):Told C.Fz X l enc n ca:=by
 have hsub:∀i,i<m->i*n+n<=m*n:=by
   intro i hi
   calc i*n+n=(i+1)*n:=by rw[Bp,Dz]
     _<=m*n:=Bo _ hi
 refine⟨by rw[<-hc.1,hl,hll],?_,?_,?_⟩
 . intro i x hx;have hi:i<m:=by rw[<-hll];exact(Ac.1 hx).1
   rw[he i x _ hx (zU n m cs i hi)];have:=hsub i hi;simp;omega
 . intro i x j v hx hv;have hi:i<m:=by rw[<-hll];exact(Ac.1 hx).1
   rw[he i x _ hx (zU n m cs i hi),AU]at hv;split at hv
   . rename_i hj;rw[BD]at hv;obtain⟨u,h1,h2⟩:=hc.get hv;exact⟨u,h1,jT h2 (AA.1 hp _ (BC hv))⟩
   . cases hv
 . refine zq hc ?_;rw[AA]at hp⊢;exact fun x hx=>yy (hp x hx)
theorem Mj {X:Type} {L M:List X} {enc:X->List SV} {n:Nat} {ca news:List AV} {Fz:Nat->Option AO} (hl:ca.length=L.length*n) (hL:∀(i:Nat) x,L[i]? =some x->(enc x).length=n)
   (hc:∀(i:Nat) x (j:Nat) v,L[i]? =some x->(enc x)[j]? =some v->∃u,ca[i*n+j]? =some u/\aF Fz v u) (hM:Told Fz X M enc n news):
   (ca++news).length=(L++M).length*n/\(∀(i:Nat) x,(L++M)[i]? =some x->(enc x).length=n)/\
     ∀(i:Nat) x (j:Nat) v,(L++M)[i]? =some x->(enc x)[j]? =some v->∃u,(ca++news)[i*n+j]? =some u/\aF Fz v u:=by
 have hlt:∀i j,i<L.length->j<n->i*n+j<L.length*n:=by
   intro i j hi hj
   calc i*n+j<(i+1)*n:=by rw[Bp,Dz];omega
     _<=L.length*n:=Bo _ hi
 refine⟨by rw[Aw,Aw,hl,hM.len,Bp],?_,?_⟩
 . intro i x hx;by_cases hi:i<L.length
   . rw[AL hi]at hx;exact hL i x hx
   . rw[A3 (by omega)]at hx;exact hM.each _ x hx
 . intro i x j v hx hv;by_cases hi:i<L.length
   . rw[AL hi]at hx;have hj:j<n:=by rw[<-hL i x hx];exact(Ac.1 hv).1
     obtain⟨u,h1,h2⟩:=hc i x j v hx hv;exact⟨u,by rw[AL (by rw[hl];exact hlt i j hi hj)];exact h1,h2⟩
   . rw[A3 (by omega)]at hx;obtain⟨u,h1,h2⟩:=hM.cell _ x j v hx hv;refine⟨u,?_,h2⟩;have hge:L.length*n<=i*n:=Bo _ (by omega);rw[A3 (by rw[hl];omega),hl];rw[Nat.sub_mul]at h1;rw[<-h1];congr 1;omega
def p5 (by_ m:Nat):Prop:=(Nat.ble (m*by_) 16777216&&Nat.ble m 16777216)=true
theorem Ie (H:HS tab C h a) {d:Nat} {X:Type} {L M:List X} {enc:X->List SV} {e n by_:Nat} {u:AV} {news:List AV} (hd:h.get d=some (.arr X L enc e)) (hv:aA C (.own d) u) (hn:tab.siz.get e=some n) (hn0:n≠0)
   (hz:kx tab e n= .ok ()) (hroom:p5 by_ (L.length+M.length)) (hM:Told C.Fz X M enc n news):
   ∃I v a',Am.bn tab a e n by_ u M.length news= .ok (v,a')/\cE C (.kill d) (C.put d I)/\HS tab (C.put d I) ⟨h.next,(d,some (.arr X (L++M) enc e))::gS (.kill d) h.os⟩ a'/\aA (C.put d I) (.own d) v/\Grow a a'/\cr C h a [.kill d, .mod d] (C.put d I) ⟨h.next,(d,some (.arr X (L++M) enc e))::gS (.kill d) h.os⟩ a':=by
 have hpk:∀(I:BI) (o2:SO) p o J,h.get p=some o->C.ρ p=some J->p≠d->∃o',(SH.mk h.next ((d,some o2)::gS (.kill d) h.os)).get p=some o'/\(C.put d I).ρ p=some J:=by
   intro I o2 p o J hp hJ hpd;refine⟨o.on (.kill d),?_,by rw[iB _ _ hpd];exact hJ⟩;have h1:=pS (.kill d) h.next h.os p;simp only[SH.get,iZ,if_neg hpd]at h1 hp⊢;rw[h1,hp];rfl
 obtain⟨I0,hI0,ho⟩:=H.obj d _ hd;have ho':=ho;obtain⟨g1,g2,g3,g4,g5⟩:=ho;have hsz:I0.sz=n:=by rw[hn]at g1;exact(B7 g1).symm
 have hlt:∀b i,C.Fz i=some b->i<a.next:=fun b i hi=>H.wf _ _ (H.fz _ _ hi)
 by_cases hm:M.length=0
 . have hM0:=AZ hm;subst hM0;have hnews:news=[]:=AZ (by rw[hM.len];simp);subst hnews;rw[Br];obtain⟨hT,H'⟩:=H.renew hd hI0 I0 (o:= .arr X L enc e) (a':=a) (fun i b _ h=>h) H.wf (fun hc=> .inr ⟨hc,rfl⟩) (Af _) (fun hT=>by
     have:=ho'.turns hT;exact this)
   refine⟨I0,u,a,?_,hT,H',?_,Grow.refl a,fun p o J hp hJ hc hnd=>⟨rfl, .inl (hpk I0 _ p o J hp hJ (fun e=>hnd (by simp[jr,e])))⟩⟩
   . cases hv with
     |pure hv=>cases hv
     |dI hI hc=>simp[Am.bn]
     | own hI hc=>
       rw[hI0]at hI;cases hI;rw[hc]at g5;obtain⟨ca,ext,bk,k1,k2,k3,k4,k5⟩:=g5;rename_i c';have hlow:capLow a I0.β c'= .ok (I0.len):=by
         rcases k4 with⟨rfl,rfl⟩|⟨rfl,h0⟩
         . simp only[capLow];rw[rb (fU k1)];simp only;rw[rb (rc (by simp only[BH,AX];exact fc (by omega)))];simp only[Dc];rw[k3,g3];congr 1
           exact Nat.mul_div_cancel _ (by omega)
         . rw[show capLow a I0.β (.lit 0)= .ok 0 from rfl,g3,h0]
       simp only[Am.bn];rw[rb hlow,rb (fU k1)];simp only;rw[rb (rc (by simp[hsz])),rb (rc (by rw[g3];exact hroom)),AE,Bu,show Nat.ble I0.len I0.len=true from by simp];simp only[Bd];rfl
   . cases hv with
     |pure hv=>cases hv
     |dI hI hc=>exact .dI (gQ _ _ _) (by rw[hI0]at hI;cases hI;exact hc)
     |own hI hc=>rw[hI0]at hI;cases hI;exact .own (gQ _ _ _) hc
 . have hbm:Nat.beq M.length 0=false:=fc hm;have hpos:0<n:=by omega
   have newrow:∀(ca:List AV) (a1:AH) (bk:BK),a1.next=a.next->(∀i o,a1.get i=some o->a.get i=some o)->(∀i b,(I0.cap.isSome->i≠I0.β)->a.get i=some b->a1.get i=some b)->(bk≠ .ro/\bk≠ .cold)->ca.length=L.length*n->
       (∀(i:Nat) x (j:Nat) v,L[i]? =some x->(enc x)[j]? =some v->∃u,ca[i*n+j]? =some u/\aF C.Fz v u)->
       ∃I,cE C (.kill d) (C.put d I)/\HS tab (C.put d I) ⟨h.next,(d,some (.arr X (L++M) enc e))::gS (.kill d) h.os⟩ (a1.new (.cells (ca++news) e n true bk))/\aA (C.put d I) (.own d) (.sl a.next 0 (L.length+M.length) (.tail 0))/\Grow a (a1.new (.cells (ca++news) e n true bk))/\cr C h a [.kill d, .mod d] (C.put d I) ⟨h.next,(d,some (.arr X (L++M) enc e))::gS (.kill d) h.os⟩ (a1.new (.cells (ca++news) e n true bk)):=by
     intro ca a1 bk hn1 hold1 hkeep hbk hcl hcc;let I:BI:=⟨a.next,L.length+M.length,n,some (.tail 0)⟩
     obtain⟨r1,r2,r3⟩:=Mj hcl (fun i x hx=>by rw[<-hsz];exact g4 i x hx) hcc hM;obtain⟨hT,H'⟩:=H.renew hd hI0 I (o:= .arr X (L++M) enc e) (a':=a1.new (.cells (ca++news) e n true bk)) (fun i b hi hb=>by
         rw[AH.aK,if_neg (by have:=H.wf _ _ hb;omega)];exact hkeep i b hi hb)
       (fun i b hi=>by
         rw[AH.aK]at hi;simp only[AH.cw];split at hi
         . omega
         . have:=H.wf _ _ (hold1 i b hi);omega)
       (fun _=> .inl (Af _)) (by simp only[AH.cw];omega)
       (fun hT=>by
         refine⟨hn,hpos,by simp[I],r2,?_⟩;refine⟨ca++news,true,bk,by rw[AH.aK,if_pos (by rw[hn1])],hbk,r1, .inl ⟨rfl,rfl⟩,fun i x j v hx hv=>?_⟩;obtain⟨w,w1,w2⟩:=r3 i x j v hx hv;exact⟨w,w1,w2.mono hT.1⟩)
     refine⟨I,hT,H', .own (I:=I) (gQ _ _ _) rfl,⟨by simp only[AH.cw];omega,fun i o hi=>?_⟩,?_⟩
     . rw[AH.aK]at hi;split at hi
       . right;omega
       . exact .inl ⟨o,hold1 i o hi⟩
     . intro p o J hp hJ hc hnd;have hpd:p≠d:=fun e=>hnd (by simp[jr,e])
       obtain⟨b,hb⟩:=(H.at_ hp hJ).live hc;have hlt:=H.wf _ _ hb;refine⟨?_, .inl (hpk I _ p o J hp hJ hpd)⟩;rw[AH.aK,if_neg (by omega),hkeep J.β b (fun hc0 e=>hpd (H.inj p d o _ J I0 hp hd hJ hI0 hc hc0 e)) hb,hb]
   cases hv with
   |pure hv=>cases hv
   | dI hI hc=>
     rw[hI0]at hI;cases hI;rw[hc]at g5;have hL0:=AZ g5;subst hL0;obtain⟨I,q1,q2,q3,q4,q5⟩:=newrow [] a .rw rfl (fun i o h=>h) (fun i b _ h=>h) (by simp) (by simp) (fun i x j v hx=>by simp at hx);simp only[BJ,AE,Ax]at q2 q3 q4;refine⟨I,_,_,?_,q1,q2,q3,q4,q5⟩;simp only[Am.bn,hbm,AN];have hr:(Nat.ble (M.length*by_) 16777216&&Nat.ble M.length 16777216)=true:=by
       have:=hroom;unfold p5 at this;simpa using this
     rw[rb (rc hr),rb hz,rb (gv hn _ _ _)]
   | own hI hc=>
     rw[hI0]at hI;cases hI;rw[hc]at g5;obtain⟨ca,ext,bk,k1,k2,k3,k4,k5⟩:=g5;rw[hsz]at k1 k3 k5;rcases k4 with⟨rfl,rfl⟩|⟨rfl,h0⟩
     . obtain⟨I,q1,q2,q3,q4,q5⟩:=newrow ca (a.kill I0.β) bk.grown rfl (fun i o hi=>by
           rw[lz]at hi;split at hi
           . cases hi
           . exact hi) (fun i b hi hb=>by rw[lz,if_neg (hi (by simp[hc]))];exact hb) (by cases bk<;>simp[BK.grown]) k3 k5
       refine⟨I,_,_,?_,q1,q2,q3,q4,q5⟩;have hlow:capLow a I0.β (.tail 0)= .ok L.length:=by
         simp only[capLow];rw[rb (fU k1)];simp only;rw[rb (rc (by simp only[BH,AX];exact fc hn0))];simp only[Dc];rw[k3];congr 1
         exact Nat.mul_div_cancel _ hpos
       simp only[Am.bn];rw[rb hlow,rb (fU k1)];simp only;rw[rb (rc (by simp)),g3,rb (rc hroom),show Nat.ble (L.length+M.length) L.length=false from AY.2 fun e=>by have:=Aj e;omega];simp only[AN];rw[rb (rc (by simp only[Ax,AQ];omega)),rb hz,rb (rc (by
         simp only[BN,BH,Ab];exact⟨by simpa using k2,hM.one⟩)),show ca.take (L.length*n)=ca from AP (by omega)]
       rw[rb (gv hn _ _ _)];rfl
     . have hL0:=AZ h0;subst hL0;obtain⟨I,q1,q2,q3,q4,q5⟩:=newrow [] a .rw rfl (fun i o h=>h) (fun i b _ h=>h) (by simp) (by simp) (fun i x j v hx=>by simp at hx);simp only[BJ,AE,Ax]at q2 q3 q4;refine⟨I,_,_,?_,q1,q2,q3,q4,q5⟩;have hlen0:I0.len=0:=by rw[g3];rfl
       simp only[Am.bn];rw[rb (show capLow a I0.β (.lit 0)= .ok 0 from rfl),rb (fU k1)];simp only;rw[rb (rc (by simp)),hlen0,rb (rc (by have:=hroom;unfold p5 at this;simpa using this)),show Nat.ble (0+M.length) 0=false from AY.2 fun e=>by have:=Aj e;omega];simp only[AN];rw[rb (rc (by simp)),rb hz];simp only[Ed,EE,BJ,Ax];rw[rb (gv hn _ _ _)]
theorem Ic (H:HS tab C h a) {X:Type} {M:List X} {enc:X->List SV} {e n by_:Nat} {news:List AV} (hn:tab.siz.get e=some n) (hn0:n≠0)
   (hz:kx tab e n= .ok ()) (hroom:p5 by_ M.length) (hM:Told C.Fz X M enc n news):
   ∃I v a',Am.bn tab a e n by_ .nils M.length news= .ok (v,a')/\C.le (C.put h.next I)/\HS tab (C.put h.next I) (h.new (.arr X M enc e)) a'/\aA (C.put h.next I) (.own h.next) v/\Grow a a'/\cr C h a [] (C.put h.next I) (h.new (.arr X M enc e)) a':=by
 by_cases hm:M.length=0
 . let I:BI:=⟨0,0,n,none⟩
   obtain⟨h1,h2⟩:=H.vl (o:= .arr X M enc e) I rfl (fun hle=>⟨hn,by simp only[I];omega,by simp[I,hm],hM.each,hm⟩);exact⟨I, .nils,a,by simp[Am.bn,hm],h1,h2, .dI (I:=I) (gQ _ _ _) rfl,Grow.refl a,fun p o J hp hJ hc _=>⟨rfl, .inl (by obtain⟨o2,g2⟩:=qK H (.arr X M enc e) p o hp;exact⟨o2,g2,h1.1 _ _ hJ⟩)⟩⟩
 . let I:BI:=⟨a.next,M.length,n,some (.tail 0)⟩
   obtain⟨h1,h2⟩:=H.new (ao:= .cells news e n true .rw) (o:= .arr X M enc e) I rfl (fun hle=>⟨hn,by simp only[I];omega,rfl,hM.each,news,true, .rw,by rw[AH.aK,if_pos rfl],by simp,hM.len, .inl ⟨rfl,rfl⟩,fun i x j v hx hv=>by
    obtain⟨u,g1,g2⟩:=hM.cell i x j v hx hv;exact⟨u,g1,g2.mono hle.2⟩⟩)
   refine⟨I, .sl a.next 0 M.length (.tail 0),a.new (.cells news e n true .rw),?_,h1,h2, .own (I:=I) (gQ _ _ _) rfl,Grow.new a _,cr.new H _ _ h1 (qK H _)⟩;simp only[Am.bn,fc hm,AN];rw[rb (rc hroom),rb hz,rb (gv hn _ _ _)]
end
end
section
universe u v
variable [Inhabited aD]
section
variable {tab:aR} {view:TypeId->Option View} {C:Cx} {s:St} {ta:T AV} {a:AH} {h:SH}
theorem wZ (s:St) (b p:Nat) (X:Type) (L:List X) (enc:X->List SV):((s.ev (.eg b X L enc)).del b).h.get p=if p=b then none else(s.h.get p).map (SO.on (.eg b X L enc)):=by
 obtain⟨ts,⟨n,os⟩,log⟩:=s;simp only[St.ev,St.del,SH.aO];by_cases e:p=b
 . simp[e]
 . simp only[if_neg e];exact pS _ _ _ _
theorem IG:∀(l:List SV) (s:St) (p:Nat),s.h.get p=none->(fW l s).h.get p=none:=by
 intro l;induction l with
 |nil=>intro s p h;exact h
 | cons x l ih=>
  intro s p h
  cases x with
  |own b=>
   simp only[fW];split
   . refine ih _ p ?_;rw[wZ];split
     . rfl
     . rw[h];rfl
   . exact ih s p h
  |_=>exact ih s p h
theorem zK:∀(l:List SV) (s:St) (C:Cx),FS C s.ts ta->HS tab C s.h a->∃C' new,(fW l s).log=s.log++new/\Tr C new C'/\HS tab C' (fW l s).h a/\FS C' (fW l s).ts ta/\
  cO C s.h a C' (fW l s).h/\gC new .nils= .nils/\ ∀d o,(fW l s).h.get d=some o->gC new (.own d)= .own d/\ ∀off n c,gC new (.sl d off n c)= .sl d off n c:=by
 intro l;induction l with
 |nil=>intro s C hF H;exact⟨C,[],by simp[fW],Tr.refl C,H,hF,cO.refl _ _ _,rfl,fun d o _=>⟨rfl,fun _ _ _=>rfl⟩⟩
 | cons x l ih=>
  intro s C hF H;have skip:fW (x::l) s=fW l s->∃C' new,(fW (x::l) s).log=s.log++new/\Tr C new C'/\HS tab C' (fW (x::l) s).h a/\FS C' (fW (x::l) s).ts ta/\
     cO C s.h a C' (fW (x::l) s).h/\gC new .nils= .nils/\ ∀d o,(fW (x::l) s).h.get d=some o->gC new (.own d)= .own d/\ ∀off n c,gC new (.sl d off n c)= .sl d off n c:=by
   intro e;rw[e];exact ih s C hF H
  cases x with
  |own b=>
   simp only[fW]at skip⊢;split
   . rename_i X L enc t hb;obtain⟨C1,e1,e2,e3,e4,_,e6⟩:=j9 hF H hb;obtain⟨C2,new,f1,f2,f3,f4,f7,f5,f6⟩:=ih _ C1 e4 e3;refine⟨C2,_,by rw[f1,e1,A5],e2.trans f2,f3,f4,e6.trans f7 f2.fz,?_,fun d o hd=>?_⟩
     . rw[sI];simp only[gC,SV.on];exact f5
     . have hne:d≠b:=by
         intro e;subst e;rw[IG l _ d (by rw[wZ,if_pos rfl])]at hd;cases hd
       obtain⟨g1,g2⟩:=f6 d o hd;constructor
       . rw[sI];simp only[gC,SV.on,fc hne,AN];exact g1
       . intro off n c;rw[sI];simp only[gC,SV.on,fc hne,AN];exact g2 off n c
   . exact ih s C hF H
  |_=>exact skip rfl
theorem K3 (s:St) (d:Nat) (o:SO):(((s.ev (.kill d)).aL d o).note (.mod d)).log=s.log++[.kill d, .mod d]/\(((s.ev (.kill d)).aL d o).note (.mod d)).h=⟨s.h.next,(d,some o)::gS (.kill d) s.h.os⟩/\
  (((s.ev (.kill d)).aL d o).note (.mod d)).ts=nU (.kill d) s.ts:=by
 obtain⟨ts,⟨n,os⟩,log⟩:=s;exact⟨by simp[St.ev,St.aL,St.note],rfl,rfl⟩
theorem St.kN (s:St) (o:SO):(s.new o).h=s.h.new o/\(s.new o).ts=s.ts/\(s.new o).log=s.log:=by
 obtain⟨ts,h,log⟩:=s;exact⟨rfl,rfl,rfl⟩
theorem cE.mj {C C':Cx} {d:Nat} (h:cE C (.kill d) C'):Tr C [.kill d, .mod d] C':=
 h.tr.trans (l:=[.kill d]) (cE.tr (e:= .mod d) ⟨fun _ _ h=>h,fun _ _ h=>h⟩)
theorem Cs (hF:FS C s.ts ta) (H:HS tab C s.h a) {d:Nat} {X:Type} {L M:List X} {enc:X->List SV} {e n by_:Nat} {u:AV} {news:List AV} {K:SV->St->Prop} (hd:s.h.get d=some (.arr X L enc e)) (hv:aA C (.own d) u) (hn:tab.siz.get e=some n) (hn0:n≠0)
  (hz:kx tab e n= .ok ()) (hroom:p5 by_ (L.length+M.length)) (hM:Told C.Fz X M enc n news) (hk:K (.own d) (((s.ev (.kill d)).aL d (.arr X (L++M) enc e)).note (.mod d))):
  aB tab C s ta a K (Am.bn tab a e n by_ u M.length news):=by
 obtain⟨I,v,a',h1,h2,h3,h4,h5,h6⟩:=Ie H hd hv hn hn0 hz hroom hM;obtain⟨e1,e2,e3⟩:=K3 s d (.arr X (L++M) enc e);exact⟨_,_,v,a',hk,h1,⟨C.put d I,_,e1,h2.mj,h4,by rw[e2];exact h3,by rw[e3];exact hF.turns h2,by rw[e2];exact h6⟩,h5⟩
theorem yC (hF:FS C s.ts ta) (H:HS tab C s.h a) {X:Type} {M:List X} {enc:X->List SV} {e n by_:Nat} {news:List AV} {K:SV->St->Prop} (hn:tab.siz.get e=some n) (hn0:n≠0)
  (hz:kx tab e n= .ok ()) (hroom:p5 by_ M.length) (hM:Told C.Fz X M enc n news) (hk:K (.own s.h.next) (s.new (.arr X M enc e))):aB tab C s ta a K (Am.bn tab a e n by_ .nils M.length news):=by
 obtain⟨I,v,a',h1,h2,h3,h4,h5,h6⟩:=Ic H hn hn0 hz hroom hM;obtain⟨e1,e2,e3⟩:=s.kN (.arr X M enc e);exact⟨_,_,v,a',hk,h1,⟨_,[],by rw[e3];simp,h2.tr,h4,by rw[e1];exact h3,by rw[e2];exact hF.le h2,by rw[e1];exact h6⟩,h5⟩
theorem yA (l m:List Ev):jr (l++m)=jr l++jr m:=by
 induction l with
 |nil=>rfl
 |cons e l ih=>cases e<;>simp[jr,ih]
theorem aB.later {C1:Cx} {s1:St} {new:List Ev} {K:SV->St->Prop} {r:R (AV×AH)} (hl:s1.log=s.log++new) (ht:Tr C new C1) (hk:cO C s.h a C1 s1.h) (h:aB tab C1 s1 ta a K r):aB tab C s ta a K r:=by
 obtain⟨sv,s',v,a',h1,h2,⟨C',new',g1,g2,g3,g4,g5,g6⟩,h4⟩:=h;refine⟨sv,s',v,a',h1,h2,⟨C',new++new',by rw[g1,hl,A5],ht.trans g2,g3,g4,g5,?_⟩,h4⟩;intro p o I hp hI hc hn;rw[yA]at hn;rcases hk p o I hp hI hc with⟨o',q1,q2⟩|⟨b,q1,q2⟩
 . exact g6 p o' I q1 q2 hc (fun e=>hn (DK _ e))
 . exact⟨by rw[q1];exact g4.fz _ _ (g2.fz _ _ q2), .inr ⟨b,g2.fz _ _ q2⟩⟩
theorem yQ (hF:FS C s.ts ta) (H:HS tab C s.h a) {e n by_:Nat} (hn:tab.siz.get e=some n) (hn0:n≠0) (hz:kx tab e n= .ok ()) {x:SV} {u w:AV} (hx:x= .nils->aA C x u) (hx':∀d o,x= .own d->s.h.get d=some o->aA C x u) {Y:Type} {M:List Y} {enc':Y->List SV} (hy:aF C.Fz (.aw Y M enc') w)
   {K:SV->St->Prop} (h:me s e n by_ x Y M enc' K):∃m news,source a n w= .ok (m,news)/\aB tab C s ta a K (Am.bn tab a e n by_ u m news):=by
 unfold me at h;split at h
 . obtain⟨he,h1⟩:=h;obtain⟨hr,hk⟩:=cd h1;obtain⟨news,g1,g2⟩:=zt H.fz hy hn0 he;rw[mD (hx rfl)];exact⟨_,_,g1,yC hF H hn hn0 hz hr g2 hk⟩
 . rename_i d;split at h
   . rename_i X L enc e' hd;obtain⟨hee,h1⟩:=cd h;clear h;have hee:=Ad hee;subst hee;obtain⟨he,M',hM',h2⟩:=h1;obtain⟨hr,hk⟩:=cd h2;obtain⟨news,g1,g2⟩:=zt H.fz hy hn0 he
     cases hM';exact⟨_,_,g1,Cs hF H hd (hx' d _ rfl hd) hn hn0 hz hr g2 hk⟩
   . exact h.elim
 . exact h.elim
theorem Jq (hF:FS C s.ts ta) (H:HS tab C s.h a) {e n by_ m:Nat} (hn:tab.siz.get e=some n) (hn0:n≠0) (hz:kx tab e n= .ok ()) {x:SV} {u:AV} (hx:x= .nils->aA C x u) (hx':∀d o,x= .own d->s.h.get d=some o->aA C x u) {cs:List SV} {ca:List AV} (hc:aM C cs ca)
   (hl:cs.length=m*n) (hp:cs.all ia=true) {K:SV->St->Prop} (h:nG view s e n by_ m x cs K):aB tab C s ta a K (Am.bn tab a e n by_ u m ca):=by
 unfold nG at h;split at h
 . split at h
   . rename_i V hV;obtain⟨l,h1,h2,h3⟩:=Gj h;obtain⟨hr,hk⟩:=cd h3;rw[wh]at h1;have:=yC hF H hn hn0 hz hr (vJ hn0 hc hl hp h1 h2) hk;rw[h1]at this;rw[mD (hx rfl)];exact this
   . exact h.elim
 . rename_i d;split at h
   . rename_i X L enc e' hd;obtain⟨hee,h1⟩:=cd h;clear h;have hee:=Ad hee;subst hee;obtain⟨l,h1,h2,h3⟩:=Gj h1;obtain⟨hr,hk⟩:=cd h3;rw[wh]at h1;have:=Cs hF H hd (hx' d _ rfl hd) hn hn0 hz hr (vJ hn0 hc hl hp h1 h2) hk;rw[h1]at this;exact this
   . exact h.elim
 . exact h.elim
theorem Jr (hF:FS C s.ts ta) (H:HS tab C s.h a) {e:TypeId} {x y:SV} {u w:AV} (hx:aA C x u) (hy:aA C y w) {K:SV->St->Prop} (h:xb tab view s e x y K):
   ∃n by_,tab.siz.get e=some n/\tab.byt.get e=some by_/\n≠0/\ ∃m news,source a n w= .ok (m,news)/\aB tab C s ta a K (Am.bn tab a e n by_ u m news):=by
 unfold xb at h;split at h
 . rename_i n by_ hn hby;refine⟨n,by_,hn,hby,?_⟩;obtain⟨hck,hh⟩:=cd h;clear h;simp only[Ab,AX]at hck;obtain⟨hn0,hzz⟩:=hck;have hn0:n≠0:=fun e=>by subst e;simp at hn0
   refine⟨hn0,?_⟩;have hz:kx tab e n= .ok ():=by
     split at hzz
     . rename_i z hz;obtain⟨zv,zc,g1,g2,g3⟩:=om (C:=C) hz;unfold kx;rw[rb g1,rb g2];exact rc (by rw[<-g3.1];exact hzz)
     . cases hzz
   clear hzz;split at hh
   ·
     rename_i b off m cap;split at hh
     . rename_i cs0 t0 hb0;obtain⟨C1,new,f1,f2,f3,f4,f7,f5,f6⟩:=zK ((cs0.drop off).take (m*n)) s C hF H;have hx1:=f2.val _ _ hx;have hy1:=f2.val _ _ hy;generalize fW ((cs0.drop off).take (m*n)) s=s1 at*
       split at hh
       . rename_i cs t1 hb1;obtain⟨hck,hh⟩:=cd hh;simp only[Ab]at hck;have hle:=Aj hck.1;rw[(f6 b _ hb1).2]at hy1
         cases hy1 with
         |pure hy1=>cases hy1
         |sl hI=>
          rename_i I;obtain⟨hcap,ca,sz,k1,k2,_⟩:=f3.at_ hb1 hI;have hsub:=(k2.drop off).take (m*n);have hsrc:source a n (.sl I.β off m (.lit cap))= .ok (m,(ca.drop off).take (m*n)):=by
            have hr:readN a I.β off (m*n)= .ok ((ca.drop off).take (m*n)):=by
             unfold readN;rw[rb (fU k1)];simp only;rw[rb (rc (by simp only[AQ];rw[<-k2.1];exact hle))]
            simp only[source];rw[rb hr]
          refine⟨m,_,hsrc,aB.later f1 f2 f7 (Jq f4 f3 hn hn0 hz (fun e=>?_) (fun d o e hd=>?_) hsub (by simp;omega) hck.2 hh)⟩
          . subst e;rw[f5]at hx1;exact hx1
          . subst e;rw[(f6 d o hd).1]at hx1;exact hx1
       . exact hh.elim
     . exact hh.elim
   . exact yQ hF H hn hn0 hz (fun _=>hx) (fun _ _ _ _=>hx) (jT hy rfl) hh
   ·
     rename_i b;split at hh
     . rename_i Y M enc' t' hb;obtain⟨C1,e1,e2,e3,e4,e5,e6⟩:=j9 hF H hb;have hx1:=e2.val _ _ hx;obtain⟨m,news,g1,g2⟩:=yQ (u:=u) e4 e3 hn hn0 hz (fun e=>by subst e;exact hx1) (fun d o e hd=>by
         subst e;have hne:d≠b:=by
          intro e;subst e;rw[wZ,if_pos rfl]at hd;cases hd
         simp only[gC,SV.on,fc hne,AN]at hx1;exact hx1) (e5 w hy) hh
       exact⟨m,news,g1,g2.later e1 e2 e6⟩
     . exact hh.elim
   . split at hh
     . rw[mD hy,mD hx];exact⟨0,[],rfl,by simpa [Am.bn]using aB.same hF H (.pure .nils) hh⟩
     . exact hh.elim
   . exact hh.elim
 . exact h.elim
end
end
section
universe u v
variable [Inhabited aD]
section
variable {tab:aR} {view:TypeId->Option View} {C:Cx} {s:St} {ta:T AV} {a:AH} {h:SH}
theorem F2 {k:IntKind}:∀{l:List SV} {m:List AV} {x:Int} {sv:SV},aM C l m->mn k x l=some sv->∃v,oD k x m= .ok v/\aA C sv v:=by
 intro l;induction l with
 |nil=>intro m x sv hs h;cases m with
  |nil=>cases h;exact⟨_,rfl, .pure (.int _ _)⟩
  |cons=>have:=hs.1;simp at this
 | cons y l ih=>intro m x sv hs h;cases m with
  |nil=>have:=hs.1;simp at this
  |cons w m=>
   cases y<;>simp only[mn]at h<;>first|(cases h;done)|skip
   obtain⟨h1,h2⟩:=hs.head;rw[hZ h1];simp only[oD];exact ih h2 h
theorem FD {k:IntKind}:∀{l:List SV} {m:List AV} {x:Int} {sv:SV},aM C l m->ml k x l=some sv->∃v,oC k x m= .ok v/\aA C sv v:=by
 intro l;induction l with
 |nil=>intro m x sv hs h;cases m with
  |nil=>cases h;exact⟨_,rfl, .pure (.int _ _)⟩
  |cons=>have:=hs.1;simp at this
 | cons y l ih=>intro m x sv hs h;cases m with
  |nil=>have:=hs.1;simp at this
  |cons w m=>
   cases y<;>simp only[ml]at h<;>first|(cases h;done)|skip
   obtain⟨h1,h2⟩:=hs.head;rw[hZ h1];simp only[oC];exact ih h2 h
theorem FC (H:HS tab C s.h a) {e:TypeId} {x:SV} {v:AV} (hx:aA C x v) {n:Nat} (hn:nS s x=some n):lenOf a (.slice e) v= .ok n:=by
 unfold nS at hn;split at hn
 . cases hn;rw[mD hx];rfl
 . cases hn
   cases hx with
   | pure hx=>cases hx with
     |bL h0 hv=>
      rw[h0];rcases hv with rfl|⟨b,off,l,n,k,rfl⟩|⟨a,c,rfl⟩<;>rfl
     |aw b off cap cs e sz ext bk u hb hs hl hn hc h1 h2=>rfl
 . cases hn
   cases hx with
   |pure hx=>cases hx
   |sl hI=>rfl
 . rename_i b;split at hn
   . rename_i X L enc t hb
     cases hn
     cases hx with
     |pure hx=>cases hx
     |dI hI hc=>
      obtain⟨_,_,g3,_,g5⟩:=H.at_ hb hI;rw[hc]at g5;rw[g5];rfl
     |own hI hc=>
      obtain⟨_,_,g3,_,g5⟩:=H.at_ hb hI;simp only[lenOf];rw[g3]
   . cases hn
 . cases hn
theorem Iu (hF:FS C s.ts ta) (H:HS tab C s.h a) {b:Builtin} {ats:Array TypeId} {l:List SV} {vs:List AV} (hl:aM C l vs) {K:SV->St->Prop} (h:pI tab view s b ats l K):aB tab C s ta a K (Am.builtin tab b ats vs a):=by
 unfold pI at h;split at h
 ·
   rename_i x;have hv:∃v,vs=[v]/\aA C x v:=by
    cases vs with
    |nil=>have:=hl.1;simp at this
    | cons v vs=>cases vs with
      |nil=>exact⟨v,rfl,hl.head.1⟩
      |cons=>have:=hl.1;simp at this
   obtain⟨v,rfl,hx⟩:=hv;unfold Am.builtin;simp only
   cases ht:ats[0]? with
   |none=>rw[ht]at h;simp at h
   |some t=>
    rw[ht]at h;simp only[BM]at h;rw[rb (ro rfl)];split at h
    . rename_i hg;split at h
      . rw[gj hx,rb (show und tab t=_ from ro hg)];exact aB.same hF H (.pure (.int _ _)) h
      . exact h.elim
    . rename_i e hg;obtain⟨n,h1,h2⟩:=cF h;rw[rb (show und tab t=_ from ro hg)];simp only;rw[rb (FC H hx h1)];exact aB.same hF H (.pure (.int _ _)) h2
    . exact h.elim
 ·
   rename_i x y;have hv:∃u w,vs=[u,w]/\aA C x u/\aA C y w:=by
    cases vs with
    |nil=>have:=hl.1;simp at this
    | cons v vs=>cases vs with
      |nil=>have:=hl.1;simp at this
      | cons w vs=>cases vs with
        |nil=>exact⟨v,w,rfl,hl.head.1,hl.head.2.head.1⟩
        |cons=>have:=hl.1;simp at this
   obtain⟨u,w,rfl,hx,hy⟩:=hv
   cases ht:ats[0]? with
   |none=>rw[ht]at h;simp at h
   |some t=>
    cases ht1:ats[1]? with
    |none=>rw[ht,ht1]at h;simp at h
    | some t1=>
      rw[ht,ht1]at h;simp only[BM]at h;split at h
      . rename_i e e' hg hg';obtain⟨n,by_,hn,hby,hn0,m,news,h1,h2⟩:=Jr hF H hx hy h;unfold Am.builtin;simp only;rw[ht,ht1,rb (show R.of "append" (some t)= .ok t from rfl),rb (show R.of "append" (some t1)= .ok t1 from rfl),rb (show und tab t1=_ from ro hg')];simp only;rw[rb (show und tab t=_ from ro hg)];simp only;rw[rb (show siz tab e=_ from ro hn),rb (show R.of "byt" (tab.byt.get e)= .ok by_ from ro hby),rb (rc (by simp only[AX];exact fc hn0)),rb h1];exact h2
      . exact h.elim
 ·
   rename_i k x l
   cases vs with
   |nil=>have:=hl.1;simp at this
   |cons v vs=>
    obtain⟨h1,h2⟩:=hl.head;rw[hZ h1];obtain⟨sv,h3,h4⟩:=cF h;obtain⟨v,h5,h6⟩:=F2 h2 h3;unfold Am.builtin;simp only;rw[rb h5];exact aB.same hF H h6 h4
 ·
   rename_i k x l
   cases vs with
   |nil=>have:=hl.1;simp at this
   |cons v vs=>
    obtain⟨h1,h2⟩:=hl.head;rw[hZ h1];obtain⟨sv,h3,h4⟩:=cF h;obtain⟨v,h5,h6⟩:=FD h2 h3;unfold Am.builtin;simp only;rw[rb h5];exact aB.same hF H h6 h4
 . exact h.elim
theorem wx (hF:FS C s.ts ta) (H:HS tab C s.h a) {cs:List SV} {ca:List AV} (hc:aM C cs ca) (e n:Nat) (hn:tab.siz.get e=some n) {K:SV->St->Prop} {sv:SV} {v:AV} (hv:∀C':Cx,∀I,C'.ρ s.h.next=some I->I.β=a.next->aA C' sv v) (hk:K sv (s.new (.cells cs e))):
  aB tab C s ta a K (.ok (v,a.new (.cells ca e n false .rw))):=by
 let I:BI:=⟨a.next,0,n,some (.lit 0)⟩
 obtain⟨h1,h2⟩:=H.new (ao:= .cells ca e n false .rw) (o:= .cells cs e) I rfl (fun hle=>⟨rfl,ca,n,by rw[AH.aK,if_pos rfl],hc.le hle,hn⟩);obtain⟨e1,e2,e3⟩:=s.kN (.cells cs e);exact⟨sv,_,v,_,hk,rfl,⟨C.put s.h.next I,[],by rw[e3];simp,h1.tr,hv _ I (gQ _ _ _) rfl,by rw[e1];exact h2,by rw[e2];exact hF.le h1,by rw[e1];exact cr.new H _ _ h1 (qK H _)⟩,Grow.new a _⟩
theorem FX {l:List SV} {m:List AV} (h:aM C l m):∀n,aM C (oJ n l) (rep n m):=by
 intro n;induction n with
 |zero=>exact aM.nil
 |succ n ih=>exact h.append ih
theorem HI (hF:FS C s.ts ta) (H:HS tab C s.h a) {t:TypeId} {len:Nat} {ps:List (Nat×SV)} {vs:List (Nat×AV)} (hv:vs.map (·.1)=ps.map (·.1)) (hs:aM C (ps.map (·.2)) (vs.map (·.2))) {K:SV->St->Prop} (h:sL tab view s t len ps K):
   aB tab C s ta a K (Am.buildSlice tab a t len vs):=by
 unfold sL at h;split at h
 . rename_i e hg;split at h
   . rename_i n z hn hz;obtain⟨hck,h1⟩:=cd h;clear h;simp only[Ab]at hck;obtain⟨zv,zc,g1,g2,g3⟩:=om (C:=C) hz;have hzl:(Nat.beq zc.length n)=true:=by rw[<-g3.1];exact hck.2
     unfold Am.buildSlice;rw[rb (show und tab t=_ from ro hg)];simp only;rw[rb (show siz tab e=_ from ro hn),rb (rc hck.1),rb g1,rb g2,rb (rc hzl)];by_cases hl0:len=0
     . subst hl0;simp only[BN,Bd]at h1;obtain⟨hck2,h2⟩:=cd h1;clear h1;simp only[Ab,List.isEmpty_iff,AX]at hck2;obtain⟨rfl,hn0⟩:=hck2;have hn0:n≠0:=fun e=>by subst e;simp at hn0
       cases vs with
       |cons=>simp at hv
       |nil=>
        split at h2
        . rename_i V hV;simp only[DZ,rep,fill];rw[rb (show(R.ok ([]:List AV))= .ok []from rfl),rb (gv hn _ _ _)];let I:BI:=⟨a.next,0,n,some (.lit 0)⟩
          obtain⟨q1,q2⟩:=H.new (ao:= .cells [] e n false .rw) (o:= .arr V.X [] V.enc e) I rfl (fun hle=>⟨hn,by simp only[I];omega,rfl,fun i x hx=>by simp at hx,[],false, .rw,by rw[AH.aK,if_pos rfl],by simp,by simp, .inr ⟨rfl,rfl⟩,fun i x j v hx=>by simp at hx⟩);obtain⟨e1,e2,e3⟩:=s.kN (.arr V.X [] V.enc e);exact⟨_,_,_,_,h2,rfl,⟨C.put s.h.next I,[],by rw[e3];simp,q1.tr, .own (I:=I) (gQ _ _ _) rfl,by rw[e1];exact q2,by rw[e2];exact hF.le q1,by rw[e1];exact cr.new H _ _ q1 (qK H _)⟩,Grow.new a _⟩
        . exact h2.elim
     . rw[fc hl0]at h1;simp only[AN]at h1;obtain⟨cs,h2,hk⟩:=cF h1;obtain⟨ca,h3,h4⟩:=tM (qs:=vs.map fun x=>(x.1*n,n,x.2)) (FX g3 len) (by
        simp only[BB];have:=Aq (List.map (fun i=>(i*n,n))) hv;simpa [BB,B0]using this) (by simpa [BB,B0]using hs) h2
       rw[rb h3,rb (gv hn _ _ _)];exact wx hF H h4 e n hn (fun C' I hI hb=>by rw[<-hb];exact .sl hI) hk
   . exact h.elim
 . exact h.elim
theorem cT {ts:T AV} {x:Operand} {v:AV} (h:ev ts x= .ok v) {β:Type} (f:AV->R β):(ev ts x>>=f)=f v:=rb h f
theorem PC (b:Nat) (C:Cx):Tr C [.mod b] C:=cE.tr (e:= .mod b) ⟨fun _ _ h=>h,fun _ _ h=>h⟩
theorem te {t:TypeId} {f:Nat} {fd:Field} (h:uq tab t f=some fd):pR tab t f= .ok fd:=by
 unfold uq at h;unfold pR;split at h
 . rename_i fs hg;rw[rb (show und tab t=_ from ro hg)];exact ro h
 . cases h
theorem OP (hF:FS C s.ts ta) (H:HS tab C s.h a) {o:Oper} {K:SV->St->Prop} (h:kD tab view s o K):aB tab C s ta a K (dZ tab ta a o):=by
 obtain⟨dst,op,type,pos,after,guard⟩:=o;unfold kD at h;unfold dZ;have same1:∀{x:Operand} {K':SV->Prop},so (eJ s.ts x) K'->∃sv v,ev ta x= .ok v/\aA C sv v/\K' sv:=by
  intro x K' h;obtain⟨sv,h1,h2⟩:=cF h;obtain⟨v,h3,h4⟩:=jF hF h1;exact⟨sv,v,h3,h4,h2⟩
 cases op<;>simp only at h⊢
 case move x=>
  obtain⟨sv,v,h3,h4,h2⟩:=same1 h;rw[cT h3];exact aB.same hF H h4 h2
 case assign x=>
  obtain⟨sv,v,h3,h4,h2⟩:=same1 h;rw[cT h3];exact aB.same hF H h4 h2
 case pick c x y=>
  split at h
  . rename_i p hc;obtain⟨v,h3,h4⟩:=jF hF hc;rw[kS h4]at h3;rw[cT h3];split at h
    . rename_i p1 p2 hx hy;obtain⟨u,g1,g2⟩:=jF hF hx;obtain⟨w,g3,g4⟩:=jF hF hy;rw[kS g2]at g1;rw[kS g4]at g3
      cases p
      . simp only;rw[cT g3];exact aB.same hF H (.pure (.bool _)) h
      . simp only;rw[cT g1];exact aB.same hF H (.pure (.bool _)) h
    . rcases uM h with⟨rfl,h⟩|⟨rfl,h⟩
      . obtain⟨sv,v,h3,h4,h2⟩:=same1 h;simp only;rw[cT h3];exact aB.same hF H h4 h2
      . obtain⟨sv,v,h3,h4,h2⟩:=same1 h;simp only;rw[cT h3];exact aB.same hF H h4 h2
  . exact h.elim
 case alloc e=>
  obtain⟨n,hn,h⟩:=cF h;obtain⟨cs,h1,h2⟩:=cF h;obtain⟨zv,zc,g1,g2,g3⟩:=om (C:=C) h1;rw[rb g1,rb g2,rb (gv hn _ _ _)];exact wx hF H g3 e n hn (fun C' I hI hb=>by rw[<-hb];exact .ptr hI) h2
 case box e x=>
  obtain⟨n,hn,h⟩:=cF h;obtain⟨sv,v,h3,h4,h2⟩:=same1 h;obtain⟨hk,h2⟩:=cd h2;obtain⟨l,g1,g2⟩:=tv h4 hk;rw[cT h3,rb g1,rb (gv hn _ _ _)];exact wx hF H g2 e n hn (fun C' I hI hb=>by rw[<-hb];exact .ptr hI) h2
 case build t ps=>
  obtain⟨l,h1,h2⟩:=cF h;obtain⟨sv,h3,h4⟩:=cF h2;obtain⟨vs,g1,g2,g3⟩:=tk hF h1;obtain⟨v,g4,g5⟩:=zS g2 g3 h3;rw[rb g1,rb g4];exact aB.same hF H g5 h4
 case buildSlice t n ps=>
  obtain⟨l,h1,h2⟩:=cF h;obtain⟨vs,g1,g2,g3⟩:=tk hF h1;rw[rb g1];exact HI hF H g2 g3 h2
 case load t x=>
  obtain⟨sv,v,h3,h4,h2⟩:=same1 h;obtain⟨b,off,u,su,rfl,g1,g2,g3⟩:=wu H h4 h2;rw[cT h3];simp only;rw[rb g1];exact aB.same hF H g2 g3
 case store t x y=>
  obtain⟨sv,v,h3,h4,h2⟩:=same1 h;obtain⟨sw,w,g3,g4,g2⟩:=same1 h2;obtain⟨b,off,a',h',rfl,k1,k2,k3,k4,k5⟩:=La H h4 g4 g2;rw[cT h3];simp only;rw[cT g3,rb k1];obtain⟨ts,hh,log⟩:=s;refine⟨_,_,_,_,k3,rfl,⟨C,uV sv,rfl,?_, .pure (.bB rfl (fun i c v hc=>by simp at hc)),k2,hF,k5⟩,k4⟩
  cases sv<;>first|exact PC _ C|exact Tr.refl C
 case nilCheck x=>
  obtain⟨sv,v,h3,h4,h2⟩:=same1 h;rw[cT h3];split at h2
  . cases h4 with
    |pure h=>cases h
    |ptr hI=>exact aB.same hF H (.ptr hI) h2
  . cases h4 with
    |pure h=>cases h
    |bJ hI hc=>exact aB.same hF H (.bJ hI hc) h2
  . cases h4 with
    | pure h=>cases h with
      |bT b base ca e sz ext bk u hb hl h1 h2'=>exact aB.same hF H (.pure (.bT b base ca e sz ext bk u hb hl h1 h2')) h2
  . cases h4 with
    | pure h=>cases h with
      |fn h1 h2' h3' h4'=>exact aB.same hF H (.pure (.fn h1 h2' h3' h4')) h2
    |fn h1 h2' h3' h4'=>exact aB.same hF H (.fn h1 h2' h3' h4') h2
  . exact h2.elim
 case binOp op t x y _=>
  obtain⟨sv,v,h3,h4,h2⟩:=same1 h;obtain⟨sw,w,g3,g4,g2⟩:=same1 h2;rw[cT h3,cT g3];exact aB.val hF H (F0 g2 h4 g4)
 case unOp op _ x=>
  obtain⟨sv,v,h3,h4,h2⟩:=same1 h;rw[cT h3];exact aB.val hF H (GB h2 h4)
 case convert x y z=>
  obtain⟨sv,v,h3,h4,h2⟩:=same1 h;rw[cT h3];exact LQ hF H h4 h2
 case makeFunc fn first captured=>
  split at h
  . obtain⟨xs,h1,h2⟩:=cF h;obtain⟨ys,h3,h4⟩:=cF h2;obtain⟨us,g1,g2⟩:=oz hF h1;obtain⟨vs,g3,g4⟩:=oz hF h3;simp only;rw[rb g1,rb g3];exact aB.same hF H (.fn g2.1 g4.1 g2.2 g4.2) h4
  . exact h.elim
 case slice t x lo hi mx=>
  cases mx with
  |some m=>exact h.elim
  | none=>
    obtain⟨sv,v,h3,h4,h2⟩:=same1 h;rw[cT h3];exact K6 hF H h4 h2
 case fieldAddr st x f=>
  obtain⟨fd,h1,h2⟩:=cF h;obtain⟨hck,h3⟩:=cd h2;obtain⟨sv,v,h4,h5,h6⟩:=same1 h3;rw[rb (te h1)];split at hck
  . rename_i n hn;rw[rb (show siz tab fd.type=_ from ro hn),rb (rc hck),cT h4];split at h6
    . cases h5 with
      |pure h=>cases h
      |ptr hI=>exact aB.same hF H (.ptr hI) h6
    . cases h5 with
      |pure h=>cases h
      |bJ hI hc=>simp only[BW];exact aB.same hF H (.bJ hI hc) h6
    . cases h5 with
      | pure h=>cases h with
        |bT b base ca e sz ext bk u hb hl h1 h2'=>simp only[BW];exact aB.same hF H (.pure (.bT b base ca e sz ext bk u hb hl h1 h2')) h6
    . exact h6.elim
  . cases hck
 case field t x f=>
  obtain⟨fd,h1,h2⟩:=cF h;obtain⟨sv,v,h4,h5,h6⟩:=same1 h2;rw[rb (te h1),cT h4];split at h6
  . obtain⟨us,rfl,g1⟩:=kV h5;obtain⟨su,g2,g3⟩:=cF h6;obtain⟨u,g4,g5⟩:=pM g1 g2;simp only;rw[rb g4];exact aB.same hF H g5 g3
  . exact h6.elim
 case indexAddr t x ix=>
  obtain⟨sj,vj,h1,h2,h3⟩:=same1 h;obtain⟨i,h4,h5⟩:=rk h3 h2;obtain⟨sv,v,h6,h7,h8⟩:=same1 h5;rw[cT h1,rb h4];split at h8
  . rename_i len e b off hg;split at h8
    . rename_i n hn;obtain⟨g1,g2⟩:=cd h8;rw[rb (show und tab t=_ from ro hg),cT h6]
      cases h7 with
      |pure h=>cases h
      |ptr hI=>simp only;rw[rb (rc g1),rb (show siz tab e=_ from ro hn)];exact aB.same hF H (.ptr hI) g2
    . exact h8.elim
  . rename_i e b off len cap hg;split at h8
    . rename_i n hn;obtain⟨g1,g2⟩:=cd h8;rw[rb (show und tab t=_ from ro hg),cT h6]
      cases h7 with
      |pure h=>cases h
      |sl hI=>simp only;rw[rb (rc g1),rb (show siz tab e=_ from ro hn)];exact aB.same hF H (.ptr hI) g2
    . exact h8.elim
  . rename_i e X L enc hg;split at h8
    . rename_i n hn;obtain⟨x,g1,g2⟩:=cF h8;obtain⟨g2,g3⟩:=cd g2;have g2:=Ad g2;have hi:=(Ac.1 g1).1;obtain⟨b,off,cap,cs,e',sz,ext,bk,rfl,hb,hs,hl,hsz,hc,hcell⟩:=uw (jT h7 rfl) (by rintro rfl;simp at hi);obtain⟨sz0,ext0,hb,hx0⟩:=hb;have hszn:sz=n:=by rw[<-hsz i x g1];exact g2
      subst hszn;rw[rb (show und tab t=_ from ro hg),cT h6];simp only;rw[rb (rc (by simpa using hi)),rb (show siz tab e=_ from ro hn)];refine aB.same hF H (.pure ?_) g3;refine .bT b (off+i*sz) cs e' sz0 ext0 bk (fun j=>(cs[off+i*sz+j]?).getD (.bB [])) hb ?_ ?_ ?_
      . rw[g2];have:i*sz+sz<=L.length*sz:=by
         calc i*sz+sz=(i+1)*sz:=by rw[Bp,Dz]
          _<=L.length*sz:=Bo _ hi
        omega
      . intro j v hv;obtain⟨u,q1,_⟩:=hcell i x j v g1 hv;rw[q1];rfl
      . intro j v hv;obtain⟨u,q1,q2⟩:=hcell i x j v g1 hv;rw[q1];exact q2
    . exact h8.elim
  . rename_i e b hg;split at h8
    . rename_i n X L enc e' hn hb;obtain⟨g1,g2⟩:=cd h8;simp only[Ab]at g1;have hee:=Ad g1.1;subst hee;have hi:i<L.length:=by simpa using g1.2
      rw[rb (show und tab t=_ from ro hg),cT h6]
      cases h7 with
      |pure h=>cases h
      | dI hI hc=>
        obtain⟨_,_,_,_,k5⟩:=H.at_ hb hI;rw[hc]at k5;omega
      | own hI hc=>
        rename_i I c;obtain⟨k1,k2,k3,_,k5⟩:=H.at_ hb hI;have hsz:I.sz=n:=by rw[hn]at k1;exact(B7 k1).symm
        simp only;rw[rb (rc (by rw[k3];simpa using hi)),rb (show siz tab e=_ from ro hn)];have hh:aA C (.bJ b i 0) (.ptr I.β (i*I.sz+0)):= .bJ hI (by simp[hc]);rw[hsz,Bu]at hh;rw[Ax];exact aB.same hF H hh g2
    . exact h8.elim
  . exact h8.elim
 case index t x ix=>
  obtain⟨sj,vj,h1,h2,h3⟩:=same1 h;obtain⟨i,h4,h5⟩:=rk h3 h2;obtain⟨sv,v,h6,h7,h8⟩:=same1 h5;rw[cT h1,rb h4];split at h8
  . rename_i len e cs hg;split at h8
    . rename_i n hn;obtain⟨g1,g2⟩:=cd h8;obtain⟨su,g3,g4⟩:=cF g2;obtain⟨us,rfl,g5⟩:=kV h7;obtain⟨u,g6,g7⟩:=pM g5 g3;rw[rb (show und tab t=_ from ro hg),cT h6];simp only;rw[rb (rc g1),rb (show siz tab e=_ from ro hn),rb g6];exact aB.same hF H g7 g4
    . exact h8.elim
  . rename_i c hg;obtain⟨b,g1,g2⟩:=cF h8;rw[rb (show und tab t=_ from ro hg),cT h6,gj h7];simp only;rw[rb (ro g1)];exact aB.same hF H (.pure (.int _ _)) g2
  . exact h8.elim
 case extract t i=>
  obtain⟨sv,v,h6,h7,h8⟩:=same1 h;rw[cT h6];split at h8
  . obtain⟨us,rfl,g5⟩:=um h7;obtain⟨su,g3,g4⟩:=cF h8;obtain⟨u,g6,g7⟩:=g5.get g3;simp only;rw[rb (ro g6)];exact aB.same hF H g7 g4
  . exact h8.elim
 case call c=>
  split at h
  . rename_i b hb;obtain⟨l,h1,h2⟩:=cF h;obtain⟨vs,g1,g2⟩:=oz hF h1;rw[hb];simp only;rw[rb g1];exact Iu hF H g2 h2
  . exact h.elim
 all_goals exact h.elim
end
end
section
universe u v
variable [Inhabited aD]
def rr (f:Nat->Option AO):Nat->T AO
 |0=> .e
 |n+1=>(rr f n).set n (f n)
theorem JM (f:Nat->Option AO):∀n i,(rr f n).get i=if i<n then f i else none:=by
 intro n;induction n with
 |zero=>intro i;simp[rr,iq]
 |succ n ih=>
  intro i;simp only[rr,T.aO,ih];by_cases h:i=n
  . subst h;simp
  . rw[if_neg h];by_cases h2:i<n
    . rw[if_pos h2,if_pos (by omega)]
    . rw[if_neg h2,if_neg (by omega)]
def ofFn (next:Nat) (f:Nat->Option AO):AH:={t:=rr f next,next}
theorem oh (next:Nat) (f:Nat->Option AO) (i:Nat):(ofFn next f).get i=if i<next then f i else none:=JM f next i
section
variable {P:Program} {tab:aR}
theorem dM.frame {fr:ag} {h h0:AH} {Θ:AV->AH->Prop} (hgo:dM P {fr,cs:=[],h:=h0} Θ) (hs:∀i o,h0.get i=some o->h.get i=some o) (hn:h0.next=h.next):
   dM P {fr,cs:=[],h} fun v h2=>∃h1,Θ v h1/\h2.next=h1.next/\h.next<=h1.next/\(∀i o,h1.get i=some o->i<h1.next)/\ ∀i o,h2.get i=some o↔(h1.get i=some o\/(h.get i=some o/\h0.get i=none/\h1.get i=none)):=by
 classical
 intro D E K base frC csC w hR hB;have hdom:∀i o,h.get i=some o->i<h.next:=(hR.all E (ai.refl _ _)).1.dE;have hd0:∀i o,h0.get i=some o->i<h0.next:=fun i o hi=>by rw[hn];exact hdom i o (hs i o hi)
 have hRc:Rel D E (Am.Rest E h h0 K) {fr,cs:=[],h:=h0} base frC csC w:=by
   refine⟨fun E' he=>?_,fun i hi=>by simp only;rw[hn];exact hR.dE i hi,hR.wf⟩;obtain⟨g1,g2,g3⟩:=hR.all E' he;refine⟨?_,g2,g3⟩;rw[<-hR.ep he];exact g1.part hs hd0
 obtain⟨v,h1,hΘ,fr1,w',vC,E',D',s1,s2,s3,s4,s5,s6,s7,s8,s9,s10⟩:=hgo D E _ base frC csC w hRc hB.rest;simp only at s9;have hdom1:=(s4 E' (ai.refl _ _)).1.dE;let h2:AH:=ofFn h1.next fun i=>match h1.get i with
   |some o=>some o
   |none=>if(h0.get i).isNone then h.get i else none
 have hg2:∀i o,h2.get i=some o↔(h1.get i=some o\/(h.get i=some o/\h0.get i=none/\h1.get i=none)):=by
   intro i o;simp only[h2,oh];constructor
   . intro hh;split at hh
     . split at hh
       . rename_i o' ho';cases hh;exact .inl ho'
       . rename_i ho';split at hh
         . rename_i hz;exact .inr ⟨hh,by simpa using hz,ho'⟩
         . cases hh
     . cases hh
   . rintro(hh|⟨h3,h4,h5⟩)
     . rw[if_pos (hdom1 i o hh),hh]
     . have:=hdom i o h3;rw[if_pos (by omega),h5];simp[h4,h3]
 refine⟨v,h2,⟨h1,hΘ,rfl,by omega,hdom1,hg2⟩,fr1,w',vC,E',D',s1,s2,s3,?_,s5,s6,s7,s8.part,by simp only;rw[<-hn];exact s9,fun i hi=>by simp only;rw[<-hn];exact s10 i hi⟩;intro E'' he';obtain⟨g1,g2⟩:=s4 E'' he';have hag:=s5.trans he' s6;obtain⟨k1,k2,k3⟩:=hR.all E'' hag;refine⟨k1.join (by rw[hR.ep hag];exact g1) (by rw[hR.ep hag];exact s8) (fun i o hi=>((hg2 i o).1 hi).imp id (fun x=>⟨x.1,x.2.1⟩)) (fun i o hi=>?_),g2⟩;rcases(hg2 i o).1 hi with g|⟨g,_,_⟩
 . exact g1.dE i o g
 . have:=hdom i o g;show i<h1.next
   omega
def gH (tab:aR) (C0:Cx) (h0:SH) (a0:AH) (Q:SV->St->Prop) (v:AV) (a':AH):Prop:=
 ∃sv s' C',Q sv s'/\aA C' sv v/\HS tab C' s'.h a'/\Tr C0 s'.log C'/\Grow a0 a'/\cr C0 h0 a0 s'.log C' s'.h a'
def bO (P:Program) (tab:aR) (g:FuncId) (C:aP):Prop:=
 ∀ fn body,tab.fns.get g=some fn->fn.body=some body->∀y,C.pre y->∀(Fz:Nat->Option AO) (a:AH) (avs:List AV),(∀i o,Fz i=some o->a.get i=some o)->(∀i o,a.get i=some o->i<a.next)->
  (C.args y).length=avs.length->(∀(i:Nat) s v,(C.args y)[i]? =some s->avs[i]? =some v->aF Fz s v)->
  dM P {fr:=ag.enter fn g body avs .normal,cs:=[],h:=a} fun v a'=>∃Fz':Nat->Option AO,(∀i o,Fz i=some o->Fz' i=some o)/\(∀i o,Fz' i=some o->a'.get i=some o)/\aF Fz' (C.res y) v/\Grow a a'/\
   (∀i o,a.get i=some o->a'.get i=some o)/\(∀i o,a'.get i=some o->i<a'.next)/\ ∀i o,Fz' i=some o->Fz i=some o\/a.next<=i
theorem bO.of {g:FuncId} {C:aP} (h:∀fn body,tab.fns.get g=some fn->fn.body=some body->∀y,C.pre y->∀(C0:Cx) (a:AH) (avs:List AV),C0.ρ=(fun _=>none)->HS tab C0 ⟨0,[]⟩ a->
     (C.args y).length=avs.length->(∀(i:Nat) s v,(C.args y)[i]? =some s->avs[i]? =some v->aF C0.Fz s v)->dM P {fr:=ag.enter fn g body avs .normal,cs:=[],h:=a} (gH tab C0 ⟨0,[]⟩ a fun v s=>
       (∀(C':Cx) (a':AH) (av:AV),HS tab C' s.h a'->aA C' v av->∃Fz':Nat->Option AO,(∀i o,C'.Fz i=some o->Fz' i=some o)/\(∀i o,Fz' i=some o->a'.get i=some o)/\aF Fz' (C.res y) av))):bO P tab g C:=by
 intro fn body hfn hb y hy Fz a avs hfz hwf hlen hav;let h0:AH:=ofFn a.next Fz
 have hg0:∀i,h0.get i=Fz i:=by
   intro i;simp only[h0,oh];split
   . rfl
   . rename_i hi
     cases hz:Fz i with
     |none=>rfl
     |some o=>exact absurd (hwf i o (hfz i o hz)) hi
 let C0:Cx:=⟨fun _=>none,Fz⟩
 have H0:HS tab C0 ⟨0,[]⟩ h0:=by
   refine⟨fun p o hp=>by simp[SH.get,look]at hp,fun p q o o' I J hp=>by simp[SH.get,look]at hp,fun i o hi=>by rw[hg0];exact hi,fun p o I hp=>by simp[SH.get,look]at hp,fun p I hp=>by simp[C0]at hp,fun i o hi=>?_⟩;rw[hg0]at hi;exact hwf i o (hfz i o hi)
 have:=h fn body hfn hb y hy C0 h0 avs rfl H0 hlen hav;refine(this.frame (h:=a) (fun i o hi=>by rw[hg0]at hi;exact hfz i o hi) rfl).mono ?_;rintro v a2 ⟨a1,⟨sv,s',C',hQ,hsv,hH,hT,hG,_⟩,hn,hle,hw1,hg2⟩;obtain⟨Fz',f1,f2,f3⟩:=hQ C' a1 v hH hsv;refine⟨Fz',fun i o hi=>f1 i o (hT.fz i o hi),fun i o hi=>(hg2 i o).2 (.inl (f2 i o hi)),f3,⟨by rw[hn];exact hle,fun i o hi=>?_⟩,fun i o hi=>?_,fun i o hi=>?_,fun i o hi=>?_⟩
 . rcases(hg2 i o).1 hi with g|⟨g,_,_⟩
   . rcases hG.old i o g with⟨o0,g1⟩|g1
     . rw[hg0]at g1;exact .inl ⟨o0,hfz i o0 g1⟩
     . exact .inr g1
   . exact .inl ⟨o,g⟩
 . cases hz:Fz i with
   | some o'=>
     have:=hfz i o' hz;rw[hi]at this;cases this;exact(hg2 i o).2 (.inl (f2 i o (f1 i o (hT.fz i o hz))))
   | none=>
     refine(hg2 i o).2 (.inr ⟨hi,by rw[hg0];exact hz,?_⟩)
     cases hz1:a1.get i with
     |none=>rfl
     | some o1=>
       rcases hG.old i o1 hz1 with⟨o0,g1⟩|g1
       . rw[hg0,hz]at g1;cases g1
       . have:=hwf i o hi;have e:h0.next=a.next:=rfl;omega
 . rcases(hg2 i o).1 hi with g|⟨g,_,_⟩
   . rw[hn];exact hw1 i o g
   . have:=hwf i o g;omega
 . have h3:=f2 i o hi;rcases hG.old i o h3 with⟨o0,g1⟩|g1
   . rw[hg0]at g1;have:=f1 i o0 (hT.fz i o0 g1);rw[hi]at this;cases this;exact .inl g1
   . exact .inr g1
end
end
section
universe u v
variable [Inhabited aD]
def PL (Fz:Nat->Option AO) (fs:List SV) (vs:List AV):Prop:=fs.length=vs.length/\ ∀(i:Nat) f v,fs[i]? =some f->vs[i]? =some v->aF Fz f v
theorem PL.nil {Fz:Nat->Option AO}:PL Fz [] []:=⟨rfl,fun i f v h=>by simp at h⟩
theorem PL.cons {Fz:Nat->Option AO} {f:SV} {v:AV} {fs:List SV} {vs:List AV} (h:aF Fz f v) (t:PL Fz fs vs):PL Fz (f::fs) (v::vs):=by
 refine⟨by simp[t.1],fun i a b ha hb=>?_⟩
 cases i with
 |zero=>simp at ha hb;subst ha;subst hb;exact h
 |succ i=>exact t.2 i a b (by simpa using ha) (by simpa using hb)
theorem PL.split {Fz:Nat->Option AO} {xs fs:List SV} {us vs:List AV} (h:PL Fz (xs++fs) (us++vs)) (hl:xs.length=us.length):PL Fz xs us/\PL Fz fs vs:=by
 refine⟨⟨hl,fun i f v hf hv=>h.2 i f v ?_ ?_⟩,⟨?_,fun i f v hf hv=>h.2 (xs.length+i) f v ?_ ?_⟩⟩
 . rw[AL (Ac.1 hf).1];exact hf
 . rw[AL (Ac.1 hv).1];exact hv
 . have:=h.1;simp at this;omega
 . rw[A3 (by omega)];simpa using hf
 . rw[A3 (by omega),hl];simpa using hv
theorem Gq {X X':Type} {L:List X} {L':List X'} {enc:X->List SV} {enc':X'->List SV} {Fz:Nat->Option AO} {v:AV} (h:SV.aw X' L' enc'=SV.aw X L enc) (hv:aF Fz (.aw X' L' enc') v):aF Fz (.aw X L enc) v:=h▸hv
section
variable {P:Program} {tab:aR} {cfg:gR} {ta:T AV} {a:AH}
theorem Qk {C:Cx} {s:St} (hF:FS C s.ts ta) (H:HS tab C s.h a) {d:Nat} {o0:SO} (hd:s.h.get d=some o0):∃C',((s.ev (.kill d)).del d).log=s.log++[.kill d]/\Tr C [.kill d] C'/\HS tab C' ((s.ev (.kill d)).del d).h a/\FS C' ((s.ev (.kill d)).del d).ts ta/\
   cO C s.h a C' ((s.ev (.kill d)).del d).h/\cE C (.kill d) C'/\ ∀I,C.ρ d=some I->I.cap.isSome->C'.Fz I.β=a.get I.β:=by
 obtain⟨ts,⟨n,os⟩,log⟩:=s;obtain⟨I,hI,ho⟩:=H.obj d _ hd;obtain⟨C',hT,H',hfb,hρ⟩:=H.freeze (e:= .kill d) hd hI (fun C' h1 h2 _=>J3 C' h1 h2);refine⟨C',rfl,hT.tr,H',hF.turns hT,?_,hT,fun J hJ hc=>by rw[hI]at hJ;cases hJ;exact hfb hc⟩;intro p o J hp hJ hc;by_cases e:p=d
 . subst e;rw[hI]at hJ;cases hJ;obtain⟨b,hb⟩:=(H.at_ hp hI).live hc;exact .inr ⟨b,hb,by rw[hfb hc,hb]⟩
 . refine .inl ⟨o.on (.kill d),?_,by rw[hρ];exact hJ⟩;simp only[St.ev,St.del,SH.aO,if_neg e];rw[pS,hp];rfl
theorem xc (htab:cfg.tab=tab):∀(n:Nat) (fs as1:List SV) (vs:List AV) (s:St) (C:Cx) (K:St->Prop),dd cfg n fs as1 s K->aM C as1 vs->FS C s.ts ta->HS tab C s.h a->
  ∃C' new s',s'.log=s.log++new/\Tr C new C'/\HS tab C' s'.h a/\FS C' s'.ts ta/\cO C s.h a C' s'.h/\K s'/\PL C'.Fz fs vs:=by
 intro n;induction n with
 |zero=>intro fs as1 vs s C K h;exact h.elim
 | succ n ih=>
  intro fs as1 vs s C K h hs0 hF H;have lift:∀{f:SV} {fs:List SV} {a0:SV} {as1:List SV} {v:AV} {vs:List AV},dd cfg n fs as1 s K->aM C as1 vs->(∀Fz':Nat->Option AO,(∀i o,C.Fz i=some o->Fz' i=some o)->aF Fz' f v)->
    ∃C' new s',s'.log=s.log++new/\Tr C new C'/\HS tab C' s'.h a/\FS C' s'.ts ta/\cO C s.h a C' s'.h/\K s'/\PL C'.Fz (f::fs) (v::vs):=by
   intro f fs a0 as1 v vs h hs hv;obtain⟨C',new,s',g1,g2,g3,g4,g5,g6,g7⟩:=ih fs as1 vs s C K h hs hF H;exact⟨C',new,s',g1,g2,g3,g4,g5,g6,PL.cons (hv _ g2.fz) g7⟩
  have liftP:∀{f:SV} {fs:List SV} {as1:List SV} {v:AV} {vs:List AV},dd cfg n fs as1 s K->aM C as1 vs->aF C.Fz f v->
    ∃C' new s',s'.log=s.log++new/\Tr C new C'/\HS tab C' s'.h a/\FS C' s'.ts ta/\cO C s.h a C' s'.h/\K s'/\PL C'.Fz (f::fs) (v::vs):=fun h hs hv=>lift (a0:= .any) h hs (fun Fz' hf=>hv.mono hf)
  cases fs with
  | nil=>
   cases as1 with
   |nil=>
    cases vs with
    |nil=>exact⟨C,[],s,by simp,Tr.refl C,H,hF,cO.refl _ _ _,h,PL.nil⟩
    |cons=>have:=hs0.1;simp at this
   |cons=>simp only[dd]at h
  | cons f fs =>
   cases as1 with
   |nil=>simp only[dd]at h
   | cons x as1=>
    cases vs with
    |nil=>have:=hs0.1;simp at this
    | cons v vs=>
     obtain⟨hx,hs⟩:=hs0.head;clear hs0;simp only[dd]at h;split at h
     . exact liftP h hs (.any _)
     . obtain⟨rfl,h⟩:=h;rw[kS hx];exact liftP h hs (.bool _)
     . obtain⟨h1,h2,h3⟩:=cd h;clear h;have h1:=BA h1;subst h1;rw[hZ hx,h2];exact liftP h3 hs (.int _ _)
     . obtain⟨rfl,h⟩:=h;rw[gj hx];exact liftP h hs (.str _)
     . exact liftP h hs (jT hx rfl)
     . obtain⟨rfl,h⟩:=h;exact liftP h hs (jT hx rfl)
     . exact liftP h hs (jT hx rfl)
     . exact liftP h hs (jT hx rfl)
     . exact liftP h hs (jT hx rfl)
     . obtain⟨h1,h⟩:=h;exact liftP h hs (Gq h1 (jT hx rfl))
     . obtain⟨rfl,h⟩:=h;rw[mD hx];exact liftP h hs (.bL rfl (.inl rfl))
     . rename_i X L enc b;split at h
       . rename_i X' L' enc' t hb;obtain⟨h1,h⟩:=h;obtain⟨C1,e1,e2,e3,e4,e5,e6⟩:=j9 hF H hb;have hs1:aM C1 (eQ (.eg b X' L' enc') as1) vs:=by
           rw[mK];refine⟨by simp[hs.1],fun i q w hq hw=>?_⟩;rw[Av]at hq;obtain⟨q0,hq0,rfl⟩:=Ap.1 hq;exact e2.val q0 w (hs.2 i q0 w hq0 hw)
         obtain⟨C',new,s',g1,g2,g3,g4,g5,g6,g7⟩:=ih fs _ vs _ C1 K h hs1 e4 e3;exact⟨C',_,s',by rw[g1,e1,A5],e2.trans g2,g3,g4,e6.trans g5 g2.fz,g6,PL.cons ((Gq h1 (e5 v hx)).mono g2.fz) g7⟩
       . exact h.elim
     . rename_i X L enc b off m c;split at h
       . rename_i cs e hb;split at h
         . rename_i r hr;rw[htab]at hr;obtain⟨hck,h⟩:=cd h;simp only[Ab,AX]at hck;obtain⟨⟨⟨hr0,hmc⟩,hle⟩,hpu⟩:=hck;have hr0:r≠0:=fun e=>by subst e;simp at hr0
           have hmc:=Aj hmc;have hle:=Aj hle;obtain⟨h1,h⟩:=h;obtain⟨C1,e1,e2,e3,e4,e5,e6,e7⟩:=Qk hF H hb;have hs1:aM C1 (eQ (.kill b) as1) vs:=hs.turns e6;obtain⟨C',new,s',g1,g2,g3,g4,g5,g6,g7⟩:=ih fs _ vs _ C1 K h hs1 e4 e3;refine⟨C',_,s',by rw[g1,e1,A5],e2.trans g2,g3,g4,e5.trans g5 g2.fz,g6,PL.cons ?_ g7⟩
           cases hx with
           |pure hx=>cases hx
           |sl hI=>
            rename_i I;obtain⟨hcap,ca,sz,k1,k2,k3⟩:=H.at_ hb hI;have hszr:r=sz:=by rw[hr]at k3;exact B7 k3
            subst hszr;have hfz:=e7 I hI hcap;rw[k1]at hfz;have hLm:L.length=m:=by
              have:=Aq List.length h1;rw[wh]at this;simpa using this.symm
            have hsub:=(k2.drop off).take (m*r);have hT:Told C.Fz X L enc r ((ca.drop off).take (m*r)):=vJ hr0 hsub (by simp;omega) hpu hLm (fun i x q hx hq=>by
              rw[h1,Av,hx]at hq;simpa using hq)
            subst hLm;refine aF.mono g2.fz (uv I.β off _ ca e _ false .rw _ rfl (.of hfz) (by omega) (by rw[<-k2.1];exact hle) hT.each hmc ?_);intro i x j w hx hw;obtain⟨u,q1,q2⟩:=hT.cell i x j w hx hw;refine⟨u,?_,q2.mono e2.fz⟩;rw[AU]at q1;split at q1
            . rw[BD,<-BW]at q1;exact q1
            . cases q1
         . exact h.elim
       . exact h.elim
     . rename_i xs ys;obtain⟨h1,h⟩:=cd h;have h1:=Ad h1;obtain⟨us,rfl,hu⟩:=kV hx;obtain⟨C',new,s',g1,g2,g3,g4,g5,g6,g7⟩:=ih _ _ (us++vs) s C K h (hu.append hs) hF H;obtain⟨q1,q2⟩:=g7.split (h1.trans hu.1);exact⟨C',new,s',g1,g2,g3,g4,g5,g6,PL.cons (.agg q1.1 q1.2) q2⟩
     . rename_i f xs us g ys ws;obtain⟨h1,h'⟩:=cd h;clear h;have h:=h';clear h';simp only[Ab]at h1;obtain⟨⟨h0,h1⟩,h2⟩:=h1;have h0:=Ad h0;have h1:=Ad h1;have h2:=Ad h2;subst h0;have hfn:∃y' w',v= .fn (.func f) y' w'/\aM C ys y'/\aM C ws w':=by
         cases hx with
         | pure hx=>cases hx with
           |fn k1 k2 k3 k4=>exact⟨_,_,rfl,⟨k1,fun i q r a b=> .pure (k3 i q r a b)⟩,⟨k2,fun i q r a b=> .pure (k4 i q r a b)⟩⟩
         |fn k1 k2 k3 k4=>exact⟨_,_,rfl,⟨k1,k3⟩,⟨k2,k4⟩⟩
       obtain⟨y',w',rfl,k1,k2⟩:=hfn;obtain⟨C',new,s',g1,g2,g3,g4,g5,g6,g7⟩:=ih _ _ (y'++(w'++vs)) s C K h (k1.append (k2.append hs)) hF H;obtain⟨q1,q2⟩:=g7.split (h1.trans k1.1);obtain⟨q2,q3⟩:=q2.split (h2.trans k2.1);exact⟨C',new,s',g1,g2,g3,g4,g5,g6,PL.cons (.fn q1.1 q2.1 q1.2 q2.2) q3⟩
     . exact h.elim
end
end
section
universe u v
variable [Inhabited aD]
theorem kQ {α:Type u}:∀{l:List α} {K:List α->Prop},iO l K->K l:=by
 intro l;induction l with
 |nil=>intro K h;exact h
 |cons x l ih=>intro K h;exact ih (K:=fun l'=>K (x::l')) h
theorem Kr {v:SV} {K:SV->Prop} (h:xq v K):K v:=by
 cases v<;>simp only[xq]at h<;>first|exact h|exact kQ h|exact kQ (kQ h)
theorem Kq {o:SO} {K:SO->Prop} (h:Gl o K):K o:=by
 cases o with
 |cells cs t=>exact kQ (K:=fun cs=>K (.cells cs t)) h
 |arr X L enc t=>exact h
theorem zJ {h:SH} {K:SH->Prop} (hh:rn h K):K h:=by
 obtain⟨n,os⟩:=h;simp only[rn]at hh;split at hh
 . exact Kq (K:=fun o=>K ⟨n,(_,some o)::_⟩) hh
 . exact hh
theorem tf {α:Type}:∀{t:T α} {K:T α->Prop},mH t K->K t:=by
 intro t;induction t with
 |e=>intro K h;exact h
 |n v l r ihl ihr=>
  intro K h;simp only[mH]at h;have h:=ihr (ihl h)
  cases v<;>exact h
section
variable {P:Program} {tab:aR} {cfg:gR} {rec:SM->(SV->St->Prop)->Prop} {C:Cx} {s:St} {ta:T AV} {a:AH}
def mL (P:Program) (tab:aR) (rec:SM->(SV->St->Prop)->Prop):Prop:=
 ∀(f:FuncId) (fn:Func) (body:Code) (args:List SV) (h:SH) (a:AH) (C:Cx) (avs:List AV) (Q:SV->St->Prop),tab.fns.get f=some fn->fn.body=some body->
  rec ⟨f,Nat.max fn.ntmps args.length,h.next,[.code body],⟨Fr.of args 0,h,[]⟩⟩ Q->HS tab C h a->aM C args avs->dM P {fr:=ag.enter fn f body avs .normal,cs:=[],h:=a} (gH tab C h a Q)
theorem L0 (htab:cfg.tab=tab) (hrec:mL P tab rec) (hcon:∀g C,cfg.fS g=some C->bO P tab g C) {f:FuncId} {args:List SV} {avs:List AV} {K:SV->St->Prop} (h:xN cfg rec f args s K) (hF:FS C s.ts ta) (H:HS tab C s.h a) (hs:aM C args avs):
   ∃fn body,tab.fns.get f=some fn/\fn.body=some body/\dM P {fr:=ag.enter fn f body avs .normal,cs:=[],h:=a} fun v a'=>a.next<=a'.next/\ ∃sv s',K sv s'/\na tab C s ta a sv s' v a':=by
 unfold xN at h;rw[htab]at h;split at h
 . rename_i fn hfn;split at h
   . rename_i body hb;refine⟨fn,body,hfn,hb,?_⟩;split at h
     . rename_i Cn hCn;obtain⟨y,h⟩:=h;obtain⟨C1,new,s1,g1,g2,g3,g4,g5,⟨hpre,hk⟩,g7⟩:=xc htab 1000 _ _ _ _ _ _ h hs hF H;refine(hcon f Cn hCn fn body hfn hb y hpre C1.Fz a avs g3.fz g3.wf g7.1 g7.2).mono ?_;rintro v a' ⟨Fz',f1,f2,f3,f4,f5,f6,f7⟩;refine⟨f4.next,_,s1,hk,⟨⟨C1.ρ,Fz'⟩,new,g1,?_, .pure f3,?_,?_,?_⟩,f4⟩
       . have hle:C1.le ⟨C1.ρ,Fz'⟩:=⟨fun _ _ h=>h,f1⟩;have:=g2.trans hle.tr;simpa using this
       . have hle:C1.le ⟨C1.ρ,Fz'⟩:=⟨fun _ _ h=>h,f1⟩;refine⟨fun p o hp=>?_,g3.inj,f2,fun p o I hp hI hc=>?_,g3.lt,f6⟩
         . obtain⟨I,hI,ho⟩:=g3.obj p o hp;refine⟨I,hI,?_⟩;have ho':=ho.le hle;by_cases hc:I.cap.isSome
           . obtain⟨b,hb'⟩:=ho.live hc;exact ho'.congr ((f5 _ _ hb').trans hb'.symm)
           . cases o with
             |cells cs t=>exact absurd ho.1 hc
             | arr X L enc t=>
               obtain⟨q1,q2,q3,q4,q5⟩:=ho';refine⟨q1,q2,q3,q4,?_⟩
               cases hcap:I.cap with
               |none=>rw[hcap]at q5;exact q5
               |some c=>rw[hcap]at hc;simp at hc
         . show Fz' I.β=none
           cases hz:Fz' I.β with
           |none=>rfl
           | some b=>
             rcases f7 _ _ hz with hz1|hz1
             . have:=g3.dj p o I hp hI hc;rw[hz1]at this;cases this
             . obtain⟨b',hb'⟩:=(g3.at_ hp hI).live hc;have:=g3.wf _ _ hb';omega
       . have hle:C1.le ⟨C1.ρ,Fz'⟩:=⟨fun _ _ h=>h,f1⟩;exact FS.le hle g4
       . intro p o I hp hI hc _;obtain⟨b,hb'⟩:=(H.at_ hp hI).live hc;refine⟨by rw[hb'];exact f5 _ _ hb',?_⟩;rcases g5 p o I hp hI hc with h1|⟨b,_,h2⟩
         . exact .inl h1
         . exact .inr ⟨b,f1 _ _ h2⟩
     . obtain⟨ts,hh,log⟩:=s;simp only at h;refine(hrec f fn body args hh a C avs _ hfn hb h H hs).mono ?_;rintro v a' ⟨sv,s',C',hk,q1,q2,q3,q4,q5⟩;obtain⟨ts',h',log'⟩:=s';exact⟨q4.next,sv,_,hk,⟨C',log',rfl,q3,q1,q2,hF.log q3,q5⟩,q4⟩
   . exact h.elim
 . exact h.elim
theorem Fj (htab:cfg.tab=tab) (hrec:mL P tab rec) (hcon:∀g C,cfg.fS g=some C->bO P tab g C) {o:Oper} {K:SV->St->Prop} (h:uz cfg rec s o K) (hF:FS C s.ts ta) (H:HS tab C s.h a):
   fX P tab ta a o fun v a'=>∃sv s',K sv s'/\na tab C s ta a sv s' v a':=by
 have hsop:kD cfg.tab cfg.view s o K->fX P tab ta a o fun v a'=>∃sv s',K sv s'/\na tab C s ta a sv s' v a':=by
   intro h;rw[htab]at h;obtain⟨sv,s',v,a',h1,h2,h3⟩:=OP hF H h;exact .inl ⟨v,a',h2,h3.grow.next,sv,s',h1,h3⟩
 unfold uz at h;split at h
 . rename_i c hc;split at h
   . rename_i f hf;obtain⟨args,h1,h2⟩:=cF h;obtain⟨sf,h3,h4⟩:=cF h2;obtain⟨avs,g1,g2⟩:=oz hF h1;obtain⟨vf,g3,g4⟩:=jF hF h3;split at h4
     . rename_i g first captured;have hfn:∃us ws,vf= .fn (.func g) us ws/\aM C first us/\aM C captured ws:=by
        cases g4 with
        |pure hx=>cases hx with
         |fn k1 k2 k3 k4=>exact⟨_,_,rfl,⟨k1,fun i q r a b=> .pure (k3 i q r a b)⟩,⟨k2,fun i q r a b=> .pure (k4 i q r a b)⟩⟩
        |fn k1 k2 k3 k4=>exact⟨_,_,rfl,⟨k1,k3⟩,⟨k2,k4⟩⟩
       obtain⟨us,ws,rfl,k1,k2⟩:=hfn;obtain⟨fn,body,q1,q2,q3⟩:=L0 htab hrec hcon h4 hF H ((k1.append g2).append k2);exact .inr ⟨c,f,g,us,ws,avs,fn,body,hc,hf,g3,g1,q1,q2,q3⟩
     . exact h4.elim
   . exact hsop h
 . exact hsop h
theorem wo {ops:Array Oper} {o:Oper} {K:Bool->St->Prop} (h:rp ops o s K) (hF:FS C s.ts ta):∃b s',K b s'/\wanted ops o ta= .ok b/\FS C s'.ts ta/\s'.h=s.h/\s'.log=s.log:=by
 unfold rp at h;unfold wanted;split at h
 . rename_i hg;rw[hg];exact⟨true,s,h,rfl,hF,rfl,rfl⟩
 . rename_i j w hg;rw[hg];simp only;obtain⟨ts,hh,log⟩:=s;split at h
   . rename_i d hd;simp only at h;rw[hd];simp only[BM];have lit:∀p:Bool,look ts d=some (.bool p)->ta.get d=some (.bool p):=by
       intro p hp;have h1:=hF d _ hp;have h2:=kS h1
       cases hg:ta.get d with
       |none=>rw[hg]at h2;simp at h2
       |some v=>rw[hg]at h2;simp at h2;rw[h2]
     have putb:∀p:Bool,ta.get d=some (.bool p)->FS C ((d, .bool p)::ts) ta:=by
       intro p hp t q hq;rw[iZ]at hq;split at hq
       . rename_i e
         cases hq;rw[e,hp];exact .pure (.bool p)
       . exact hF t q hq
     split at h
     . rename_i p hp;have hta:=lit p hp;rw[hta];simp only;rcases uM h with⟨rfl,h⟩|⟨rfl,h⟩
       . exact⟨w,_,h,by cases w<;>rfl,putb true hta,rfl,rfl⟩
       . exact⟨!w,_,h,by cases w<;>rfl,putb false hta,rfl,rfl⟩
     . rename_i cs hp;have h1:=hF d _ hp;obtain⟨us,h2,_⟩:=um h1
       cases hg:ta.get d with
       |none=>exact⟨false,_,h,rfl,hF,rfl,rfl⟩
       | some v=>
         rw[hg]at h2;simp at h2;rw[h2];exact⟨false,_,h,rfl,hF,rfl,rfl⟩
     . exact h.elim
   . rename_i hd;rw[hd];exact⟨false,_,h,rfl,hF,rfl,rfl⟩
def fB (nt:Nat) (ta:T AV) (d:Option Tmp) (v:AV):T AV:=match d with|some d=>bif Nat.blt d nt then ta.set d (some v)else ta|none=>ta
theorem pT {nt:Nat} {d:Option Tmp} {sv:SV} {v:AV} {K:St->Prop} (h:gZ nt s d sv K) (hF:FS C s.ts ta) (hv:aA C sv v):
  ∃s',K s'/\FS C s'.ts (fB nt ta d v)/\s'.h=s.h/\s'.log=s.log:=by
 obtain⟨ts,hh,log⟩:=s;unfold gZ at h
 cases d with
 |none=>exact⟨_,zJ (K:=fun h=>K ⟨ts,h,log⟩) h,hF,rfl,rfl⟩
 |some d=>
  simp only[fB]at h⊢
  cases hb:Nat.blt d nt
  . rw[hb]at h;exact⟨_,h,hF,rfl,rfl⟩
  . rw[hb]at h;have h:=zJ (K:=fun h=>K ⟨(d,sv)::ts,h,log⟩) (Kr (K:=fun v=>rn hh fun h=>K ⟨(d,v)::ts,h,log⟩) h);exact⟨_,h,hF.put hv,rfl,rfl⟩
end
end
section
universe u v
variable [Inhabited aD]
mutual
theorem Ho (e:Ev):∀(s:SV) (n:Nat),s.lt n=true->n<=e.id->s.on e=s
 | .bool b,n,_,_=>by simp[SV.on]
 | .int k m,n,_,_=>by simp[SV.on]
 | .str s,n,_,_=>by simp[SV.on]
 | .aQ,n,_,_=>by simp[SV.on]
 | .wp _,n,_,_=>by simp[SV.on]
 | .ptr b off,n,h,he=>by
  simp only[SV.lt,B8]at h
  cases e<;>simp only[SV.on,Ev.id]at* <;>first|rfl|(rw[fc (by omega)];rfl)
 | .bJ b i off,n,h,he=>by
  simp only[SV.lt,B8]at h
  cases e<;>simp only[SV.on,Ev.id]at* <;>first|rfl|(rw[fc (by omega)];rfl)
 | .bT cs off,n,_,_=>by simp[SV.on]
 | .nils,n,_,_=>by simp[SV.on]
 | .sl b off l c,n,h,he=>by
  simp only[SV.lt,B8]at h
  cases e<;>simp only[SV.on,Ev.id]at* <;>first|rfl|(rw[fc (by omega)];rfl)
 | .own b,n,h,he=>by
  simp only[SV.lt,B8]at h
  cases e<;>simp only[SV.on,Ev.id]at* <;>first|rfl|(rw[fc (by omega)];rfl)
 | .aw X L enc,n,_,_=>by simp[SV.on]
 | .bg,n,_,_=>by simp[SV.on]
 | .map b,n,_,_=>by simp[SV.on]
 | .bA,n,_,_=>by simp[SV.on]
 | .fn f xs ys,n,h,he=>by
  simp only[SV.lt,Ab]at h;simp only[SV.on,lF e xs n h.1 he,lF e ys n h.2 he]
 | .agg cs,n,h,he=>by
  simp only[SV.lt]at h;simp only[SV.on,lF e cs n h he]
 | .bB cs,n,h,he=>by
  simp only[SV.lt]at h;simp only[SV.on,lF e cs n h he]
 | .any,n,_,_=>by simp[SV.on]
theorem lF (e:Ev):∀(l:List SV) (n:Nat),fQ n l=true->n<=e.id->eQ e l=l
 |[],n,_,_=>by simp[eQ]
 |v::l,n,h,he=>by
  simp only[fQ,Ab]at h;simp only[eQ,Ho e v n h.1 he,lF e l n h.2 he]
end
theorem CN:∀(log:List Ev) (s:SV) (n:Nat),s.lt n=true->(∀e∈log,n<=e.id)->gC log s=s:=by
 intro log;induction log with
 |nil=>intro s n _ _;rfl
 |cons e l ih=>
  intro s n h he;simp only[gC];rw[Ho e s n h (he e An)];exact ih s n h (fun e' h'=>he e' (Al _ h'))
theorem dw {n:Nat}:∀{l:List SV},fQ n l=true↔∀s∈l,s.lt n=true:=by
 intro l;induction l with
 |nil=>simp[fQ]
 |cons v l ih=>simp[fQ,ih]
theorem ri {n:Nat} {l:List SV} (h:fQ n l=true) {i:Nat} {s:SV} (hs:l[i]? =some s):s.lt n=true:=dw.1 h s (BC hs)
open Classical in
noncomputable def Cx.cut (C:Cx) (n:Nat):Cx:={C with ρ:=fun p=>if p<n then C.ρ p else none}
theorem lE (C:Cx) {n p:Nat} (h:p<n):(C.cut n).ρ p=C.ρ p:=by simp[Cx.cut,h]
theorem aA.cut {C:Cx} {n:Nat} {s:SV} {v:AV} (h:aA C s v) (hl:s.lt n=true):aA (C.cut n) s v:=by
 induction h with
 |pure h=>exact .pure h
 |ptr h=>simp only[SV.lt,B8]at hl;exact .ptr (by rw[lE C hl];exact h)
 |bJ h hc=>simp only[SV.lt,B8]at hl;exact .bJ (by rw[lE C hl];exact h) hc
 |dI h hc=>simp only[SV.lt,B8]at hl;exact .dI (by rw[lE C hl];exact h) hc
 |own h hc=>simp only[SV.lt,B8]at hl;exact .own (by rw[lE C hl];exact h) hc
 |sl h=>simp only[SV.lt,B8]at hl;exact .sl (by rw[lE C hl];exact h)
 |fn h1 h2 _ _ ih3 ih4=>
  simp only[SV.lt,Ab]at hl;exact .fn h1 h2 (fun i x u hx hu=>ih3 i x u hx hu (ri hl.1 hx)) (fun i x u hx hu=>ih4 i x u hx hu (ri hl.2 hx))
 |agg h1 _ ih=>simp only[SV.lt]at hl;exact .agg h1 (fun i x u hx hu=>ih i x u hx hu (ri hl hx))
 |bB h1 _ ih=>simp only[SV.lt]at hl;exact .bB h1 (fun i x u hx hu=>ih i x u hx hu (ri hl hx))
theorem aF.low {Fz:Nat->Option AO} {n:Nat} {s:SV} {v:AV} (h:aF Fz s v):s.lt n=true:=by
 induction h with
 |fn h1 h2 _ _ ih3 ih4=>
  simp only[SV.lt,Ab];constructor
  . rw[dw];intro s hs;obtain⟨i,hi⟩:=Bq.1 hs;exact ih3 i s _ hi (Ae (by rw[<-h1];exact(Ac.1 hi).1))
  . rw[dw];intro s hs;obtain⟨i,hi⟩:=Bq.1 hs;exact ih4 i s _ hi (Ae (by rw[<-h2];exact(Ac.1 hi).1))
 |agg h1 _ ih=>
  simp only[SV.lt];rw[dw];intro s hs;obtain⟨i,hi⟩:=Bq.1 hs;exact ih i s _ hi (Ae (by rw[<-h1];exact(Ac.1 hi).1))
 |bB h1 _ ih=>
  simp only[SV.lt];rw[dw];intro s hs;obtain⟨i,hi⟩:=Bq.1 hs;exact ih i s _ hi (Ae (by rw[<-h1];exact(Ac.1 hi).1))
 |_=>rfl
theorem aA.low {C:Cx} {n:Nat} (hC:∀p I,C.ρ p=some I->p<n) {s:SV} {v:AV} (h:aA C s v):s.lt n=true:=by
 induction h with
 |pure h=>exact h.low
 |ptr h=>simpa [SV.lt]using hC _ _ h
 |bJ h hc=>simpa [SV.lt]using hC _ _ h
 |dI h hc=>simpa [SV.lt]using hC _ _ h
 |own h hc=>simpa [SV.lt]using hC _ _ h
 |sl h=>simpa [SV.lt]using hC _ _ h
 |fn h1 h2 _ _ ih3 ih4=>
  simp only[SV.lt,Ab];constructor
  . rw[dw];intro s hs;obtain⟨i,hi⟩:=Bq.1 hs;exact ih3 i s _ hi (Ae (by rw[<-h1];exact(Ac.1 hi).1))
  . rw[dw];intro s hs;obtain⟨i,hi⟩:=Bq.1 hs;exact ih4 i s _ hi (Ae (by rw[<-h2];exact(Ac.1 hi).1))
 |agg h1 _ ih=>
  simp only[SV.lt];rw[dw];intro s hs;obtain⟨i,hi⟩:=Bq.1 hs;exact ih i s _ hi (Ae (by rw[<-h1];exact(Ac.1 hi).1))
 |bB h1 _ ih=>
  simp only[SV.lt];rw[dw];intro s hs;obtain⟨i,hi⟩:=Bq.1 hs;exact ih i s _ hi (Ae (by rw[<-h1];exact(Ac.1 hi).1))
section
variable {P:Program} {tab:aR} {cfg:gR}
structure gG (fr:ag) (fn:FuncId) (nt:Nat):Prop where
 fn:fr.fn=fn
 nt:fr.nt=nt
 mode:fr.mode= .run
 defers:fr.defers=[]
 kind:fr.kind= .normal
 round:fr.round=none
theorem gG.todo {fr:ag} {fn:FuncId} {nt:Nat} (h:gG fr fn nt) (ts:T AV) (k:List bj):gG {fr with tmps:=ts,todo:=k} fn nt:=⟨h.fn,h.nt,h.mode,h.defers,h.kind,h.round⟩
def SI (tab:aR) (C0:Cx) (h0:SH) (a0:AH) (ta:T AV) (a:AH) (s:St):Prop:=∃C,FS C s.ts ta/\HS tab C s.h a/\Tr C0 s.log C/\Grow a0 a/\cr C0 h0 a0 s.log C s.h a
inductive TS (HO:(Fr->SH->List Ev->Prop)->Code->List bj->Prop):List dD->List bj->Prop
 |nil:TS HO [] []
 |code {k:List dD} {k':List bj} (c:Code) (h:TS HO k k'):TS HO (.code c::k) (.code c::k')
 |inBlock {k:List dD} {k':List bj} (id:Nat) (h:TS HO k k'):TS HO (.inBlock id::k) (.inBlock id::k')
 |inLoop {k:List dD} {k':List bj} (b:Code) (h:TS HO k k'):TS HO (.inLoop b::k) (.inLoop b::k')
 |inScope {k:List dD} {k':List bj} (b:Code) (h:TS HO k k'):TS HO (.inScope b::k) (.inScope b::k')
 |inRegion {k:List dD} {k':List bj} (ops:Array Oper) (l:List Nat) (h:TS HO k k'):TS HO (.inRegion ops l::k) (.inRegion ops l::k')
 |head {k:List dD} {k':List bj} (gq:Fr->SH->List Ev->Prop) (b:Code) (h:TS HO k k') (ho:HO gq b k'):TS HO (.head gq::k) (.inLoop b::k')
theorem TS.exit {HO:(Fr->SH->List Ev->Prop)->Code->List bj->Prop} {id:Nat}:∀{k:List dD} {k':List bj} {k1:List dD},TS HO k k'->lW id k=some k1->∃k1',Am.exitTo id k'=some k1'/\TS HO k1 k1':=by
 intro k k' k1 h;induction h with
 |nil=>intro h;cases h
 |inBlock j h ih=>
  intro he;simp only[lW]at he;simp only[Am.exitTo]
  cases hb:Nat.beq j id
  . rw[hb]at he;exact ih he
  . rw[hb]at he;cases he;exact⟨_,rfl,h⟩
 |code c h ih=>intro he;simp only[lW]at he;simp only[Am.exitTo];exact ih he
 |inLoop b h ih=>intro he;simp only[lW]at he;simp only[Am.exitTo];exact ih he
 |inScope b h ih=>intro he;simp only[lW]at he;simp only[Am.exitTo];exact ih he
 |inRegion ops l h ih=>intro he;simp only[lW]at he;simp only[Am.exitTo];exact ih he
 |head gq b h ho ih=>intro he;simp only[lW]at he;simp only[Am.exitTo];exact ih he
theorem Nt (htab:cfg.tab=tab) {C:Cx} {s:St} {ta:T AV} {a:AH} (hF:FS C s.ts ta) (H:HS tab C s.h a):∀{l:List ResultVar} {K:List SV->Prop},j5 cfg s l K->∃vs svs,Am.results tab a ta l= .ok vs/\aM C svs vs/\K svs:=by
 intro l;induction l with
 |nil=>intro K h;exact⟨[],[],rfl,aM.nil,h⟩
 | cons x l ih=>
  intro K h
  cases x with
  |tmp t=>
   simp only[j5]at h;obtain⟨v,h1,h2⟩:=cF h;obtain⟨vs,svs,g1,g2,g3⟩:=ih h2;refine⟨_,_,?_,aM.cons (hF t v h1) g2,g3⟩;simp only[Am.results];rw[rb g1]
  | cell b t=>
   simp only[j5]at h;rw[htab]at h;obtain⟨p,h1,h2⟩:=cF h;obtain⟨bb,off,u,sv,h3,h4,h5,h6⟩:=wu H (hF b p h1) h2;obtain⟨vs,svs,g1,g2,g3⟩:=ih h6;refine⟨_,_,?_,aM.cons h5 g2,g3⟩;simp only[Am.results]
   cases hg:ta.get b with
   |none=>rw[hg]at h3;simp at h3
   |some w=>
    rw[hg]at h3;simp only[AK]at h3;rw[h3];simp only;rw[rb h4,rb g1]
theorem Gy (pr:fg P tab) (htab:cfg.tab=tab) {fn:FuncId} {nt:Nat} {s:St} {Q:SV->St->Prop} {C0:Cx} {h0:SH} {a0 a:AH} {fr:ag} (h:mP cfg fn s Q) (hf:gG fr fn nt) (hS:SI tab C0 h0 a0 fr.tmps a s)
   (ht:fr.todo=[]\/ ∃k,fr.todo= .code .ret::k):dM P {fr,cs:=[],h:=a} (gH tab C0 h0 a0 Q):=by
 obtain⟨C,hF,H,hT,hG,hK⟩:=hS;have hstep:Am.step tab sub0 {fr,cs:=[],h:=a}= .ok (.next {fr:={fr with mode:= .returning},cs:=[],h:=a}):=by
   rcases ht with ht|⟨k,ht⟩
   . simp only[Am.step,hf.mode,ht,Am.leave,hf.round]
   . simp only[Am.step,hf.mode,ht,Am.leave,hf.round]
 refine dM.next pr hstep ?_;unfold mP at h;rw[htab]at h;split at h
 . rename_i func hfn;obtain⟨vs,svs,g1,g2,g3⟩:=Nt htab hF H h;have hdone:Am.step tab sub0 {fr:={fr with mode:= .returning},cs:=[],h:=a}= .ok (.done (Am.result vs) a):=by
     simp only[Am.step,Am.unwind,hf.defers,hf.fn,hfn];rw[rb g1];simp only[Am.doReturn,hf.kind]
   refine dM.done pr hdone ⟨_,s,C,g3,?_,H,hT,hG,hK⟩;unfold Am.result
   cases svs with
   | nil=>cases vs with
     |nil=>exact .bB g2.1 g2.2
     |cons=>have:=g2.1;simp at this
   | cons x svs=>cases vs with
     |nil=>have:=g2.1;simp at this
     | cons v vs=>cases svs with
      |nil=>cases vs with
       |nil=>exact g2.head.1
       |cons=>have:=g2.1;simp at this
      |cons y svs=>cases vs with
       |nil=>have:=g2.1;simp at this
       |cons w vs=>exact .bB g2.1 g2.2
 . exact h.elim
end
end
section
universe u v
variable [Inhabited aD]
section
variable {P:Program} {tab:aR} {cfg:gR}
theorem cr.trans {C0 C C':Cx} {h0 h h':SH} {a0 a a':AH} {l m:List Ev} (k:cr C0 h0 a0 l C h a) (k':cr C h a m C' h' a') (hf:∀i o,C.Fz i=some o->C'.Fz i=some o) (H:∀i o,C.Fz i=some o->a.get i=some o) (H':∀i o,C'.Fz i=some o->a'.get i=some o):
   cr C0 h0 a0 (l++m) C' h' a':=by
 intro p o I hp hI hc hn;rw[yA]at hn;obtain⟨g1,g2⟩:=k p o I hp hI hc (fun e=>hn (Ei _ e));rcases g2 with⟨o',h1,h2⟩|⟨b,h1⟩
 . obtain⟨g3,g4⟩:=k' p o' I h1 h2 hc (fun e=>hn (DK _ e));exact⟨g3.trans g1,g4⟩
 . exact⟨by rw[H' _ _ (hf _ _ h1),<-g1,H _ _ h1], .inr ⟨b,hf _ _ h1⟩⟩
theorem SI.res {C0 C:Cx} {h0:SH} {a0 a a':AH} {ta:T AV} {s s':St} {sv:SV} {v:AV} (H:HS tab C s.h a) (hT:Tr C0 s.log C) (hG:Grow a0 a) (hK:cr C0 h0 a0 s.log C s.h a) (hr:na tab C s ta a sv s' v a'):
  ∃C',aA C' sv v/\FS C' s'.ts ta/\HS tab C' s'.h a'/\Tr C0 s'.log C'/\Grow a0 a'/\cr C0 h0 a0 s'.log C' s'.h a':=by
 obtain⟨⟨C',new,e1,e2,e3,e4,e5,e6⟩,e7⟩:=hr;exact⟨C',e3,e5,e4,by rw[e1];exact hT.trans e2,hG.trans e7,by rw[e1];exact hK.trans e6 e2.fz H.fz e4.fz⟩
theorem eW.mono {ops:Array Oper} {nt:Nat} {G G':DS->Prop} (hg:∀s,G s->G' s):∀n s,eW P tab ops nt G n s->eW P tab ops nt G' n s:=by
 intro n;induction n with
 |zero=>intro s h;exact h
 |succ n ih=>
  intro s h;obtain⟨s1,h1,h2⟩:=h;refine⟨s1,h1,h2.imp (fun x=>⟨x.1,hg _ x.2⟩) (fun⟨c,o,q1,q2,q3,q4⟩=>⟨c,o,q1,q2,q3,?_⟩)⟩;rcases q4 with⟨v,h1,k1,k2,k3,k4⟩|⟨c',f,g,first,captured,args,fn,body,k1,k2,k3,k4,k5,k6,k7⟩
  . exact .inl ⟨v,h1,k1,k2,k3,ih _ k4⟩
  . exact .inr ⟨c',f,g,first,captured,args,fn,body,k1,k2,k3,k4,k5,k6,k7.mono fun v h1 ⟨a,b,c⟩=>⟨a,b,ih _ c⟩⟩
def w7 (P:Program) (tab:aR) (cfg:gR) (rec:SM->(SV->St->Prop)->Prop):Prop:=
 ∀(ops:Array Oper) (nt n:Nat) (s:St) (K:St->Prop) (ta:T AV) (a:AH) (C:Cx),rD cfg rec ops nt n ⟨s, .e,[],[]⟩ K->FS C s.ts ta->HS tab C s.h a->
  eW P tab ops nt (fun sF=>∃s' C' new,K s'/\s'.log=s.log++new/\Tr C new C'/\HS tab C' s'.h sF.h/\FS C' s'.ts sF.ts/\Grow a sF.h/\cr C s.h a new C' s'.h sF.h) n {ts:=ta,h:=a,aC:= .e,reads:=[],ax:=[]}
theorem FE {C:Cx} {s:St} {ta:T AV} {c:Operand} {p:Bool} (hF:FS C s.ts ta) (hc:eJ s.ts c=some (.bool p)):FS C (fixC s c p).ts ta/\(fixC s c p).h=s.h/\(fixC s c p).log=s.log:=by
 obtain⟨ts,h,log⟩:=s
 cases c with
 |tmp t=>
  refine⟨?_,rfl,rfl⟩;intro t' q hq;simp only[fixC]at hq;rw[iZ]at hq;split at hq
  . rename_i e
    cases hq;rw[e];exact hF t _ hc
  . exact hF t' q hq
 |const v=>exact⟨hF,rfl,rfl⟩
 |func f=>exact⟨hF,rfl,rfl⟩
 |global g=>exact⟨hF,rfl,rfl⟩
theorem Gi {C:Cx} {v e:SV} {av:AV} (h:sq v e) (hv:aA C v av):aA C e av:=by
 unfold sq at h;split at h
 . rw[<-h];exact hv
 . obtain⟨h1,h2⟩:=cd h;have h1:=BA h1;rw[<-h1,<-h2];exact hv
 . rw[<-h];exact hv
 . obtain⟨h1,_⟩:=cd h;simp only[Ab]at h1;rw[<-Ad h1.1,<-Ad h1.2];exact hv
 . obtain⟨h1,_⟩:=cd h;rw[<-Ad h1];exact hv
 . exact hv
 . exact hv
 . exact hv
 . exact hv
 . rw[mD hv];exact .pure (.bL (by rw[h];rfl) (.inl rfl))
 . exact .pure (.any _)
 . rw[<-h];exact hv
theorem Na {C:Cx}:∀{l m:List SV} {vs:List AV},nP l m->aM C l vs->aM C m vs:=by
 intro l;induction l with
 |nil=>intro m vs h hs;cases m with
  |nil=>exact hs
  |cons=>exact h.elim
 | cons a l ih=>intro m vs h hs;cases m with
  |nil=>exact h.elim
  |cons b m=>
   cases vs with
   |nil=>have:=hs.1;simp at this
   |cons v vs=>exact aM.cons (Gi h.1 hs.head.1) (ih h.2 hs.head.2)
theorem Mz {ts:Fr} {h eh:SH}:∀{l:Fr},jh ts h eh l->∀{t:Nat} {e:SV},look l t=some e->∃v,look ts t=some v/\nR h eh v e:=by
 intro l;induction l with
 |nil=>intro _ t e h;cases h
 |cons x l ih=>
  obtain⟨k,e0⟩:=x;intro hf t e hl;rw[iZ]at hl;split at hl
  . rename_i ek
    cases hl;rw[ek];exact cF hf.1
  . exact ih hf.2 hl
theorem Fp {α:Type u}:∀{l:List (Nat×α)} {t:Nat} {v:α},look l t=some v->(t,v)∈l:=by
 intro l;induction l with
 |nil=>intro t v h;cases h
 |cons x l ih=>
  obtain⟨k,w⟩:=x;intro t v h;rw[iZ]at h;split at h
  . rename_i e;cases h;rw[e];exact An
  . exact Al _ (ih h)
theorem My {h e:SH}:∀{n:Nat},xZ tab h e n->∀p,p<n->qq tab h.next p (h.get p) (e.get p):=by
 intro n;induction n with
 |zero=>intro _ p hp;omega
 |succ n ih=>
  intro hf p hp;by_cases e:p=n
  . subst e;exact hf.1
  . exact ih hf.2 p (by omega)
theorem SI.eg {C0:Cx} {h0:SH} {a0 a:AH} {ta:T AV} {s:St} (hS:SI tab C0 h0 a0 ta a s) (l:List SV):SI tab C0 h0 a0 ta a (fW l s):=by
 obtain⟨C,hF,H,hT,hG,hK⟩:=hS;obtain⟨C',new,e,t,H',F',st,_⟩:=zK l s C hF H;exact⟨C',F',H',by rw[e];exact hT.trans t,hG,by rw[e];exact hK.trans (st.bG new) t.fz H.fz H'.fz⟩
open Classical in
theorem Gk (htab:cfg.tab=tab) {C0 C:Cx} {h0:SH} {a0 a:AH} {ta:T AV} {s:St} {base:Nat} (hC0:∀p I,C0.ρ p=some I->p<base) {log:List Ev} (hnew:(∀e∈s.log,base<=e.id)/\ ∀e∈log,base<=e.id) (hF:FS C s.ts ta) (H:HS tab C s.h a) (hT:Tr C0 s.log C) (hG:Grow a0 a) (hK:cr C0 h0 a0 s.log C s.h a)
   (hb0:∀p o,h0.get p=some o->p<base) {e:Fr×SH} (h1:jh s.ts s.h e.2 e.1) (h2:kJ cfg.tab s.h e.2) (hl:low e.1 e.2=true) (hbn:base<=e.2.next) (hst:stay base s.h e.2=true):SI tab C0 h0 a0 ta a ⟨e.1,e.2,log⟩:=by
 obtain⟨ts,eh⟩:=e;simp only at h1 h2 hl hbn hst⊢;unfold low at hl;simp only[Ab,AA]at hl;obtain⟨hl1,hl2⟩:=hl;obtain⟨hnow,hlog⟩:=hnew;rw[htab]at h2;have hfit:=My h2;have hlow:∀p o,eh.get p=some o->p<eh.next/\o.lt eh.next=true:=by
   intro p o hp;unfold SH.get at hp;split at hp
   . rename_i o' ho'
     cases hp;have:=hl2 _ (Fp ho');simp only[B8]at this;exact this
   . cases hp
 let szOf (t:TypeId):Nat:=(tab.siz.get t).getD 0
 let Cy:Cx:=⟨fun p=>if p<eh.next then(match C.ρ p with
     |some I=>some I
     | none=>match eh.get p with
       |some (.arr _ _ _ t)=>some ⟨0,0,szOf t,none⟩
       |_=>none)else none,C.Fz⟩
 have hρ:∀p I,p<eh.next->C.ρ p=some I->Cy.ρ p=some I:=by
   intro p I hp hI;simp[Cy,hp,hI]
 have hcut:(C.cut eh.next).le Cy:=by
   refine⟨fun p I hp=>?_,fun _ _ h=>h⟩;simp only[Cx.cut]at hp;split at hp
   . rename_i hlt;exact hρ p I hlt hp
   . cases hp
 have hval:∀{s:SV} {v:AV},aA C s v->s.lt eh.next=true->aA Cy s v:=fun h hl=>(h.cut hl).le hcut
 have hback:∀p I,Cy.ρ p=some I->I.cap.isSome->C.ρ p=some I:=by
   intro p I hp hc;simp only[Cy]at hp;split at hp
   . split at hp
     . rename_i I' hI';rw[hI'];exact hp
     . split at hp
       . cases hp;simp at hc
       . cases hp
   . cases hp
 have hlive:∀p o I,eh.get p=some o->C.ρ p=some I->∃o',s.h.get p=some o':=by
   intro p o I hp hI;obtain⟨hlt,_⟩:=hlow p o hp;have hf:=hfit p hlt;rw[hp]at hf
   cases hs:s.h.get p with
   |some o'=>exact⟨o',rfl⟩
   | none=>
     rw[hs]at hf
     cases o with
     |cells cs t=>exact hf.elim
     | arr X L enc t=>
       have:=Aj (cd hf).1;have:=H.lt p I hI;omega
 refine⟨Cy,?_,⟨?_,?_,H.fz,?_,?_,H.wf⟩,⟨?_,hT.fz⟩,hG,?_⟩
 ·
   intro t ev hev;obtain⟨v,hv,hfv⟩:=Mz h1 hev;have hlt:=hl1 _ (Fp hev);have hsv:=hF t v hv;simp only at hlt;unfold nR at hfv;split at hfv
   . rename_i b;split at hfv
     . rename_i X L enc t' hb1 hb2;rw[mD hsv];obtain⟨hbl,_⟩:=hlow _ _ hb2;have hf:=hfit _ hbl;rw[hb1,hb2]at hf;have hge:=Aj (cd hf).1;have hnone:C.ρ b=none:=by
         cases hz:C.ρ b with
         |none=>rfl
         |some I=>have:=H.lt _ _ hz;omega
       exact .dI (I:=⟨0,0,szOf t',none⟩) (by simp[Cy,hbl,hnone,hb2]) rfl
     . exact hfv.elim
   . exact hval (Gi hfv hsv) hlt
 ·
   intro p o hp;obtain⟨hlt,hol⟩:=hlow p o hp;have hf:=hfit p hlt;rw[hp]at hf
   cases hs:s.h.get p with
   | none=>
     rw[hs]at hf
     cases o with
     |cells cs t=>exact hf.elim
     | arr X L enc t=>
       obtain⟨hge,hL,hz⟩:=cd hf;obtain⟨n,hn,hz⟩:=cF hz;obtain⟨hn0,hz⟩:=cd hz;have hge:=Aj hge;have hnone:C.ρ p=none:=by
         cases hz:C.ρ p with
         |none=>rfl
         |some I=>have:=H.lt _ _ hz;omega
       have hsz:szOf t=n:=by simp[szOf,hn]
       refine⟨⟨0,0,szOf t,none⟩,by simp[Cy,hlt,hnone,hp],?_⟩;subst hL;have hn0:n≠0:=fun e=>by subst e;simp at hn0
       exact⟨by simp only[hsz];exact hn,by simp only[hsz];omega,rfl,fun i x hx=>by simp at hx,rfl⟩
   | some o'=>
     rw[hs]at hf;obtain⟨I,hI,ho⟩:=H.obj p o' hs;refine⟨I,hρ p I hlt hI,?_⟩
     cases o with
     | cells cs t=>
       cases o' with
       |arr X L enc t'=>exact hf.elim
       | cells cs' t'=>
         obtain⟨htt,hcs⟩:=cd hf;have htt:=Ad htt;subst htt;obtain⟨q1,ca,sz,q2,q3,q4⟩:=ho;have q5:=Na hcs q3;exact⟨q1,ca,sz,q2,⟨q5.1,fun i x v hx hv=>hval (q5.2 i x v hx hv) (ri hol hx)⟩,q4⟩
     | arr X L enc t=>
       cases o' with
       |cells cs' t'=>exact hf.elim
       | arr X' L' enc' t'=>
         obtain⟨htt,hLL⟩:=cd hf;have htt:=Ad htt;subst htt
         cases hLL;exact ho.congr (a':=a) rfl|>fun ho=>by
           obtain⟨g1,g2,g3,g4,g5⟩:=ho;exact⟨g1,g2,g3,g4,g5⟩
 . intro p q o o' I J hp hq hI hJ hc hc' e;have hI':=hback p I hI hc;have hJ':=hback q J hJ hc';obtain⟨o1,g1⟩:=hlive p o I hp hI';obtain⟨o2,g2⟩:=hlive q o' J hq hJ';exact H.inj p q o1 o2 I J g1 g2 hI' hJ' hc hc' e
 . intro p o I hp hI hc;have hI':=hback p I hI hc;obtain⟨o1,g1⟩:=hlive p o I hp hI';exact H.dj p o1 I g1 hI' hc
 . intro p I hI;simp only[Cy]at hI;split at hI
   . assumption
   . cases hI
 . intro sv v hsv;have hlt:=hsv.low hC0;have h3:=hT.val _ _ hsv;rw[CN _ _ base hlt hnow]at h3;show aA Cy (gC log sv) v
   rw[CN _ _ base hlt hlog];exact hval h3 (hsv.low (fun p I hI=>AJ (hC0 p I hI) hbn))
 . intro p o I hp hI hc hn;have hpb:=hb0 p o hp;have hn':p∉jr s.log:=by
     have:∀(l:List Ev),(∀e∈l,base<=e.id)->p∉jr l:=by
       intro l;induction l with
       |nil=>intro _ h;cases h
       | cons e l ih=>
         intro he hm;have h1:=he e An
         cases e<;>simp only[jr,Ev.id]at hm h1
         . rcases Ag.1 hm with rfl|hm
           . omega
           . exact ih (fun e' h'=>he e' (Al _ h')) hm
         . rcases Ag.1 hm with rfl|hm
           . omega
           . exact ih (fun e' h'=>he e' (Al _ h')) hm
         . exact ih (fun e' h'=>he e' (Al _ h')) hm
     exact this _ hnow
   obtain⟨g1,g2⟩:=hK p o I hp hI hc hn';refine⟨g1,?_⟩;rcases g2 with⟨o',q1,q2⟩|g2
   . have:=AA.1 hst p (Eg.2 hpb);rw[q1]at this
     cases hz:eh.get p with
     |none=>rw[hz]at this;cases this
     |some o2=>exact .inl ⟨o2,rfl,hρ p I (by omega) q2⟩
   . exact .inr g2
theorem FV (pr:fg P tab) (htab:cfg.tab=tab) (hcon:∀g C,cfg.fS g=some C->bO P tab g C) (hdraw:∀rec,mL P tab rec->w7 P tab cfg rec):∀(n:Nat),mL P tab (wp cfg n)/\ ∀(fn:FuncId) (nt base:Nat) (todo:List dD) (s:St) (Q:SV->St->Prop) (C0:Cx) (h0:SH) (a0:AH),(∀p I,C0.ρ p=some I->p<base)->(∀p o,h0.get p=some o->p<base)->∀(fr:ag) (a:AH),
  wp cfg n ⟨fn,nt,base,todo,s⟩ Q->gG fr fn nt->
  TS (fun gq b k'=>∀(ts:Fr) (h:SH) (log:List Ev) (fr:ag) (a:AH),gq ts h log->fr.todo= .inLoop b::k'->gG fr fn nt->SI tab C0 h0 a0 fr.tmps a ⟨ts,h,log⟩->dM P {fr,cs:=[],h:=a} (gH tab C0 h0 a0 Q)) todo fr.todo->
  SI tab C0 h0 a0 fr.tmps a s->dM P {fr,cs:=[],h:=a} (gH tab C0 h0 a0 Q):=by
 intro n;induction n with
 |zero=>exact⟨fun f fn body args h a C avs Q _ _ h'=>h'.elim,fun fn nt base todo s Q C0 h0 a0 _ _ fr a h=>h.elim⟩
 | succ n ihn=>
  obtain ⟨ihrec,ih⟩:=ihn;have walk:∀(fn:FuncId) (nt base:Nat) (todo:List dD) (s:St) (Q:SV->St->Prop) (C0:Cx) (h0:SH) (a0:AH),(∀p I,C0.ρ p=some I->p<base)->(∀p o,h0.get p=some o->p<base)->∀(fr:ag) (a:AH),
     wp cfg (n+1) ⟨fn,nt,base,todo,s⟩ Q->gG fr fn nt->
     TS (fun gq b k'=>∀(ts:Fr) (h:SH) (log:List Ev) (fr:ag) (a:AH),gq ts h log->fr.todo= .inLoop b::k'->gG fr fn nt->SI tab C0 h0 a0 fr.tmps a ⟨ts,h,log⟩->dM P {fr,cs:=[],h:=a} (gH tab C0 h0 a0 Q)) todo fr.todo->
     SI tab C0 h0 a0 fr.tmps a s->dM P {fr,cs:=[],h:=a} (gH tab C0 h0 a0 Q):=by
    intro fn nt base todo s Q C0 h0 a0 hC0 hh0 fr a h hf hts hS;have iI:∀(k:List dD) (k':List bj) (s':St),wp cfg n ⟨fn,nt,base,k,s'⟩ Q->(Am.step tab sub0 {fr,cs:=[],h:=a}= .ok (.next {fr:={fr with todo:=k'},cs:=[],h:=a}))->
      TS (fun gq b k'=>∀(ts:Fr) (h:SH) (log:List Ev) (fr:ag) (a:AH),gq ts h log->fr.todo= .inLoop b::k'->gG fr fn nt->SI tab C0 h0 a0 fr.tmps a ⟨ts,h,log⟩->dM P {fr,cs:=[],h:=a} (gH tab C0 h0 a0 Q)) k k'->
      SI tab C0 h0 a0 fr.tmps a s'->dM P {fr,cs:=[],h:=a} (gH tab C0 h0 a0 Q):=fun k k' s' hw hstep hk hS'=>dM.next pr hstep (ih fn nt base k s' Q C0 h0 a0 hC0 hh0 _ a hw (hf.todo fr.tmps k') hk hS')
    generalize htodo:fr.todo=todo' at hts
    simp only[wp]at h
    cases hts with
    |nil=>exact Gy pr htab h hf hS (.inl htodo)
    |inBlock id hk=>exact iI _ _ s h (by simp only[Am.step,hf.mode,htodo]) hk hS
    |inScope b hk=>exact iI _ _ s h (by simp only[Am.step,hf.mode,htodo]) hk hS
    |inLoop b hk=>exact iI _ _ s h (by simp only[Am.step,hf.mode,htodo]) (.code b (.inLoop b hk)) hS
    |head gq b hk ho=>exact ho s.ts s.h s.log fr a h htodo hf hS
    | @inRegion k k' ops l hk=>
     cases l with
     |nil=>exact iI _ _ s h (by simp only[Am.step,hf.mode,htodo]) hk hS
     |cons i rest=>
      simp only at h;split at h
      . rename_i o ho;obtain⟨C,hF,H,hT,hG,hK⟩:=hS;obtain⟨b,s1,h1,hw,hF1,eh,el⟩:=wo h hF;have hfin:∀v,fr.finish v= .ok {fr with tmps:=fr.put o.dst v,todo:= .inRegion ops rest::k'}:=by
          intro v;unfold ag.finish;rw[htodo];simp only[ho,BM]
        have hput:∀(v:AV),fr.put o.dst v=fB nt fr.tmps o.dst v:=by
          intro v;unfold ag.put fB;rw[hf.nt]
          cases o.dst<;>rfl
        have H1:HS tab C s1.h a:=by rw[eh];exact H
        have hT1:Tr C0 s1.log C:=by rw[el];exact hT
        have hK1:cr C0 h0 a0 s1.log C s1.h a:=by rw[el,eh];exact hK
        cases b with
        | false=>
          simp only[AN]at h1;obtain⟨s2,k1,k2,k3,k4⟩:=pT (v:= .bB []) h1 hF1 (.pure (.bB rfl (fun i c v hc=>by simp at hc)));refine dM.next pr (m':={fr:={fr with tmps:=fr.put o.dst (.bB []),todo:= .inRegion ops rest::k'},cs:=[],h:=a}) (by
           simp only[Am.step,hf.mode,htodo,ho];rw[rb hw];simp only[Ai,Az];rw[rb (hfin _),hf.mode]) (ih fn nt base _ s2 Q C0 h0 a0 hC0 hh0 _ a k1 (hf.todo _ _) (.inRegion ops rest hk) ⟨C,?_,by rw[k3];exact H1,by rw[k4];exact hT1,hG,by rw[k3,k4];exact hK1⟩)
          simp only;rw[hput];exact k2
        | true=>
          simp only[Bd]at h1;refine P0 pr hf.mode htodo ho hw (Fj htab ihrec hcon h1 hF1 H1) (fun v=>⟨_,hfin v⟩) ?_;rintro v a1 ⟨sv,s2,k1,k2⟩ fr' hfr;rw[hfin v]at hfr
          cases hfr;obtain⟨C',q1,q2,q3,q4,q5,q6⟩:=SI.res H1 hT1 hG hK1 k2;obtain⟨s3,r1,r2,r3,r4⟩:=pT k1 q2 q1;refine ih fn nt base _ s3 Q C0 h0 a0 hC0 hh0 _ a1 r1 (hf.todo _ _) (.inRegion ops rest hk) ⟨C',?_,by rw[r3];exact q3,by rw[r4];exact q4,q5,by rw[r3,r4];exact q6⟩;simp only;rw[hput];exact r2
      . exact h.elim
    | @code k k' c hk=>
     cases c with
     |skip=>exact iI _ _ s h (by simp only[Am.step,hf.mode,htodo]) hk hS
     |label l=>exact iI _ _ s h (by simp only[Am.step,hf.mode,htodo]) hk hS
     |ret=>exact Gy pr htab h hf hS (.inr ⟨_,htodo⟩)
     |seq x y=>exact iI _ _ s h (by simp only[Am.step,hf.mode,htodo]) (.code x (.code y hk)) hS
     |block id b=>exact iI _ _ s h (by simp only[Am.step,hf.mode,htodo]) (.code b (.inBlock id hk)) hS
     |scope b=>exact iI _ _ s h (by simp only[Am.step,hf.mode,htodo]) (.code b (.inScope b hk)) hS
     |exit id=>
      simp only at h;split at h
      . rename_i k1 hk1;obtain⟨k1',g1,g2⟩:=hk.exit hk1;exact iI _ _ s h (by simp only[Am.step,hf.mode,htodo,g1]) g2 hS
      . exact h.elim
     |cond x y z=>
      simp only at h;split at h
      . rename_i p hp;obtain⟨C,hF,H,hT,hG,hK⟩:=hS;obtain⟨v,g1,g2⟩:=jF hF hp;rw[kS g2]at g1;rcases uM h with⟨rfl,h⟩|⟨rfl,h⟩
        . obtain⟨f1,f2,f3⟩:=FE hF hp;exact iI _ _ _ h (by simp only[Am.step,hf.mode,htodo];rw[rb g1]) (.code y hk) ⟨C,f1,by rw[f2];exact H,by rw[f3];exact hT,hG,by rw[f2,f3];exact hK⟩
        . obtain⟨f1,f2,f3⟩:=FE hF hp;exact iI _ _ _ h (by simp only[Am.step,hf.mode,htodo];rw[rb g1]) (.code z hk) ⟨C,f1,by rw[f2];exact H,by rw[f3];exact hT,hG,by rw[f2,f3];exact hK⟩
      . exact h.elim
     |region id ops d=>
      cases d with
      |false=>exact iI _ _ s h (by simp only[Am.step,hf.mode,htodo]) (.inRegion ops _ hk) hS
      | true=>
        simp only at h;obtain⟨hlt,h⟩:=cd h;obtain⟨C,hF,H,hT,hG,hK⟩:=hS;rw[<-hf.nt]at h;have hd:=hdraw (wp cfg n) ihrec ops fr.nt _ s _ fr.tmps a C h hF H;refine PN pr hf.mode htodo hlt (n:=ops.size+1) (eW.mono ?_ _ _ hd);rintro sF ⟨s',C',new,k1,k2,k3,k4,k5,k6,k7⟩;rw[hf.nt]at k1;exact ih fn nt base _ s' Q C0 h0 a0 hC0 hh0 _ sF.h k1 (hf.todo _ _) hk ⟨C',k5,k4,by rw[k2];exact hT.trans k3,hG.trans k6,by rw[k2];exact hK.trans k7 k3.fz H.fz k4.fz⟩
     |loop b=>
      simp only at h;split at h
      . exact iI _ _ s h (by simp only[Am.step,hf.mode,htodo]) (.code b (.inLoop b hk)) hS
      . rename_i A0 hA0;obtain⟨A,h⟩:=MK h;have hS:=hS.eg (kK s.ts A.eg);have h:(∃x:A.α,A.ok x/\jh (cR A s).ts (cR A s).h (A.at (cR A s) x).2 (A.at (cR A s) x).1/\kJ cfg.tab (cR A s).h (A.at (cR A s) x).2/\ck (stay base (cR A s).h (A.at (cR A s) x).2) True)/\
           ∀x:A.α,A.ok x->ck ((cR A s).log.all (fun e=>Nat.ble base e.id)&&(low (A.at (cR A s) x).1 (A.at (cR A s) x).2&&Nat.ble base (A.at (cR A s) x).2.next)) (wp cfg n ⟨fn,nt,base, .code b:: .head (xF cfg A (cR A s) base x)::k,⟨(A.at (cR A s) x).1,(A.at (cR A s) x).2,(cR A s).log⟩⟩ Q):=h
        have hS:SI tab C0 h0 a0 fr.tmps a (cR A s):=hS;generalize cR A s=s at h hS
        obtain⟨⟨x0,hx0,hf1,hf2,hf3⟩,hall⟩:=h;have hrest:∀x,A.ok x->(∀e∈s.log,base<=e.id)/\low (A.at s x).1 (A.at s x).2=true/\base<=(A.at s x).2.next/\wp cfg n ⟨fn,nt,base, .code b:: .head (xF cfg A s base x)::k,⟨(A.at s x).1,(A.at s x).2,s.log⟩⟩ Q:=by
          intro x hx;obtain⟨g1,g2⟩:=cd (hall x hx);simp only[Ab,AA]at g1;exact⟨fun e he=>Aj (g1.1 e he),g1.2.1,Aj g1.2.2,g2⟩
        have loop:∀(m:Nat) (x:A.α),A.μ x=m->A.ok x->∀(fr2:ag) (a2:AH),fr2.todo= .code b:: .inLoop b::k'->gG fr2 fn nt->SI tab C0 h0 a0 fr2.tmps a2 ⟨(A.at s x).1,(A.at s x).2,s.log⟩->dM P {fr:=fr2,cs:=[],h:=a2} (gH tab C0 h0 a0 Q):=by
          intro m;induction m using Nat.strongRecOn with
          |_ m ihm=>
           intro x hm hx fr2 a2 ht2 hf2 hS2;obtain⟨_,_,_,hw⟩:=hrest x hx;refine ih fn nt base _ _ Q C0 h0 a0 hC0 hh0 fr2 a2 hw hf2 ?_ hS2;rw[ht2];refine .code b (.head _ b hk ?_);intro ts hh log fr3 a3 hchk ht3 hf3 hS3;have hS3:=hS3.eg (kK ts A.eg);have hchk:ck ((cR A ⟨ts,hh,log⟩).log.all fun e=>Nat.ble base e.id) (∃y:A.α,A.ok y/\A.μ y<A.μ x/\jh (cR A ⟨ts,hh,log⟩).ts (cR A ⟨ts,hh,log⟩).h (A.at s y).2 (A.at s y).1/\kJ cfg.tab (cR A ⟨ts,hh,log⟩).h (A.at s y).2/\ck (stay base (cR A ⟨ts,hh,log⟩).h (A.at s y).2) True):=hchk;have hS3:SI tab C0 h0 a0 fr3.tmps a3 (cR A ⟨ts,hh,log⟩):=hS3;generalize cR A ⟨ts,hh,log⟩=s3 at hchk hS3
           obtain⟨hcov,y,hy,hμ,q1,q2,q3⟩:=cd hchk;obtain⟨l0,l1,l2,_⟩:=hrest y hy;obtain⟨C,hF,H,hT,hG,hK⟩:=hS3;have hpre:(∀e∈s3.log,base<=e.id)/\ ∀e∈s.log,base<=e.id:=⟨fun e he=>Aj (AA.1 hcov e he),l0⟩;have hSy:=Gk htab hC0 (s:=s3) hpre hF H hT hG hK hh0 q1 q2 l1 l2 (cd q3).1;refine dM.next pr (m':={fr:={fr3 with todo:= .code b:: .inLoop b::k'},cs:=[],h:=a3}) (by simp only[Am.step,hf3.mode,ht3]) ?_;exact ihm (A.μ y) (by omega) y rfl hy _ a3 rfl (hf3.todo fr3.tmps _) hSy
        obtain⟨l0,l1,l2,_⟩:=hrest x0 hx0;obtain⟨C,hF,H,hT,hG,hK⟩:=hS;have hS0:=Gk htab hC0 (log:=s.log) ⟨l0,l0⟩ hF H hT hG hK hh0 hf1 hf2 l1 l2 (cd hf3).1;refine dM.next pr (m':={fr:={fr with todo:= .code b:: .inLoop b::k'},cs:=[],h:=a}) (by simp only[Am.step,hf.mode,htodo]) ?_;exact loop _ x0 rfl hx0 _ a rfl (hf.todo fr.tmps _) hS0
     |_=>exact h.elim
  refine⟨?_,walk⟩;intro f fn body args h a C avs Q hfn hb hw H hs;refine walk f _ h.next _ _ Q C h a H.lt (fun p o hp=>?_) _ a hw ⟨rfl,?_,rfl,rfl,rfl,rfl⟩ (.code body .nil) ⟨C,?_,H,Tr.refl C,Grow.refl a,cr.same _ _ _ _⟩
  . obtain⟨I,hI,_⟩:=H.obj p o hp;exact H.lt p I hI
  . simp only[ag.enter];rw[hs.1]
  . have hlook:∀(l:List SV) (k t:Nat),look (Fr.of l k) t=if k<=t then l[t - k]? else none:=by
     intro l;induction l with
     |nil=>intro k t;simp[Fr.of,look]
     |cons v l ih=>
      intro k t;simp only[Fr.of,iZ,ih];by_cases h1:t=k
      . subst h1;simp
      . rw[if_neg h1];by_cases h2:k<=t
        . rw[if_pos (by omega),if_pos h2,show t - k=(t - (k+1))+1 from by omega,A8]
        . rw[if_neg (by omega),if_neg h2]
    intro t q hq;rw[hlook]at hq;simp only[Bf,if_true,Dc]at hq;obtain⟨v,h1,h2⟩:=hs.get hq;simp only[ag.enter];rw[j7,h1];exact h2
theorem L7 (pr:fg P tab) (htab:cfg.tab=tab) (hcon:∀g C,cfg.fS g=some C->bO P tab g C) (hdraw:∀rec,mL P tab rec->w7 P tab cfg rec):∀n,mL P tab (wp cfg n):=fun n=>(FV pr htab hcon hdraw n).1
end
end
section
universe u v
variable [Inhabited aD]
section
variable {tab:aR} {ta:T AV}
def Part (h0 h:AH):Prop:=∀i o,h0.get i=some o->h.get i=some o
theorem vw {h0 h:AH} (hs:Part h0 h) {b:Nat} {r} (hp:iw h0 b= .ok r):iw h b= .ok r:=by
 unfold iw at hp⊢;split at hp
 . rename_i hg;rw[hs _ _ hg];exact hp
 . cases hp
theorem H5 {h0 h:AH} (hs:Part h0 h) {t b off:Nat} {r} (hp:Am.loadVar tab h0 t b off= .ok r):Am.loadVar tab h t b off= .ok r:=by
 unfold Am.loadVar readN at hp⊢;obtain⟨p,h1,hp⟩:=ah.1 hp;rw[rb h1];split at hp
 . rename_i hc;simp only[hc,if_true];obtain⟨n,h2,hp⟩:=ah.1 hp;obtain⟨cs,h3,hp⟩:=ah.1 hp;obtain⟨c,h4,h3⟩:=ah.1 h3;rw[rb h2,rb (show(iw h b>>=_)=_ from by rw[rb (vw hs h4)];exact h3)];exact hp
 . rename_i hc;simp only[hc,Az];obtain⟨c,h4,hp⟩:=ah.1 hp;rw[rb (vw hs h4)];exact hp
theorem Iw {h0 h:AH} (hs:Part h0 h) {b:Nat} {c:fb} {r} (hp:capLow h0 b c= .ok r):capLow h b c= .ok r:=by
 cases c with
 |lit n=>exact hp
 |tail k=>
  simp only[capLow]at hp⊢;obtain⟨x,h1,hp⟩:=ah.1 hp;rw[rb (vw hs h1)];exact hp
theorem II {h0 h h1:AH} (hs:Part h0 h) {t:TypeId} {x v:AV} {lo hi:Option Operand} (hp:iy tab ta h0 t x lo hi none= .ok (v,h1)):iy tab ta h t x lo hi none= .ok (v,h):=by
 unfold iy at hp⊢;obtain⟨d,hd,hp⟩:=ah.1 hp;rw[rb hd];split at hp
 . obtain⟨_,h1,hp⟩:=ah.1 hp;obtain⟨l,h2,hp⟩:=ah.1 hp;obtain⟨u,h3,hp⟩:=ah.1 hp;obtain⟨_,h4,hp⟩:=ah.1 hp
   cases hp;rw[rb h1,rb h2,rb h3,rb h4]
 . obtain⟨_,h0,hp⟩:=ah.1 hp;obtain⟨l,h1,hp⟩:=ah.1 hp;obtain⟨u,h2,hp⟩:=ah.1 hp;obtain⟨m,h3,hp⟩:=ah.1 hp;obtain⟨_,h4,hp⟩:=ah.1 hp
   cases hp;rw[rb h0,rb h1,rb h2,rb h3,rb h4]
 . rename_i cap _;obtain⟨c,h0,hp⟩:=ah.1 hp;obtain⟨n,h1,hp⟩:=ah.1 hp;obtain⟨l,h2,hp⟩:=ah.1 hp;obtain⟨u,h3,hp⟩:=ah.1 hp;rw[rb (Iw hs h0),rb h1,rb h2,rb h3];simp only at hp⊢
   cases cap with
   |lit m=>
    simp only at hp⊢;obtain⟨_,h4,hp⟩:=ah.1 hp
    cases hp;rw[rb h4]
   |tail k=>
    simp only at hp⊢;obtain⟨_,h4,hp⟩:=ah.1 hp;rw[rb h4]
    cases h5:Nat.beq l 0<;>rw[h5]at hp<;>simp only[Bd,AN]at hp⊢
    . cases h6:Nat.blt l c<;>rw[h6]at hp<;>simp only[Bd,AN]at hp⊢ <;>(cases hp;rfl)
    . cases hp;rfl
 . obtain⟨_,h0,hp⟩:=ah.1 hp;obtain⟨l,h1,hp⟩:=ah.1 hp;obtain⟨u,h2,hp⟩:=ah.1 hp;obtain⟨_,h4,hp⟩:=ah.1 hp
   cases hp;rw[rb h0,rb h1,rb h2,rb h4]
 . obtain⟨_,h0,hp⟩:=ah.1 hp;obtain⟨l,h1,hp⟩:=ah.1 hp;obtain⟨u,h2,hp⟩:=ah.1 hp;obtain⟨_,h4,hp⟩:=ah.1 hp
   cases hp;rw[rb h0,rb h1,rb h2,rb h4]
 . cases hp
theorem zH {h0 h:AH} (hs:Part h0 h) {t:TypeId} {x y:AV} {r} (hp:eqOp tab h0 t x y= .ok r):eqOp tab h t x y= .ok r:=by
 unfold eqOp at hp⊢;split at hp
 . obtain⟨d,hd,hp⟩:=ah.1 hp;rw[rb hd];split at hp
   . obtain⟨n,h1,hp⟩:=ah.1 hp;obtain⟨_,h2,hp⟩:=ah.1 hp;rw[rb h1,rb h2];split at hp
     . rename_i hc;simp only[hc,if_true];exact hp
     . rename_i hc;simp only[hc,Az];split at hp
       . rename_i g1 g2;rw[hs _ _ g1,hs _ _ g2];exact hp
       . cases hp
   . cases hp
 . exact hp
 . cases hp
 . exact hp
theorem Jt {h0 h:AH} (hs:Part h0 h) {op:BinOp} {t:TypeId} {x y:AV} {r} (hp:Am.binOp tab h0 op t x y= .ok r):Am.binOp tab h op t x y= .ok r:=by
 unfold Am.binOp at hp⊢;split at hp
 . exact hp
 . exact hp
 . exact hp
 . exact hp
 . obtain⟨b,h1,hp⟩:=ah.1 hp;rw[rb (zH hs h1)];exact hp
 . obtain⟨b,h1,hp⟩:=ah.1 hp;rw[rb (zH hs h1)];exact hp
 . cases hp
theorem J7 {h0 h:AH} (hs:Part h0 h) {u:TypeDesc} {x:AV} {r} (hp:lenOf h0 u x= .ok r):lenOf h u x= .ok r:=by
 unfold lenOf at hp⊢;split at hp
 . exact hp
 . exact hp
 . exact hp
 . exact hp
 . exact hp
 . exact hp
 . obtain⟨q,h1,hp⟩:=ah.1 hp;unfold qi at h1⊢;split at h1
   . rename_i hg
     cases h1;simp only[hs _ _ hg];exact hp
   . cases h1
 . exact hp
 . cases hp
theorem vv {h0 h h1:AH} (hs:Part h0 h) {ats:Array TypeId} {l:List AV} {b:Builtin} (hb:b= .len\/b= .min\/b= .max) {v:AV} (hp:Am.builtin tab b ats l h0= .ok (v,h1)):Am.builtin tab b ats l h= .ok (v,h):=by
 rcases hb with rfl|rfl|rfl
 . cases l with
   |nil=>cases hp
   | cons x l=>
    cases l with
    |cons y l=>cases hp
    |nil=>
     unfold Am.builtin at hp⊢;simp only at hp⊢;obtain⟨t,h1,hp⟩:=ah.1 hp;obtain⟨u,h2,hp⟩:=ah.1 hp;rw[rb h1,rb h2];split at hp
     . obtain⟨w,h3,hp⟩:=ah.1 hp;rw[rb h3];split at hp
       . cases hp;rfl
       . cases hp
     . obtain⟨n,h3,hp⟩:=ah.1 hp;rw[rb (J7 hs h3)]
       cases hp;rfl
 . cases l with
   |nil=>cases hp
   |cons x l=>
    cases x<;>first|(cases hp;done)|skip
    unfold Am.builtin at hp⊢;simp only at hp⊢;obtain⟨t,h1,hp⟩:=ah.1 hp;rw[rb h1];cases hp;rfl
 . cases l with
   |nil=>cases hp
   |cons x l=>
    cases x<;>first|(cases hp;done)|skip
    unfold Am.builtin at hp⊢;simp only at hp⊢;obtain⟨t,h1,hp⟩:=ah.1 hp;rw[rb h1];cases hp;rfl
def qx (op:Op):Bool:=
 match op with
 | .lookup .. | .entry _| .typeAssert .. =>false
 | .slice _ _ _ _ (some _)=>false
 | .call c=>match c.callee with| .builtin .cap=>false|_=>true
 |_=>true
theorem vF {o:Oper} (hc:cls tab o= .pure\/cls tab o= .read) (hlk:qx o.op=true)
  {h0 h h1:AH} (hs:Part h0 h) {v:AV} (hp:dZ tab ta h0 o= .ok (v,h1)):dZ tab ta h o= .ok (v,h):=by
 obtain⟨dst,op,type,pos,after,guard⟩:=o;unfold dZ at hp⊢
 cases op<;>simp only[cls]at hc<;>simp only at hp⊢
 case slice t x lo hi mx=>
  cases mx with
  |some m=>cases hlk
  | none=>
    obtain⟨a,ha,hp⟩:=ah.1 hp;rw[rb ha];exact II hs hp
 case load t a=>
  obtain⟨p,h1,hp⟩:=ah.1 hp;rw[rb h1];split at hp
  . obtain⟨u,h2,hp⟩:=ah.1 hp;rw[rb (H5 hs h2)];cases hp;rfl
  . cases hp
 case binOp op t x y e=>
  obtain⟨p,h1,hp⟩:=ah.1 hp;obtain⟨q,h2,hp⟩:=ah.1 hp;obtain⟨u,h3,hp⟩:=ah.1 hp;rw[rb h1,rb h2,rb (Jt hs h3)];cases hp;rfl
 case convert src dst x=>
  obtain⟨k,j,e1,e2⟩:=Cw hc;obtain⟨w,h1,hp⟩:=ah.1 hp;obtain⟨i,n,rfl,rfl,_⟩:=FQ e1 e2 hp;rw[rb h1];exact ze e1 e2 i n h
 case lookup=>cases hlk
 case entry=>cases hlk
 case typeAssert=>cases hlk
 case call c=>
  cases hcc:c.callee with
  | builtin b=>
    rw[hcc]at hp hc;simp only at hp hc⊢;obtain⟨l,hl,hp⟩:=ah.1 hp;rw[rb hl]
    cases b<;>first
     |exact vv hs (.inl rfl) hp
     |exact vv hs (.inr (.inl rfl)) hp
     |exact vv hs (.inr (.inr rfl)) hp
     |(simp only[qx,hcc]at hlk;cases hlk;done)
     |(rcases hc with hc|hc<;>cases hc)
  |value f=>rw[hcc]at hp;cases hp
  |invoke r m=>rw[hcc]at hp;cases hp
 all_goals first
  |(rcases hc with hc|hc<;>cases hc;done)
  |skip
 all_goals (repeat' first
  |(cases hp;done)
  |(cases hp;rfl)
  |(obtain⟨_,hx,hp⟩:=ah.1 hp;rw[rb hx];clear hx)
  |split at hp)
end
end
section
universe u v
variable [Inhabited aD]
section
variable {tab:aR} {view:TypeId->Option View} {C:Cx} {s:St} {ta:T AV} {a:AH} {h:SH}
def bI (C:Cx) (s:St) (a:AH) (K:SV->St->Prop) (r:R (AV×AH)):Prop:=∃sv v,K sv s/\r= .ok (v,a)/\aA C sv v
theorem bI.same {K:SV->St->Prop} {sv:SV} {v:AV} (hv:aA C sv v) (hk:K sv s):bI C s a K (.ok (v,a)):=⟨sv,v,hk,rfl,hv⟩
theorem bI.val {K:SV->St->Prop} {r:R AV} (h:eZ C (fun v=>K v s) r):bI C s a K (do .ok (<-r,a)):=by
 obtain⟨sv,v,h1,h2,h3⟩:=h;rw[rb h1];exact bI.same h2 h3
theorem I7 (hF:FS C s.ts ta) (H:HS tab C s.h a) {t:TypeId} {x:SV} {v:AV} (hv:aA C x v) {lo hi:Option Operand} {K:SV->St->Prop} (hK:∀sv s1,K sv s1->s1.log=s.log) (h:ru tab s t x lo hi K):bI C s a K (iy tab ta a t v lo hi none):=by
 unfold ru at h;obtain⟨l,h1,hl⟩:=tT hF h;obtain⟨u,h2,hu⟩:=tT hF h1;clear h h1;have h:=h2;clear h2;have o1:∀d:R Nat,eF ta d lo=jk l d:=fun d=>(hl d).1
 have o2:∀d:R Nat,eF ta d hi=jk u d:=fun d=>(hu d).1
 clear hl hu;split at h
 . rename_i c hg;rw[gj hv];obtain⟨h1,h2,h3⟩:=pP h;unfold iy;rw[rb (show und tab t=_ from ro hg)];simp only;rw[rb (show R.check "slice: max" (none:Option Operand).isNone= .ok ()from rfl),rb (show eF ta (.ok 0) lo= .ok (l.getD 0)from by rw[o1];cases l<;>rfl),rb (show eF ta (.ok c.length) hi= .ok (u.getD c.length)from by rw[o2];cases u<;>rfl),
     rb (rc (by simp only[Ab,AQ];omega))]
   exact bI.same (.pure (.str _)) h3
 . rename_i e X L enc hg;split at h
   . rename_i n hn;obtain⟨hlen,h⟩:=h;obtain⟨h1,h2,h3⟩:=pP h;obtain⟨w,h4,h5⟩:=sZ hg hn H.fz (jT hv rfl) hlen o1 o2 h1 h2;rw[h4];exact bI.same (.pure h5) h3
   . exact h.elim
 . rename_i e b hg;split at h
   . rename_i X L enc t' n hb hn;obtain⟨hlen,h⟩:=h;obtain⟨h1,h2,h3⟩:=pP h;obtain⟨C',e1,e2,e3,e4,e5,e6⟩:=j9 hF H hb;obtain⟨w,h4,h5⟩:=sZ hg hn e3.fz (e5 v hv) hlen o1 o2 h1 h2;have:=hK _ _ h3;rw[e1]at this;simp at this
   . exact h.elim
 . rename_i e b off len cap hg;split at h
   . rename_i n hn;obtain⟨h1,h2⟩:=cd h;simp only[Ab]at h1
     cases hv with
     |pure hv=>cases hv
     | sl hI=>
      unfold iy;rw[rb (show und tab t=_ from ro hg)];simp only;rw[rb (show capLow a _ (.lit cap)= .ok cap from rfl),rb (show siz tab e= .ok n from ro hn),rb (show eF ta (.ok 0) lo= .ok (l.getD 0)from by rw[o1];cases l<;>rfl),
       rb (show eF ta (.ok len) hi= .ok (u.getD len)from by rw[o2];cases u<;>rfl),
       rb (rc (by simp only[Ab];exact h1))]
      exact bI.same (.sl hI) h2
   . exact h.elim
 . exact h.elim
theorem vo (hF:FS C s.ts ta) (H:HS tab C s.h a) {b:Builtin} {ats:Array TypeId} {l:List SV} {vs:List AV} (hl:aM C l vs) (hb:b= .len\/b= .min\/b= .max) {K:SV->St->Prop} (h:pI tab view s b ats l K):bI C s a K (Am.builtin tab b ats vs a):=by
 unfold pI at h;split at h
 ·
   rename_i x;have hv:∃v,vs=[v]/\aA C x v:=by
    cases vs with
    |nil=>have:=hl.1;simp at this
    | cons v vs=>cases vs with
      |nil=>exact⟨v,rfl,hl.head.1⟩
      |cons=>have:=hl.1;simp at this
   obtain⟨v,rfl,hx⟩:=hv;unfold Am.builtin;simp only
   cases ht:ats[0]? with
   |none=>rw[ht]at h;simp at h
   |some t=>
    rw[ht]at h;simp only[BM]at h;rw[rb (ro rfl)];split at h
    . rename_i hg;split at h
      . rw[gj hx,rb (show und tab t=_ from ro hg)];exact bI.same (.pure (.int _ _)) h
      . exact h.elim
    . rename_i e hg;obtain⟨n,h1,h2⟩:=cF h;rw[rb (show und tab t=_ from ro hg)];simp only;rw[rb (FC H hx h1)];exact bI.same (.pure (.int _ _)) h2
    . exact h.elim
 . rcases hb with hb|hb|hb<;>cases hb
 ·
   rename_i k x l
   cases vs with
   |nil=>have:=hl.1;simp at this
   |cons v vs=>
    obtain⟨h1,h2⟩:=hl.head;rw[hZ h1];obtain⟨sv,h3,h4⟩:=cF h;obtain⟨v,h5,h6⟩:=F2 h2 h3;unfold Am.builtin;simp only;rw[rb h5];exact bI.same h6 h4
 ·
   rename_i k x l
   cases vs with
   |nil=>have:=hl.1;simp at this
   |cons v vs=>
    obtain⟨h1,h2⟩:=hl.head;rw[hZ h1];obtain⟨sv,h3,h4⟩:=cF h;obtain⟨v,h5,h6⟩:=FD h2 h3;unfold Am.builtin;simp only;rw[rb h5];exact bI.same h6 h4
 . exact h.elim
theorem Mo (hF:FS C s.ts ta) (H:HS tab C s.h a) {o:Oper} (hc:cls tab o= .pure\/cls tab o= .read) {K:SV->St->Prop} (hK:∀sv s1,K sv s1->s1.log=s.log) (h:kD tab view s o K):qx o.op=true/\bI C s a K (dZ tab ta a o):=by
 obtain⟨dst,op,type,pos,after,guard⟩:=o;unfold kD at h;unfold dZ;have same1:∀{x:Operand} {K':SV->Prop},so (eJ s.ts x) K'->∃sv v,ev ta x= .ok v/\aA C sv v/\K' sv:=by
  intro x K' h;obtain⟨sv,h1,h2⟩:=cF h;obtain⟨v,h3,h4⟩:=jF hF h1;exact⟨sv,v,h3,h4,h2⟩
 cases op<;>simp only at h⊢ <;>simp only[cls,qx]at hc⊢
 case move x=>
  refine⟨trivial,?_⟩;obtain⟨sv,v,h3,h4,h2⟩:=same1 h;rw[cT h3];exact bI.same h4 h2
 case assign x=>
  refine⟨trivial,?_⟩;obtain⟨sv,v,h3,h4,h2⟩:=same1 h;rw[cT h3];exact bI.same h4 h2
 case pick c x y=>
  refine⟨trivial,?_⟩;split at h
  . rename_i p hc;obtain⟨v,h3,h4⟩:=jF hF hc;rw[kS h4]at h3;rw[cT h3];split at h
    . rename_i p1 p2 hx hy;obtain⟨u,g1,g2⟩:=jF hF hx;obtain⟨w,g3,g4⟩:=jF hF hy;rw[kS g2]at g1;rw[kS g4]at g3
      cases p
      . simp only;rw[cT g3];exact bI.same (.pure (.bool _)) h
      . simp only;rw[cT g1];exact bI.same (.pure (.bool _)) h
    . rcases uM h with⟨rfl,h⟩|⟨rfl,h⟩
      . obtain⟨sv,v,h3,h4,h2⟩:=same1 h;simp only;rw[cT h3];exact bI.same h4 h2
      . obtain⟨sv,v,h3,h4,h2⟩:=same1 h;simp only;rw[cT h3];exact bI.same h4 h2
  . exact h.elim
 case build t ps=>
  refine⟨trivial,?_⟩;obtain⟨l,h1,h2⟩:=cF h;obtain⟨sv,h3,h4⟩:=cF h2;obtain⟨vs,g1,g2,g3⟩:=tk hF h1;obtain⟨v,g4,g5⟩:=zS g2 g3 h3;rw[rb g1,rb g4];exact bI.same g5 h4
 case load t x=>
  refine⟨trivial,?_⟩;obtain⟨sv,v,h3,h4,h2⟩:=same1 h;obtain⟨b,off,u,su,rfl,g1,g2,g3⟩:=wu H h4 h2;rw[cT h3];simp only;rw[rb g1];exact bI.same g2 g3
 case nilCheck x=>
  refine⟨trivial,?_⟩;obtain⟨sv,v,h3,h4,h2⟩:=same1 h;rw[cT h3];split at h2
  . cases h4 with
    |pure h=>cases h
    |ptr hI=>exact bI.same (.ptr hI) h2
  . cases h4 with
    |pure h=>cases h
    |bJ hI hc=>exact bI.same (.bJ hI hc) h2
  . cases h4 with
    | pure h=>cases h with
      |bT b base ca e sz ext bk u hb hl h1 h2'=>exact bI.same (.pure (.bT b base ca e sz ext bk u hb hl h1 h2')) h2
  . cases h4 with
    | pure h=>cases h with
      |fn h1 h2' h3' h4'=>exact bI.same (.pure (.fn h1 h2' h3' h4')) h2
    |fn h1 h2' h3' h4'=>exact bI.same (.fn h1 h2' h3' h4') h2
  . exact h2.elim
 case binOp op t x y _=>
  refine⟨trivial,?_⟩;obtain⟨sv,v,h3,h4,h2⟩:=same1 h;obtain⟨sw,w,g3,g4,g2⟩:=same1 h2;rw[cT h3,cT g3];exact bI.val (F0 g2 h4 g4)
 case unOp op _ x=>
  refine⟨trivial,?_⟩;obtain⟨sv,v,h3,h4,h2⟩:=same1 h;rw[cT h3];exact bI.val (GB h2 h4)
 case makeFunc fn first captured=>
  refine⟨trivial,?_⟩;split at h
  . obtain⟨xs,h1,h2⟩:=cF h;obtain⟨ys,h3,h4⟩:=cF h2;obtain⟨us,g1,g2⟩:=oz hF h1;obtain⟨vs,g3,g4⟩:=oz hF h3;simp only;rw[rb g1,rb g3];exact bI.same (.fn g2.1 g4.1 g2.2 g4.2) h4
  . exact h.elim
 case fieldAddr st x f=>
  refine⟨trivial,?_⟩;obtain⟨fd,h1,h2⟩:=cF h;obtain⟨hck,h3⟩:=cd h2;obtain⟨sv,v,h4,h5,h6⟩:=same1 h3;rw[rb (te h1)];split at hck
  . rename_i n hn;rw[rb (show siz tab fd.type=_ from ro hn),rb (rc hck),cT h4];split at h6
    . cases h5 with
      |pure h=>cases h
      |ptr hI=>exact bI.same (.ptr hI) h6
    . cases h5 with
      |pure h=>cases h
      |bJ hI hc=>simp only[BW];exact bI.same (.bJ hI hc) h6
    . cases h5 with
      | pure h=>cases h with
        |bT b base ca e sz ext bk u hb hl h1 h2'=>simp only[BW];exact bI.same (.pure (.bT b base ca e sz ext bk u hb hl h1 h2')) h6
    . exact h6.elim
  . cases hck
 case field t x f=>
  refine⟨trivial,?_⟩;obtain⟨fd,h1,h2⟩:=cF h;obtain⟨sv,v,h4,h5,h6⟩:=same1 h2;rw[rb (te h1),cT h4];split at h6
  . obtain⟨us,rfl,g1⟩:=kV h5;obtain⟨su,g2,g3⟩:=cF h6;obtain⟨u,g4,g5⟩:=pM g1 g2;simp only;rw[rb g4];exact bI.same g5 g3
  . exact h6.elim
 case indexAddr t x ix=>
  refine⟨trivial,?_⟩;obtain⟨sj,vj,h1,h2,h3⟩:=same1 h;obtain⟨i,h4,h5⟩:=rk h3 h2;obtain⟨sv,v,h6,h7,h8⟩:=same1 h5;rw[cT h1,rb h4];split at h8
  . rename_i len e b off hg;split at h8
    . rename_i n hn;obtain⟨g1,g2⟩:=cd h8;rw[rb (show und tab t=_ from ro hg),cT h6]
      cases h7 with
      |pure h=>cases h
      |ptr hI=>simp only;rw[rb (rc g1),rb (show siz tab e=_ from ro hn)];exact bI.same (.ptr hI) g2
    . exact h8.elim
  . rename_i e b off len cap hg;split at h8
    . rename_i n hn;obtain⟨g1,g2⟩:=cd h8;rw[rb (show und tab t=_ from ro hg),cT h6]
      cases h7 with
      |pure h=>cases h
      |sl hI=>simp only;rw[rb (rc g1),rb (show siz tab e=_ from ro hn)];exact bI.same (.ptr hI) g2
    . exact h8.elim
  . rename_i e X L enc hg;split at h8
    . rename_i n hn;obtain⟨x,g1,g2⟩:=cF h8;obtain⟨g2,g3⟩:=cd g2;have g2:=Ad g2;have hi:=(Ac.1 g1).1;obtain⟨b,off,cap,cs,e',sz,ext,bk,rfl,hb,hs,hl,hsz,hc,hcell⟩:=uw (jT h7 rfl) (by rintro rfl;simp at hi);obtain⟨sz0,ext0,hb,hx0⟩:=hb;have hszn:sz=n:=by rw[<-hsz i x g1];exact g2
      subst hszn;rw[rb (show und tab t=_ from ro hg),cT h6];simp only;rw[rb (rc (by simpa using hi)),rb (show siz tab e=_ from ro hn)];refine bI.same (.pure ?_) g3;refine .bT b (off+i*sz) cs e' sz0 ext0 bk (fun j=>(cs[off+i*sz+j]?).getD (.bB [])) hb ?_ ?_ ?_
      . rw[g2];have:i*sz+sz<=L.length*sz:=by
         calc i*sz+sz=(i+1)*sz:=by rw[Bp,Dz]
          _<=L.length*sz:=Bo _ hi
        omega
      . intro j v hv;obtain⟨u,q1,_⟩:=hcell i x j v g1 hv;rw[q1];rfl
      . intro j v hv;obtain⟨u,q1,q2⟩:=hcell i x j v g1 hv;rw[q1];exact q2
    . exact h8.elim
  . rename_i e b hg;split at h8
    . rename_i n X L enc e' hn hb;obtain⟨g1,g2⟩:=cd h8;simp only[Ab]at g1;have hee:=Ad g1.1;subst hee;have hi:i<L.length:=by simpa using g1.2
      rw[rb (show und tab t=_ from ro hg),cT h6]
      cases h7 with
      |pure h=>cases h
      | dI hI hc=>
        obtain⟨_,_,_,_,k5⟩:=H.at_ hb hI;rw[hc]at k5;omega
      | own hI hc=>
        rename_i I c;obtain⟨k1,k2,k3,_,k5⟩:=H.at_ hb hI;have hsz:I.sz=n:=by rw[hn]at k1;exact(B7 k1).symm
        simp only;rw[rb (rc (by rw[k3];simpa using hi)),rb (show siz tab e=_ from ro hn)];have hh:aA C (.bJ b i 0) (.ptr I.β (i*I.sz+0)):= .bJ hI (by simp[hc]);rw[hsz,Bu]at hh;rw[Ax];exact bI.same hh g2
    . exact h8.elim
  . exact h8.elim
 case index t x ix=>
  refine⟨trivial,?_⟩;obtain⟨sj,vj,h1,h2,h3⟩:=same1 h;obtain⟨i,h4,h5⟩:=rk h3 h2;obtain⟨sv,v,h6,h7,h8⟩:=same1 h5;rw[cT h1,rb h4];split at h8
  . rename_i len e cs hg;split at h8
    . rename_i n hn;obtain⟨g1,g2⟩:=cd h8;obtain⟨su,g3,g4⟩:=cF g2;obtain⟨us,rfl,g5⟩:=kV h7;obtain⟨u,g6,g7⟩:=pM g5 g3;rw[rb (show und tab t=_ from ro hg),cT h6];simp only;rw[rb (rc g1),rb (show siz tab e=_ from ro hn),rb g6];exact bI.same g7 g4
    . exact h8.elim
  . rename_i c hg;obtain⟨b,g1,g2⟩:=cF h8;rw[rb (show und tab t=_ from ro hg),cT h6,gj h7];simp only;rw[rb (ro g1)];exact bI.same (.pure (.int _ _)) g2
  . exact h8.elim
 case extract t i=>
  refine⟨trivial,?_⟩;obtain⟨sv,v,h6,h7,h8⟩:=same1 h;rw[cT h6];split at h8
  . obtain⟨us,rfl,g5⟩:=um h7;obtain⟨su,g3,g4⟩:=cF h8;obtain⟨u,g6,g7⟩:=g5.get g3;simp only;rw[rb (ro g6)];exact bI.same g7 g4
  . exact h8.elim
 case slice t x lo hi mx=>
  cases mx with
  |some m=>exact h.elim
  | none=>
    refine⟨rfl,?_⟩;obtain⟨sv,v,h3,h4,h2⟩:=same1 h;rw[cT h3];exact I7 hF H h4 hK h2
 case call c=>
  split at h
  . rename_i b hb;obtain⟨l,h1,h2⟩:=cF h;obtain⟨vs,g1,g2⟩:=oz hF h1;rw[hb]at hc⊢;simp only at hc⊢;rw[rb g1]
    cases b<;>simp only at hc⊢ <;>first|(rcases hc with hc|hc<;>cases hc;done)|skip
    case len=>exact⟨trivial,vo hF H g2 (.inl rfl) h2⟩
    case min=>exact⟨trivial,vo hF H g2 (.inr (.inl rfl)) h2⟩
    case max=>exact⟨trivial,vo hF H g2 (.inr (.inr rfl)) h2⟩
    case cap=>unfold pI at h2;exact h2.elim
  . exact h.elim
 case convert src dst x=>
  refine⟨trivial,?_⟩;obtain⟨k0,j0,e1,e2⟩:=Cw hc;obtain⟨sv,v,h3,h4,h2⟩:=same1 h;rw[cT h3];unfold uG at h2;split at h2
  . rename_i d k i n hs hd;rw[e2]at hd
    cases hd;rw[hZ h4,ze e1 e2];exact bI.same (.pure (.int _ _)) h2
  all_goals first
    |exact h2.elim
    |(rename_i hd;rw[e2]at hd;cases hd;done)
 all_goals first|exact h.elim|(rcases hc with hc|hc<;>cases hc)
end
end
section
universe u v
variable [Inhabited aD]
section
variable {tab:aR} {view:TypeId->Option View} {C:Cx} {s:St} {ta:T AV} {a:AH}
def Made (tab:aR) (C:Cx) (s:St) (a:AH) (K:SV->St->Prop) (r:AH->R (AV×AH)):Prop:=
 ∃sv v so ao I,K sv (s.new so)/\(∀h':AH,h'.next=a.next->r h'= .ok (v,h'.new ao))/\I.β=a.next/\I.cap.isSome/\(∀C',C.le C'->C'.ρ s.h.next=some I->aA C' sv v)/\ ∀(C':Cx) (a':AH),C.le C'->a'.get a.next=some ao->dh tab C' I so a'
theorem Made.cells {cs:List SV} {ca:List AV} (hc:aM C cs ca) {e n:Nat} (hn:tab.siz.get e=some n) {K:SV->St->Prop} {sv:SV} {f:Nat->AV} (hv:∀C':Cx,∀I:BI,C'.ρ s.h.next=some I->aA C' sv (f I.β)) (hk:K sv (s.new (.cells cs e))) {r:AH->R (AV×AH)}
  (hr:∀h':AH,h'.next=a.next->r h'= .ok (f h'.next,h'.new (.cells ca e n false .rw))):Made tab C s a K r:=by
 refine⟨sv,f a.next, .cells cs e, .cells ca e n false .rw,⟨a.next,0,n,some (.lit 0)⟩,hk,fun h' hh=>by rw[hr h' hh,hh],rfl,rfl,fun C' _ hI=>hv C' _ hI,fun C' a' hle hg=>⟨rfl,ca,n,hg,hc.le hle,hn⟩⟩
theorem Mq (hF:FS C s.ts ta) {o:Oper} (hc:cls tab o= .alloc) {K:SV->St->Prop} (h:kD tab view s o K):Made tab C s a K fun h'=>dZ tab ta h' o:=by
 obtain⟨dst,op,type,pos,after,guard⟩:=o;unfold kD at h;unfold dZ;have same1:∀{x:Operand} {K':SV->Prop},so (eJ s.ts x) K'->∃sv v,ev ta x= .ok v/\aA C sv v/\K' sv:=by
  intro x K' h;obtain⟨sv,h1,h2⟩:=cF h;obtain⟨v,h3,h4⟩:=jF hF h1;exact⟨sv,v,h3,h4,h2⟩
 cases op<;>simp only at h⊢ <;>simp only[cls]at hc
 case alloc e=>
  obtain⟨n,hn,h⟩:=cF h;obtain⟨cs,h1,h2⟩:=cF h;obtain⟨zv,zc,g1,g2,g3⟩:=om (C:=C) h1;exact Made.cells (f:=fun b=> .ptr b 0) g3 hn (fun C' I hI=> .ptr hI) h2 (fun h' _=>by rw[rb g1,rb g2,rb (gv hn _ _ _)])
 case box e x=>
  obtain⟨n,hn,h⟩:=cF h;obtain⟨sv,v,h3,h4,h2⟩:=same1 h;obtain⟨hk,h2⟩:=cd h2;obtain⟨l,g1,g2⟩:=tv h4 hk;exact Made.cells (f:=fun b=> .ptr b 0) g2 hn (fun C' I hI=> .ptr hI) h2 (fun h' _=>by rw[cT h3,rb g1,rb (gv hn _ _ _)])
 case buildSlice t len ps=>
  obtain⟨l,h1,h2⟩:=cF h;obtain⟨vs,g1,g2,g3⟩:=tk hF h1;have:(fun h'=>(do let l<-kq ta ps.toList;Am.buildSlice tab h' t len l))=fun h'=>Am.buildSlice tab h' t len vs:=by
    funext h';rw[rb g1]
  rw[this];clear this;clear h h1;have h:=h2;clear h2;unfold sL at h;split at h
  . rename_i e hg;split at h
    . rename_i n z hn hz;obtain⟨hck,h1⟩:=cd h;clear h;simp only[Ab]at hck;obtain⟨zv,zc,q1,q2,q3⟩:=om (C:=C) hz;have hzl:(Nat.beq zc.length n)=true:=by rw[<-q3.1];exact hck.2
      have hb:∀(h':AH) (ca:List AV),fill (rep len zc) (vs.map fun(i,v)=>(i*n,n,v))= .ok ca->Am.buildSlice tab h' t len vs= .ok (.sl h'.next 0 len (.lit len),h'.new (.cells ca e n false .rw)):=by
        intro h' ca hca;unfold Am.buildSlice;rw[rb (show und tab t=_ from ro hg)];simp only;rw[rb (show siz tab e=_ from ro hn),rb (rc hck.1),rb q1,rb q2,rb (rc hzl),rb hca,rb (gv hn _ _ _)]
      by_cases hl0:len=0
      . subst hl0;simp only[BN,Bd]at h1;obtain⟨hck2,h2⟩:=cd h1;clear h1;simp only[Ab,List.isEmpty_iff,AX]at hck2;obtain⟨rfl,hn0⟩:=hck2;have hn0:n≠0:=fun e=>by subst e;simp at hn0
        cases vs with
        |cons=>simp at g2
        |nil=>
         split at h2
         . rename_i V hV;refine⟨_, .sl a.next 0 0 (.lit 0),_, .cells [] e n false .rw,⟨a.next,0,n,some (.lit 0)⟩,h2,fun h' hh=>(hb h' [] rfl).trans (by rw[hh]),rfl,rfl,fun C' _ hI=> .own hI rfl,fun C' a' hle hg=>⟨hn,by simp only;omega,rfl,fun i x hx=>by simp at hx,[],false, .rw,hg,by simp,by simp, .inr ⟨rfl,rfl⟩,fun i x j v hx=>by simp at hx⟩⟩
         . exact h2.elim
      . rw[fc hl0]at h1;simp only[AN]at h1;obtain⟨cs,h2,hk⟩:=cF h1;obtain⟨ca,h3,h4⟩:=tM (qs:=vs.map fun x=>(x.1*n,n,x.2)) (FX q3 len) (by
         simp only[BB];have:=Aq (List.map (fun i=>(i*n,n))) g2;simpa [BB,B0]using this) (by simpa [BB,B0]using g3) h2
        exact Made.cells (f:=fun b=> .sl b 0 len (.lit len)) h4 hn (fun C' I hI=> .sl hI) hk (fun h' _=>hb h' ca h3)
    . exact h.elim
  . exact h.elim
 case call c=>
  cases hcc:c.callee with
  |builtin b=>rw[hcc]at hc;cases b<;>cases hc
  |value f=>rw[hcc]at hc;cases hc
  |invoke r m=>rw[hcc]at hc;cases hc
 case convert src dst x=>exact(L1 hc).elim
 all_goals first|exact h.elim|(cases hc;done)
end
end
section
universe u v
variable [Inhabited aD]
theorem th:∀(l:List (Nat×Nat)) (h:SH) (p:Nat),(mO h l).get p=if ∃x∈l,x.2=p then none else h.get p:=by
 intro l;induction l with
 |nil=>intro h p;simp[mO]
 |cons x l ih=>
  intro h p;obtain⟨i,b⟩:=x;simp only[mO,ih,SH.aO];by_cases h1:∃x∈l,x.2=p
  . rw[if_pos h1,if_pos];obtain⟨x,hx,e⟩:=h1;exact⟨x,Al _ hx,e⟩
  . rw[if_neg h1];by_cases h2:p=b
    . rw[if_pos h2,if_pos ⟨(i,b),An,h2.symm⟩]
    . rw[if_neg h2,if_neg];rintro⟨x,hx,e⟩;rcases Ag.1 hx with rfl|hx
      . exact h2 e.symm
      . exact h1 ⟨x,hx,e⟩
theorem J0:∀(l:List (Nat×Nat)) (h:SH),(mO h l).next=h.next:=by
 intro l;induction l with
 |nil=>intro h;rfl
 |cons x l ih=>intro h;obtain⟨i,b⟩:=x;simp only[mO,ih,SH.dH]
theorem oc (h0:SH) (log:List Ev):∀(l:List (Nat×Nat)) (h:SH) (p:Nat),(j3 h h0 log l).get p=if ∃x∈l,x.2=p then gV (h0.get p) log else h.get p:=by
 intro l;induction l with
 |nil=>intro h p;simp[j3]
 |cons x l ih=>
  intro h p;obtain⟨i,b⟩:=x;simp only[j3,ih,SH.aO];by_cases h1:∃x∈l,x.2=p
  . rw[if_pos h1,if_pos];obtain⟨x,hx,e⟩:=h1;exact⟨x,Al _ hx,e⟩
  . rw[if_neg h1];by_cases h2:p=b
    . rw[if_pos h2,if_pos ⟨(i,b),An,h2.symm⟩,h2]
    . rw[if_neg h2,if_neg];rintro⟨x,hx,e⟩;rcases Ag.1 hx with rfl|hx
      . exact h2 e.symm
      . exact h1 ⟨x,hx,e⟩
theorem Js (h0:SH) (log:List Ev):∀(l:List (Nat×Nat)) (h:SH),(j3 h h0 log l).next=h.next:=by
 intro l;induction l with
 |nil=>intro h;rfl
 |cons x l ih=>intro h;obtain⟨i,b⟩:=x;simp only[j3,ih,SH.dH]
theorem zy (h:SH) (n:Nat):∀(l:List Nat) (p:Nat),(SH.mk n (nm h l)).get p=if p∈l then h.get p else none:=by
 intro l;induction l with
 |nil=>intro p;simp[nm,SH.get,look]
 |cons b l ih=>
  intro p;have:=ih p;simp only[SH.get,nm,iZ]at this⊢;by_cases e:p=b
  . subst e;simp only[if_true,Ag,true_or]
    cases hg:look h.os p with
    |none=>rfl
    |some o=>cases o<;>rfl
  . simp only[if_neg e,Ag,e,false_or];exact this
open Classical in
theorem u7 {a:AH} (hwf:∀i o,a.get i=some o->i<a.next) (P:Nat->Prop):∃a0:AH,a0.next=a.next/\ ∀i,a0.get i=if P i then a.get i else none:=by
 refine⟨gu a (((List.range a.next).filter fun i=>decide (¬P i)).map fun i=>(0,i)),hU _ _,fun i=>?_⟩;rw[gy];by_cases hP:P i
 . rw[if_pos hP,if_neg];rintro⟨x,hx,e⟩;obtain⟨j,hj,rfl⟩:=Ar.1 hx;simp only[Au,Ah]at hj;simp only at e;exact hj.2 (e▸hP)
 . rw[if_neg hP];split
   . rfl
   . rename_i hn
     cases hg:a.get i with
     |none=>rfl
     |some o=>exact absurd ⟨(0,i),Ar.2 ⟨i,by simp only[Au,Eg,Ah];exact⟨hwf i o hg,hP⟩,rfl⟩,rfl⟩ hn
section
variable {tab:aR} {C C':Cx} {h h0:SH} {a a0:AH}
theorem HS.part (H:HS tab C h a) (hn:h0.next=h.next) (hh:∀p o,h0.get p=some o->h.get p=some o) (hp:Part a0 a) (hn0:a0.next=a.next) (hf:∀i o,C.Fz i=some o->a0.get i=some o)
   (hb:∀p o I,h0.get p=some o->C.ρ p=some I->I.cap.isSome->a0.get I.β=a.get I.β):HS tab C h0 a0:=by
 refine⟨fun p o hp=>?_,fun p q o o' I J hp hq=>H.inj p q o o' I J (hh p o hp) (hh q o' hq),hf,fun p o I hp=>H.dj p o I (hh p o hp),fun p I hI=>by rw[hn];exact H.lt p I hI,fun i o hi=>by rw[hn0];exact H.wf i o (hp i o hi)⟩;obtain⟨I,hI,ho⟩:=H.obj p o (hh p o hp);refine⟨I,hI,?_⟩;by_cases hc:I.cap.isSome
 . exact ho.congr (hb p o I hp hI hc)
 . cases o with
   |cells cs t=>exact absurd ho.1 hc
   |arr X L enc t=>
    obtain⟨g1,g2,g3,g4,g5⟩:=ho;refine⟨g1,g2,g3,g4,?_⟩
    cases hcap:I.cap with
    |none=>rw[hcap]at g5;exact g5
    |some c=>rw[hcap]at hc;simp at hc
end
theorem Ni:∀{l:List AV},(∀(i:Nat) v,l[i]? =some v->AV.beq v v=true)->fP l l=true:=by
 intro l;induction l with
 |nil=>intro _;rfl
 |cons v l ih=>intro h;simp only[fP,Ab];exact⟨h 0 v rfl,ih fun i w hw=>h (i+1) w (by simpa using hw)⟩
theorem Ku:∀{l:List SV},iX l=true->∀(i:Nat) (s:SV),l[i]? =some s->s.full=true:=by
 intro l;induction l with
 |nil=>intro _ i s h;simp at h
 |cons v l ih=>
  intro h i s hs;simp only[iX,Ab]at h
  cases i with
  |zero=>simp at hs;rw[<-hs];exact h.1
  |succ i=>exact ih h.2 i s (by simpa using hs)
theorem ng {l:List SV} {m:List AV} (hl:l.length=m.length) (hf:iX l=true) (h:∀(i:Nat) s v,l[i]? =some s->m[i]? =some v->s.full=true->AV.beq v v=true):fP m m=true:=by
 refine Ni fun i v hv=>?_
 have hi:=(Ac.1 hv).1;have hs:l[i]? =some l[i]:=Ae (by omega);exact h i _ v hs hv (Ku hf i _ hs)
theorem Kv {Fz:Nat->Option AO} {s:SV} {v:AV} (h:aF Fz s v) (hf:s.full=true):AV.beq v v=true:=by
 induction h with
 |any v=>cases hf
 |bL h0 hv=>rcases hv with rfl|⟨b,off,l,n,k,rfl⟩|⟨a,c,rfl⟩<;>simp[AV.beq]
 |fn h1 h2 _ _ ih3 ih4=>
  simp only[SV.full,Ab]at hf;simp only[AV.beq,Ab];exact⟨⟨by simp,ng h1 hf.1 ih3⟩,ng h2 hf.2 ih4⟩
 |agg h1 _ ih=>simp only[SV.full]at hf;simp only[AV.beq];exact ng h1 hf ih
 |bB h1 _ ih=>simp only[SV.full]at hf;simp only[AV.beq];exact ng h1 hf ih
 |_=>simp[AV.beq]
theorem MD {C:Cx} {s:SV} {v:AV} (h:aA C s v) (hf:s.full=true):AV.beq v v=true:=by
 induction h with
 |pure h=>exact Kv h hf
 |fn h1 h2 _ _ ih3 ih4=>
  simp only[SV.full,Ab]at hf;simp only[AV.beq,Ab];exact⟨⟨by simp,ng h1 hf.1 ih3⟩,ng h2 hf.2 ih4⟩
 |agg h1 _ ih=>simp only[SV.full]at hf;simp only[AV.beq];exact ng h1 hf ih
 |bB h1 _ ih=>simp only[SV.full]at hf;simp only[AV.beq];exact ng h1 hf ih
 |_=>simp[AV.beq]
def jK (C:Cx) (h:SH):List (Nat×Nat)->List (Nat×Nat)->Prop
 |[],[]=>True
 |(i,p)::l,(j,β)::m=>i=j/\(∃o I,h.get p=some o/\C.ρ p=some I/\I.cap.isSome/\I.β=β)/\jK C h l m
 |_,_=>False
theorem jK.filter {C:Cx} {h:SH} (f:Nat->Bool):∀{l m:List (Nat×Nat)},jK C h l m->jK C h (l.filter fun x=>f x.1) (m.filter fun x=>f x.1):=by
 intro l;induction l with
 |nil=>intro m hm;cases m with
  |nil=>exact hm
  |cons=>exact hm.elim
 | cons x l ih=>
  intro m hm;obtain⟨i,p⟩:=x
  cases m with
  |nil=>exact hm.elim
  |cons y m=>
   obtain⟨j,β⟩:=y;obtain⟨rfl,h1,h2⟩:=hm;simp only[Bn]
   cases f i
   . simpa using ih h2
   . simpa using⟨rfl,h1,ih h2⟩
theorem jK.mono {C C':Cx} {h h':SH}:∀{l m:List (Nat×Nat)},jK C h l m->(∀x∈l,∀o I,h.get x.2=some o->C.ρ x.2=some I->I.cap.isSome->∃o',h'.get x.2=some o'/\C'.ρ x.2=some I)->jK C' h' l m:=by
 intro l;induction l with
 |nil=>intro m hm _;cases m with
  |nil=>exact hm
  |cons=>exact hm.elim
 | cons x l ih=>
  intro m hm hk;obtain⟨i,p⟩:=x
  cases m with
  |nil=>exact hm.elim
  |cons y m=>
   obtain⟨j,β⟩:=y;obtain⟨rfl,⟨o,I,g1,g2,g3,g4⟩,h2⟩:=hm;obtain⟨o',k1,k2⟩:=hk (i,p) An o I g1 g2 g3;exact⟨rfl,⟨o',I,k1,k2,g3,g4⟩,ih h2 (fun x hx=>hk x (Al _ hx))⟩
theorem jK.left {C:Cx} {h:SH}:∀{l m:List (Nat×Nat)},jK C h l m->∀x∈l,∃o I,h.get x.2=some o/\C.ρ x.2=some I/\I.cap.isSome/\ ∃y∈m,y.2=I.β:=by
 intro l;induction l with
 |nil=>intro m _ x hx;cases hx
 | cons x l ih=>
  intro m hm y hy;obtain⟨i,p⟩:=x
  cases m with
  |nil=>exact hm.elim
  |cons z m=>
   obtain⟨j,β⟩:=z;obtain⟨rfl,⟨o,I,g1,g2,g3,g4⟩,h2⟩:=hm;rcases Ag.1 hy with rfl|hy
   . exact⟨o,I,g1,g2,g3,(i,β),An,g4.symm⟩
   . obtain⟨o,I,q1,q2,q3,w,hw,q4⟩:=ih h2 y hy;exact⟨o,I,q1,q2,q3,w,Al _ hw,q4⟩
theorem jK.right {C:Cx} {h:SH}:∀{l m:List (Nat×Nat)},jK C h l m->∀y∈m,∃x∈l,∃o I,h.get x.2=some o/\C.ρ x.2=some I/\I.cap.isSome/\I.β=y.2:=by
 intro l;induction l with
 |nil=>intro m hm y hy;cases m with
  |nil=>cases hy
  |cons=>exact hm.elim
 | cons x l ih=>
  intro m hm y hy;obtain⟨i,p⟩:=x
  cases m with
  |nil=>exact hm.elim
  |cons z m=>
   obtain⟨j,β⟩:=z;obtain⟨rfl,⟨o,I,g1,g2,g3,g4⟩,h2⟩:=hm;rcases Ag.1 hy with rfl|hy
   . exact⟨(i,p),An,o,I,g1,g2,g3,g4⟩
   . obtain⟨w,hw,q⟩:=ih h2 y hy;exact⟨w,Al _ hw,q⟩
def pq (tab:aR) (ops:Array Oper) (C:Cx) (h:SH) (a:AH) (x:Nat×T AV×AV) (rs:List Nat):Prop:=
 ∃o a0 h1,ops[x.1]? =some o/\(cls tab o= .pure\/cls tab o= .read)/\qx o.op=true/\AV.beq x.2.2 x.2.2=true/\dZ tab x.2.1 a0 o= .ok (x.2.2,h1)/\
  ∀β ob,a0.get β=some ob->C.Fz β=some ob\/(a.get β=some ob/\ ∃p∈rs,∃o' I,h.get p=some o'/\C.ρ p=some I/\I.cap.isSome/\I.β=β)
theorem pq.mono {tab:aR} {ops:Array Oper} {C C':Cx} {h h':SH} {a a':AH} {x:Nat×T AV×AV} {rs:List Nat} (hx:pq tab ops C h a x rs) (hf:∀i o,C.Fz i=some o->C'.Fz i=some o)
   (hk:∀p∈rs,∀o I,h.get p=some o->C.ρ p=some I->I.cap.isSome->a'.get I.β=a.get I.β/\ ∃o',h'.get p=some o'/\C'.ρ p=some I):pq tab ops C' h' a' x rs:=by
 obtain⟨o,a0,h1,g1,g2,g3,gb,g4,g5⟩:=hx;refine⟨o,a0,h1,g1,g2,g3,gb,g4,fun β ob hb=>?_⟩;rcases g5 β ob hb with q|⟨q,p,hp,o',I,q1,q2,q3,rfl⟩
 . exact .inl (hf _ _ q)
 . obtain⟨k1,o2,k2,k3⟩:=hk p hp o' I q1 q2 q3;exact .inr ⟨by rw[k1];exact q,p,hp,o2,I,k2,k3,q3,rfl⟩
structure iF (tab:aR) (ops:Array Oper) (C:Cx) (d:SD) (e:DS):Prop where
 F:FS C d.s.ts e.ts
 H:HS tab C d.s.h e.h
 aC:d.aC=e.aC
 al:jK C d.s.h d.ax e.ax
 rd:∀x∈e.reads,∃rs,(x.1,rs)∈d.reads/\pq tab ops C d.s.h e.h x rs
structure Prog (C:Cx) (d:SD) (e:DS) (new:List Ev) (C':Cx) (d':SD) (e':DS):Prop where
 log:d'.s.log=d.s.log++new
 tr:Tr C new C'
 grow:Grow e.h e'.h
 bG:cr C d.s.h e.h new C' d'.s.h e'.h
end
section
universe u v
variable [Inhabited aD]
section
variable {tab:aR} {cfg:gR} {ops:Array Oper} {nt:Nat}
theorem sO (ts:T AV) (o:Oper) (v:AV):fG nt ts o v=fB nt ts o.dst v:=by
 unfold fG fB
 cases o.dst<;>rfl
theorem Prog.refl {C C':Cx} {d d':SD} {e e':DS} (hl:d'.s.log=d.s.log) (hh:d'.s.h=d.s.h) (he:e'.h=e.h) (hc:C'=C):Prog C d e [] C' d' e':=by
 subst hc;exact⟨by simp[hl],Tr.refl _,by rw[he];exact Grow.refl _,by rw[hh,he];exact cr.same _ _ _ _⟩
open Classical in
theorem MA (htab:cfg.tab=tab) {C:Cx} {d:SD} {e:DS} {i:Nat} {o:Oper} {K:SD->Prop} (h:xp cfg ops nt i o d K) (S:iF tab ops C d e) (hi:ops[i]? =some o):
  ∃r d' C',oe tab ops nt i o e= .ok r/\K d'/\iF tab ops C' d' (r.getD e)/\Prog C d e [] C' d' (r.getD e):=by
 obtain⟨s,aC,reads,ax⟩:=d;obtain⟨hF,H,hanc,hal,hrd⟩:=S;simp only at hF H hanc hal hrd;simp only[xp]at h;rw[htab]at h;obtain⟨hok,h⟩:=cd h;obtain⟨w,s1,h1,hw,hF1,eh,el⟩:=wo h hF;clear h;subst hanc;unfold oe
 rw[rb (rc hok)];simp only;rw[rb hw]
 cases w with
 |false=>
  simp only[Ds,Bd]at h1;have h2:=tf (kQ h1);obtain⟨s2,k1,k2,k3,k4⟩:=pT (v:= .bB []) h2 hF1 (.pure (.bB rfl (fun i c v hc=>by simp at hc)));refine⟨_,_,C,rfl,k1,⟨?_,?_,rfl,?_,?_⟩,Prog.refl ?_ ?_ rfl rfl⟩
  . simp only[AK];rw[sO];exact k2
  . simp only[AK];rw[k3,eh];exact H
  . simp only[AK];rw[k3,eh];exact hal
  . simp only[AK];rw[k3,eh];exact hrd
  . simp only;rw[k4,el]
  . simp only;rw[k3,eh]
 | true =>
  simp only[BX,AN]at h1;simp only[BX,Ai,Az];have Hs:HS tab C s1.h e.h:=by rw[eh];exact H
  have look :∀(hc:cls tab o= .pure\/cls tab o= .read),(iO (dg e.aC o) fun an=>mH (e.aC.set i (some an)) fun aC=>match s1 with
    | ⟨ts,h,log⟩=>iO (xh ts o) fun rs=>ck (rs.all fun b=>ax.all fun x=> !(Nat.beq x.2 b)) (kD tab cfg.view ⟨ts,⟨h.next,nm h rs⟩,[]⟩ o fun v s'=>ck (s'.log.isEmpty&&v.full) (gZ nt ⟨ts,h,log⟩ o.dst v fun s'=>K ⟨s',aC,(i,rs)::reads,ax⟩)))->
      ∃ d' v,K d'/\(∀v' hx',dZ tab e.ts {t:= .e,next:=0} o= .ok (v',hx')->v'=v/\hx'.next=0)/\dZ tab e.ts (gu e.h e.ax) o= .ok (v,gu e.h e.ax)/\
        ∀rd',(rd'=e.reads\/rd'=(i,e.ts,v)::e.reads)->iF tab ops C d' {e with ts:=fG nt e.ts o v,aC:=e.aC.set i (some (dg e.aC o)),reads:=rd'}/\Prog C ⟨s,e.aC,reads,ax⟩ e [] C d' {e with ts:=fG nt e.ts o v,aC:=e.aC.set i (some (dg e.aC o)),reads:=rd'}:=by
    intro hc h;have h:=tf (kQ h);obtain⟨ts,hh,log⟩:=s1;simp only at h eh el hF1 Hs;subst eh;have h:=kQ h;generalize xh ts o=rs at h
    obtain⟨hdis,h⟩:=cd h;obtain⟨a0,hn0,hg0⟩:=u7 H.wf (fun i=>(∃ob,C.Fz i=some ob)\/ ∃p∈rs,∃o' I,s.h.get p=some o'/\C.ρ p=some I/\I.cap.isSome/\I.β=i);have hpart:Part a0 e.h:=by
      intro j ob hj;rw[hg0]at hj;split at hj
      . exact hj
      . cases hj
    have H0:HS tab C ⟨s.h.next,nm s.h rs⟩ a0:=by
      refine Hs.part rfl (fun p o' hp=>?_) hpart hn0 (fun j ob hj=>?_) (fun p o' I hp hI hcap=>?_)
      . rw[zy]at hp;split at hp
        . exact hp
        . cases hp
      . rw[hg0,if_pos (.inl ⟨ob,hj⟩)];exact H.fz j ob hj
      . rw[zy]at hp;split at hp
        . rename_i hm;rw[hg0,if_pos (.inr ⟨p,hm,o',I,hp,hI,hcap,rfl⟩)]
        . cases hp
    obtain⟨hlk,sv,v,hk,hp,hv⟩:=Mo (s:=⟨ts,⟨s.h.next,nm s.h rs⟩,[]⟩) hF1 H0 hc (fun sv s1 hk=>by have:=(cd hk).1;simp only[Ab]at this;simpa using this.1) h;obtain⟨hfull,hk⟩:=cd hk;simp only[Ab]at hfull;have hbeq:=MD hv hfull.2;obtain⟨s2,k1,k2,k3,k4⟩:=pT hk hF1 hv;have hhid:Part a0 (gu e.h e.ax):=by
      intro β ob hβ;rw[gy,if_neg]
      . exact hpart β ob hβ
      . rintro⟨y,hy,rfl⟩;obtain⟨x,hx,ox,Ix,x1,x2,x3,x4⟩:=hal.right y hy;rw[hg0]at hβ;split at hβ
        . rename_i hP;rcases hP with⟨ob',hP⟩|⟨p,hpm,op,Ip,p1,p2,p3,p4⟩
          . have:=H.dj x.2 ox Ix x1 x2 x3;rw[x4,hP]at this;cases this
          . have:=H.inj p x.2 op ox Ip Ix p1 x1 p2 x2 p3 x3 (by rw[p4,x4]);have h5:=AA.1 (AA.1 hdis p hpm) x hx;rw[this]at h5;simp at h5
        . cases hβ
    refine⟨_,v,k1,fun v' hx' hp'=>?_,vF hc hlk hhid hp,fun rd' hrd'=>⟨⟨?_,?_,rfl,?_,?_⟩,Prog.refl ?_ ?_ rfl rfl⟩⟩
    . have h5:=vF hc hlk (h0:={t:= .e,next:=0}) (h:=a0) (fun j ob hj=>by cases hj) hp';have h6:=sX ⟨by rcases hc with e|e<;>rw[e]<;>simp,by rcases hc with e|e<;>rw[e]<;>simp⟩ hp';rw[hp]at h5
      cases h5;exact⟨rfl,by rw[h6]⟩
    . simp only;rw[sO];exact k2
    . simp only;rw[k3];exact H
    . simp only;rw[k3];exact hal
    . simp only;rw[k3];intro x hx;rcases hrd' with rfl|rfl
      . obtain⟨rs',g1,g2⟩:=hrd x hx;exact⟨rs',Al _ g1,g2⟩
      . rcases Ag.1 hx with rfl|hx
        . refine⟨rs,An,o,a0,_,hi,hc,hlk,hbeq,hp,fun β ob hβ=>?_⟩;have hβ':=hpart β ob hβ;rw[hg0]at hβ;split at hβ
          . rename_i hP;rcases hP with⟨ob',hP⟩|hP
            . have:=H.fz _ _ hP;rw[hβ']at this;cases this;exact .inl hP
            . exact .inr ⟨hβ',hP⟩
          . cases hβ
        . obtain⟨rs',g1,g2⟩:=hrd x hx;exact⟨rs',Al _ g1,g2⟩
    . simp only;rw[k4];exact el
    . simp only;rw[k3]
  cases hcl:cls tab o with
  | iK=>
    rw[hcl]at h1;simp only at h1⊢;exact⟨none,_,C,rfl,h1,⟨hF1,Hs,rfl,by simp only;rw[eh];exact hal,by simp only;rw[eh];exact hrd⟩,Prog.refl el eh rfl rfl⟩
  | pure=>
    obtain⟨d',v,g1,g2,g3,g4⟩:=look (.inl hcl) (by rw[hcl]at h1;exact h1);simp only
    cases hp:dZ tab e.ts {t:= .e,next:=0} o with
    | ok r=>
      obtain⟨v',hx'⟩:=r;obtain⟨rfl,hn⟩:=g2 v' hx' hp;simp only;rw[rb (rc (by rw[hn];rfl))];obtain⟨q1,q2⟩:=g4 e.reads (.inl rfl);exact⟨_,d',C,rfl,g1,q1,q2⟩
    | no _=>
      simp only;rw[g3];obtain⟨q1,q2⟩:=g4 _ (.inr rfl);exact⟨_,d',C,rfl,g1,q1,q2⟩
  | read=>
    obtain⟨d',v,g1,g2,g3,g4⟩:=look (.inr hcl) (by rw[hcl]at h1;exact h1);simp only;rw[g3];obtain⟨q1,q2⟩:=g4 _ (.inr rfl);exact⟨_,d',C,rfl,g1,q1,q2⟩
  | alloc=>
    rw[hcl]at h1;simp only at h1⊢;have h2:=tf (kQ h1);clear h1 look;obtain⟨ts,hh,log⟩:=s1;simp only at h2 eh el hF1 Hs;subst eh;obtain⟨sv,v,so,ao,I,m1,m2,m3,m4,m5,m6⟩:=Mq (s:=⟨ts,s.h,[]⟩) (a:=e.h) hF1 hcl h2;clear h2;simp only[St.new]at m1;obtain⟨_,m1⟩:=cd m1;obtain⟨q1,q2⟩:=H.new (ao:=ao) (o:=so) I m3 (fun hle=>m6 _ _ hle (by rw[AH.aK,if_pos rfl]));obtain⟨s2,k1,k2,k3,k4⟩:=pT (C:=C.put s.h.next I) m1 (FS.le q1 hF1) (m5 _ q1 (gQ _ _ _));rw[rb (m2 {t:= .e,next:=e.h.next} rfl)];simp only;rw[rb (rc (by simp)),rb (ro (show AH.get _ _=some ao from by rw[AH.aK,if_pos rfl]))];have hnew:∀p o',s.h.get p=some o'->(s.h.new so).get p=some o':=by
      intro p o' hp;obtain⟨J,hJ,_⟩:=H.obj p o' hp;have:=H.lt p J hJ;rw[SH.aK,if_neg (by omega)];exact hp
    have hkeep:∀p o' J,s.h.get p=some o'->C.ρ p=some J->J.cap.isSome->(e.h.new ao).get J.β=e.h.get J.β:=by
      intro p o' J hp hJ hc;obtain⟨b,hb⟩:=(H.at_ hp hJ).live hc;have:=H.wf _ _ hb;rw[AH.aK,if_neg (by omega)]
    refine⟨_,_,C.put s.h.next I,rfl,k1,⟨?_,?_,rfl,?_,?_⟩,⟨?_,q1.tr,?_,?_⟩⟩
    . simp only[AK];rw[sO];exact k2
    . simp only[AK];rw[k3];exact q2
    . simp only[AK];rw[k3];refine⟨rfl,⟨so,I,by rw[SH.aK,if_pos rfl],gQ _ _ _,m4,m3⟩,hal.mono fun x hx o' J hp hJ hc=>⟨o',hnew _ _ hp,q1.1 _ _ hJ⟩⟩
    . simp only[AK];rw[k3];intro x hx;obtain⟨rs,g1,g2⟩:=hrd x hx;exact⟨rs,g1,g2.mono q1.2 (fun p hp o' J hp hJ hc=>⟨hkeep p o' J hp hJ hc,o',hnew _ _ hp,q1.1 _ _ hJ⟩)⟩
    . simp only[Br];rw[k4];exact el
    . exact Grow.new _ _
    . simp only[AK];rw[k3];exact cr.new H _ _ q1 (qK H _)
end
end
section
universe u v
variable [Inhabited aD]
section
variable {P:Program} {tab:aR} {cfg:gR} {ops:Array Oper} {nt:Nat} {rec:SM->(SV->St->Prop)->Prop}
theorem Prog.trans {C C' C'':Cx} {d d' d'':SD} {e e' e'':DS} {l m:List Ev} (p:Prog C d e l C' d' e') (q:Prog C' d' e' m C'' d'' e'') (H:∀i o,C'.Fz i=some o->e'.h.get i=some o) (H':∀i o,C''.Fz i=some o->e''.h.get i=some o):Prog C d e (l++m) C'' d'' e'':=
 ⟨by rw[q.log,p.log,A5],p.tr.trans q.tr,p.grow.trans q.grow,p.bG.trans q.bG q.tr.fz H H'⟩
theorem Ob (htab:cfg.tab=tab):∀(l:List Oper) (k:Nat) (d:SD) (e:DS) (C:Cx) (K:SD->Prop),(∀j o,l[j]? =some o->ops[k+j]? =some o)->rG cfg ops nt k l d K->iF tab ops C d e->
  ∃e' d' C',jE tab ops nt k l e= .ok e'/\K d'/\iF tab ops C' d' e'/\Prog C d e [] C' d' e':=by
 intro l;induction l with
 |nil=>
  intro k d e C K _ h S;exact⟨e,d,C,rfl,h,S,Prog.refl rfl rfl rfl rfl⟩
 |cons o l ih=>
  intro k d e C K hl h S;have hi:=hl 0 o rfl;have hl':∀j o,l[j]? =some o->ops[k+1+j]? =some o:=fun j o' hj=>by
    have:=hl (j+1) o' (by simpa using hj);rwa [show k+1+j=k+(j+1)from by omega]
  simp only[rG,S.aC]at h;simp only[jE]
  cases hr:fT e.aC k o
  . rw[hr]at h;exact ih (k+1) d e C K hl' h S
  . rw[hr]at h;simp only[Bd]at h⊢;obtain⟨r,d1,C1,g1,g2,g3,g4⟩:=MA htab h S (by simpa using hi);rw[rb g1];obtain⟨e',d',C',q1,q2,q3,q4⟩:=ih (k+1) d1 _ C1 K hl' g2 g3;refine⟨e',d',C',?_,q2,q3,?_⟩
    . cases r<;>exact q1
    . have:=g4.trans q4 g3.H.fz q3.H.fz;simpa using this
theorem fX.mono {ts:T AV} {h0:AH} {o:Oper} {Θ Θ':AV->AH->Prop} (h:fX P tab ts h0 o Θ) (hi:∀v h1,h0.next<=h1.next->Θ v h1->Θ' v h1):fX P tab ts h0 o Θ':=by
 rcases h with⟨v,h1,k1,k2,k3⟩|⟨c',f,g,first,captured,args,fn,body,k1,k2,k3,k4,k5,k6,k7⟩
 . exact .inl ⟨v,h1,k1,k2,hi _ _ k2 k3⟩
 . exact .inr ⟨c',f,g,first,captured,args,fn,body,k1,k2,k3,k4,k5,k6,k7.mono fun v h1 ⟨a,b⟩=>⟨a,hi _ _ a b⟩⟩
theorem KX {h:AH}:∀{l:List (Nat×T AV×AV)},(∀x∈l,∃o h1,ops[x.1]? =some o/\dZ tab x.2.1 h o= .ok (x.2.2,h1)/\AV.beq x.2.2 x.2.2=true)->reread tab ops h l= .ok ():=by
 intro l;induction l with
 |nil=>intro _;rfl
 |cons x l ih=>
  intro hx;obtain⟨i,ts,v⟩:=x;obtain⟨o,h1,g1,g2,g3⟩:=hx _ An;simp only at g1 g2 g3;simp only[reread];rw[rb (ro g1),rb g2];simp only;rw[rb (rc g3)];exact ih fun y hy=>hx y (Al _ hy)
theorem zm:∀(log:List Ev) (s:SV) (b:Nat),(∀e∈log,e.id≠b)->(s= .own b\/s= .bJ b 1 0\/s= .ptr b 0)->gC log s=s:=by
 intro log;induction log with
 |nil=>intro s b _ _;rfl
 | cons e l ih=>
  intro s b hb hs;have h1:=hb e An;have:s.on e=s:=by
   rcases hs with rfl|rfl|rfl<;>cases e<;>simp only[Ev.id]at h1<;>simp only[SV.on]<;>first|rfl|(rw[fc (fun h=>h1 h.symm)];rfl)
  simp only[gC,this];exact ih s b (fun e' he=>hb e' (Al _ he)) hs
theorem Tr.same {C C':Cx} {log:List Ev} (hT:Tr C log C') {p:Nat} {I:BI} (hI:C.ρ p=some I) (hc:I.cap.isSome) (hm:∀e∈log,e.id≠p):C'.ρ p=some I:=by
 obtain⟨c,hc'⟩:=By.1 hc;have h1:=hT.val _ _ (.own hI hc');rw[zm log _ p hm (.inl rfl)]at h1;have h2:=hT.val _ _ (.bJ (i:=1) (off:=0) hI hc);rw[zm log _ p hm (.inr (.inl rfl))]at h2;obtain⟨β,len,sz,cap⟩:=I;simp only at h1 h2 hc';subst hc';generalize hv1:AV.sl β 0 len c=v1 at h1
 generalize hv2:AV.ptr β (1*sz+0)=v2 at h2
 cases h1 with
 |pure h=>cases h
 |dI hJ hc=>cases hv1
 | own hJ hc=>
  rename_i J c2
  cases h2 with
  |pure h=>cases h
  |bJ hJ' hc2=>
   rw[hJ]at hJ'
   cases hJ'
   cases hv1;simp only[AV.ptr.injEq]at hv2;rw[hJ];obtain⟨β',len',sz',cap'⟩:=J;simp only at hc hv2⊢;subst hc;have:sz=sz':=by omega
   rw[this]
theorem Ki (o:SO):∀(log:List Ev),∃o',gV (some o) log=some o'/\ ∀{C C':Cx} {I:BI} {a a':AH},Tr C log C'->a'.get I.β=a.get I.β->dh tab C I o a->dh tab C' I o' a':=by
 intro log
 cases o with
 | cells cs t=>
  have:∀(log:List Ev) (cs:List SV),gV (some (.cells cs t)) log=some (.cells (cs.map (gC log)) t):=by
   intro log;induction log with
   |nil=>intro cs;simp[gV];exact(List.map_id'' (fun _=>rfl) cs).symm
   |cons e l ih=>intro cs;simp only[gV,A2,SO.on,ih,mK,BB];rfl
  refine⟨_,this log cs,fun hT hg ho=>?_⟩;obtain⟨g1,ca,sz,g2,g3,g4⟩:=ho;refine⟨g1,ca,sz,by rw[hg];exact g2,⟨by simpa using g3.1,fun i s v hs hv=>?_⟩,g4⟩;rw[Av]at hs;obtain⟨s0,h0,rfl⟩:=Ap.1 hs;exact hT.val _ _ (g3.2 i s0 v h0 hv)
 | arr X L enc t=>
  have:∀(log:List Ev),gV (some (.arr X L enc t)) log=some (.arr X L enc t):=by
   intro log;induction log with
   |nil=>rfl
   |cons e l ih=>simp only[gV,A2,SO.on,ih]
  refine⟨_,this log,fun{C C' I a a'} hT hg ho=>?_⟩;obtain⟨h1,h2,h3,h4,h5⟩:=ho;refine⟨h1,h2,h3,h4,?_⟩
  cases hcap:I.cap with
  |none=>rw[hcap]at h5;exact h5
  |some c=>
   rw[hcap]at h5;obtain⟨ca,ext,bk,g1,g2,g3,g4,g5⟩:=h5;refine⟨ca,ext,bk,by rw[hg];exact g1,g2,g3,g4,fun i x j v hx hv=>?_⟩;obtain⟨u,k1,k2⟩:=g5 i x j v hx hv;exact⟨u,k1,k2.mono hT.fz⟩
end
end
end Go.Sy
namespace Go.Proofs
open Go Go.Am Go.RowKit
section
variable [Inhabited aD]
theorem Tryz.qt:Tryz.tab.fns.get 136=some Tryz.f136:=by kernel_rfl
theorem PI:Extern.findNext Tryz.f136=none:=by kernel_rfl
theorem Qc:Extern.find Tryz.f136=some (mN 4 Tryz.f136):=by kernel_rfl
theorem Tryz.qu:Tryz.tab.fns.get 244=some Tryz.f244:=by kernel_rfl
theorem PJ:Extern.findNext Tryz.f244=none:=by kernel_rfl
theorem Qd:Extern.find Tryz.f244=some (mN 1 Tryz.f244):=by kernel_rfl
theorem QD:ft Tryz.prog Tryz.tab:=Qj [(136,4),(244,1)] rfl (by
 intro x hx;simp only[Ag,BT,DQ]at hx;rcases hx with rfl|rfl
 . exact⟨_,Tryz.qt,PI,Qc⟩
 . exact⟨_,Tryz.qu,PJ,Qd⟩)
theorem Tryz.mix:Tryz.prog.follows .mixedOrders=true:=by kernel_rfl
theorem ch:Go.Sy.fg Tryz.prog Tryz.tab:=⟨Tryz.iU,OT Tryz.iU QD,Tryz.mix⟩
end
end Go.Proofs
