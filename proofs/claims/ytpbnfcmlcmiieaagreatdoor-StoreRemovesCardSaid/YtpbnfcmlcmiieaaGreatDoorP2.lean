/- Part 2: an evaluator, proved sound, and its use at this seat; no condition. -/
import Derived.KernelRfl
import Derived.Test.YtpbnfcmlcmiieaaGreatDoorP0
import Derived.Test.YtpbnfcmlcmiieaaGreatDoorP1
set_option linter.unusedSimpArgs false
set_option linter.unusedVariables false
set_option linter.unusedSectionVars false
set_option linter.deprecated false
set_option maxRecDepth 100000
namespace Go.Sy
open Go.Am
section
universe u v
inductive SV:Type 1 where
 |bool (b:Bool)
 |int (k:IntKind) (n:Int)
 |str (s:List UInt8)
 |aA
 |wp (a:Addr)
 |ptr (b off:Nat)
 |bo (b i off:Nat)
 |bB (cs:List SV) (off:Nat)
 |nils
 |sl (b off len cap:Nat)
 |own (b:Nat)
 |aD (X:Type) (L:List X) (enc:X->List SV)
 |aQ
 |map (b:Nat)
 |ah
 |fn (f:FuncId) (first captured:List SV)
 |agg (cs:List SV)
 |aO (vs:List SV)
 |any
inductive SO:Type 1 where
 |cells (cs:List SV) (elem:TypeId)
 |arr (X:Type) (L:List X) (enc:X->List SV) (elem:TypeId)
def so {α:Type u} (x:Option α) (k:α->Prop):Prop:=match x with|some a=>k a|none=>False
def br (b:Bool) (p q:Prop):Prop:=match b with|true=>p|false=>q
def ck (b:Bool) (p:Prop):Prop:=match b with|true=>p|false=>False
def look {α:Type u}:List (Nat×α)->Nat->Option α
 |[],_=>none
 |(k,v)::l,n=>bif Nat.beq k n then some v else look l n
abbrev Fr:=List (Nat×SV)
structure SH:Type 1 where
 next:Nat
 os:List (Nat×Option SO)
def SH.get (h:SH) (b:Nat):Option SO:=match look h.os b with|some (some o)=>some o|_=>none
def SH.set:SH->Nat->Option SO->SH
 |⟨n,os⟩,b,o=>⟨n,(b,o)::os⟩
def SH.new:SH->SO->SH
 |⟨n,os⟩,o=>⟨n+1,(n,some o)::os⟩
def Fr.of:List SV->Nat->Fr
 |[],_=>[]
 |v::l,n=>(n,v)::Fr.of l (n+1)
def nT:Value->Option SV
 | .bool b=>some (.bool b)
 | .int k n=>some (.int k n)
 | .string s=>some (.str s.data.toList)
 | .pointer none=>some .aA
 | .slice none 0 0=>some .nils
 | .map none=>some .aQ
 | .nilFunc=>some .ah
 |_=>none
def fe {α:Type u} {β:Type v} (f:α->Option β):List α->Option (List β)
 |[]=>some []
 |x::l=>match f x,fe f l with|some y,some m=>some (y::m)|_,_=>none
def sK:Value->Option SV
 | .agg cs=>(fe nT cs.toList).map .agg
 | .tuple vs=>(fe nT vs.toList).map .aO
 |v=>nT v
def gh:AV->Option SV
 | .bool b=>some (.bool b)
 | .int k n=>some (.int k n)
 | .str s=>some (.str s)
 | .aA=>some .aA
 | .nils=>some .nils
 | .aQ=>some .aQ
 | .ah=>some .ah
 |_=>none
def qT:AV->Option (List SV)
 | .agg cs=>fe gh cs
 |v=>(gh v).map fun x=>[x]
def dE (ts:Fr):Operand->Option SV
 | .tmp t=>look ts t
 | .const v=>sK v
 | .func f=>some (.fn f [] [])
 | .global _=>none
def gu (ts:Fr) (l:List Operand):Option (List SV):=fe (dE ts) l
def SV.cells:SV->List SV
 | .agg cs=>cs
 |v=>[v]
def jc:SV->Bool
 | .bool _| .int _ _| .str _| .aA| .wp _| .nils| .aQ| .ah| .aD _ _ _=>true
 |_=>false
def SV.known:SV->Bool
 | .any=>false
 |_=>true
def isScalar:SV->Bool
 | .agg _| .aO _| .any=>false
 |_=>true
section
variable (tab:aM)
def iF (t:TypeId) (cs:List SV) (off:Nat):Option SV:=
 match tab.agg.get t with
 |some true=>match tab.siz.get t with
  |some n=>bif Nat.ble (off+n) cs.length then some (.agg ((cs.drop off).take n))else none
  |none=>none
 |some false=>cs[off]?
 |none=>none
def nJ (cs:List SV) (off:Nat) (vs:List SV):List SV:=cs.take off++(vs++cs.drop (off+vs.length))
def qQ (h:SH) (t:TypeId) (p:SV) (k:SV->Prop):Prop:=
 match p with
 | .ptr b off=>match h.get b with
  |some (.cells cs _)=>so (iF tab t cs off) k
  |_=>False
 | .bo b i off=>match h.get b with
  |some (.arr _ L enc _)=>so (L[i]?) fun x=>so (iF tab t (enc x) off) k
  |_=>False
 | .bB cs off=>so (iF tab t cs off) k
 |_=>False
def tt (h:SH) (t:TypeId) (p v:SV) (k:SH->Prop):Prop:=
 match tab.siz.get t with
 | some n=>ck (!(Nat.beq n 0)&&v.known&&Nat.beq v.cells.length n&&v.cells.all isScalar) (match p with
  | .ptr b off=>match h.get b with
   |some (.cells cs e)=>ck (Nat.ble (off+n) cs.length) (k (h.set b (some (.cells (nJ cs off v.cells) e))))
   |_=>False
  |_=>False)
 |none=>False
end
end
section
universe u v
inductive Ev:Type 1 where
 |kill (b:Nat)
 |mod (b:Nat)
 |dy (b:Nat) (X:Type) (L:List X) (enc:X->List SV)
def gm:List Ev->List Nat
 |[]=>[]
 | .mod b::l=>b::gm l
 | .kill b::l=>b::gm l
 |_::l=>gm l
mutual
def SV.on (e:Ev):SV->SV
 | .bo b i off=>match e with
  | .kill c=>bif Nat.beq b c then .any else .bo b i off
  | .dy c _ L enc=>bif Nat.beq b c then(match L[i]? with|some x=> .bB (enc x) off|none=> .any)else .bo b i off
  | .mod _=> .bo b i off
 | .own b=>match e with
  | .kill c=>bif Nat.beq b c then .any else .own b
  | .dy c X L enc=>bif Nat.beq b c then .aD X L enc else .own b
  | .mod _=> .own b
 | .sl b off len cap=>match e with
  | .kill c=>bif Nat.beq b c then .any else .sl b off len cap
  | .dy c _ _ _=>bif Nat.beq b c then .any else .sl b off len cap
  | .mod _=> .sl b off len cap
 | .ptr b off=>match e with
  | .kill c=>bif Nat.beq b c then .any else .ptr b off
  | .dy c _ _ _=>bif Nat.beq b c then .any else .ptr b off
  | .mod _=> .ptr b off
 | .fn f xs ys=> .fn f (dH e xs) (dH e ys)
 | .agg cs=> .agg (dH e cs)
 | .aO cs=> .aO (dH e cs)
 |v=>v
def dH (e:Ev):List SV->List SV
 |[]=>[]
 |v::l=>SV.on e v::dH e l
end
def SO.on (e:Ev):SO->SO
 | .cells cs t=> .cells (dH e cs) t
 |o=>o
def fh (e:Ev):List (Nat×Option SO)->List (Nat×Option SO)
 |[]=>[]
 |(b,none)::l=>(b,none)::fh e l
 |(b,some o)::l=>(b,some (o.on e))::fh e l
def kX (e:Ev):Fr->Fr
 |[]=>[]
 |(t,v)::l=>(t,v.on e)::kX e l
structure St:Type 1 where
 ts:Fr
 h:SH
 log:List Ev
def St.note:St->Ev->St
 |⟨ts,h,log⟩,e=>⟨ts,h,log++[e]⟩
def St.ev:St->Ev->St
 |⟨ts,⟨n,os⟩,log⟩,e=>⟨kX e ts,⟨n,fh e os⟩,log++[e]⟩
def St.new:St->SO->St
 |⟨ts,h,log⟩,o=>⟨ts,h.new o,log⟩
def St.bp:St->Nat->SO->St
 |⟨ts,h,log⟩,b,o=>⟨ts,h.set b (some o),log⟩
def St.del:St->Nat->St
 |⟨ts,h,log⟩,b=>⟨ts,h.set b none,log⟩
def St.zr:St->SH->List Ev->St
 |⟨ts,_,log⟩,h,l=>⟨ts,h,log++l⟩
def fP {α:Type u}:List α->(List α->Prop)->Prop
 |[],K=>K []
 |x::l,K=>fP l fun l'=>K (x::l')
def ti (v:SV) (K:SV->Prop):Prop:=
 match v with
 | .bool b=>K (.bool b)
 | .int k n=>K (.int k n)
 | .str s=>K (.str s)
 | .aA=>K .aA
 | .wp a=>K (.wp a)
 | .ptr b off=>K (.ptr b off)
 | .bo b i off=>K (.bo b i off)
 | .bB cs off=>fP cs fun cs=>K (.bB cs off)
 | .nils=>K .nils
 | .sl b off n c=>K (.sl b off n c)
 | .own b=>K (.own b)
 | .aD X L enc=>K (.aD X L enc)
 | .aQ=>K .aQ
 | .map b=>K (.map b)
 | .ah=>K .ah
 | .fn f xs ys=>fP xs fun xs=>fP ys fun ys=>K (.fn f xs ys)
 | .agg cs=>fP cs fun cs=>K (.agg cs)
 | .aO cs=>fP cs fun cs=>K (.aO cs)
 | .any=>K .any
def yd (o:SO) (K:SO->Prop):Prop:=
 match o with
 | .cells cs t=>fP cs fun cs=>K (.cells cs t)
 | .arr X L enc t=>K (.arr X L enc t)
def oc (h:SH) (K:SH->Prop):Prop:=
 match h with
 |⟨n,os⟩=>match os with
  |(b,some o)::l=>yd o fun o=>K ⟨n,(b,some o)::l⟩
  |l=>K ⟨n,l⟩
def jP {α:Type}:T α->(T α->Prop)->Prop
 | .e,K=>K .e
 | .n v l r,K=>jP l fun l=>jP r fun r=>match v with
  |some a=>K (.n (some a) l r)
  |none=>K (.n none l r)
structure View:Type 1 where
 X:Type
 enc:X->List SV
def mQ (tab:aM) (t:TypeId):Option (List SV):=(tab.gD.get t).bind qT
def oD:R AV->Option SV
 | .ok v=>gh v
 | .no _=>none
def cu (x y:Int):Bool:=
 match x with
 | .ofNat a=>match y with
  | .ofNat b=>Nat.blt a b
  | .negSucc _=>false
 | .negSucc a=>match y with
  | .ofNat _=>true
  | .negSucc b=>Nat.blt b a
def cl (x y:Int):Bool:=
 match x with
 | .ofNat a=>match y with
  | .ofNat b=>Nat.ble a b
  | .negSucc _=>false
 | .negSucc a=>match y with
  | .ofNat _=>true
  | .negSucc b=>Nat.ble b a
def rp:IntKind->Int
 | .i8=> .negSucc 127| .i16=> .negSucc 32767| .i32=> .negSucc 2147483647| .i64=> .negSucc 9223372036854775807
 |_=> .ofNat 0
def rl:IntKind->Int
 | .i8=> .ofNat 127| .i16=> .ofNat 32767| .i32=> .ofNat 2147483647| .i64=> .ofNat 9223372036854775807
 | .u8=> .ofNat 255| .u16=> .ofNat 65535| .u32=> .ofNat 4294967295| .u64=> .ofNat 18446744073709551615
def cg (k:IntKind) (n:Int):Bool:=cl (rp k) n&&cl n (rl k)
def nn (n:Int):Bool:=match n with| .ofNat _=>true| .negSucc _=>false
def iw (v:SV) (k:Nat->Prop):Prop:=
 match v with
 | .int _ n=>ck (nn n) (k n.toNat)
 |_=>False
section
variable (tab:aM) (view:TypeId->Option View)
def gJ (eq:TypeId->SV->SV->Option Bool):List Field->List SV->List SV->Option Bool
 |[],_,_=>some true
 | f::fs,xs,ys=>
  bif decide (f.name= "_")then gJ eq fs xs ys else
   match iF tab f.type xs f.offset,iF tab f.type ys f.offset with
   |some a,some b=>match eq f.type a b,gJ eq fs xs ys with
    |some p,some q=>some (p&&q)
    |_,_=>none
   |_,_=>none
def ed:Nat->TypeId->SV->SV->Option Bool
 |0,_,_,_=>none
 | d+1,t,x,y=>
  match tab.und.get t,x,y with
  |some .bool, .bool a, .bool b=>some (a==b)
  |some (.int _), .int k a, .int j b=>bif decide (k=j)then some (a==b)else none
  |some .string, .str a, .str b=>some (a==b)
  |some (.pointer _), .aA, .aA=>some true
  |some (.pointer _), .aA, .ptr _ _=>some false
  |some (.pointer _), .ptr _ _, .aA=>some false
  |some (.pointer _), .wp _, .aA=>some false
  |some (.pointer _), .aA, .wp _=>some false
  |some (.slice _), .nils, .nils=>some true
  |some (.map _ _), .aQ, .aQ=>some true
  |some (.map _ _), .aQ, .map _=>some false
  |some (.map _ _), .map _, .aQ=>some false
  |some (.func _ _ _), .ah, .ah=>some true
  |some (.func _ _ _), .ah, .fn .. =>some false
  |some (.func _ _ _), .fn .., .ah=>some false
  |some (.struct fs), .agg xs, .agg ys=>
   match tab.held.get t with
   |some false=>gJ tab (ed d) fs.toList xs ys
   |_=>none
  |_,_,_=>none
def bL (b:UInt8):List SV:=[.int .u8 (.ofNat b.toNat)]
def qy (c:List UInt8):List SV:=c.map fun b=> .int .u8 (.ofNat b.toNat)
def tu (op:BinOp) (k:IntKind) (x y:Int) (K:SV->Prop):Prop:=
 let fit (n:Int):Prop:=bif k.signed then ck (cg k n) (K (.int k n))else K (.int k (k.wrap n))
 match op with
 | .add=>fit (x+y)
 | .sub=>fit (x - y)
 | .mul=>fit (x*y)
 | .quo=>ck (!(y==0)) (fit (x.tdiv y))
 | .rem=>ck (!(y==0)) (K (.int k (x.tmod y)))
 | .eql=>K (.bool (x==y))
 | .neq=>K (.bool (!(x==y)))
 | .lss=>K (.bool (cu x y))
 | .leq=>K (.bool (cl x y))
 | .gtr=>K (.bool (cu y x))
 | .geq=>K (.bool (cl y x))
 |op=>so (oD (intOp op k x y)) K
def lG (op:BinOp) (t:TypeId) (x y:SV) (K:SV->Prop):Prop:=
 match op,x,y with
 | .shl, .int k a, .int _ b=>ck (nn b) (so (oD (.ok (.int k (k.wrap (a*2 ^ (min b.toNat k.bits)))))) K)
 | .shr, .int k a, .int _ b=>ck (nn b) (so (oD (.ok (.int k (a.fdiv (2 ^ (min b.toNat k.bits)))))) K)
 |op, .int k a, .int j b=>ck (decide (k=j)) (tu op k a b K)
 | .add, .str a, .str b=>ck (Nat.ble (a.length+b.length) 1048576) (K (.str (a++b)))
 | .eql, .str a, .str b=>K (.bool (a==b))
 | .neq, .str a, .str b=>K (.bool (!(a==b)))
 | .lss, .str a, .str b=>K (.bool (Op.bytesLess a b))
 | .leq, .str a, .str b=>K (.bool (Op.bytesLess a b||a==b))
 | .gtr, .str a, .str b=>K (.bool (!(Op.bytesLess a b||a==b)))
 | .geq, .str a, .str b=>K (.bool (!Op.bytesLess a b))
 | .eql, .agg a, .agg b=>match tab.gK.get t with|some false=>so (ed tab 8 t (.agg a) (.agg b)) fun p=>K (.bool p)|_=>False
 | .neq, .agg a, .agg b=>match tab.gK.get t with|some false=>so (ed tab 8 t (.agg a) (.agg b)) fun p=>K (.bool (!p))|_=>False
 | .eql,x,y=>so (ed tab 8 t x y) fun p=>K (.bool p)
 | .neq,x,y=>so (ed tab 8 t x y) fun p=>K (.bool (!p))
 |_,_,_=>False
def tU (op:UnOp) (x:SV) (K:SV->Prop):Prop:=
 match op,x with
 | .neg, .int k n=>bif k.signed then ck (cg k (0 - n)) (K (.int k (0 - n)))else K (.int k (k.wrap (0 - n)))
 | .xor, .int k n=>so (oD (unOp .xor (.int k n))) K
 | .not, .bool b=>K (.bool (!b))
 |_,_=>False
def lA (cs:List SV):List (Nat×Nat×SV)->Option (List SV)
 |[]=>some cs
 |(off,n,v)::rest=>bif v.known&&Nat.beq v.cells.length n&&Nat.ble (off+n) cs.length then lA (nJ cs off v.cells) rest else none
def nX (fs:Array Field):List (Nat×SV)->Option (List (Nat×Nat×SV))
 |[]=>some []
 | (i,v)::rest=>match fs[i]? with
  |some f=>match tab.siz.get f.type,nX fs rest with
   |some n,some r=>some ((f.offset,n,v)::r)
   |_,_=>none
  |none=>none
def mG (ts:Fr):List (Nat×Operand)->Option (List (Nat×SV))
 |[]=>some []
 |(i,x)::l=>match dE ts x,mG ts l with
  |some v,some r=>some ((i,v)::r)
  |_,_=>none
def tq (t:TypeId) (ps:List (Nat×SV)):Option SV:=
 match mQ tab t,tab.und.get t with
 | some z,some (.struct fs)=>bif fs.toList.all (fun f=>(tab.siz.get f.type).isSome)then
   match nX tab fs ps with
   |some q=>(lA z q).map .agg
   |none=>none
  else none
 |some z,some (.array _ e)=>match tab.siz.get e with
  |some n=>(lA z (ps.map fun(i,v)=>(i*n,n,v))).map .agg
  |none=>none
 |_,_=>none
def lE:Nat->List SV->List SV
 |0,_=>[]
 |n+1,l=>l++lE n l
def pe (s:St) (t:TypeId) (len:Nat) (ps:List (Nat×SV)) (K:SV->St->Prop):Prop:=
 match tab.und.get t with
 | some (.slice e)=>match tab.siz.get e,mQ tab e with
  | some n,some z=>ck (Nat.ble (len*n) 16777216&&Nat.beq z.length n) (bif Nat.beq len 0 then
    ck (ps.isEmpty&& !(Nat.beq n 0)) (match view e with
    |some V=>K (.own s.h.next) (s.new (.arr V.X [] V.enc e))
    |none=>False)
   else so (lA (lE len z) (ps.map fun(i,v)=>(i*n,n,v))) fun cs=>K (.sl s.h.next 0 len len) (s.new (.cells cs e)))
  |_,_=>False
 |_=>False
def jy (ts:Fr) (x:Option Operand) (K:Option Nat->Prop):Prop:=
 match x with
 |none=>K none
 |some y=>so (dE ts y) fun v=>iw v fun n=>K (some n)
def iq {α:Type u} (l:List α) (lo hi:Option Nat) (K:List α->Prop):Prop:=
 match lo,hi with
 |none,none=>K l
 |some a,none=>ck (Nat.ble a l.length) (K (l.drop a))
 |none,some b=>ck (Nat.ble b l.length) (K (l.take b))
 |some a,some b=>ck (Nat.ble a b&&Nat.ble b l.length) (K ((l.drop a).take (b - a)))
def oo (s:St) (t:TypeId) (x:SV) (lo hi:Option Operand) (K:SV->St->Prop):Prop:=
 jy s.ts lo fun l=>jy s.ts hi fun u=>
 match tab.und.get t,x with
 |some .string, .str c=>iq c l u fun c'=>K (.str c') s
 |some (.slice e), .aD X L enc=>match tab.siz.get e with
  |some n=>(∀x:X,(enc x).length=n)/\iq L l u fun L'=>K (.aD X L' enc) s
  |none=>False
 |some (.slice e), .own b=>match s.h.get b,tab.siz.get e with
  |some (.arr X L enc _),some n=>(∀x:X,(enc x).length=n)/\iq L l u fun L'=>K (.aD X L' enc) ((s.ev (.dy b X L enc)).del b)
  |_,_=>False
 | some (.slice e), .sl b off len cap=>match tab.siz.get e with
  |some n=>let a:=l.getD 0
   let c:=u.getD len
   ck (Nat.ble a c&&Nat.ble c cap) (K (.sl b (bif Nat.beq cap a then off else off+a*n) (c - a) (cap - a)) s)
  |none=>False
 |_,_=>False
def qx (s:St) (src dst:TypeId) (x:SV) (K:SV->St->Prop):Prop:=
 match tab.und.get src,tab.und.get dst,x with
 |some _,some (.int k), .int _ n=>K (.int k (k.wrap n)) s
 |some _,some .string, .str c=>K (.str c) s
 |some _,some (.slice e), .str c=>match tab.und.get e,tab.siz.get e with
  |some (.int .u8),some 1=>K (.aD UInt8 c bL) s
  |_,_=>False
 |some (.slice e),some .string, .nils=>match tab.und.get e with
  |some (.int .u8)=>K (.str []) s
  |_=>False
 |some (.slice e),some .string, .aD X L enc=>match tab.und.get e with
  |some (.int .u8)=>∃c:List UInt8,SV.aD X L enc=SV.aD UInt8 c bL/\K (.str c) s
  |_=>False
 |some (.slice e),some .string, .own b=>match tab.und.get e,s.h.get b with
  |some (.int .u8),some (.arr X L enc _)=>∃c:List UInt8,SV.aD X L enc=SV.aD UInt8 c bL/\K (.str c) s
  |_,_=>False
 |some (.slice e),some .string, .sl b off len _=>match tab.und.get e,s.h.get b with
  |some (.int .u8),some (.cells cs _)=>ck (Nat.ble (off+len) cs.length) (∃c:List UInt8,(cs.drop off).take len=qy c/\K (.str c) s)
  |_,_=>False
 |_,_,_=>False
def qe (t:TypeId) (f:Nat):Option Field:=
 match tab.und.get t with
 |some (.struct fs)=>fs[f]?
 |_=>none
def chunk (n:Nat):Nat->List SV->List (List SV)
 |0,_=>[]
 |m+1,l=>l.take n::chunk n m (l.drop n)
def oX {X:Type} (enc:X->List SV):List (List SV)->(List X->Prop)->Prop
 |[],K=>K []
 |c::cs,K=>∃x:X,enc x=c/\oX enc cs fun l=>K (x::l)
def eN:List SV->St->St
 |[],s=>s
 | .own b::l,s=>match s.h.get b with
  |some (.arr X L enc _)=>eN l ((s.ev (.dy b X L enc)).del b)
  |_=>eN l s
 |_::l,s=>eN l s
def jq (s:St) (e n by_:Nat) (x:SV) (Y:Type) (M:List Y) (enc':Y->List SV) (K:SV->St->Prop):Prop:=
 match x with
 | .nils=>(∀x:Y,(enc' x).length=n/\(enc' x).all jc=true)/\ck (Nat.ble (M.length*by_) 16777216&&Nat.ble M.length 16777216) (K (.own s.h.next) (s.new (.arr Y M enc' e)))
 | .own d=>match s.h.get d with
  |some (.arr X L enc e')=>ck (Nat.beq e e') ((∀x:Y,(enc' x).length=n/\(enc' x).all jc=true)/\ ∃M':List X,SV.aD Y M enc'=SV.aD X M' enc/\ck (Nat.ble ((L.length+M'.length)*by_) 16777216&&Nat.ble (L.length+M'.length) 16777216) (K (.own d) (((s.ev (.kill d)).bp d (.arr X (L++M') enc e)).note (.mod d))))
  |_=>False
 |_=>False
def kO (s:St) (e n by_ m:Nat) (x:SV) (cs:List SV) (K:SV->St->Prop):Prop:=
 match x with
 | .nils=>match view e with
  |some V=>oX V.enc (chunk n m cs) fun l=>ck (Nat.ble (l.length*by_) 16777216&&Nat.ble l.length 16777216) (K (.own s.h.next) (s.new (.arr V.X l V.enc e)))
  |none=>False
 | .own d=>match s.h.get d with
  |some (.arr X L enc e')=>ck (Nat.beq e e') (oX enc (chunk n m cs) fun l=>ck (Nat.ble ((L.length+l.length)*by_) 16777216&&Nat.ble (L.length+l.length) 16777216) (K (.own d) (((s.ev (.kill d)).bp d (.arr X (L++l) enc e)).note (.mod d))))
  |_=>False
 |_=>False
def sS (s:St) (e:TypeId) (x y:SV) (K:SV->St->Prop):Prop:=
 match tab.siz.get e,tab.byt.get e with
 | some n,some by_=>
  ck (!(Nat.beq n 0)&&(match mQ tab e with|some z=>Nat.beq z.length n|none=>false))
  (match y with
  | .sl b off m _=>match s.h.get b with
   |some (.cells cs0 _)=>
    match(eN ((cs0.drop off).take (m*n)) s).h.get b with
    |some (.cells cs _)=>ck (Nat.ble (off+m*n) cs.length&&((cs.drop off).take (m*n)).all jc) (kO view (eN ((cs0.drop off).take (m*n)) s) e n by_ m x ((cs.drop off).take (m*n)) K)
    |_=>False
   |_=>False
  | .aD Y M enc'=>jq s e n by_ x Y M enc' K
  | .own b=>match s.h.get b with
   |some (.arr Y M enc' _)=>jq ((s.ev (.dy b Y M enc')).del b) e n by_ x Y M enc' K
   |_=>False
  | .nils=>match x with
   | .nils=>K .nils s
   |_=>False
  |_=>False)
 |_,_=>False
def jx (k:IntKind):Int->List SV->Option SV
 |x,[]=>some (.int k x)
 |x, .int _ y::l=>jx k (if y<x then y else x) l
 |_,_=>none
def jw (k:IntKind):Int->List SV->Option SV
 |x,[]=>some (.int k x)
 |x, .int _ y::l=>jw k (if y>x then y else x) l
 |_,_=>none
def kW (s:St) (x:SV):Option Nat:=
 match x with
 | .nils=>some 0
 | .aD _ L _=>some L.length
 | .sl _ _ n _=>some n
 | .own b=>match s.h.get b with
  |some (.arr _ L _ _)=>some L.length
  |_=>none
 |_=>none
def mm (s:St) (b:Builtin) (ats:Array TypeId) (args:List SV) (K:SV->St->Prop):Prop:=
 match b,args with
 | .len,[x]=>match(ats[0]?).bind tab.und.get with
  |some .string=>match x with| .str c=>K (.int .i64 (.ofNat c.length)) s|_=>False
  |some (.slice _)=>so (kW s x) fun n=>K (.int .i64 (.ofNat n)) s
  |_=>False
 | .append,[x,y]=>match(ats[0]?).bind tab.und.get,(ats[1]?).bind tab.und.get with
  |some (.slice e),some (.slice _)=>sS tab view s e x y K
  |_,_=>False
 | .min, .int k x::l=>so (jx k x l) fun v=>K v s
 | .max, .int k x::l=>so (jw k x l) fun v=>K v s
 |_,_=>False
def qR:SV->List Ev
 | .ptr b _=>[.mod b]
 |_=>[]
def ik (s:St) (o:Oper) (K:SV->St->Prop):Prop:=
 match o.op with
 | .move x=>so (dE s.ts x) fun v=>K v s
 | .assign x=>so (dE s.ts x) fun v=>K v s
 | .pick c a b=>match dE s.ts c with
  |some (.bool p)=>match dE s.ts a,dE s.ts b with
   |some (.bool x),some (.bool y)=>K (.bool (bif p then x else y)) s
   |u,v=>br p (so u fun v=>K v s) (so v fun v=>K v s)
  |_=>False
 | .alloc e=>so (tab.siz.get e) fun _=>so (mQ tab e) fun cs=>K (.ptr s.h.next 0) (s.new (.cells cs e))
 | .box e x=>so (tab.siz.get e) fun _=>so (dE s.ts x) fun v=>ck v.known (K (.ptr s.h.next 0) (s.new (.cells v.cells e)))
 | .build t ps=>so (mG s.ts ps.toList) fun l=>so (tq tab t l) fun v=>K v s
 | .buildSlice t n ps=>so (mG s.ts ps.toList) fun l=>pe tab view s t n l K
 | .load t a=>so (dE s.ts a) fun p=>qQ tab s.h t p fun v=>K v s
 | .store t a x=>so (dE s.ts a) fun p=>so (dE s.ts x) fun v=>tt tab s.h t p v fun h'=>K (.aO []) (s.zr h' (qR p))
 | .nilCheck x=>so (dE s.ts x) fun v=>match v with
  | .ptr .. | .bo .. | .bB .. | .fn .. =>K v s
  |_=>False
 | .binOp op t x y _=>so (dE s.ts x) fun a=>so (dE s.ts y) fun b=>lG tab op t a b fun v=>K v s
 | .unOp op _ x=>so (dE s.ts x) fun a=>tU op a fun v=>K v s
 | .convert a b x=>so (dE s.ts x) fun v=>qx tab s a b v K
 | .makeFunc fn first captured=>match fn with
  | .func f=>so (gu s.ts first.toList) fun xs=>so (gu s.ts captured.toList) fun ys=>K (.fn f xs ys) s
  |_=>False
 | .slice t x lo hi none=>so (dE s.ts x) fun v=>oo tab s t v lo hi K
 | .fieldAddr st x f=>so (qe tab st f) fun fd=>ck (match tab.siz.get fd.type with|some n=> !(Nat.beq n 0)|none=>false) (so (dE s.ts x) fun v=>match v with
  | .ptr b off=>K (.ptr b (off+fd.offset)) s
  | .bo b i off=>K (.bo b i (off+fd.offset)) s
  | .bB cs off=>K (.bB cs (off+fd.offset)) s
  |_=>False)
 | .field t x f=>so (qe tab t f) fun fd=>so (dE s.ts x) fun v=>match v with
  | .agg cs=>so (iF tab fd.type cs fd.offset) fun u=>K u s
  |_=>False
 | .indexAddr t x ix=>so (dE s.ts ix) fun j=>iw j fun i=>so (dE s.ts x) fun v=>match tab.und.get t,v with
  |some (.array len e), .ptr b off=>match tab.siz.get e with
   |some n=>ck (Nat.blt i len) (K (.ptr b (off+i*n)) s)
   |none=>False
  |some (.slice e), .sl b off len _=>match tab.siz.get e with
   |some n=>ck (Nat.blt i len) (K (.ptr b (off+i*n)) s)
   |none=>False
  |some (.slice e), .aD _ L enc=>match tab.siz.get e with
   |some n=>so (L[i]?) fun x=>ck (Nat.beq (enc x).length n) (K (.bB (enc x) 0) s)
   |none=>False
  |some (.slice e), .own b=>match tab.siz.get e,s.h.get b with
   |some _,some (.arr _ L _ e')=>ck (Nat.beq e e'&&Nat.blt i L.length) (K (.bo b i 0) s)
   |_,_=>False
  |_,_=>False
 | .index t x ix=>so (dE s.ts ix) fun j=>iw j fun i=>so (dE s.ts x) fun v=>match tab.und.get t,v with
  |some (.array len e), .agg cs=>match tab.siz.get e with
   |some n=>ck (Nat.blt i len) (so (iF tab e cs (i*n)) fun u=>K u s)
   |none=>False
  |some .string, .str c=>so (c[i]?) fun b=>K (.int .u8 (.ofNat b.toNat)) s
  |_,_=>False
 | .extract t i=>so (dE s.ts t) fun v=>match v with
  | .aO vs=>so (vs[i]?) fun u=>K u s
  |_=>False
 | .call c=>match c.callee with
  | .builtin b=>so (gu s.ts c.args.toList) fun l=>mm tab view s b c.argTypes l K
  |_=>False
 |_=>False
end
end
section
universe u v
structure aR:Type 1 where
 Y:Type
 pre:Y->Prop
 args:Y->List SV
 res:Y->SV
structure bh:Type 1 where
 α:Type
 ok:α->Prop
 μ:α->Nat
 bI:List Nat
 bJ:α->List (Nat×SV)
 cU:α->List (Nat×SO)
 dy:List Nat:=[]
 link:Option (α->α->Prop):=none
structure eZ:Type 1 where
 tab:aM
 view:TypeId->Option View
 cJ:FuncId->Option aR
 iW:FuncId->Nat->Option bh
inductive cP:Type 1 where
 |code (c:Code)
 |inBlock (id:Nat)
 |inLoop (body:Code)
 |head (fl:Fr->SH->List Ev->Prop)
 |inScope (body:Code)
 |inRegion (ops:Array Oper) (l:List Nat)
structure SM:Type 1 where
 fn:FuncId
 nt:Nat
 base:Nat
 todo:List cP
 s:St
mutual
def SV.lt (n:Nat):SV->Bool
 | .ptr b _=>Nat.blt b n
 | .bo b _ _=>Nat.blt b n
 | .own b=>Nat.blt b n
 | .sl b _ _ _=>Nat.blt b n
 | .map b=>Nat.blt b n
 | .fn _ xs ys=>eL n xs&&eL n ys
 | .agg cs=>eL n cs
 | .aO cs=>eL n cs
 |_=>true
def eL (n:Nat):List SV->Bool
 |[]=>true
 |v::l=>SV.lt n v&&eL n l
end
mutual
def SV.full:SV->Bool
 | .any=>false
 | .fn _ xs ys=>fS xs&&fS ys
 | .agg cs=>fS cs
 | .aO cs=>fS cs
 |_=>true
def fS:List SV->Bool
 |[]=>true
 |v::l=>SV.full v&&fS l
end
def SO.lt (n:Nat):SO->Bool
 | .cells cs _=>eL n cs
 | .arr .. =>true
def Ev.id:Ev->Nat
 | .kill b=>b
 | .mod b=>b
 | .dy b _ _ _=>b
def oW (v e:SV):Prop:=
 match v,e with
 | .bool a, .bool b=>a=b
 | .int k a, .int j b=>ck (decide (k=j)) (a=b)
 | .str a, .str b=>a=b
 | .ptr a i, .ptr b j=>ck (Nat.beq a b&&Nat.beq i j) True
 | .own a, .own b=>ck (Nat.beq a b) True
 | .aA, .aA=>True
 | .nils, .nils=>True
 | .aQ, .aQ=>True
 | .ah, .ah=>True
 | .nils, .aD _ L _=>L=[]
 |_, .any=>True
 |v,e=>v=e
def kT:List SV->List SV->Prop
 |[],[]=>True
 |a::l,b::m=>oW a b/\kT l m
 |_,_=>False
def mW (o e:SO):Prop:=
 match o,e with
 | .cells a t, .cells b u=>ck (Nat.beq t u) (kT a b)
 | .arr X L enc t, .arr X' L' enc' u=>ck (Nat.beq t u) (SV.aD X L enc=SV.aD X' L' enc')
 |_,_=>False
def mZ (tab:aM) (next p:Nat) (o e:Option SO):Prop:=
 match e,o with
 |none,_=>True
 |some (.arr X L enc t),some o=>mW o (.arr X L enc t)
 |some (.arr X L enc t),none=>ck (Nat.ble next p) (L=[]/\so (tab.siz.get t) fun n=>ck (!(Nat.beq n 0)) (∀x:X,(enc x).length=n))
 |some e,some o=>mW o e
 |some _,none=>False
def tE (tab:aM) (h e:SH):Nat->Prop
 |0=>True
 |n+1=>mZ tab h.next n (h.get n) (e.get n)/\tE tab h e n
def ir (tab:aM) (h e:SH):Prop:=tE tab h e e.next
def kU (h eh:SH) (v e:SV):Prop:=
 match e,v with
 | .own b, .nils=>match h.get b,eh.get b with|none,some (.arr ..)=>True|_,_=>False
 |e,v=>oW v e
def gf (ts:Fr) (h eh:SH):Fr->Prop
 |[]=>True
 |(t,e)::l=>so (look ts t) (fun v=>kU h eh v e)/\gf ts h eh l
def stay (n:Nat) (h eh:SH):Bool:=(List.range n).all fun p=>match h.get p,eh.get p with|some _,none=>false|_,_=>true
def sU (ts:Fr) (e:Fr):List Nat->Fr
 |[]=>e
 |t::l=>match look ts t with|some v=>(t,v)::sU ts e l|none=>sU ts e l
def nq:SH->List (Nat×SO)->SH
 |h,[]=>h
 |⟨n,os⟩,(b,o)::l=>nq ⟨Nat.max n (b+1),(b,some o)::os⟩ l
def bh.at (A:bh) (s:St) (x:A.α):Fr×SH:=(sU s.ts (A.bJ x) A.bI,nq s.h (A.cU x))
def low (ts:Fr) (h:SH):Bool:=ts.all (fun x=>x.2.lt h.next)&&h.os.all (fun x=>Nat.blt x.1 h.next&&(match x.2 with|some o=>o.lt h.next|none=>true))
def jb:Code->Option Nat
 | .region id _ _=>some id
 | .seq a b=>match jb a with|some r=>some r|none=>jb b
 | .cond _ a b=>match jb a with|some r=>some r|none=>jb b
 | .block _ b=>jb b
 | .loop b=>jb b
 | .scope b=>jb b
 | .rangeFunc _ _ a b=>match jb a with|some r=>some r|none=>jb b
 |_=>none
def jh (id:Nat):List cP->Option (List cP)
 | .inBlock j::k=>bif Nat.beq j id then some k else jh id k
 |_::k=>jh id k
 |[]=>none
section
variable (cfg:eZ)
def cF:Nat->List SV->List SV->St->(St->Prop)->Prop
 |0,_,_,_,_=>False
 |_+1,[],[],s,K=>K s
 | n+1,f::fs,a::as1,s,K=>
  match f,a with
  | .any,_=>cF n fs as1 s K
  | .bool x, .bool y=>y=x/\cF n fs as1 s K
  | .int k x, .int j y=>ck (decide (k=j)) (y=x/\cF n fs as1 s K)
  | .str x, .str y=>y=x/\cF n fs as1 s K
  | .aA, .aA=>cF n fs as1 s K
  | .wp x, .wp y=>y=x/\cF n fs as1 s K
  | .nils, .nils=>cF n fs as1 s K
  | .aQ, .aQ=>cF n fs as1 s K
  | .ah, .ah=>cF n fs as1 s K
  | .aD X L enc, .aD X' L' enc'=>SV.aD X' L' enc'=SV.aD X L enc/\cF n fs as1 s K
  | .aD _ L _, .nils=>L=[]/\cF n fs as1 s K
  | .aD X L enc, .own b=>match s.h.get b with
   |some (.arr X' L' enc' _)=>SV.aD X' L' enc'=SV.aD X L enc/\cF n fs (dH (.dy b X' L' enc') as1) ((s.ev (.dy b X' L' enc')).del b) K
   |_=>False
  | .aD X L enc, .sl b off m c=>match s.h.get b with
   |some (.cells cs e)=>match cfg.tab.siz.get e with
    |some r=>ck (!(Nat.beq r 0)&&Nat.ble m c&&Nat.ble (off+m*r) cs.length&&((cs.drop off).take (m*r)).all jc) (chunk r m ((cs.drop off).take (m*r))=L.map enc/\cF n fs (dH (.kill b) as1) ((s.ev (.kill b)).del b) K)
    |none=>False
   |_=>False
  | .agg xs, .agg ys=>ck (Nat.beq xs.length ys.length) (cF n (xs++fs) (ys++as1) s K)
  | .fn f xs us, .fn g ys vs=>ck (Nat.beq f g&&Nat.beq xs.length ys.length&&Nat.beq us.length vs.length) (cF n (xs++(us++fs)) (ys++(vs++as1)) s K)
  |_,_=>False
 |_,_,_,_,_=>False
def mJ:List Ev->Fr->Fr
 |[],ts=>ts
 |e::l,ts=>mJ l (kX e ts)
def tP (rec:SM->(SV->St->Prop)->Prop) (f:FuncId) (args:List SV) (s:St) (K:SV->St->Prop):Prop:=
 match cfg.tab.fns.get f with
 | some fn=>match fn.body with
  | some body=>match cfg.cJ f with
   |some C=>∃y:C.Y,cF cfg 1000 (C.args y) args s fun s=>C.pre y/\K (C.res y) s
   | none=>match s with
    |⟨ts,h,log⟩=>rec ⟨f,Nat.max fn.ntmps args.length,h.next,[.code body],⟨Fr.of args 0,h,[]⟩⟩ fun v s'=>
     match s' with
     |⟨_,h',log'⟩=>K v ⟨mJ log' ts,h',log++log'⟩
  |none=>False
 |none=>False
def ft (nt:Nat) (s:St) (d:Option Tmp) (v:SV) (K:St->Prop):Prop:=
 match s,d with
 |⟨ts,h,log⟩,some d=>bif Nat.blt d nt then ti v fun v=>oc h fun h=>K ⟨(d,v)::ts,h,log⟩else K ⟨ts,h,log⟩
 |⟨ts,h,log⟩,none=>oc h fun h=>K ⟨ts,h,log⟩
def oe (ops:Array Oper) (o:Oper) (s:St) (K:Bool->St->Prop):Prop:=
 match o.guard with
 |none=>K true s
 | some (j,w)=>
  match(ops[j]?).bind (·.dst)with
  | some d=>match s with
   |⟨ts,h,log⟩=>match look ts d with
    |some (.bool p)=>br p (K w ⟨(d, .bool true)::ts,h,log⟩) (K (!w) ⟨(d, .bool false)::ts,h,log⟩)
    |some (.aO _)=>K false ⟨ts,h,log⟩
    |_=>False
  |none=>K false s
def qz (rec:SM->(SV->St->Prop)->Prop) (s:St) (o:Oper) (K:SV->St->Prop):Prop:=
 match o.op with
 | .call c=>match c.callee with
  | .value f=>so (gu s.ts c.args.toList) fun args=>so (dE s.ts f) fun v=>match v with
   | .fn g first captured=>tP cfg rec g (first++args++captured) s K
   |_=>False
  |_=>ik cfg.tab cfg.view s o K
 |_=>ik cfg.tab cfg.view s o K
structure SD:Type 1 where
 s:St
 ax:T (List Nat)
 reads:List (Nat×List Nat)
 ai:List (Nat×Nat)
def jS:SH->List (Nat×Nat)->SH
 |h,[]=>h
 |h,(_,b)::l=>jS (h.set b none) l
def fo (o:Option SO):List Ev->Option SO
 |[]=>o
 |e::l=>fo (o.map (SO.on e)) l
def gV (h h0:SH) (log:List Ev):List (Nat×Nat)->SH
 |[]=>h
 |(_,b)::l=>gV (h.set b (fo (h0.get b) log)) h0 log l
def th (ts:Fr) (o:Oper):List Nat:=
 match o.op with
 | .load _ a=>match dE ts a with
  |some (.ptr b _)=>[b]
  |some (.bo b _ _)=>[b]
  |_=>[]
 | .indexAddr _ x _=>match dE ts x with
  |some (.own b)=>[b]
  |_=>[]
 | .call c=>match c.args.toList with
  |[x]=>match dE ts x with
   |some (.own b)=>[b]
   |_=>[]
  |_=>[]
 |_=>[]
def kG (h:SH):List Nat->List (Nat×Option SO)
 |[]=>[]
 |b::l=>(b,h.get b)::kG h l
def tp (ops:Array Oper) (nt i:Nat) (o:Oper) (d:SD) (K:SD->Prop):Prop:=
 match d with
 |⟨s,ax,reads,ai⟩=>
 ck (fq ax ops i o) (oe ops o s fun w s=>
  bif !w then fP (cI ax o) fun an=>jP (ax.set i (some an)) fun ax=>ft nt s o.dst (.aO []) fun s=>K ⟨s,ax,reads,ai⟩
  else match cls cfg.tab o with
  | .fN=>K ⟨s,ax,reads,ai⟩
  | .alloc=>fP (cI ax o) fun an=>jP (ax.set i (some an)) fun anc'=>match s with
   |⟨ts,h,log⟩=>ik cfg.tab cfg.view ⟨ts,h,[]⟩ o fun v s'=>match s' with
    |⟨ts',h',log'⟩=>ck log'.isEmpty (ft nt ⟨ts',h',log⟩ o.dst v fun s'=>K ⟨s',anc',reads,(i,h.next)::ai⟩)
  |_=>fP (cI ax o) fun an=>jP (ax.set i (some an)) fun ax=>match s with
   |⟨ts,h,log⟩=>fP (th ts o) fun rs=>ck (rs.all fun b=>ai.all fun x=> !(Nat.beq x.2 b)) (ik cfg.tab cfg.view ⟨ts,⟨h.next,kG h rs⟩,[]⟩ o fun v s'=>ck (s'.log.isEmpty&&v.full) (ft nt ⟨ts,h,log⟩ o.dst v fun s'=>K ⟨s',ax,(i,rs)::reads,ai⟩)))
def oz (ops:Array Oper) (nt:Nat):Nat->List Oper->SD->(SD->Prop)->Prop
 |_,[],d,K=>K d
 |i,o::l,d,K=>
  bif isReady d.ax i o then tp cfg ops nt i o d fun d'=>oz ops nt (i+1) l d' K
  else oz ops nt (i+1) l d K
def kS (rec:SM->(SV->St->Prop)->Prop) (ops:Array Oper) (nt i:Nat) (o:Oper) (d:SD) (K:SD->Prop):Prop:=
 match d with
 |⟨s,ax,reads,ai⟩=>
 ck (fq ax ops i o) (oe ops o s fun w s=>
  ck w (fP (cI ax o) fun an=>jP (ax.set i (some an)) fun ax=>
   fP (ai.filter fun x=> !(bx x.1 an)) fun hid=>fP (reads.filter fun x=> !(bx x.1 an)) fun reads=>match s with
   | ⟨ts,h,log⟩=>qz cfg rec ⟨ts,jS h hid,[]⟩ o fun v s'=>match s' with
    |⟨ts',h',log'⟩=>ck ((reads.all fun x=>x.2.all fun b=> !(bx b (log'.map Ev.id))&&(h'.get b).isSome&&hid.all fun y=> !(Nat.beq y.2 b))&&hid.all fun x=> !(bx x.2 (log'.map Ev.id)))
     (ft nt ⟨ts',gV h' h log' hid,log++log'⟩ o.dst v fun s'=>K ⟨s',ax,reads,hid⟩)))
def ot (rec:SM->(SV->St->Prop)->Prop) (ops:Array Oper) (nt:Nat):Nat->SD->(St->Prop)->Prop
 |0,_,_=>False
 |n+1,d,K=>oz cfg ops nt 0 ops.toList d fun d1=>
  match fB d1.ax 0 ops.toList with
  |[]=>ck ((List.range ops.size).all fun i=>(d1.ax.get i).isSome) (K d1.s)
  |[(i,o)]=>kS cfg rec ops nt i o d1 fun d2=>ot rec ops nt n d2 K
  |_=>False
def gW (s:St):List ResultVar->(List SV->Prop)->Prop
 |[],K=>K []
 | .tmp t::l,K=>so (look s.ts t) fun v=>gW s l fun vs=>K (v::vs)
 | .cell a t::l,K=>so (look s.ts a) fun p=>qQ cfg.tab s.h t p fun v=>gW s l fun vs=>K (v::vs)
def jT (fn:FuncId) (s:St) (Q:SV->St->Prop):Prop:=
 match cfg.tab.fns.get fn with
 |some fn=>gW cfg s fn.results.toList fun vs=>Q (match vs with|[v]=>v|vs=> .aO vs) s
 |none=>False
def fixC (s:St) (c:Operand) (p:Bool):St:=
 match s,c with
 |⟨ts,h,log⟩, .tmp t=>⟨(t, .bool p)::ts,h,log⟩
 |s,_=>s
def iu (ts:Fr):List Nat->List SV
 |[]=>[]
 |t::l=>match look ts t with|some v=>v::iu ts l|none=>iu ts l
def cr (A:bh) (s:St):St:=eN (iu s.ts A.dy) s
def tF (A:bh) (s:St) (base:Nat) (x:A.α) (ts:Fr) (h:SH) (log:List Ev):Prop:=
 match cr A ⟨ts,h,log⟩with
 |⟨ts,h,log⟩=>ck (log.all fun e=>Nat.ble base e.id) (∃y:A.α,A.ok y/\A.μ y<A.μ x/\gf ts h (A.at s y).2 (A.at s y).1/\ir cfg.tab h (A.at s y).2/\ck (stay base h (A.at s y).2) True)
def Jq (A:bh) (s:St) (base:Nat) (cont:(Fr->SH->List Ev->Prop)->St->Prop):Prop:=
 match cr A s with
 |⟨ts,h,log⟩=>(∃x:A.α,A.ok x/\gf ts h (A.at ⟨ts,h,log⟩ x).2 (A.at ⟨ts,h,log⟩ x).1/\ir cfg.tab h (A.at ⟨ts,h,log⟩ x).2/\ck (stay base h (A.at ⟨ts,h,log⟩ x).2) True)/\
  ∀x:A.α,A.ok x->ck (log.all (fun e=>Nat.ble base e.id)&&(low (A.at ⟨ts,h,log⟩ x).1 (A.at ⟨ts,h,log⟩ x).2&&Nat.ble base (A.at ⟨ts,h,log⟩ x).2.next)) (cont (tF cfg A ⟨ts,h,log⟩ base x) ⟨(A.at ⟨ts,h,log⟩ x).1,(A.at ⟨ts,h,log⟩ x).2,log⟩)
def bh.when (A:bh) (R:A.α->A.α->Prop) (x0:A.α):bh:={α:=A.α,ok:=fun x=>A.ok x/\R x0 x,μ:=A.μ,bI:=A.bI,bJ:=A.bJ,cU:=A.cU,dy:=A.dy}
def tG (A:bh) (K:bh->Prop):Prop:=
 match A.link with
 |none=>K A
 |some R=>∃x0:A.α,K (A.when R x0)
theorem He {A:bh} {K:bh->Prop} (h:tG A K):∃A',K A':=by
 unfold tG at h;split at h
 . exact⟨_,h⟩
 . obtain⟨x0,h⟩:=h;exact⟨_,h⟩
def wp:Nat->SM->(SV->St->Prop)->Prop
 |0,_,_=>False
 | n+1,⟨fn,nt,base,todo,s⟩,Q=>
  match todo with
  |[]=>jT cfg fn s Q
  | .code .ret::_=>jT cfg fn s Q
  | .code .skip::k=>wp n ⟨fn,nt,base,k,s⟩ Q
  | .code (.label _)::k=>wp n ⟨fn,nt,base,k,s⟩ Q
  | .inBlock _::k=>wp n ⟨fn,nt,base,k,s⟩ Q
  | .inScope _::k=>wp n ⟨fn,nt,base,k,s⟩ Q
  | .code (.seq a b)::k=>wp n ⟨fn,nt,base, .code a:: .code b::k,s⟩ Q
  | .code (.cond c a b)::k=>match dE s.ts c with
   |some (.bool p)=>br p (wp n ⟨fn,nt,base, .code a::k,fixC s c true⟩ Q) (wp n ⟨fn,nt,base, .code b::k,fixC s c false⟩ Q)
   |_=>False
  | .code (.block id b)::k=>wp n ⟨fn,nt,base, .code b:: .inBlock id::k,s⟩ Q
  | .code (.scope b)::k=>wp n ⟨fn,nt,base, .code b:: .inScope b::k,s⟩ Q
  | .code (.loop b)::k=>match(jb b).bind (cfg.iW fn)with
   |none=>wp n ⟨fn,nt,base, .code b:: .inLoop b::k,s⟩ Q
   |some A=>tG A fun A=>Jq cfg A s base fun fl s'=>wp n ⟨fn,nt,base, .code b:: .head fl::k,s'⟩ Q
  | .inLoop b::k=>wp n ⟨fn,nt,base, .code b:: .inLoop b::k,s⟩ Q
  | .head fl::_=>fl s.ts s.h s.log
  | .code (.exit id)::k=>match jh id k with
   |some k'=>wp n ⟨fn,nt,base,k',s⟩ Q
   |none=>False
  | .code (.region _ ops false)::k=>wp n ⟨fn,nt,base, .inRegion ops (List.range ops.size)::k,s⟩ Q
  | .code (.region _ ops true)::k=>ck (kH 0 ops.toList) (ot cfg (wp n) ops nt (ops.size+1) ⟨s, .e,[],[]⟩ fun s=>wp n ⟨fn,nt,base,k,s⟩ Q)
  | .inRegion _ []::k=>wp n ⟨fn,nt,base,k,s⟩ Q
  | .inRegion ops (i::rest)::k=>match ops[i]? with
   |some o=>oe ops o s fun w s=>
    bif w then qz cfg (wp n) s o fun v s'=>ft nt s' o.dst v fun s'=>wp n ⟨fn,nt,base, .inRegion ops rest::k,s'⟩ Q
    else ft nt s o.dst (.aO []) fun s'=>wp n ⟨fn,nt,base, .inRegion ops rest::k,s'⟩ Q
   |none=>False
  |_=>False
def ask (n:Nat) (f:FuncId) (args:List SV) (Q:SV->St->Prop):Prop:=
 match cfg.tab.fns.get f with
 |some fn=>match fn.body with
  |some body=>wp cfg n ⟨f,Nat.max fn.ntmps args.length,0,[.code body],⟨Fr.of args 0,⟨0,[]⟩,[]⟩⟩ Q
  |none=>False
 |none=>False
end
end
end Go.Sy
namespace Go.Sy
open Go.Am Go.RowKit
section
variable [Inhabited aE]
theorem _root_.Go.Am.cW.rest {E:Env} {h h0:AH} {K:KS} {w:World} (hB:cW K w):cW (Am.Rest E h h0 K) w:=fun b hb=>⟨.inl (hB b hb).1,(hB b hb).2⟩
def dm (w:World):Prop:=∀b,b<(default:aE).old.size->w.heap[b]? =(default:aE).old[b]?
theorem dm.lt {w:World} (h:dm w) {b:Nat} (hb:b<(default:aE).old.size):b<w.heap.size:=by
 have:=h b hb;rw[AU hb]at this;exact(Ad.1 this).1
theorem dm.kj {w:World} (h:dm w):cW (KS.old w.heap.size) w:=fun b hb=>⟨h.lt hb,h b hb⟩
theorem dm.below {w w':World} (h:dm w) (hb:Below w.heap.size w w'):dm w':=fun b hb'=>by rw[hb.block b (h.lt hb')];exact h b hb'
theorem dm.l9 (h:(default:aE).old.size=0) (w:World):dm w:=fun b hb=>by omega
theorem _root_.Go.Am.cW.l9 (h:(default:aE).old.size=0) (K:KS) (w:World):cW K w:=fun b hb=>by omega
def da (P:Program) (m:AM) (Ψ:AV->AH->Prop):Prop:=
 ∀(D:Nat->Prop) (E:Env) (K:KS) (base:List Frame) (frC:Frame) (csC:List Frame) (w:World),Rel D E K m base frC csC w->cW K w->
  ∃v h',Ψ v h'/\Am.Ends P m.h.next (lone frC csC w) D E K v h' base (bot m.fr m.cs) w
structure eE (P:Program) (tab:aM):Prop where
 ok:aV P tab
 ext:fW P tab
 mix:P.follows .mixedOrders=true
theorem da.mono {P:Program} {m:AM} {Ψ Φ:AV->AH->Prop} (h:da P m Ψ) (hi:∀v h',Ψ v h'->Φ v h'):da P m Φ:=by
 intro D E K base frC csC w hR hB;obtain⟨v,h',h1,h2⟩:=h D E K base frC csC w hR hB;exact⟨v,h',hi v h' h1,h2⟩
def sub0:FuncId->List AV->AH->R (List (AV×AH)):=fun _ _ _=> .no "sub0"
theorem pV {P:Program} {tab:aM}:fQ P tab sub0:=by
 intro f fn body args h outs _ _ ho
 cases ho
section
variable {P:Program} {tab:aM} (pr:eE P tab) {Ψ:AV->AH->Prop}
include pr
theorem da.next {m m':AM} (hs:Am.step tab sub0 m= .ok (.next m')) (h:da P m' Ψ):da P m Ψ:=by
 intro D E K base frC csC w hR hB;obtain⟨hb,fr',cs',w',E',D',s1,s2,s3,s4,s5,s6,s7⟩:=nI pr.ok pV pr.ext (o9 pr.ok pV pr.ext pr.mix) hs hR;obtain⟨v,h',h1,h2⟩:=h D' E' K base fr' cs' w' s2 (hB.kept s5);rw[hb]at h2;exact⟨v,h',h1,Am.Ends.trans s1 s3 s4 s5 s6 s7 h2⟩
theorem da.done {m:AM} {v:AV} {h:AH} (hs:Am.step tab sub0 m= .ok (.done v h)) (hv:Ψ v h):da P m Ψ:=by
 intro D E K base frC csC w hR hB;exact⟨v,h,hv,nI pr.ok pV pr.ext (o9 pr.ok pV pr.ext pr.mix) hs hR⟩
end
def eP (P:Program) (tab:aM) (ts:T AV) (h0:AH) (o:Oper) (Θ:AV->AH->Prop):Prop:=
 (∃v h1,df tab ts h0 o= .ok (v,h1)/\h0.next<=h1.next/\Θ v h1)\/
 (∃c f g first captured args fn body,o.op= .call c/\c.callee= .value f/\ev ts f= .ok (.fn (.func g) first captured)/\fm ts c.args.toList= .ok args/\
  tab.fns.get g=some fn/\fn.body=some body/\da P {fr:=ae.enter fn g body (first++args++captured) .normal,cs:=[],h:=h0} fun v h1=>h0.next<=h1.next/\Θ v h1)
theorem eP.congr {P:Program} {tab:aM} {ts ts':T AV} {h0:AH} {o:Oper} {Θ:AV->AH->Prop} (hops:∀x∈o.op.operands,ev ts x=ev ts' x) (hp:eP P tab ts h0 o Θ):eP P tab ts' h0 o Θ:=by
 rcases hp with⟨v,h1,hp,hle,hΘ⟩|⟨c,f,g,first,captured,args,fn,body,hc,hcf,hu,hargs,hfn,hb',hgo⟩
 . exact .inl ⟨v,h1,by rw[<-ny o hops];exact hp,hle,hΘ⟩
 . refine .inr ⟨c,f,g,first,captured,args,fn,body,hc,hcf,?_,?_,hfn,hb',hgo⟩
   . rw[<-hops f (by simp[hc,Op.operands,Call.operands,hcf])];exact hu
   . rw[<-nG c.args.toList fun x hx=>hops x (by simp[hc,Op.operands,Call.operands,hcf];right;simpa using hx)];exact hargs
section
variable {P:Program} {tab:aM} (pr:eE P tab)
variable {D:Nat->Prop} {E:Env} {K:KS} {base:List Frame} {frC:Frame} {csC:List Frame} {w:World}
variable {fr:ae} {cs:List ae} {h h0:AH} {ops:Array Oper} {i:Nat} {rest:List Nat} {o:Oper}
include pr
theorem wh {Θ:AV->AH->Prop} (hR:Rel D E K {fr,cs,h} base frC csC w) (hB:cW K w) (a:eY frC ops i rest o) (hp:eP P tab fr.tmps h0 o Θ)
   (hs:∀i o,h0.get i=some o->h.get i=some o) (hd0:∀i o,h0.get i=some o->i<h0.next) (hltD:∀i,D i->i<h0.next):
   ∃ v h1,Θ v h1/\h0.next<=h1.next/\ ∀fr' h2,fr.finish v= .ok fr'->(∀i o,h2.get i=some o->h1.get i=some o\/(h.get i=some o/\h0.get i=none))->
     (∀i o,h2.get i=some o->i<h2.next\/(h1.get i=some o/\h1.next<=h2.next))->h2.next=h1.next->eo P h0.next (lone frC csC w) D E K {fr:=fr',cs,h:=h2} base w:=by
 rcases hp with⟨v,h1,hp,hle,hΘ⟩|⟨c,f,g,first,captured,args,fn,body,hc,hcf,hu,hargs,hfn,hb,hgo⟩
 . refine⟨v,h1,hΘ,hle,fun fr' h2 hf hg hd2 hnx=>?_⟩;refine l6 (nw pr.ok hR a hp hf hs hd0 hg hd2 (fun i=>i=h0.next/\h0.next<h1.next) (fun h=>⟨rfl,h⟩) (fun i hi=>⟨hi.1,fun hd=>by have:=hltD i hd;omega⟩) ?_) (by simp only;omega) (fun i hi=>by omega);rintro i (hi|hi)
   . have:=hltD i hi;omega
   . omega
 . have ok:=pr.ok;have hρ:∀E',ag D E E'->∀x u,ev fr.tmps x= .ok u->frC.eval x=aa E' u:=by
     intro E' he x u hx;rw[<-(hR.all E' he).2.1];exact jI hR.wf.1 E' hx
   have hd:jG (.fn (.func g) first captured) args= .ok {target:= .fn (.func g) captured,args:=first++args}:=rfl;have hres:∀E',ag D E E'->Deferred.ofValue (frC.eval f) (c.args.map frC.eval)=pure (cw E' {target:= .fn (.func g) captured,args:=first++args}):=by
     intro E' he;rw[<-k8 hd E',hρ E' he _ _ hu,<-ku (hρ E' he) _ _ hargs];congr 1
     simp[<-Array.toList_inj]
   have hrob:=mh hres;have hnd:∀c',o.op≠ .defer c':=by rw[hc];intro c' e;cases e
   have hctx:Ctx P (lone frC csC w) frC csC w .normal (cw E {target:= .fn (.func g) captured,args:=first++args}):=pC a (.inr hnd) (by simp[execOp,hc,resolve,hcf,hres E (ag.refl _ _)]);have hinv:∀E',ag D E E'->invoke (cw E {target:= .fn (.func g) captured,args:=first++args}).target (cw E {target:= .fn (.func g) captured,args:=first++args}).args=callFunc g (aJ E' (first++args++captured)).toArray:=by
     intro E' he;rw[<-hrob E' he];simp only[cw,ig,invoke,bG];simp
   have hP:=ok.fns g fn hfn;have hn:fn.name≠ "runtime.NumGoroutine" :=by simpa using ok.nm g fn hfn
   have hrun:∀a,(callFunc g a).run P w= .ok (.enter g a) w:=by
     intro a;simp[callFunc,hP,hn,hb]
   have hstep:∀E',ag D E E'->Go.step P (lone frC csC w)= .next (lone (Frame.enter P g (aJ E' (first++args++captured)).toArray .normal) (frC::csC) w):=fun E' he=>
     hctx.enter _ _ _ (by rw[hinv E' he,hrun])
   have hargsC:∀E',ag D E E'->(aJ E' (first++args++captured)).toArray=(aJ E (first++args++captured)).toArray:=by
     intro E' he;have h4:=hrun (aJ E' (first++args++captured)).toArray;rw[<-hinv E' he,hinv E (ag.refl _ _),hrun]at h4;simpa using h4.symm
   have hRc:Rel D E (Am.Rest E h h0 K) {fr:=ae.enter fn g body (first++args++captured) .normal,cs:=[],h:=h0} (frC::csC) (Frame.enter P g (aJ E (first++args++captured)).toArray .normal) (frC::csC) w:=by
     refine⟨fun E' he=>⟨?_,?_,rfl⟩,hltD,ln _ _ _ _ _,fun f hf=>by cases hf⟩
     . rw[<-hR.dx he];exact(hR.all E' he).1.part hs hd0
     . rw[<-hargsC E' he,iB hP hb]
   obtain⟨v,h1,⟨hle,hΘ⟩,he2⟩:=hgo D E (Am.Rest E h h0 K) (frC::csC) _ _ w hRc hB.rest;refine⟨v,h1,hΘ,hle,fun fr' h2 hf hg hd2 hnx=>?_⟩;have hfc:=fU hf;obtain⟨fr1,w',vC,E',D',s1,s2,s3,s4,s5,s6,s7,s8,s9,s10⟩:=he2;refine⟨frC.finish vC,csC,w',E',D',?_,⟨?_,?_,?_⟩,s5,s6,s8.part,by simp only;omega,s10⟩
   . exact(Steps.head (hstep E (ag.refl _ _)) s1).trans (.one (step_leave_returned s3))
   . intro E'' he';obtain⟨g1,g2⟩:=s4 E'' he';have hag:=s5.trans he' s6;obtain⟨k1,k2,k3⟩:=hR.all E'' hag;refine⟨k1.join (by rw[hR.dx hag];exact g1) (by rw[hR.dx hag];exact s8) hg (fun i o hi=>(hd2 i o hi).elim id (fun h=>Bd (g1.cN i o h.1) h.2)),?_,k3⟩;rw[<-(hfc E'').1,<-g2,<-k2]
   . intro i hi;have:=s7 i hi;simp only;omega
   . exact⟨(hfc E).2.1 hR.wf.1,hR.wf.2⟩
theorem Je {Θ:AV->AH->Prop} {Ψ:AV->AH->Prop} {k:List aT} (hm:fr.mode= .run) (ht:fr.todo= .inRegion ops (i::rest)::k) (ho:ops[i]? =some o) (hw:wanted ops o fr.tmps= .ok true) (hp:eP P tab fr.tmps h o Θ)
  (hfin:∀v,∃fr',fr.finish v= .ok fr') (hk:∀v h1,Θ v h1->∀fr',fr.finish v= .ok fr'->da P {fr:=fr',cs,h:=h1} Ψ):da P {fr,cs,h} Ψ:=by
 intro D E K base frC csC w hR hB;have hdom:=(hR.all E (ag.refl _ _)).1.cN;obtain⟨v,h1,hΘ,hle,hgets⟩:=wh pr hR hB (gI hR hm ht ho hw) hp (fun _ _ h=>h) hdom (fun i hi=>hR.cN i hi);obtain⟨fr',hf⟩:=hfin v;obtain⟨frC',csC',w',E',D',s1,s2,s3,s4,s5,s6,s7⟩:=hgets fr' h1 hf (fun _ _ h=> .inl h) (fun _ _ h=> .inr ⟨h,Aj _⟩) rfl;obtain⟨v',h',g1,g2⟩:=hk v h1 hΘ fr' hf D' E' K base frC' csC' w' s2 (hB.kept s5);refine⟨v',h',g1,?_⟩;have hb:=eu (fU hf E).2.2 cs;rw[hb]at g2;exact Am.Ends.trans s1 s3 s4 s5 s6 s7 g2
end
end
section
variable [Inhabited aE]
def jm (P:Program) (tab:aM) (ops:Array Oper) (nt i:Nat) (o:Oper) (s:DS) (Φ:DS->Prop):Prop:=
 fq s.ax ops i o=true/\wanted ops o s.ts= .ok true/\
 eP P tab s.ts (eU s.h (s.ai.filter fun x=> !(bx x.1 (cI s.ax o)))) o fun v h1=>
  reread tab ops (eU (restore h1 s.h (s.ai.filter fun x=> !(bx x.1 (cI s.ax o)))) (s.ai.filter fun x=> !(bx x.1 (cI s.ax o)))) (s.reads.filter fun x=> !(bx x.1 (cI s.ax o)))= .ok ()/\
  Φ {ts:=eB nt s.ts o v,h:=restore h1 s.h (s.ai.filter fun x=> !(bx x.1 (cI s.ax o))),ax:=s.ax.set i (some (cI s.ax o)),reads:=s.reads.filter fun x=> !(bx x.1 (cI s.ax o)),ai:=s.ai.filter fun x=> !(bx x.1 (cI s.ax o))}
def dQ (P:Program) (tab:aM) (ops:Array Oper) (nt:Nat) (G:DS->Prop):Nat->DS->Prop
 |0,_=>False
 |n+1,s=>∃s1,gx tab ops nt 0 ops.toList s= .ok s1/\((fB s1.ax 0 ops.toList=[]/\G s1)\/
  ∃c o,fB s1.ax 0 ops.toList=[(c,o)]/\jm P tab ops nt c o s1 (dQ P tab ops nt G n))
def qA (P:Program) (tab:aM) (ops:Array Oper) (nt:Nat) (G:DS->Prop) (n:Nat) (s1:DS):Prop:=
 (fB s1.ax 0 ops.toList=[]/\G s1)\/ ∃c o,fB s1.ax 0 ops.toList=[(c,o)]/\jm P tab ops nt c o s1 (dQ P tab ops nt G n)
section
variable {P:Program} {tab:aM} (pr:eE P tab)
variable {D:Nat->Prop} {E:Env} {K:KS} {base:List Frame} {frC:Frame} {csC:List Frame} {w:World}
variable {ops:Array Oper} {fr0:ae} {cs:List ae} {k:List aT} {lo:Nat} {s:DS} {Φ:DS->Prop} {X:Nat->Prop} {tsR:T AV} {hR:AH} {j:Nat} {l:List Nat} {o:Oper}
open Classical in
include pr in
theorem Fo (H:bQ tab ops fr0.nt fr0.tmps lo s X) (Q:cT ops fr0 cs k base s X D E K tsR hR (j::l) frC csC w) (hB:cW K w) (hm:fr0.mode= .run) (ho:ops[j]? =some o) (hr:isReady s.ax j o=true)
   (hd:jm P tab ops fr0.nt j o s Φ) (hready:∀p∈eT o,X p):∃s2,Φ s2/\bQ tab ops fr0.nt fr0.tmps lo s2 (fun i=>X i\/i=j)/\mI P ops fr0 cs k base s2 (fun i=>X i\/i=j) D E K lo l frC csC w:=by
 obtain⟨hok,hb,hp⟩:=hd;obtain⟨hnone,hpre⟩:=kq hr;obtain⟨hok1,hok2⟩:=p7 hok;have hxj:¬X j:=fun h=>by have:=H.cx j h;rw[hnone]at this;cases this
 have hanX:∀p∈cI s.ax o,X p:=by
   intro p hp;rcases cO.1 hp with h|⟨q,hq,ap,h1,h2⟩
   . exact hready p h
   . exact H.lH q ap (hready q hq) h1 p h2
 generalize hhid:(s.ai.filter fun x=> !(bx x.1 (cI s.ax o)))=hid at*
 have hidm:∀x,x∈hid↔x∈s.ai/\x.1∉cI s.ax o:=by
   intro x;rw[<-hhid,AL];constructor
   . rintro⟨h1,h2⟩;refine⟨h1,fun hm=>?_⟩;rw[bO.2 hm]at h2;cases h2
   . rintro⟨h1,h2⟩;refine⟨h1,?_⟩
     cases hb:bx x.1 (cI s.ax o)with
     |true=>exact absurd (bO.1 hb) h2
     |false=>rfl
 have hidj:∀x∈hid,x.1≠j:=by
   intro x hx e;have:=(H.al x ((hidm x).1 hx).1).2.1;rw[e,hnone]at this;cases this
 have hl:∀t∈looks ops o,tsR.get t=s.ts.get t:=by
   intro t ht;by_cases hw:∃jj oj,ops[jj]? =some oj/\oj.dst=some t/\(s.ax.get jj).isSome
   . obtain⟨jj,oj,g1,g2,g3⟩:=hw;exact Q.jX jj oj t (hready jj (hok1 t ht jj oj g1 g2 g3)) g1 g2
   . rw[Q.jW t (fun jj oj hx hoj hd=>hw ⟨jj,oj,hoj,hd,H.cx jj hx⟩),H.kI t (fun jj oj hc hoj hd=>hw ⟨jj,oj,hoj,hd,hc⟩)]
 obtain⟨hops,hwant⟩:=rM hl;have a:=gI Q.rel hm rfl ho (by rw[hwant];exact hb);obtain⟨v,h1,⟨hrr,hΦ⟩,hle,hgets0⟩:=wh pr Q.rel hB a (h0:=eU s.h hid) (hp.congr (fun x hx=>(hops x hx).symm))
   (by
     intro i ob h;rw[eV]at h;split at h
     . cases h
     . rename_i hne;refine(Q.hr i ob).2 ⟨h,fun x hx e=>?_⟩;by_cases hc:x.1∈cI s.ax o
       . exact hanX _ hc
       . exact absurd ⟨x,(hidm x).2 ⟨hx,hc⟩,e⟩ hne)
   (by
     intro i ob h;rw[eV]at h;split at h
     . cases h
     . rw[fw];exact H.hd i ob h)
   (by intro i hi;rw[fw,<-Q.hn];exact Q.rel.cN i hi)
 rw[fw]at hle;have hfin:=rB (fr0:=fr0) (tsR:=tsR) (l:=l) (k:=k) ho v;let h2:=restore h1 s.h hid
 let pd:=hid.filter fun x=>decide (¬(X x.1\/x.1=j))
 let hR2:=eU h2 pd
 have hg2:∀i,h2.get i=if ∃x∈hid,x.2=i then s.h.get i else h1.get i:=fun i=>jA _ _ _ _
 have hn2:h2.next=h1.next:=mj _ _ _;have hchar:∀i ob,hR2.get i=some ob↔h2.get i=some ob/\ ∀x∈hid,x.2=i->X x.1\/x.1=j:=by
   intro i ob;simp only[hR2,eV];constructor
   . intro h;split at h
     . cases h
     . rename_i hne;refine⟨h,fun x hx e=>?_⟩;by_cases hc:X x.1\/x.1=j
       . exact hc
       . exact absurd ⟨x,by simp only[pd,AL];exact⟨hx,by simpa using hc⟩,e⟩ hne
   . rintro⟨h1,h2⟩;rw[Ae]
     . exact h1
     . rintro⟨x,hx,e⟩;simp only[pd,AL]at hx;have:=h2 x hx.1 e;exact absurd this (by simpa using hx.2)
 have hR2n:hR2.next=h1.next:=(fw _ _).trans hn2;have hgets:=hgets0 _ hR2 hfin
   (by
     intro i ob h;obtain⟨h3,h4⟩:=(hchar i ob).1 h;rw[hg2]at h3;split at h3
     . rename_i hex;right;refine⟨(Q.hr i ob).2 ⟨h3,fun x hx e=>?_⟩,by rw[eV,Ai hex]⟩;obtain⟨y,hy,e'⟩:=hex;have:x=y:=H.kh x hx y ((hidm y).1 hy).1 (e.trans e'.symm);subst this;exact(h4 x hy e').resolve_right (hidj x hy)
     . exact .inl h3)
   (by
     intro i ob h;obtain⟨h3,_⟩:=(hchar i ob).1 h;rw[hg2]at h3;rw[hR2n];split at h3
     . have:=H.hd i ob h3;left;omega
     . exact .inr ⟨h3,Aj _⟩)
   hR2n
 obtain⟨frC',csC',w',E1,D1,s1,rel1,ag1,dd1,kp1,_,new1⟩:=hgets;rw[fw]at new1;have hdom2:∀i ob,h2.get i=some ob->i<h2.next:=by
   intro i ob h;rw[hn2];rw[hg2]at h;split at h
   . have:=H.hd i ob h;omega
   . rename_i hne;have h3:=(hchar i ob).2 ⟨by rw[hg2,Ae hne];exact h,fun x hx e=>absurd ⟨x,hx,e⟩ hne⟩;have:=(rel1.all E1 (ag.refl _ _)).1.cN i ob h3;rw[<-hR2n];exact this
 refine⟨_,hΦ,?_,eB fr0.nt tsR o v,hR2,frC',csC',w',D1,E1,s1,⟨rel1,hchar,hR2n.trans hn2.symm,?_,?_,?_⟩,ag1,dd1,kp1,?_⟩
 . refine H.fN ho hr hok hanX rfl rfl (by simp only;rw[mj];exact hle) (fun x hx=>((hidm x).1 hx).1) (fun x hx hn=>(hidm x).2 ⟨hx,hn⟩) ?_ hdom2 ?_
   . intro x hx;show h2.get x.2=s.h.get x.2
     rw[hg2,Ai ⟨x,hx,rfl⟩]
   . intro j' oj tj vj hmr hjan hoj hce hca;have hmf:(j',tj,vj)∈s.reads.filter (fun x=> !(bx x.1 (cI s.ax o))):=by
       rw[AL];refine⟨hmr,?_⟩
       cases hb:bx j' (cI s.ax o)with
       |true=>exact absurd (bO.1 hb) hjan
       |false=>rfl
     refine⟨hmf,?_⟩;obtain⟨oj',hr',g1,g2⟩:=wy _ hrr _ _ _ hmf;rw[hoj]at g1
     cases g1;have hsame:=ph ⟨hce,hca⟩ g2;subst hsame;refine⟨_,g2,?_⟩;intro b ob hg;rw[eV]at hg;split at hg
     . cases hg
     . rename_i hne;exact⟨by rw[fw];exact hdom2 b ob hg,hg,fun x hx e=>hne ⟨x,hx,e⟩⟩
 . intro i oi t hi hoi hd;show(eB fr0.nt tsR o v).get t=(eB fr0.nt s.ts o v).get t
   rw[gz,gz];by_cases hc:o.dst=some t/\t<fr0.nt
   . rw[Ai hc,Ai hc]
   . rw[Ae hc,Ae hc];rcases hi with hi|rfl
     . exact Q.jX i oi t hi hoi hd
     . rw[ho]at hoi
       cases hoi;have hge:fr0.nt<=t:=BX (fun hlt=>hc ⟨hd,hlt⟩);rw[H.mR t hge];exact Q.rel.wf.1 t hge
 . intro t ht;rw[gz,Ae (fun h=>ht j o (.inr rfl) ho h.1)];exact Q.jW t (fun i oi hi hoi=>ht i oi (.inl hi) hoi)
 . intro x hx hnx hD;have hxm:=((hidm x).1 hx).1;rcases new1 x.2 hD with hd|hd
   . exact Q.dp x hxm (fun h=>hnx (.inl h)) hd
   . have:=(H.al x hxm).1;omega
 . intro i hi;rcases new1 i hi with h|h
   . exact .inl h
   . exact .inr (AG H.nx h)
end
section
variable {P:Program} {tab:aM} (pr:eE P tab)
variable {K:KS} {base:List Frame}
variable {ops:Array Oper} {fr0:ae} {cs:List ae} {k:List aT} {lo:Nat}
def kL (P:Program) (fr0:ae) (cs:List ae) (k:List aT) (base:List Frame) (K:KS) (lo:Nat) (G:DS->Prop) (D:Nat->Prop) (E:Env) (frC:Frame) (csC:List Frame) (w:World):Prop:=
 ∃sF frC' csC' w' D' E',G sF/\Steps P (lone frC csC w) (lone frC' csC' w')/\Rel D' E' K {fr:={fr0 with tmps:=sF.ts,todo:=k},cs,h:=sF.h} base frC' csC' w'/\ag D E E'/\(∀i,D i->D' i)/\Kept K w w'/\(∀i,D' i->D i\/lo<=i)/\lo<=sF.h.next
include pr in
theorem rq (hm:fr0.mode= .run) (hlt:kH 0 ops.toList=true):∀(fuel t:Nat) (listed:Array Bool) (s:DS) (G:DS->Prop) (n:Nat) (D:Nat->Prop) (E:Env) (tsR:T AV) (hR:AH) (frC:Frame) (csC:List Frame) (w:World),
  listed.size=ops.size->jk ops.size listed<=fuel->qA P tab ops fr0.nt G n s->bQ tab ops fr0.nt fr0.tmps lo s (cL listed)->
  cT ops fr0 cs k base s (cL listed) D E K tsR hR (Region.linearise.go .any ops fuel t listed []) frC csC w->cW K w->kL P fr0 cs k base K lo G D E frC csC w:=by
 have hend:∀(listed:Array Bool) (s:DS) (G:DS->Prop) (n:Nat) (D:Nat->Prop) (E:Env) (tsR:T AV) (hR:AH) (frC:Frame) (csC:List Frame) (w:World),(∀j,j<ops.size->cL listed j)->
    qA P tab ops fr0.nt G n s->bQ tab ops fr0.nt fr0.tmps lo s (cL listed)->cT ops fr0 cs k base s (cL listed) D E K tsR hR [] frC csC w->kL P fr0 cs k base K lo G D E frC csC w:=by
  intro listed s G n D E tsR hR frC csC w hall htodo H Q;rcases htodo with⟨_,hG⟩|⟨c,o,hc,_⟩
  . have hts:∀t,tsR.get t=s.ts.get t:=by
      intro t;by_cases hw:∃(j:Nat) (oj:Oper),ops[j]? =some oj/\oj.dst=some t
      . obtain⟨j,oj,h1,h2⟩:=hw;exact Q.jX j oj t (hall j (Ad.1 h1).1) h1 h2
      . rw[Q.jW t (fun j oj _ h1 h2=>hw ⟨j,oj,h1,h2⟩),H.kI t (fun j oj _ h1 h2=>hw ⟨j,oj,h1,h2⟩)]
    have hst:∀E',Go.step P (lone (aL E' {fr0 with tmps:=tsR,todo:= .inRegion ops []::k}) csC w)= .next (lone (aL E' {fr0 with tmps:=tsR,todo:=k}) csC w):=
      fun E'=>step_lone_go (by simp[stepG,stepG.exec,aL,hm,dh,bV])
    have hconc:∀E',aL E' {fr0 with tmps:=s.ts,todo:=k}=aL E' {fr0 with tmps:=tsR,todo:=k}:=by
      intro E';have:dK E' s.ts fr0.nt=dK E' tsR fr0.nt:=by
        unfold dK ow;simp only[hts]
      simp only[aL,this]
    have hfr:=(Q.rel.all E (ag.refl _ _)).2.1;simp only at hfr;refine⟨s,aL E {fr0 with tmps:=tsR,todo:=k},csC,w,D,E,hG, .one (by rw[<-hfr];exact hst E),⟨fun E' he=>?_,fun i hi=>?_,?_,Q.rel.wf.2⟩,ag.refl _ _,fun _ h=>h,Kept.refl K w,fun i hi=> .inl hi,H.nx⟩
    . obtain⟨g1,g2,g3⟩:=Q.rel.all E' he;refine⟨g1.same (fun i ob h=>(Q.hr i ob).2 ⟨h,fun x hx _=>?_⟩) (by simp only;rw[Q.hn];exact Aj _),?_,g3⟩
      . obtain⟨o,ho⟩:=H.op _ (H.al x hx).2.1;exact hall _ (Ad.1 ho).1
      . simp only;rw[hconc E'];have h1:=hst E';simp only at g2;rw[g2,<-hfr,hst E]at h1;exact(lp (by simpa using h1)).1.symm
    . have:=Q.rel.cN i hi;simp only at this⊢;rw[Q.hn]at this;exact this
    . intro t ht;have:=Q.rel.wf.1 t ht;simp only at this⊢;rw[<-hts t];exact this
  . have hcm:(c,o)∈fB s.ax 0 ops.toList:=by rw[hc];exact Al
    obtain⟨j',h1,h2,h3⟩:=u2 _ _ _ _ _ hcm;have hlt':c<ops.size:=by
      have:=(Ac.1 h2).1;simp at this;omega
    have:=H.cx c (hall c hlt');rw[(kq h3).1]at this
    cases this
 intro fuel;induction fuel with
 |zero=>
  intro t listed s G n D E tsR hR frC csC w hsz hu htodo H Q hB;exact hend listed s G n D E tsR hR frC csC w (xi (by omega)) htodo H (by simpa [Region.linearise.go]using Q)
 | succ fuel ih=>
  intro t listed s G n D E tsR hR frC csC w hsz hu htodo H Q hB;simp only[Region.linearise.go]at Q;change cT ops fr0 cs k base s (cL listed) D E K tsR hR (match(Region.ready .any ops listed)[t % (Region.ready .any ops listed).length]? with
    |some i=>Region.linearise.go .any ops fuel (t / (Region.ready .any ops listed).length) (listed.setIfInBounds i true) [i]
    |none=>[].reverse) frC csC w at Q
  have hget:∀j,j<ops.size->(listed.getD j true=false↔¬cL listed j):=by
    intro j hj;unfold cL;have:j<listed.size:=by omega
    simp[Array.getD,this]
  cases hi:(Region.ready .any ops listed)[t % (Region.ready .any ops listed).length]? with
  | none=>
    rw[hi]at Q;have hnil:Region.ready .any ops listed=[]:=by
      cases hr:Region.ready .any ops listed with
      |nil=>rfl
      | cons x xs=>
        rw[hr]at hi;have hlt:t % (x::xs).length<(x::xs).length:=Eb _ (by simp);rw[Dw]at hi;omega
    have hall:∀j,j<ops.size->cL listed j:=by
      intro j;induction j using Nat.strongRecOn with
      | _ j ihj=>
        intro hj;by_cases hx:cL listed j
        . exact hx
        . exfalso;have hm':j∈Region.ready .any ops listed:=by
           rw[mem_ready];refine⟨(hget j hj).2 hx,ops[j],AU hj,?_⟩;intro e he hb;have hp:e.on∈eT ops[j]:=A1.2 ⟨e,AL.2 ⟨by simpa using he,hb⟩,rfl⟩;have hlt':=xv ops.toList 0 hlt j ops[j] (by simp[hj]) e.on hp;exact ihj e.on (by omega) (by omega)
          rw[hnil]at hm'
          cases hm'
    exact hend listed s G n D E tsR hR frC csC w hall htodo H Q
  | some i =>
    rw[hi]at Q;simp only at Q;rw[linearise_go_acc,Eo,DI]at Q;obtain⟨hl1,o,ho,hdeps⟩:=mem_ready.1 (Br hi);have hin:i<ops.size:=(Ad.1 ho).1;have hx:=(hget i hin).1 hl1;have hready:∀p∈eT o,cL listed p:=by
      intro p hp;obtain⟨e,he,rfl⟩:=A1.1 hp;obtain⟨he1,he2⟩:=AL.1 he;exact hdeps e (by simpa using he1) he2
    have hsz':(listed.setIfInBounds i true).size=ops.size:=by simp[hsz]
    have hu':jk ops.size (listed.setIfInBounds i true)<=fuel:=by
      have:=x5 hin (by omega) hx;omega
    have hX':cL (listed.setIfInBounds i true)=fun j=>cL listed j\/j=i:=pT (by omega)
    have hfin:∀(s':DS) (n':Nat),qA P tab ops fr0.nt G n' s'->bQ tab ops fr0.nt fr0.tmps lo s' (fun j=>cL listed j\/j=i)->
        mI P ops fr0 cs k base s' (fun j=>cL listed j\/j=i) D E K lo (Region.linearise.go .any ops fuel (t / (Region.ready .any ops listed).length) (listed.setIfInBounds i true) []) frC csC w->kL P fr0 cs k base K lo G D E frC csC w:=by
      intro s' n' htd H' hc;obtain⟨tsR',hR',frC',csC',w',D',E',c1,c2,c3,c4,c5,c6⟩:=hc;obtain⟨sF,frF,cSF,wF,DF,EF,f0,f1,f2,f3,f4,f5,f6,f7⟩:=ih _ (listed.setIfInBounds i true) s' G n' D' E' tsR' hR' frC' csC' w' hsz' hu' htd (by rw[hX'];exact H') (by rw[hX'];exact c2) (hB.kept c5);exact⟨sF,frF,cSF,wF,DF,EF,f0,c1.trans f1,f2,c3.trans f3 c4,fun x hx=>f4 x (c4 x hx),c5.trans f5,fun x hx=>(f6 x hx).elim (c6 x) .inr,f7⟩
    by_cases hC:(s.ax.get i).isSome=true
    . exact hfin s n htodo (H.mV hC ho hready) (vS pr.ok H Q hm ho hC hx hready)
    . have hr:isReady s.ax i o=true:=by
        unfold isReady;simp only[Ab,Av];exact⟨by simpa using hC,fun p hp=>H.cx p (hready p hp)⟩
      have hcm:(i,o)∈fB s.ax 0 ops.toList:=by
        have:=wS ops.toList 0 s.ax i o (by simpa using ho) (by simpa using hr);simpa using this
      rcases htodo with⟨hc,_⟩|⟨c,o',hc,hd⟩
      . rw[hc]at hcm;cases hcm
      . rw [hc]at hcm;rcases An.1 hcm with e|hcm
        . cases e;obtain⟨s2,hloop,H2,tsR',hR',frC',csC',w',D',E',c1,c2,c3,c4,c5,c6⟩:=Fo pr H Q hB hm ho hr hd hready
          cases n with
          |zero=>exact hloop.elim
          | succ n=>
           obtain⟨s3,hpass,htd3⟩:=hloop;have hpl:∀j o,ops.toList[j]? =some o->ops[0+j]? =some o:=by
            intro j o hj;simpa using hj
           obtain⟨hR3,Q3⟩:=po ops.toList 0 s2 s3 hR' hpl hpass H2 c2;exact hfin s3 n htd3 (pf ops.toList 0 s2 s3 hpl hpass H2) ⟨tsR',hR3,frC',csC',w',D',E',c1,Q3,c3,c4,c5,c6⟩
        . cases hcm
include pr in
theorem Kj {Ψ:AV->AH->Prop} {h:AH} {id:Nat} {n:Nat} (hm:fr0.mode= .run) (ht:fr0.todo= .code (.region id ops true)::k) (hlt:kH 0 ops.toList=true)
  (hd:dQ P tab ops fr0.nt (fun sF=>da P {fr:={fr0 with tmps:=sF.ts,todo:=k},cs,h:=sF.h} Ψ) n {ts:=fr0.tmps,h,ax:= .e,reads:=[],ai:=[]}):da P {fr:=fr0,cs,h} Ψ:=by
 intro D E K base frC csC w hR hB;obtain⟨n,rfl⟩:∃n',n=n'+1:=by
  cases n with
  |zero=>exact hd.elim
  |succ n=>exact⟨n,rfl⟩
 obtain⟨s1,hpass,htodo⟩:=hd;let s0:DS:={ts:=fr0.tmps,h,ax:= .e,reads:=[],ai:=[]}
 let ord:=w.tape w.drawn (.order frC.fn id)
 let l:=Go.Region.linearise.go .any ops ops.size ord (Array.replicate ops.size false) []
 have hstep:∀E',ag D E E'->Go.step P (lone frC csC w)= .next (lone (aL E' {fr0 with tmps:=fr0.tmps,todo:= .inRegion ops l::k}) csC w.drew):=by
  intro E' he;have e1:=(hR.all E' he).2.1;simp only at e1;refine step_lone_go ?_;have hmC:frC.mode= .run:=by rw[<-e1];simp[aL,hm,dh]
  have htC:frC.todo= .code (.region id ops true)::k.map (bV E'):=by rw[<-e1];simp[aL,ht,bV]
  have hrun:(choose (.order frC.fn id)).run P w= .ok ord w.drew:=by
    simp only[choose,Sem.run,Question.forced,Ah,Ax,Question.cut];rfl
  have hsch:Go.Region.schedule (P.follows .mixedOrders) ops ord=l:=by
    simp only[Go.Region.schedule,pr.mix,Bool.true_or,AK];rfl
  have hgoal:aL E' {fr0 with tmps:=fr0.tmps,todo:= .inRegion ops l::k}={frC with todo:= .inRegion ops l::k.map (bV E')}:=by
    rw[<-e1];rfl
  rw[hgoal];unfold stepG stepG.exec;simp only[hmC,htC,BQ,Ah,Ax,hrun,hsch,GStep.bare_go]
 have hdom:=(hR.all E (ag.refl _ _)).1.cN;have H0:bQ tab ops fr0.nt fr0.tmps h.next s0 (cL (Array.replicate ops.size false)):=by
  have hnone:∀j,s0.ax.get j=none:=fun _=>rfl
  refine⟨fun j hj=>absurd hj (ml _ _),fun j a hj=>absurd hj (ml _ _),?_,?_,?_,fun _ _=>rfl,?_,fun x hx=>(by cases hx),Aj _,hR.wf.1,fun x hx=>(by cases hx),hdom⟩
  . intro j hj;rw[hnone]at hj;cases hj
  . intro j a o hj;rw[hnone]at hj;cases hj
  . intro i j oi oj d hi;rw[hnone]at hi;cases hi
  . intro j hj;rw[hnone]at hj;cases hj
 have Q0:cT ops fr0 cs k base s0 (cL (Array.replicate ops.size false)) D E K fr0.tmps h l (aL E {fr0 with tmps:=fr0.tmps,todo:= .inRegion ops l::k}) csC w.drew:=by
  refine⟨⟨fun E' he=>?_,hR.cN,hR.wf⟩,fun i ob=>⟨fun h=>⟨h,fun x hx=>(by cases hx)⟩,fun h=>h.1⟩,rfl,fun j o t hx=>absurd hx (ml _ _),fun _ _=>rfl,fun x hx=>by cases hx⟩;obtain⟨g1,g2,g3⟩:=hR.all E' he;refine⟨g1.drew,?_,g3⟩;have h1:=hstep E' he;rw[hstep E (ag.refl _ _)]at h1;exact(lp (by simpa using h1)).1.symm
 have htodo:qA P tab ops fr0.nt (fun sF=>da P {fr:={fr0 with tmps:=sF.ts,todo:=k},cs,h:=sF.h} Ψ) n s1:=htodo;have hpl:∀j o,ops.toList[j]? =some o->ops[0+j]? =some o:=by
  intro j o hj;simpa using hj
 obtain⟨hR1,Q1⟩:=po ops.toList 0 s0 s1 h hpl hpass H0 Q0;have H1:=pf ops.toList 0 s0 s1 hpl hpass H0;obtain⟨sF,frC',csC',w',D',E',f0,f1,f2,f3,f4,f5,f6,f7⟩:=rq pr hm hlt ops.size ord (Array.replicate ops.size false) s1 _ n D E fr0.tmps hR1 _ csC w.drew (by simp)
  (by unfold jk;have:=Dj (fun i=> !(Array.replicate ops.size false).getD i false) (List.range ops.size);simpa using this) htodo H1 Q1 hB
 obtain⟨v,h',g1,g2⟩:=f0 D' E' K base frC' csC' w' f2 (cW.kept (w:=w.drew) hB f5);have hb:bot {fr0 with tmps:=sF.ts,todo:=k} cs=bot fr0 cs:=eu (fr:=fr0) (fr':={fr0 with tmps:=sF.ts,todo:=k}) rfl cs;simp only at g2;rw[hb]at g2;exact⟨v,h',g1,Am.Ends.trans (Steps.head (hstep E (ag.refl _ _)) f1) f3 f4 ((Kept.drew K w).trans f5) f7 f6 g2⟩
end
end
section
universe u v
variable [Inhabited aE]
structure BI where
 β:Nat
 len:Nat
 sz:Nat
 cap:Option dX
structure Cx where
 ρ:Nat->Option BI
 Fz:Nat->Option AO
def kC (cap:dX) (off n sz:Nat) (ext:Bool):Prop:=
 match cap with
 | .lit m=>n<=m
 | .tail k=>ext=true/\off=k*sz
def cX (Fz:Nat->Option AO) (b:Nat) (cs:List AV) (e:TypeId) (sz:Nat) (ext:Bool) (bk:BK):Prop:=
 ∃sz0 ext0,Fz b=some (.cells cs e sz0 ext0 bk)/\(ext=true->sz0=sz/\ext0=true)
theorem cX.of {Fz:Nat->Option AO} {b:Nat} {cs:List AV} {e:TypeId} {sz:Nat} {ext:Bool} {bk:BK} (h:Fz b=some (.cells cs e sz ext bk)):cX Fz b cs e sz ext bk:=⟨sz,ext,h,fun h=>⟨rfl,h⟩⟩
theorem cX.mono {Fz Fz':Nat->Option AO} (hf:∀i o,Fz i=some o->Fz' i=some o) {b:Nat} {cs:List AV} {e:TypeId} {sz:Nat} {ext:Bool} {bk:BK} (h:cX Fz b cs e sz ext bk):cX Fz' b cs e sz ext bk:=by
 obtain⟨s,x,h1,h2⟩:=h;exact⟨s,x,hf _ _ h1,h2⟩
inductive aC (Fz:Nat->Option AO):SV->AV->Prop
 |bool (b:Bool):aC Fz (.bool b) (.bool b)
 |int (k:IntKind) (n:Int):aC Fz (.int k n) (.int k n)
 |str (s:List UInt8):aC Fz (.str s) (.str s)
 |aA:aC Fz .aA .aA
 |wp (a:Addr):aC Fz (.wp a) (.raw (.pointer (some a)))
 |nils:aC Fz .nils .nils
 |aQ:aC Fz .aQ .aQ
 |ah:aC Fz .ah .ah
 |any (v:AV):aC Fz .any v
 |bt {X:Type} {L:List X} {enc:X->List SV} {v:AV} (h0:L.length=0) (hv:v= .nils\/(∃b off l n k,v= .emp b off l n k)\/ ∃a c,v= .raw (.slice a 0 c)):aC Fz (.aD X L enc) v
 |aD {X:Type} {L:List X} {enc:X->List SV} (b off:Nat) (cap:dX) (cs:List AV) (e:TypeId) (sz:Nat) (ext:Bool) (bk:BK) (u:Nat->Nat->AV)
  (hb:cX Fz b cs e sz ext bk) (hs:0<sz) (hl:off+L.length*sz<=cs.length) (hn:∀(i:Nat) x,L[i]? =some x->(enc x).length=sz) (hc:kC cap off L.length sz ext)
  (h1:∀(i:Nat) x (j:Nat) v,L[i]? =some x->(enc x)[j]? =some v->cs[off+i*sz+j]? =some (u i j)) (h2:∀(i:Nat) x (j:Nat) v,L[i]? =some x->(enc x)[j]? =some v->aC Fz v (u i j)):aC Fz (.aD X L enc) (.sl b off L.length cap)
 |bB {cs:List SV} {off:Nat} (b base:Nat) (ca:List AV) (e:TypeId) (sz:Nat) (ext:Bool) (bk:BK) (u:Nat->AV) (hb:Fz b=some (.cells ca e sz ext bk)) (hl:base+cs.length<=ca.length)
  (h1:∀(j:Nat) v,cs[j]? =some v->ca[base+j]? =some (u j)) (h2:∀(j:Nat) v,cs[j]? =some v->aC Fz v (u j)):aC Fz (.bB cs off) (.ptr b (base+off))
 |fn {f:FuncId} {xs ys:List SV} {us vs:List AV} (h1:xs.length=us.length) (h2:ys.length=vs.length) (h3:∀(i:Nat) x u,xs[i]? =some x->us[i]? =some u->aC Fz x u) (h4:∀(i:Nat) x u,ys[i]? =some x->vs[i]? =some u->aC Fz x u):aC Fz (.fn f xs ys) (.fn (.func f) us vs)
 |agg {cs:List SV} {vs:List AV} (h1:cs.length=vs.length) (h2:∀(i:Nat) c v,cs[i]? =some c->vs[i]? =some v->aC Fz c v):aC Fz (.agg cs) (.agg vs)
 |aO {cs:List SV} {vs:List AV} (h1:cs.length=vs.length) (h2:∀(i:Nat) c v,cs[i]? =some c->vs[i]? =some v->aC Fz c v):aC Fz (.aO cs) (.aO vs)
inductive au (C:Cx):SV->AV->Prop
 |pure {s:SV} {v:AV} (h:aC C.Fz s v):au C s v
 |ptr {b off:Nat} {I:BI} (h:C.ρ b=some I):au C (.ptr b off) (.ptr I.β off)
 |bo {b i off:Nat} {I:BI} (h:C.ρ b=some I) (hc:I.cap.isSome):au C (.bo b i off) (.ptr I.β (i*I.sz+off))
 |cR {b:Nat} {I:BI} (h:C.ρ b=some I) (hc:I.cap=none):au C (.own b) .nils
 |own {b:Nat} {I:BI} {c:dX} (h:C.ρ b=some I) (hc:I.cap=some c):au C (.own b) (.sl I.β 0 I.len c)
 |sl {b off n c:Nat} {I:BI} (h:C.ρ b=some I):au C (.sl b off n c) (.sl I.β off n (.lit c))
 |fn {f:FuncId} {xs ys:List SV} {us vs:List AV} (h1:xs.length=us.length) (h2:ys.length=vs.length) (h3:∀(i:Nat) x u,xs[i]? =some x->us[i]? =some u->au C x u) (h4:∀(i:Nat) x u,ys[i]? =some x->vs[i]? =some u->au C x u):au C (.fn f xs ys) (.fn (.func f) us vs)
 |agg {cs:List SV} {vs:List AV} (h1:cs.length=vs.length) (h2:∀(i:Nat) c v,cs[i]? =some c->vs[i]? =some v->au C c v):au C (.agg cs) (.agg vs)
 |aO {cs:List SV} {vs:List AV} (h1:cs.length=vs.length) (h2:∀(i:Nat) c v,cs[i]? =some c->vs[i]? =some v->au C c v):au C (.aO cs) (.aO vs)
theorem dZ {b c:Nat} (h:¬b=c):Nat.beq b c=false:=Ar.2 fun e=>h (Aa e)
def aH (C:Cx) (l:List SV) (m:List AV):Prop:=l.length=m.length/\ ∀(i:Nat) s v,l[i]? =some s->m[i]? =some v->au C s v
theorem aH.nil {C:Cx}:aH C [] []:=⟨rfl,fun i s v h=>by simp at h⟩
theorem aH.cons {C:Cx} {s:SV} {v:AV} {l:List SV} {m:List AV} (h:au C s v) (t:aH C l m):aH C (s::l) (v::m):=by
 refine⟨by simp[t.1],fun i a b ha hb=>?_⟩
 cases i with
 |zero=>simp at ha hb;subst ha;subst hb;exact h
 |succ i=>exact t.2 i a b (by simpa using ha) (by simpa using hb)
theorem aH.head {C:Cx} {s:SV} {v:AV} {l:List SV} {m:List AV} (h:aH C (s::l) (v::m)):au C s v/\aH C l m:=
 ⟨h.2 0 s v rfl rfl,by simpa using h.1,fun i a b ha hb=>h.2 (i+1) a b (by simpa using ha) (by simpa using hb)⟩
theorem aH.append {C:Cx} {l l':List SV} {m m':List AV} (h:aH C l m) (h':aH C l' m'):aH C (l++l') (m++m'):=by
 refine⟨by simp[h.1,h'.1],fun i a b ha hb=>?_⟩;by_cases hi:i<l.length
 . rw[AI hi]at ha;rw[AI (by rw[<-h.1];exact hi)]at hb;exact h.2 i a b ha hb
 . rw[AQ (by omega)]at ha;rw[AQ (by rw[<-h.1];omega),<-h.1]at hb;exact h'.2 _ a b ha hb
theorem aH.take {C:Cx} {l:List SV} {m:List AV} (h:aH C l m) (n:Nat):aH C (l.take n) (m.take n):=by
 refine⟨by simp[h.1],fun i a b ha hb=>?_⟩;rw[Bn]at ha hb;split at ha
 . rename_i hi;rw[Ai hi]at hb;exact h.2 i a b ha hb
 . cases ha
theorem aH.drop {C:Cx} {l:List SV} {m:List AV} (h:aH C l m) (n:Nat):aH C (l.drop n) (m.drop n):=by
 refine⟨by simp[h.1],fun i a b ha hb=>?_⟩;rw[Bx]at ha hb;exact h.2 _ a b ha hb
theorem aC.mono {Fz Fz':Nat->Option AO} (hf:∀i o,Fz i=some o->Fz' i=some o) {s:SV} {v:AV} (h:aC Fz s v):aC Fz' s v:=by
 induction h with
 |bool b=>exact .bool b
 |int k n=>exact .int k n
 |str s=>exact .str s
 |aA=>exact .aA
 |wp a=>exact .wp a
 |nils=>exact .nils
 |aQ=>exact .aQ
 |ah=>exact .ah
 |any v=>exact .any v
 |bt h0 hv=>exact .bt h0 hv
 |aD b off cap cs e sz ext bk u hb hs hl hn hc h1 _ ih=>exact .aD b off cap cs e sz ext bk u (hb.mono hf) hs hl hn hc h1 ih
 |bB b base ca e sz ext bk u hb hl h1 _ ih=>exact .bB b base ca e sz ext bk u (hf _ _ hb) hl h1 ih
 |fn h1 h2 _ _ ih3 ih4=>exact .fn h1 h2 ih3 ih4
 |agg h1 _ ih=>exact .agg h1 ih
 |aO h1 _ ih=>exact .aO h1 ih
theorem jM (e:Ev) (l:List SV):dH e l=l.map (SV.on e):=by
 induction l with
 |nil=>simp[dH]
 |cons a l ih=>simp[dH,ih]
theorem aC.on {Fz:Nat->Option AO} {s:SV} {v:AV} (h:aC Fz s v) (e:Ev):aC Fz (s.on e) v:=by
 induction h with
 |bool b=>simp only[SV.on];exact .bool b
 |int k n=>simp only[SV.on];exact .int k n
 |str s=>simp only[SV.on];exact .str s
 |aA=>simp only[SV.on];exact .aA
 |wp a=>simp only[SV.on];exact .wp a
 |nils=>simp only[SV.on];exact .nils
 |aQ=>simp only[SV.on];exact .aQ
 |ah=>simp only[SV.on];exact .ah
 |any v=>simp only[SV.on];exact .any v
 |bt h0 hv=>simp only[SV.on];exact .bt h0 hv
 |aD b off cap cs e sz ext bk u hb hs hl hn hc h1 h2 _=>simp only[SV.on];exact .aD b off cap cs e sz ext bk u hb hs hl hn hc h1 h2
 |bB b base ca e sz ext bk u hb hl h1 h2 _=>simp only[SV.on];exact .bB b base ca e sz ext bk u hb hl h1 h2
 |fn h1 h2 _ _ ih3 ih4=>
  simp only[SV.on,jM];refine .fn (by simpa using h1) (by simpa using h2) (fun i x u hx hu=>?_) (fun i x u hx hu=>?_)
  . rw[Au]at hx;obtain⟨y,hy,rfl⟩:=Aq.1 hx;exact ih3 i y u hy hu
  . rw[Au]at hx;obtain⟨y,hy,rfl⟩:=Aq.1 hx;exact ih4 i y u hy hu
 |agg h1 _ ih=>
  simp only[SV.on,jM];refine .agg (by simpa using h1) (fun i x u hx hu=>?_);rw[Au]at hx;obtain⟨y,hy,rfl⟩:=Aq.1 hx;exact ih i y u hy hu
 |aO h1 _ ih=>
  simp only[SV.on,jM];refine .aO (by simpa using h1) (fun i x u hx hu=>?_);rw[Au]at hx;obtain⟨y,hy,rfl⟩:=Aq.1 hx;exact ih i y u hy hu
def bU (C:Cx) (e:Ev) (C':Cx):Prop:=
 (∀i o,C.Fz i=some o->C'.Fz i=some o)/\
 match e with
 | .mod _=>∀p I,C.ρ p=some I->C'.ρ p=some I
 | .kill b=>∀p I,p≠b->C.ρ p=some I->C'.ρ p=some I
 | .dy b X L enc=>(∀p I,p≠b->C.ρ p=some I->C'.ρ p=some I)/\ ∀I,C.ρ b=some I->
  (∀v,au C (.own b) v->aC C'.Fz (.aD X L enc) v)/\(∀(i:Nat) off v x,L[i]? =some x->au C (.bo b i off) v->aC C'.Fz (.bB (enc x) off) v)
theorem au.turns {C C':Cx} {e:Ev} (ht:bU C e C') {s:SV} {v:AV} (h:au C s v):au C' (s.on e) v:=by
 induction h with
 |pure h=>exact .pure ((h.mono ht.1).on e)
 | @ptr b off I h=>
  simp only[SV.on]
  cases e with
  |mod c=>exact .ptr (ht.2 _ _ h)
  | kill c=>
    by_cases hb:b=c
    . simp[hb];exact .pure (.any _)
    . simp only[dZ hb,AB];exact .ptr (ht.2 _ _ hb h)
  | dy c X L enc=>
    by_cases hb:b=c
    . simp[hb];exact .pure (.any _)
    . simp only[dZ hb,AB];exact .ptr (ht.2.1 _ _ hb h)
 | @bo b i off I h hc=>
  simp only[SV.on]
  cases e with
  |mod c=>exact .bo (ht.2 _ _ h) hc
  | kill c=>
    by_cases hb:b=c
    . simp[hb];exact .pure (.any _)
    . simp only[dZ hb,AB];exact .bo (ht.2 _ _ hb h) hc
  | dy c X L enc=>
    by_cases hb:b=c
    . subst hb;simp only[Bo,AY];split
      . rename_i x hx;exact .pure ((ht.2.2 I h).2 i off _ x hx (.bo h hc))
      . exact .pure (.any _)
    . simp only[dZ hb,AB];exact .bo (ht.2.1 _ _ hb h) hc
 | @cR b I h hc=>
  simp only[SV.on]
  cases e with
  |mod c=>exact .cR (ht.2 _ _ h) hc
  | kill c=>
    by_cases hb:b=c
    . simp[hb];exact .pure (.any _)
    . simp only[dZ hb,AB];exact .cR (ht.2 _ _ hb h) hc
  | dy c X L enc=>
    by_cases hb:b=c
    . subst hb;simp only[Bo,AY];exact .pure ((ht.2.2 I h).1 _ (.cR h hc))
    . simp only[dZ hb,AB];exact .cR (ht.2.1 _ _ hb h) hc
 | @own b I c' h hc=>
  simp only[SV.on]
  cases e with
  |mod c=>exact .own (ht.2 _ _ h) hc
  | kill c=>
    by_cases hb:b=c
    . simp[hb];exact .pure (.any _)
    . simp only[dZ hb,AB];exact .own (ht.2 _ _ hb h) hc
  | dy c X L enc=>
    by_cases hb:b=c
    . subst hb;simp only[Bo,AY];exact .pure ((ht.2.2 I h).1 _ (.own h hc))
    . simp only[dZ hb,AB];exact .own (ht.2.1 _ _ hb h) hc
 | @sl b off n c' I h=>
  simp only[SV.on]
  cases e with
  |mod c=>exact .sl (ht.2 _ _ h)
  | kill c=>
    by_cases hb:b=c
    . simp[hb];exact .pure (.any _)
    . simp only[dZ hb,AB];exact .sl (ht.2 _ _ hb h)
  | dy c X L enc=>
    by_cases hb:b=c
    . simp[hb];exact .pure (.any _)
    . simp only[dZ hb,AB];exact .sl (ht.2.1 _ _ hb h)
 |fn h1 h2 _ _ ih3 ih4=>
  simp only[SV.on,jM];refine .fn (by simpa using h1) (by simpa using h2) (fun i x u hx hu=>?_) (fun i x u hx hu=>?_)
  . rw[Au]at hx;obtain⟨y,hy,rfl⟩:=Aq.1 hx;exact ih3 i y u hy hu
  . rw[Au]at hx;obtain⟨y,hy,rfl⟩:=Aq.1 hx;exact ih4 i y u hy hu
 |agg h1 _ ih=>
  simp only[SV.on,jM];refine .agg (by simpa using h1) (fun i x u hx hu=>?_);rw[Au]at hx;obtain⟨y,hy,rfl⟩:=Aq.1 hx;exact ih i y u hy hu
 |aO h1 _ ih=>
  simp only[SV.on,jM];refine .aO (by simpa using h1) (fun i x u hx hu=>?_);rw[Au]at hx;obtain⟨y,hy,rfl⟩:=Aq.1 hx;exact ih i y u hy hu
def eX:List Ev->SV->SV
 |[],s=>s
 |e::l,s=>eX l (s.on e)
theorem o6 (l m:List Ev) (s:SV):eX (l++m) s=eX m (eX l s):=by
 induction l generalizing s with
 |nil=>rfl
 |cons e l ih=>exact ih _
structure Tr (C:Cx) (log:List Ev) (C':Cx):Prop where
 val:∀s v,au C s v->au C' (eX log s) v
 fz:∀i o,C.Fz i=some o->C'.Fz i=some o
theorem Tr.refl (C:Cx):Tr C [] C:=⟨fun _ _ h=>h,fun _ _ h=>h⟩
theorem Tr.trans {C C' C'':Cx} {l m:List Ev} (h:Tr C l C') (k:Tr C' m C''):Tr C (l++m) C'':=
 ⟨fun s v hs=>by rw[o6];exact k.val _ _ (h.val _ _ hs),fun i o hi=>k.fz i o (h.fz i o hi)⟩
theorem bU.tr {C C':Cx} {e:Ev} (h:bU C e C'):Tr C [e] C':=⟨fun _ _ hs=>hs.turns h,h.1⟩
def Cx.le (C C':Cx):Prop:=(∀p I,C.ρ p=some I->C'.ρ p=some I)/\ ∀i o,C.Fz i=some o->C'.Fz i=some o
theorem au.le {C C':Cx} (hc:C.le C') {s:SV} {v:AV} (h:au C s v):au C' s v:=by
 induction h with
 |pure h=>exact .pure (h.mono hc.2)
 |ptr h=>exact .ptr (hc.1 _ _ h)
 |bo h hs=>exact .bo (hc.1 _ _ h) hs
 |cR h hs=>exact .cR (hc.1 _ _ h) hs
 |own h hs=>exact .own (hc.1 _ _ h) hs
 |sl h=>exact .sl (hc.1 _ _ h)
 |fn h1 h2 _ _ ih3 ih4=>exact .fn h1 h2 ih3 ih4
 |agg h1 _ ih=>exact .agg h1 ih
 |aO h1 _ ih=>exact .aO h1 ih
theorem Cx.le.tr {C C':Cx} (h:C.le C'):Tr C [] C':=⟨fun _ _ hs=>hs.le h,h.2⟩
theorem Cx.le_refl (C:Cx):C.le C:=⟨fun _ _ h=>h,fun _ _ h=>h⟩
def cK (tab:aM) (C:Cx) (I:BI) (o:SO) (a:AH):Prop:=
 match o with
 | .cells cs e=>I.cap.isSome/\ ∃ca sz,a.get I.β=some (.cells ca e sz false .rw)/\aH C cs ca/\tab.siz.get e=some sz
 | .arr X L enc e=>tab.siz.get e=some I.sz/\0<I.sz/\I.len=L.length/\(∀(i:Nat) x,L[i]? =some x->(enc x).length=I.sz)/\
  match I.cap with
  |none=>L.length=0
  |some c=>∃ca ext bk,a.get I.β=some (.cells ca e I.sz ext bk)/\(bk≠ .ro/\bk≠ .cold)/\ca.length=L.length*I.sz/\((c= .tail 0/\ext=true)\/(c= .lit 0/\L.length=0))/\
   ∀(i:Nat) x (j:Nat) v,L[i]? =some x->(enc x)[j]? =some v->∃u,ca[i*I.sz+j]? =some u/\aC C.Fz v u
structure HS (tab:aM) (C:Cx) (h:SH) (a:AH):Prop where
 obj:∀p o,h.get p=some o->∃I,C.ρ p=some I/\cK tab C I o a
 inj:∀p q o o' I J,h.get p=some o->h.get q=some o'->C.ρ p=some I->C.ρ q=some J->I.cap.isSome->J.cap.isSome->I.β=J.β->p=q
 fz:∀i o,C.Fz i=some o->a.get i=some o
 dj:∀p o I,h.get p=some o->C.ρ p=some I->I.cap.isSome->C.Fz I.β=none
 lt:∀p I,C.ρ p=some I->p<h.next
 wf:∀i o,a.get i=some o->i<a.next
def FS (C:Cx) (ts:Fr) (ta:T AV):Prop:=∀t s,look ts t=some s->au C s ((ta.get t).getD (.aO []))
end
section
universe u v
variable [Inhabited aE]
theorem gj {α:Type u} (k:Nat) (v:α) (l:List (Nat×α)) (n:Nat):look ((k,v)::l) n=if n=k then some v else look l n:=by
 simp only[look];by_cases h:n=k
 . subst h;simp
 . rw[Ae h,dZ (fun e=>h e.symm)];rfl
theorem SH.aI (h:SH) (b p:Nat) (o:Option SO):(h.set b o).get p=if p=b then o else h.get p:=by
 obtain⟨n,os⟩:=h;simp only[SH.set,SH.get,gj];by_cases e:p=b
 . simp[e];cases o<;>rfl
 . simp[e]
theorem SH.aF (h:SH) (p:Nat) (o:SO):(h.new o).get p=if p=h.next then some o else h.get p:=by
 obtain⟨n,os⟩:=h;simp only[SH.new,SH.get,gj];by_cases e:p=n<;>simp[e]
theorem SH.cQ (h:SH) (b:Nat) (o:Option SO):(h.set b o).next=h.next:=by obtain⟨n,os⟩:=h;rfl
theorem SH.bg (h:SH) (o:SO):(h.new o).next=h.next+1:=by obtain⟨n,os⟩:=h;rfl
theorem Hf (e:Ev) (os:List (Nat×Option SO)) (p:Nat):look (fh e os) p=(look os p).map fun o=>o.map (SO.on e):=by
 induction os with
 |nil=>rfl
 |cons x l ih=>
  obtain⟨b,o⟩:=x
  cases o with
  |none=>simp only[fh,gj,ih];split<;>simp
  |some o=>simp only[fh,gj,ih];split<;>simp
theorem mz (e:Ev) (n:Nat) (os:List (Nat×Option SO)) (p:Nat):(SH.mk n (fh e os)).get p=((SH.mk n os).get p).map (SO.on e):=by
 simp only[SH.get,Hf]
 cases h:look os p with
 |none=>rfl
 |some o=>cases o<;>rfl
theorem xn (e:Ev) (ts:Fr) (t:Nat):look (kX e ts) t=(look ts t).map (SV.on e):=by
 induction ts with
 |nil=>rfl
 |cons x l ih=>
  obtain⟨b,v⟩:=x;simp only[kX,gj,ih];split<;>simp
theorem FS.turns {C C':Cx} {e:Ev} (ht:bU C e C') {ts:Fr} {ta:T AV} (h:FS C ts ta):FS C' (kX e ts) ta:=by
 intro t s hs;rw[xn]at hs;obtain⟨s0,h0,rfl⟩:=Aq.1 hs;exact(h t s0 h0).turns ht
theorem FS.le {C C':Cx} (hc:C.le C') {ts:Fr} {ta:T AV} (h:FS C ts ta):FS C' ts ta:=fun t s hs=>(h t s hs).le hc
theorem FS.log {C C':Cx} {log:List Ev} (ht:Tr C log C') {ts:Fr} {ta:T AV} (h:FS C ts ta):FS C' (mJ log ts) ta:=by
 have key:∀(log:List Ev) (ts:Fr) (t:Nat),look (mJ log ts) t=(look ts t).map (eX log):=by
  intro log;induction log with
  |nil=>intro ts t;simp[mJ];cases look ts t<;>rfl
  |cons e l ih=>
   intro ts t;simp only[mJ,ih,xn,Option.map_map];rfl
 intro t s hs;rw[key]at hs;obtain⟨s0,h0,rfl⟩:=Aq.1 hs;exact ht.val _ _ (h t s0 h0)
theorem FS.put {C:Cx} {ts:Fr} {ta:T AV} (h:FS C ts ta) {t:Nat} {s:SV} {v:AV} (hv:au C s v):FS C ((t,s)::ts) (ta.set t (some v)):=by
 intro t' s' hs;rw[gj]at hs;rw[T.aI];split at hs
 . rename_i e
   cases hs;simpa [e]using hv
 . rename_i e;simpa [e]using h t' s' hs
theorem aH.le {C C':Cx} (hc:C.le C') {l:List SV} {m:List AV} (h:aH C l m):aH C' l m:=⟨h.1,fun i s v hs hv=>(h.2 i s v hs hv).le hc⟩
theorem aH.turns {C C':Cx} {e:Ev} (ht:bU C e C') {l:List SV} {m:List AV} (h:aH C l m):aH C' (dH e l) m:=by
 rw[jM];refine⟨by simp[h.1],fun i s v hs hv=>?_⟩;rw[Au]at hs;obtain⟨s0,h0,rfl⟩:=Aq.1 hs;exact(h.2 i s0 v h0 hv).turns ht
section
variable {tab:aM} {C C':Cx} {I:BI} {o:SO} {a a':AH} {h:SH}
theorem cK.congr (hg:a'.get I.β=a.get I.β) (ho:cK tab C I o a):cK tab C I o a':=by
 cases o with
 |cells cs e=>
  simp only[cK,hg]at ho⊢;exact ho
 |arr X L enc e=>
  simp only[cK,hg]at ho⊢;exact ho
theorem cK.le (hc:C.le C') (ho:cK tab C I o a):cK tab C' I o a:=by
 cases o with
 |cells cs e=>
  obtain⟨h1,ca,sz,h2,h3,h4⟩:=ho;exact⟨h1,ca,sz,h2,h3.le hc,h4⟩
 | arr X L enc e=>
  obtain⟨h1,h2,h3,h4,h5⟩:=ho;refine⟨h1,h2,h3,h4,?_⟩
  cases hcap:I.cap with
  |none=>rw[hcap]at h5;exact h5
  |some c=>
   rw[hcap]at h5;obtain⟨ca,ext,bk,g1,g2,g3,g4,g5⟩:=h5;refine⟨ca,ext,bk,g1,g2,g3,g4,fun i x j v hx hv=>?_⟩;obtain⟨u,k1,k2⟩:=g5 i x j v hx hv;exact⟨u,k1,k2.mono hc.2⟩
theorem cK.turns {e:Ev} (ht:bU C e C') (ho:cK tab C I o a):cK tab C' I (o.on e) a:=by
 cases o with
 |cells cs t=>
  obtain⟨h1,ca,sz,h2,h3,h4⟩:=ho;exact⟨h1,ca,sz,h2,h3.turns ht,h4⟩
 | arr X L enc t=>
  obtain⟨h1,h2,h3,h4,h5⟩:=ho;refine⟨h1,h2,h3,h4,?_⟩
  cases hcap:I.cap with
  |none=>rw[hcap]at h5;exact h5
  |some c=>
   rw[hcap]at h5;obtain⟨ca,ext,bk,g1,g2,g3,g4,g5⟩:=h5;refine⟨ca,ext,bk,g1,g2,g3,g4,fun i x j v hx hv=>?_⟩;obtain⟨u,k1,k2⟩:=g5 i x j v hx hv;exact⟨u,k1,k2.mono ht.1⟩
theorem cK.live (ho:cK tab C I o a) (hc:I.cap.isSome):∃b,a.get I.β=some b:=by
 cases o with
 |cells cs e=>
  obtain⟨_,ca,sz,h2,_⟩:=ho;exact⟨_,h2⟩
 |arr X L enc e=>
  obtain⟨_,_,_,_,h5⟩:=ho;obtain⟨c,hc⟩:=Bz.1 hc;rw[hc]at h5;obtain⟨ca,ext,bk,g1,_⟩:=h5;exact⟨_,g1⟩
open Classical in
noncomputable def Cx.put (C:Cx) (p:Nat) (I:BI):Cx:={C with ρ:=fun q=>if q=p then some I else C.ρ q}
theorem fg (C:Cx) (p:Nat) (I:BI):(C.put p I).ρ p=some I:=by simp[Cx.put]
theorem fI (C:Cx) {p q:Nat} (I:BI) (h:q≠p):(C.put p I).ρ q=C.ρ q:=by simp[Cx.put,h]
structure Grow (a a':AH):Prop where
 next:a.next<=a'.next
 old:∀i o,a'.get i=some o->(∃o0,a.get i=some o0)\/a.next<=i
theorem Grow.refl (a:AH):Grow a a:=⟨Aj _,fun i o h=> .inl ⟨o,h⟩⟩
theorem Grow.trans {a b c:AH} (h:Grow a b) (k:Grow b c):Grow a c:=
 ⟨AG h.next k.next,fun i o hi=>(k.old i o hi).elim (fun⟨o',ho⟩=>h.old i o' ho) (fun hl=> .inr (AG h.next hl))⟩
theorem Grow.new (a:AH) (o:AO):Grow a (a.new o):=⟨by simp,fun i o' hi=>by
 rw[AH.aF]at hi;split at hi
 . rename_i e;exact .inr (by omega)
 . exact .inl ⟨o',hi⟩⟩
theorem HS.new (H:HS tab C h a) {ao:AO} {o:SO} (I:BI) (hI:I.β=a.next) (ho:C.le (C.put h.next I)->cK tab (C.put h.next I) I o (a.new ao)):
   C.le (C.put h.next I)/\HS tab (C.put h.next I) (h.new o) (a.new ao):=by
 have hle:C.le (C.put h.next I):=by
   refine⟨fun p J hp=>?_,fun i o h=>h⟩;have:=H.lt p J hp;rw[fI _ _ (by omega)];exact hp
 refine⟨hle,?_⟩;have hold:∀p o',(h.new o).get p=some o'->p≠h.next->h.get p=some o':=by
   intro p o' hp hne;rw[SH.aF,Ae hne]at hp;exact hp
 have hne:∀p o',h.get p=some o'->p≠h.next:=by
   intro p o' hp e;obtain⟨J,hJ,_⟩:=H.obj p o' hp;have:=H.lt p J hJ;omega
 have hblk:∀p o' J,h.get p=some o'->C.ρ p=some J->J.cap.isSome->J.β<a.next:=by
   intro p o' J hp hJ hc;obtain⟨J',hJ',hs⟩:=H.obj p o' hp;rw[hJ]at hJ';cases hJ';obtain⟨b,hb⟩:=hs.live hc;exact H.wf _ _ hb
 refine⟨?_,?_,?_,?_,?_,?_⟩
 . intro p o' hp;by_cases e:p=h.next
   . subst e;rw[SH.aF,Ai rfl]at hp
     cases hp;exact⟨I,fg _ _ _,ho hle⟩
   . have hp':=hold p o' hp e;obtain⟨J,hJ,hs⟩:=H.obj p o' hp';refine⟨J,hle.1 _ _ hJ,?_⟩;have hs':=hs.le hle;by_cases hc:J.cap.isSome
     . refine hs'.congr ?_;have:=hblk p o' J hp' hJ hc;rw[AH.aF,Ae (by omega)]
     . cases o' with
       |cells cs t=>exact absurd hs.1 hc
       |arr X L enc t=>
        obtain⟨h1,h2,h3,h4,h5⟩:=hs';refine⟨h1,h2,h3,h4,?_⟩
        cases hcap:J.cap with
        |none=>rw[hcap]at h5;exact h5
        |some c=>rw[hcap]at hc;simp at hc
 . intro p q o1 o2 J J' hp hq hJ hJ' hc hc' e;by_cases e1:p=h.next
   . by_cases e2:q=h.next
     . rw[e1,e2]
     . exfalso;subst e1;rw[fg]at hJ;cases hJ;rw[fI _ _ e2]at hJ';have:=hblk q o2 J' (hold q o2 hq e2) hJ' hc';omega
   . rw[fI _ _ e1]at hJ;by_cases e2:q=h.next
     . exfalso;subst e2;rw[fg]at hJ';cases hJ';have:=hblk p o1 J (hold p o1 hp e1) hJ hc;omega
     . rw[fI _ _ e2]at hJ';exact H.inj p q o1 o2 J J' (hold p o1 hp e1) (hold q o2 hq e2) hJ hJ' hc hc' e
 . intro i o' hi;have:=H.fz i o' hi;have hl:=H.wf _ _ this;rw[AH.aF,Ae (by omega)];exact this
 . intro p o' J hp hJ hc;by_cases e:p=h.next
   . subst e;rw[fg]at hJ;cases hJ;rw[hI]
     cases hz:(C.put h.next I).Fz a.next with
     |none=>rfl
     | some o2=>
       have:=H.wf _ _ (H.fz _ _ hz);omega
   . rw[fI _ _ e]at hJ;exact H.dj p o' J (hold p o' hp e) hJ hc
 . intro p J hJ;rw[SH.bg];by_cases e:p=h.next
   . omega
   . rw[fI _ _ e]at hJ;have:=H.lt p J hJ;omega
 . intro i o' hi;rw[AH.aF]at hi;simp only[AH.bg];split at hi
   . omega
   . have:=H.wf i o' hi;omega
theorem HS.rr (H:HS tab C h a) {o:SO} (I:BI) (hI:I.cap=none) (ho:C.le (C.put h.next I)->cK tab (C.put h.next I) I o a):
   C.le (C.put h.next I)/\HS tab (C.put h.next I) (h.new o) a:=by
 have hle:C.le (C.put h.next I):=by
   refine⟨fun p J hp=>?_,fun i o h=>h⟩;have:=H.lt p J hp;rw[fI _ _ (by omega)];exact hp
 refine⟨hle,?_⟩;have hold:∀p o',(h.new o).get p=some o'->p≠h.next->h.get p=some o':=by
   intro p o' hp hne;rw[SH.aF,Ae hne]at hp;exact hp
 refine⟨?_,?_,H.fz,?_,?_,H.wf⟩
 . intro p o' hp;by_cases e:p=h.next
   . subst e;rw[SH.aF,Ai rfl]at hp
     cases hp;exact⟨I,fg _ _ _,ho hle⟩
   . obtain⟨J,hJ,hs⟩:=H.obj p o' (hold p o' hp e);exact⟨J,hle.1 _ _ hJ,hs.le hle⟩
 . intro p q o1 o2 J J' hp hq hJ hJ' hc hc' e;by_cases e1:p=h.next
   . subst e1;rw[fg]at hJ;cases hJ;rw[hI]at hc;simp at hc
   . rw[fI _ _ e1]at hJ;by_cases e2:q=h.next
     . subst e2;rw[fg]at hJ';cases hJ';rw[hI]at hc';simp at hc'
     . rw[fI _ _ e2]at hJ';exact H.inj p q o1 o2 J J' (hold p o1 hp e1) (hold q o2 hq e2) hJ hJ' hc hc' e
 . intro p o' J hp hJ hc;by_cases e:p=h.next
   . subst e;rw[fg]at hJ;cases hJ;rw[hI]at hc;simp at hc
   . rw[fI _ _ e]at hJ;exact H.dj p o' J (hold p o' hp e) hJ hc
 . intro p J hJ;rw[SH.bg];by_cases e:p=h.next
   . omega
   . rw[fI _ _ e]at hJ;have:=H.lt p J hJ;omega
theorem HS.renew (H:HS tab C h a) {d:Nat} {o0:SO} {I0:BI} (hd:h.get d=some o0) (hI0:C.ρ d=some I0) (I:BI) {o:SO}
   (hold:∀i b,(I0.cap.isSome->i≠I0.β)->a.get i=some b->a'.get i=some b) (hwf:∀i b,a'.get i=some b->i<a'.next)
   (hnew:I.cap.isSome->a.next<=I.β\/(I0.cap.isSome/\I.β=I0.β)) (hn:a.next<=a'.next) (ho:bU C (.kill d) (C.put d I)->cK tab (C.put d I) I o a'):
   bU C (.kill d) (C.put d I)/\HS tab (C.put d I) ⟨h.next,(d,some o)::fh (.kill d) h.os⟩ a':=by
 have hT:bU C (.kill d) (C.put d I):=⟨fun i o h=>h,fun p J hp hJ=>by rw[fI _ _ hp];exact hJ⟩;refine⟨hT,?_⟩;have hget:∀p,(SH.mk h.next ((d,some o)::fh (.kill d) h.os)).get p=if p=d then some o else(h.get p).map (SO.on (.kill d)):=by
   intro p;have h1:=mz (.kill d) h.next h.os p;simp only[SH.get,gj]at h1⊢;by_cases e:p=d
   . simp[e]
   . simp only[Ae e];exact h1
 have hback:∀p o',(SH.mk h.next ((d,some o)::fh (.kill d) h.os)).get p=some o'->p≠d->∃o1,h.get p=some o1/\o'=o1.on (.kill d):=by
   intro p o' hp hne;rw[hget,Ae hne]at hp;obtain⟨o1,h1,h2⟩:=Aq.1 hp;exact⟨o1,h1,h2.symm⟩
 have hlive:∀p o1 J,h.get p=some o1->C.ρ p=some J->cK tab C J o1 a:=by
   intro p o1 J hp hJ;obtain⟨J',hJ',hs⟩:=H.obj p o1 hp;rw[hJ]at hJ';cases hJ';exact hs
 have hne:∀p o1 J,h.get p=some o1->C.ρ p=some J->J.cap.isSome->p≠d->(I0.cap.isSome->J.β≠I0.β):=by
   intro p o1 J hp hJ hc hpd hc0 e;exact hpd (H.inj p d o1 o0 J I0 hp hd hJ hI0 hc hc0 e)
 refine⟨?_,?_,?_,?_,?_,hwf⟩
 . intro p o' hp;by_cases e:p=d
   . subst e;rw[hget,Ai rfl]at hp
     cases hp;exact⟨I,fg _ _ _,ho hT⟩
   . obtain⟨o1,h1,rfl⟩:=hback p o' hp e;obtain⟨J,hJ,hs⟩:=H.obj p o1 h1;refine⟨J,hT.2 p J e hJ,?_⟩;have hs':=hs.turns hT;by_cases hc:J.cap.isSome
     . obtain⟨b,hb⟩:=hs.live hc;exact hs'.congr ((hold _ _ (hne p o1 J h1 hJ hc e) hb).trans hb.symm)
     . cases o1 with
       |cells cs t=>exact absurd hs.1 hc
       |arr X L enc t=>
        obtain⟨g1,g2,g3,g4,g5⟩:=hs';refine⟨g1,g2,g3,g4,?_⟩
        cases hcap:J.cap with
        |none=>rw[hcap]at g5;exact g5
        |some c=>rw[hcap]at hc;simp at hc
 . have key:∀q o2 J,(SH.mk h.next ((d,some o)::fh (.kill d) h.os)).get q=some o2->q≠d->(C.put d I).ρ q=some J->J.cap.isSome->I.cap.isSome->I.β≠J.β:=by
     intro q o2 J hq e2 hJ' hc' hc e;rw[fI _ _ e2]at hJ';obtain⟨o3,h3,rfl⟩:=hback q o2 hq e2;obtain⟨b,hb⟩:=(hlive q o3 J h3 hJ').live hc';have hlt:=H.wf _ _ hb;rcases hnew hc with hge|⟨h0,he⟩
     . omega
     . exact hne q o3 J h3 hJ' hc' e2 h0 (by rw[<-e,he])
   intro p q o1 o2 J J' hp hq hJ hJ' hc hc' e;by_cases e1:p=d
   . by_cases e2:q=d
     . rw[e1,e2]
     . exfalso;subst e1;rw[fg]at hJ;cases hJ;exact key q o2 J' hq e2 hJ' hc' hc e
   . by_cases e2:q=d
     . exfalso;subst e2;rw[fg]at hJ';cases hJ';exact key p o1 J hp e1 hJ hc hc' e.symm
     . rw[fI _ _ e1]at hJ;rw[fI _ _ e2]at hJ';obtain⟨o3,h3,_⟩:=hback p o1 hp e1;obtain⟨o4,h4,_⟩:=hback q o2 hq e2;exact H.inj p q o3 o4 J J' h3 h4 hJ hJ' hc hc' e
 . intro i b hi;have h1:=H.fz i b hi;refine hold i b (fun hc e=>?_) h1;subst e;have:=H.dj d o0 I0 hd hI0 hc;rw[show C.Fz I0.β=some b from hi]at this;cases this
 . intro p o' J hp hJ hc;by_cases e:p=d
   . subst e;rw[fg]at hJ;cases hJ;rcases hnew hc with hge|⟨h0,he⟩
     . cases hz:C.Fz I.β with
       |none=>exact hz
       |some o2=>
        have:=H.wf _ _ (H.fz _ _ hz);omega
     . rw[he];exact H.dj p o0 I0 hd hI0 h0
   . rw[fI _ _ e]at hJ;obtain⟨o3,h3,_⟩:=hback p o' hp e;exact H.dj p o3 J h3 hJ hc
 . intro p J hJ;by_cases e:p=d
   . subst e;exact H.lt p I0 hI0
   . rw[fI _ _ e]at hJ;exact H.lt p J hJ
end
end
section
universe u v
variable [Inhabited aE]
section
variable {tab:aM} {C C':Cx} {I:BI} {o:SO} {a a':AH} {h:SH}
theorem HS.at_ (H:HS tab C h a) {p:Nat} {o:SO} {I:BI} (hp:h.get p=some o) (hI:C.ρ p=some I):cK tab C I o a:=by
 obtain⟨J,hJ,hs⟩:=H.obj p o hp;rw[hI]at hJ;cases hJ;exact hs
theorem HS.mod (H:HS tab C h a) {d:Nat} {o0:SO} {I0:BI} (hd:h.get d=some o0) (hI0:C.ρ d=some I0) (hb:I0.cap.isSome) {o:SO} {ao:AO} (ho:cK tab C I0 o (a.set I0.β ao)):
   HS tab C (h.set d (some o)) (a.set I0.β ao):=by
 have hback:∀p o',(h.set d (some o)).get p=some o'->p≠d->h.get p=some o':=by
   intro p o' hp hne;rw[SH.aI,Ae hne]at hp;exact hp
 have hany:∀p o',(h.set d (some o)).get p=some o'->∃o1,h.get p=some o1:=by
   intro p o' hp;by_cases e:p=d
   . exact⟨o0,e▸hd⟩
   . exact⟨o',hback p o' hp e⟩
 have hlt:=H.wf _ _ ((H.at_ hd hI0).live hb).choose_spec;refine⟨?_,?_,?_,?_,?_,?_⟩
 . intro p o' hp;by_cases e:p=d
   . subst e;rw[SH.aI,Ai rfl]at hp
     cases hp;exact⟨I0,hI0,ho⟩
   . have hp':=hback p o' hp e;obtain⟨J,hJ,hs⟩:=H.obj p o' hp';refine⟨J,hJ,?_⟩;by_cases hc:J.cap.isSome
     . refine hs.congr ?_;rw[AH.aI,Ae];intro e';exact e (H.inj p d o' o0 J I0 hp' hd hJ hI0 hc hb e')
     . cases o' with
       |cells cs t=>exact absurd hs.1 hc
       |arr X L enc t=>
        obtain⟨g1,g2,g3,g4,g5⟩:=hs;refine⟨g1,g2,g3,g4,?_⟩
        cases hcap:J.cap with
        |none=>rw[hcap]at g5;exact g5
        |some c=>rw[hcap]at hc;simp at hc
 . intro p q o1 o2 J J' hp hq hJ hJ' hc hc' e;obtain⟨o3,h3⟩:=hany p o1 hp;obtain⟨o4,h4⟩:=hany q o2 hq;exact H.inj p q o3 o4 J J' h3 h4 hJ hJ' hc hc' e
 . intro i b hi;have h1:=H.fz i b hi;rw[AH.aI,Ae]
   . exact h1
   . intro e;subst e;have:=H.dj d o0 I0 hd hI0 hb;rw[hi]at this;cases this
 . intro p o' J hp hJ hc;obtain⟨o3,h3⟩:=hany p o' hp;exact H.dj p o3 J h3 hJ hc
 . intro p J hJ;rw[SH.cQ];exact H.lt p J hJ
 . intro i b hi;rw[AH.aI]at hi;simp only[AH.cQ];split at hi
   . rename_i e;rw[e];exact hlt
   . exact H.wf i b hi
open Classical in
noncomputable def Cx.freeze (C:Cx) (β:Nat) (p:Prop) (o:Option AO):Cx:={C with Fz:=fun i=>if p/\i=β then o else C.Fz i}
theorem HS.freeze (H:HS tab C h a) {d:Nat} {o0:SO} {I0:BI} (hd:h.get d=some o0) (hI0:C.ρ d=some I0) {e:Ev} (he:∀C':Cx,(∀i o,C.Fz i=some o->C'.Fz i=some o)->(∀p I,C.ρ p=some I->C'.ρ p=some I)->
     (I0.cap.isSome->C'.Fz I0.β=a.get I0.β)->bU C e C'):
   ∃C',bU C e C'/\HS tab C' ⟨h.next,(d,none)::fh e h.os⟩ a/\(I0.cap.isSome->C'.Fz I0.β=a.get I0.β)/\C'.ρ=C.ρ:=by
 classical
 let C':Cx:=C.freeze I0.β (I0.cap.isSome=true) (a.get I0.β)
 have hfz:∀i o,C.Fz i=some o->C'.Fz i=some o:=by
   intro i o hi;simp only[C',Cx.freeze];split
   . rename_i hc;obtain⟨hb,rfl⟩:=hc;have:=H.dj d o0 I0 hd hI0 hb;rw[hi]at this;cases this
   . exact hi
 have hfb:I0.cap.isSome->C'.Fz I0.β=a.get I0.β:=by
   intro hb;simp[C',Cx.freeze,hb]
 have hback':∀i o,C'.Fz i=some o->C.Fz i=some o\/(I0.cap.isSome/\i=I0.β/\a.get i=some o):=by
   intro i o hi;simp only[C',Cx.freeze]at hi;split at hi
   . rename_i hc;exact .inr ⟨hc.1,hc.2,by rw[hc.2];exact hi⟩
   . exact .inl hi
 have hT:=he C' hfz (fun p I h=>h) hfb;refine⟨C',hT,?_,hfb,rfl⟩;have hget:∀p,(SH.mk h.next ((d,none)::fh e h.os)).get p=if p=d then none else(h.get p).map (SO.on e):=by
   intro p;have h1:=mz e h.next h.os p;simp only[SH.get,gj]at h1⊢;by_cases e:p=d
   . simp[e]
   . simp only[Ae e];exact h1
 have hback:∀p o',(SH.mk h.next ((d,none)::fh e h.os)).get p=some o'->p≠d/\ ∃o1,h.get p=some o1/\o'=o1.on e:=by
   intro p o' hp;rw[hget]at hp;split at hp
   . cases hp
   . rename_i hne;obtain⟨o1,h1,h2⟩:=Aq.1 hp;exact⟨hne,o1,h1,h2.symm⟩
 refine⟨?_,?_,?_,?_,H.lt,H.wf⟩
 . intro p o' hp;obtain⟨hne,o1,h1,rfl⟩:=hback p o' hp;obtain⟨J,hJ,hs⟩:=H.obj p o1 h1;exact⟨J,hJ,hs.turns hT⟩
 . intro p q o1 o2 J J' hp hq hJ hJ' hc hc' e;obtain⟨_,o3,h3,_⟩:=hback p o1 hp;obtain⟨_,o4,h4,_⟩:=hback q o2 hq;exact H.inj p q o3 o4 J J' h3 h4 hJ hJ' hc hc' e
 . intro i b hi;rcases hback' i b hi with h1|⟨_,_,h1⟩
   . exact H.fz i b h1
   . exact h1
 . intro p o' J hp hJ hc;obtain⟨hne,o3,h3,_⟩:=hback p o' hp
   cases hz:C'.Fz J.β with
   |none=>rfl
   | some b=>
     rcases hback' _ b hz with h1|⟨hb,h1,_⟩
     . have:=H.dj p o3 J h3 hJ hc;rw[h1]at this;cases this
     . exact absurd (H.inj p d o3 o0 J I0 h3 hd hJ hI0 hc hb h1) hne
theorem Fa (H:HS tab C h a) {d:Nat} {X:Type} {L:List X} {enc:X->List SV} {t:TypeId} {I0:BI} (hd:h.get d=some (.arr X L enc t)) (hI0:C.ρ d=some I0) (C':Cx)
   (hfz:∀i o,C.Fz i=some o->C'.Fz i=some o) (hρ:∀p I,C.ρ p=some I->C'.ρ p=some I) (hb:I0.cap.isSome->C'.Fz I0.β=a.get I0.β):bU C (.dy d X L enc) C':=by
 refine⟨hfz,fun p I _ h=>hρ p I h,fun I hI=>?_⟩;rw[hI0]at hI;cases hI;obtain⟨g1,g2,g3,g4,g5⟩:=H.at_ hd hI0;constructor
 . intro v hv
   cases hv with
   |pure h=>cases h
   |cR hI hc=>
    rw[hI0]at hI;cases hI;rw[hc]at g5;exact .bt g5 (.inl rfl)
   |own hI hc=>
    rw[hI0]at hI;cases hI;rw[hc]at g5;obtain⟨ca,ext,bk,k1,k2,k3,k4,k5⟩:=g5;rw[g3];refine .aD I0.β 0 _ ca t I0.sz ext bk (fun i j=>(ca[0+i*I0.sz+j]?).getD (.aO [])) (.of (by rw[hb (by simp[hc]),k1])) g2 (by omega) g4 ?_ ?_ ?_
    . rcases k4 with⟨rfl,rfl⟩|⟨rfl,h0⟩
      . exact⟨rfl,by simp⟩
      . simp[kC,h0]
    . intro i x j v hx hv;obtain⟨u,k6,_⟩:=k5 i x j v hx hv;rw[A4,k6];rfl
    . intro i x j v hx hv;obtain⟨u,k6,k7⟩:=k5 i x j v hx hv;rw[A4,k6];exact k7.mono hfz
 . intro i off v x hx hv
   cases hv with
   |pure h=>cases h
   | bo hI hc=>
    rw[hI0]at hI;cases hI;obtain⟨c,hc'⟩:=Bz.1 hc;rw[hc']at g5;obtain⟨ca,ext,bk,k1,k2,k3,k4,k5⟩:=g5;refine .bB I0.β (i*I0.sz) ca t I0.sz ext bk (fun j=>(ca[i*I0.sz+j]?).getD (.aO [])) (by rw[hb hc,k1]) ?_ ?_ ?_
    . have hlt:=(Ac.1 hx).1;rw[k3,g4 i x hx]
      calc i*I0.sz+I0.sz=(i+1)*I0.sz:=by rw[A7,Dd]
        _<=L.length*I0.sz:=A6 _ hlt
    . intro j v hv;obtain⟨u,k6,_⟩:=k5 i x j v hx hv;rw[k6];rfl
    . intro j v hv;obtain⟨u,k6,k7⟩:=k5 i x j v hx hv;rw[k6];exact k7.mono hfz
theorem C4 {d:Nat} (C':Cx) (hfz:∀i o,C.Fz i=some o->C'.Fz i=some o) (hρ:∀p I,C.ρ p=some I->C'.ρ p=some I):bU C (.kill d) C':=⟨hfz,fun p I _ h=>hρ p I h⟩
end
def bS (C:Cx) (h:SH) (a:AH) (new:List Ev) (C':Cx) (h':SH) (a':AH):Prop:=∀p o I,h.get p=some o->C.ρ p=some I->I.cap.isSome->p∉gm new->
 a'.get I.β=a.get I.β/\((∃o',h'.get p=some o'/\C'.ρ p=some I)\/ ∃b,C'.Fz I.β=some b)
theorem bS.same (C:Cx) (h:SH) (a:AH) (new:List Ev):bS C h a new C h a:=fun _ o _ hp hI _ _=>⟨rfl, .inl ⟨o,hp,hI⟩⟩
theorem bS.new {tab:aM} {C C':Cx} {h h':SH} {a:AH} (H:HS tab C h a) (o:AO) (new:List Ev) (hle:C.le C') (hh:∀p o,h.get p=some o->∃o',h'.get p=some o'):bS C h a new C' h' (a.new o):=by
 intro p o' I hp hI hc _;obtain⟨b,hb⟩:=(H.at_ hp hI).live hc;have:=H.wf _ _ hb;obtain⟨o2,h2⟩:=hh p o' hp;exact⟨by rw[AH.aF,Ae (by omega)], .inl ⟨o2,h2,hle.1 _ _ hI⟩⟩
theorem nH {tab:aM} {C:Cx} {h:SH} {a:AH} (H:HS tab C h a) (o:SO):∀p o',h.get p=some o'->∃o2,(h.new o).get p=some o2:=by
 intro p o' hp;obtain⟨I,hI,_⟩:=H.obj p o' hp;have:=H.lt p I hI;exact⟨o',by rw[SH.aF,Ae (by omega)];exact hp⟩
structure kg (tab:aM) (C:Cx) (s:St) (ta:T AV) (a:AH) (sv:SV) (s':St) (v:AV) (a':AH):Prop where
 ex:∃C' new,s'.log=s.log++new/\Tr C new C'/\au C' sv v/\HS tab C' s'.h a'/\FS C' s'.ts ta/\bS C s.h a new C' s'.h a'
 grow:Grow a a'
theorem kg.same {tab:aM} {C:Cx} {s:St} {ta:T AV} {a:AH} {sv:SV} {v:AV} (hF:FS C s.ts ta) (H:HS tab C s.h a) (hv:au C sv v):kg tab C s ta a sv s v a:=
 ⟨⟨C,[],by simp,Tr.refl C,hv,H,hF,bS.same _ _ _ _⟩,Grow.refl a⟩
def cj (C:Cx) (h:SH) (a:AH) (C1:Cx) (h1:SH):Prop:=∀p o I,h.get p=some o->C.ρ p=some I->I.cap.isSome->(∃o',h1.get p=some o'/\C1.ρ p=some I)\/ ∃b,a.get I.β=some b/\C1.Fz I.β=some b
theorem cj.refl (C:Cx) (h:SH) (a:AH):cj C h a C h:=fun p o I hp hI _=> .inl ⟨o,hp,hI⟩
theorem cj.trans {C C1 C2:Cx} {h h1 h2:SH} {a:AH} (k:cj C h a C1 h1) (k':cj C1 h1 a C2 h2) (hf:∀i o,C1.Fz i=some o->C2.Fz i=some o):cj C h a C2 h2:=by
 intro p o I hp hI hc;rcases k p o I hp hI hc with⟨o',h1,h2⟩|⟨b,h1,h2⟩
 . exact k' p o' I h1 h2 hc
 . exact .inr ⟨b,h1,hf _ _ h2⟩
theorem cj.bI {C C1:Cx} {h h1:SH} {a:AH} (k:cj C h a C1 h1) (new:List Ev):bS C h a new C1 h1 a:=
 fun p o I hp hI hc _=>⟨rfl,(k p o I hp hI hc).imp id (fun⟨b,_,h⟩=>⟨b,h⟩)⟩
theorem gZ {tab:aM} {C:Cx} {s:St} {ta:T AV} {a:AH} (hF:FS C s.ts ta) (H:HS tab C s.h a) {d:Nat} {X:Type} {L:List X} {enc:X->List SV} {t:TypeId} (hd:s.h.get d=some (.arr X L enc t)):
   ∃C',((s.ev (.dy d X L enc)).del d).log=s.log++[.dy d X L enc]/\Tr C [.dy d X L enc] C'/\HS tab C' ((s.ev (.dy d X L enc)).del d).h a/\FS C' ((s.ev (.dy d X L enc)).del d).ts ta/\
    (∀v,au C (.own d) v->aC C'.Fz (.aD X L enc) v)/\cj C s.h a C' ((s.ev (.dy d X L enc)).del d).h:=by
 obtain⟨ts,⟨n,os⟩,log⟩:=s;obtain⟨I,hI,ho⟩:=H.obj d _ hd;obtain⟨C',hT,H',hfb,hρ⟩:=H.freeze hd hI (Fa H hd hI);refine⟨C',rfl,hT.tr,H',hF.turns hT,(hT.2.2 I hI).1,?_⟩;intro p o J hp hJ hc;by_cases e:p=d
 . subst e;rw[hI]at hJ;cases hJ;obtain⟨b,hb⟩:=(H.at_ hp hI).live hc;exact .inr ⟨b,hb,by rw[hfb hc,hb]⟩
 . refine .inl ⟨o.on (.dy d X L enc),?_,by rw[hρ];exact hJ⟩;simp only[St.ev,St.del,SH.aI,Ae e];rw[mz,hp];rfl
end
section
universe u v
variable [Inhabited aE]
theorem rb {α β:Type} {x:R α} {a:α} (h:x= .ok a) (f:α->R β):(x>>=f)=f a:=by rw[h];rfl
theorem ro {α:Type} {s:String} {x:Option α} {a:α} (h:x=some a):R.of s x= .ok a:=by rw[h];rfl
theorem rc {s:String} {b:Bool} (h:b=true):R.check s b= .ok ():=by rw[h];rfl
theorem bW {α:Type u} {x:Option α} {k:α->Prop} (h:so x k):∃a,x=some a/\k a:=by
 cases x with
 |none=>exact h.elim
 |some a=>exact⟨a,rfl,h⟩
theorem bC {b:Bool} {p:Prop} (h:ck b p):b=true/\p:=by
 cases b with
 |false=>exact h.elim
 |true=>exact⟨rfl,h⟩
theorem qG {b:Bool} {p q:Prop} (h:br b p q):(b=true/\p)\/(b=false/\q):=by
 cases b with
 |false=>exact .inr ⟨rfl,h⟩
 |true=>exact .inl ⟨rfl,h⟩
theorem te {α:Type u} {β:Type v} {f:α->Option β}:∀{l:List α} {m:List β},fe f l=some m->l.length=m.length/\ ∀(i:Nat) a b,l[i]? =some a->m[i]? =some b->f a=some b:=by
 intro l;induction l with
 |nil=>intro m h;simp only[fe,Az]at h;subst h;exact⟨rfl,fun i a b h=>by simp at h⟩
 |cons x l ih=>
  intro m h;simp only[fe]at h;split at h
  . rename_i y m' hy hm
    cases h;obtain⟨h1,h2⟩:=ih hm;refine⟨by simp[h1],fun i a b ha hb=>?_⟩
    cases i with
    |zero=>simp at ha hb;subst ha;subst hb;exact hy
    |succ i=>exact h2 i a b (by simpa using ha) (by simpa using hb)
  . cases h
section
variable {tab:aM} {C:Cx}
theorem rN {v:Value} {s:SV} (h:nT v=some s):au C s (jL v):=by
 unfold nT at h;split at h<;>cases h<;>simp only[jL]<;>exact .pure (by constructor)
theorem CP {v:Value} {s:SV} (h:sK v=some s):au C s (ofConst v):=by
 unfold sK at h;split at h
 . rename_i cs;obtain⟨l,hl,rfl⟩:=Aq.1 h;obtain⟨h1,h2⟩:=te hl;refine .agg (by simp[<-h1]) (fun i c v hc hv=>?_);rw[Au]at hv;obtain⟨w,hw,rfl⟩:=Aq.1 hv;exact rN (h2 i w c hw hc)
 . rename_i cs;obtain⟨l,hl,rfl⟩:=Aq.1 h;obtain⟨h1,h2⟩:=te hl;refine .aO (by simp[<-h1]) (fun i c v hc hv=>?_);rw[Au]at hv;obtain⟨w,hw,rfl⟩:=Aq.1 hv;exact rN (h2 i w c hw hc)
 . rename_i h1 h2;have:ofConst v=jL v:=by
    cases v with
    |agg cs=>exact absurd rfl (h1 cs)
    |tuple cs=>exact absurd rfl (h2 cs)
    |_=>rfl
   rw[this];exact rN h
theorem xM {v:AV} {s:SV} (h:gh v=some s):au C s v:=by
 unfold gh at h;split at h<;>cases h<;>exact .pure (by constructor)
theorem gA {ts:Fr} {ta:T AV} (hF:FS C ts ta) {x:Operand} {s:SV} (h:dE ts x=some s):∃v,ev ta x= .ok v/\au C s v:=by
 cases x with
 |tmp t=>exact⟨_,rfl,hF t s h⟩
 |const v=>exact⟨_,rfl,CP h⟩
 |func f=>
  simp only[dE,Az]at h;subst h;exact⟨_,rfl, .fn rfl rfl (fun i x u hx=>by simp at hx) (fun i x u hx=>by simp at hx)⟩
 |global g=>cases h
theorem lv {ts:Fr} {ta:T AV} (hF:FS C ts ta):∀{l:List Operand} {m:List SV},gu ts l=some m->∃vs,fm ta l= .ok vs/\aH C m vs:=by
 intro l;induction l with
 |nil=>intro m h;simp only[gu,fe,Az]at h;subst h;exact⟨[],rfl,aH.nil⟩
 |cons x l ih=>
  intro m h;simp only[gu,fe]at h;split at h
  . rename_i y m' hy hm
    cases h;obtain⟨v,hv,h1⟩:=gA hF hy;obtain⟨vs,hvs,h2⟩:=ih hm;refine⟨v::vs,?_,aH.cons h1 h2⟩;simp only[fm];rw[rb hv,rb hvs]
  . cases h
theorem aH.get {cs:List SV} {ca:List AV} (h:aH C cs ca) {i:Nat} {s:SV} (hs:cs[i]? =some s):∃v,ca[i]? =some v/\au C s v:=by
 have hlt:i<ca.length:=by rw[<-h.1];exact(Ac.1 hs).1
 exact⟨ca[i],Af hlt,h.2 i s _ hs (Af hlt)⟩
theorem mr {cs:List SV} {ca:List AV} (hc:aH C cs ca) {t off:Nat} {s:SV} (h:iF tab t cs off=some s):∃v,Am.part tab t ca off= .ok v/\au C s v:=by
 unfold iF at h;unfold Am.part;split at h
 . rename_i hg;split at h
   . rename_i n hn
     cases hb:Nat.ble (off+n) cs.length
     . rw[hb]at h;cases h
     . rw[hb]at h;cases h;refine⟨.agg ((ca.drop off).take n),?_, .agg ((hc.drop off).take n).1 ((hc.drop off).take n).2⟩;rw[rb (show Am.isAgg tab t= .ok true from ro hg)];simp only[AK];rw[rb (show siz tab t= .ok n from ro hn)]
   . cases h
 . rename_i hg;obtain⟨v,h1,h2⟩:=hc.get h;refine⟨v,?_,h2⟩;rw[rb (show Am.isAgg tab t= .ok false from ro hg)];simp only[Ah,Ax];exact ro h1
 . cases h
theorem vM {cs vs:List SV} {ca va:List AV} (hc:aH C cs ca) (hv:aH C vs va) (off:Nat):aH C (nJ cs off vs) (iY ca off va):=by
 unfold nJ iY;rw[hv.1];exact(hc.take off).append (hv.append (hc.drop _))
theorem pz {s:SV} {v:AV} (h:au C s v) (hk:s.known=true):∃l,v.cells= .ok l/\aH C s.cells l:=by
 have one:∀{s:SV} {v:AV},au C s v->aH C [s] [v]:=fun h=>aH.cons h aH.nil
 cases h with
 | pure h=>
  cases h with
  |any v=>cases hk
  |agg h1 h2=>exact⟨_,rfl,h1,fun i s v hs hv=> .pure (h2 i s v hs hv)⟩
  |bool b=>exact⟨_,rfl,one (.pure (.bool b))⟩
  |int k n=>exact⟨_,rfl,one (.pure (.int k n))⟩
  |str s=>exact⟨_,rfl,one (.pure (.str s))⟩
  |aA=>exact⟨_,rfl,one (.pure .aA)⟩
  |wp a=>exact⟨_,rfl,one (.pure (.wp a))⟩
  |nils=>exact⟨_,rfl,one (.pure .nils)⟩
  |aQ=>exact⟨_,rfl,one (.pure .aQ)⟩
  |ah=>exact⟨_,rfl,one (.pure .ah)⟩
  |bt h0 hv=>
   rcases hv with rfl|⟨b,off,l,n,k,rfl⟩|⟨a,c,rfl⟩
   . exact⟨_,rfl,one (.pure (.bt h0 (.inl rfl)))⟩
   . exact⟨_,rfl,one (.pure (.bt h0 (.inr (.inl ⟨_,_,_,_,_,rfl⟩))))⟩
   . exact⟨_,rfl,one (.pure (.bt h0 (.inr (.inr ⟨_,_,rfl⟩))))⟩
  |aD b off cap cs e sz ext bk u hb hs hl hn hc h1 h2=>exact⟨_,rfl,one (.pure (.aD b off cap cs e sz ext bk u hb hs hl hn hc h1 h2))⟩
  |bB b base ca e sz ext bk u hb hl h1 h2=>exact⟨_,rfl,one (.pure (.bB b base ca e sz ext bk u hb hl h1 h2))⟩
  |fn h1 h2 h3 h4=>exact⟨_,rfl,one (.pure (.fn h1 h2 h3 h4))⟩
  |aO h1 h2=>exact⟨_,rfl,one (.pure (.aO h1 h2))⟩
 |ptr h=>exact⟨_,rfl,one (.ptr h)⟩
 |bo h hc=>exact⟨_,rfl,one (.bo h hc)⟩
 |cR h hc=>exact⟨_,rfl,one (.cR h hc)⟩
 |own h hc=>exact⟨_,rfl,one (.own h hc)⟩
 |sl h=>exact⟨_,rfl,one (.sl h)⟩
 |fn h1 h2 h3 h4=>exact⟨_,rfl,one (.fn h1 h2 h3 h4)⟩
 |agg h1 h2=>exact⟨_,rfl,h1,h2⟩
 |aO h1 h2=>exact⟨_,rfl,one (.aO h1 h2)⟩
theorem wB {s:SV} {v:AV} (h:au C s v) (hk:isScalar s=true):ia v=true:=by
 cases h with
 |pure h=>
  cases h with
  |any v=>cases hk
  |agg h1 h2=>cases hk
  |aO h1 h2=>cases hk
  |bt h0 hv=>rcases hv with rfl|⟨b,off,l,n,k,rfl⟩|⟨a,c,rfl⟩<;>rfl
  |_=>rfl
 |agg h1 h2=>cases hk
 |aO h1 h2=>cases hk
 |_=>rfl
theorem vG {cs:List SV} {ca:List AV} (hc:aH C cs ca) (h:cs.all isScalar=true):ca.all ia=true:=by
 rw[Av]at h⊢;intro v hv;obtain⟨i,hi⟩:=A8.1 hv;have hlt:i<cs.length:=by rw[hc.1];exact(Ac.1 hi).1
 exact wB (hc.2 i _ v (Af hlt) hi) (h _ (AX hlt))
theorem lr {t:TypeId} {z:List SV} (h:mQ tab t=some z):∃zv zc,zero tab t= .ok zv/\zv.cells= .ok zc/\aH C z zc:=by
 unfold mQ at h;obtain⟨zv,h1,h2⟩:=DB.1 h;refine⟨zv,?_⟩
 cases zv with
 |agg cs=>
  simp only[qT]at h2;obtain⟨g1,g2⟩:=te h2;exact⟨cs,ro h1,rfl,g1.symm,fun i s v hs hv=>xM (g2 i v s hv hs)⟩
 |raw v=>simp[qT,gh]at h2
 | _=>
  simp only[qT,gh,AS,Bv,Az]at h2
  first
   |(cases h2;done)
   |(subst h2;exact⟨_,ro h1,rfl,aH.cons (.pure (by constructor)) aH.nil⟩)
end
end
section
universe u v
variable [Inhabited aE]
section
variable {tab:aM} {C:Cx} {h:SH} {a:AH}
theorem eJ {b:Nat} {ca:List AV} {e:TypeId} {sz:Nat} {ext:Bool} {bk:BK} (hb:a.get b=some (.cells ca e sz ext bk)):fv a b= .ok (ca,e,sz,ext,bk):=by
 unfold fv;rw[hb]
theorem tf {b base:Nat} {ca:List AV} {e:TypeId} {sz:Nat} {ext:Bool} {bk:BK} (hb:a.get b=some (.cells ca e sz ext bk)) {cs:List SV} (hl:base+cs.length<=ca.length)
   (hc:∀(j:Nat) s,cs[j]? =some s->∃u,ca[base+j]? =some u/\au C s u) {t off:Nat} {sv:SV} (hp:iF tab t cs off=some sv):∃u,Am.loadVar tab a t b (base+off)= .ok u/\au C sv u:=by
 unfold iF at hp;unfold Am.loadVar;split at hp
 . rename_i hg;split at hp
   . rename_i n hn
     cases hle:Nat.ble (off+n) cs.length
     . rw[hle]at hp;cases hp
     . rw[hle]at hp;cases hp;have hle:=Ag hle;rw[rb (show Am.isAgg tab t= .ok true from ro hg)];simp only[AK];rw[rb (show siz tab t= .ok n from ro hn)];have hr:readN a b (base+off) n= .ok ((ca.drop (base+off)).take n):=by
         unfold readN;rw[rb (eJ hb)];simp only;rw[rb (rc (by simp only[Be];omega))]
       rw[rb hr];refine⟨_,rfl, .agg (by simp;omega) (fun i s u hs hu=>?_)⟩;rw[Bn]at hs hu;split at hs
       . rename_i hi;rw[Ai hi]at hu;rw[Bx]at hs hu;obtain⟨w,hw,hsim⟩:=hc _ s hs;rw[<-BP]at hw;rw[hw]at hu
         cases hu;exact hsim
       . cases hs
   . cases hp
 . rename_i hg;obtain⟨u,hu,hsim⟩:=hc off sv hp;rw[rb (show Am.isAgg tab t= .ok false from ro hg)];simp only[Ah,Ax];rw[rb (eJ hb)];exact⟨u,ro hu,hsim⟩
 . cases hp
theorem sI (H:HS tab C h a) {p:SV} {v:AV} (hv:au C p v) {t:TypeId} {K:SV->Prop} (hl:qQ tab h t p K):∃b off u sv,v= .ptr b off/\Am.loadVar tab a t b off= .ok u/\au C sv u/\K sv:=by
 unfold qQ at hl;split at hl
 . rename_i b off;split at hl
   . rename_i cs e hb;obtain⟨sv,hp,hk⟩:=bW hl
     cases hv with
     |pure h=>cases h
     |ptr hI=>
      obtain⟨_,ca,sz,h2,h3,_⟩:=H.at_ hb hI;obtain⟨u,h4,h5⟩:=tf h2 (base:=0) (cs:=cs) (by rw[h3.1];omega) (fun j s hs=>by rw[A4];exact h3.get hs) hp;rw[A4]at h4;exact⟨_,_,u,sv,rfl,h4,h5,hk⟩
   . exact hl.elim
 . rename_i b i off;split at hl
   . rename_i X L enc e hb;obtain⟨x,hx,hl⟩:=bW hl;obtain⟨sv,hp,hk⟩:=bW hl
     cases hv with
     |pure h=>cases h
     | bo hI hc=>
      rename_i I;obtain⟨g1,g2,g3,g4,g5⟩:=H.at_ hb hI;obtain⟨c,hc'⟩:=Bz.1 hc;rw[hc']at g5;obtain⟨ca,ext,bk,k1,k2,k3,k4,k5⟩:=g5;have hlt:=(Ac.1 hx).1;obtain⟨u,h4,h5⟩:=tf k1 (base:=i*I.sz) (cs:=enc x) (by
       rw[k3,g4 i x hx,<-Nat.succ_mul];exact A6 _ hlt) (fun j s hs=>by
       obtain⟨u,q1,q2⟩:=k5 i x j s hx hs;exact⟨u,q1, .pure q2⟩) hp
      exact⟨_,_,u,sv,rfl,h4,h5,hk⟩
   . exact hl.elim
 . rename_i cs off;obtain⟨sv,hp,hk⟩:=bW hl
   cases hv with
   | pure h=>
     cases h with
     |bB b base ca e sz ext bk u hb hl h1 h2=>
      obtain⟨w,h4,h5⟩:=tf (H.fz _ _ hb) (base:=base) (cs:=cs) hl (fun j s hs=>⟨_,h1 j s hs, .pure (h2 j s hs)⟩) hp;exact⟨_,_,w,sv,rfl,h4,h5,hk⟩
 . exact hl.elim
theorem gT {s:SV} {v:AV} (h:au C s v) (hp:jc s=true):aC C.Fz s v:=by
 cases h with
 |pure h=>exact h
 |_=>cases hp
theorem CE {t:TypeId} {b off n:Nat} {v:AV} {l ca:List AV} {e:TypeId} {sz:Nat} {ext:Bool} {bk:BK} (hn:tab.siz.get t=some n) (hv:v.cells= .ok l) (hl:l.length=n) (hn0:n≠0)
  (hb:a.get b=some (.cells ca e sz ext bk)) (hbk:(bk≠ .ro/\bk≠ .cold)) (hr:off+n<=ca.length) (h1:l.all ia=true):Am.storeVar tab a t b off v= .ok (a.set b (.cells (iY ca off l) e sz ext bk)):=by
 unfold Am.storeVar;rw[rb (show siz tab t= .ok n from ro hn),rb hv,rb (rc (by simp[hl]))];unfold writeN
 cases l with
 |nil=>exact absurd hl.symm hn0
 |cons x l=>
  simp only;rw[rb (eJ hb)];simp only;rw[rb (rc (by simpa using hbk)),rb (rc (by rw[hl];simp only[Be];exact hr)),rb (rc h1)]
theorem FT (H:HS tab C h a) {p s:SV} {v w:AV} (hv:au C p v) (hw:au C s w) {t:TypeId} {K:SH->Prop} (hl:tt tab h t p s K):
   ∃b off a' h',v= .ptr b off/\Am.storeVar tab a t b off w= .ok a'/\HS tab C h' a'/\K h'/\Grow a a'/\bS C h a (qR p) C h' a':=by
 unfold tt at hl;split at hl
 . rename_i n hn;obtain⟨hck,hl⟩:=bC hl;simp only[Ab,AW]at hck;obtain⟨⟨⟨hn0,hkn⟩,hlen⟩,hsc⟩:=hck;have hn0:n≠0:=fun e=>by subst e;simp at hn0
   have hlen:=Aa hlen;obtain⟨l,hl1,hl2⟩:=pz hw hkn;have hone:=vG hl2 hsc;have hll:l.length=n:=by rw[<-hl2.1,hlen]
   split at hl
   . rename_i b off _;split at hl
     . rename_i cs e hb;obtain⟨hr,hk⟩:=bC hl;have hr:=Ag hr
       cases hv with
       |pure h=>cases h
       |ptr hI=>
        rename_i I;obtain⟨hc,ca,sz,h2,h3,h3s⟩:=H.at_ hb hI;refine⟨_,_,_,_,rfl,CE hn hl1 hll hn0 h2 (by simp) (by rw[<-h3.1];exact hr) hone,H.mod hb hI hc (o:= .cells (nJ cs off s.cells) e) ⟨hc,_,sz,by rw[AH.aI,Ai rfl],vM h3 hl2 off,h3s⟩,hk,⟨by simp,fun i o hi=>?_⟩,?_⟩
        . rw[AH.aI]at hi;split at hi
          . rename_i e';exact .inl ⟨_,e'▸h2⟩
          . exact .inl ⟨_,hi⟩
        . intro q o J hq hJ hcJ hn;have hqb:q≠b:=fun e'=>hn (by simp[qR,gm,e'])
          refine⟨?_, .inl ⟨o,by rw[SH.aI,Ae hqb];exact hq,hJ⟩⟩;rw[AH.aI,Ae];intro e';exact hqb (H.inj q _ o _ J I hq hb hJ hI hcJ hc e')
     . exact hl.elim
   . exact hl.elim
 . exact hl.elim
end
end
section
universe u v
variable [Inhabited aE]
section
variable {tab:aM} {C:Cx} {h:SH} {a:AH}
theorem HN :∀(d:Nat) (t:TypeId) (x y:SV) (u w:AV) (p:Bool),ed tab d t x y=some p->au C x u->au C y w->eqT tab d t u w= .ok p:=by
 intro d;induction d with
 |zero=>intro t x y u w p h;simp only[ed]at h;cases h
 | succ d ih=>
  have hgo :∀(fs:List Field) (xs ys:List SV) (us ws:List AV) (p:Bool),gJ tab (ed tab d) fs xs ys=some p->aH C xs us->aH C ys ws->eqFields tab (eqT tab d) us ws fs= .ok p:=by
   intro fs;induction fs with
   |nil=>intro xs ys us ws p h _ _;simp only[gJ,Az]at h;subst h;rfl
   | cons f fs ihf=>
     intro xs ys us ws p h hx hy;simp only[gJ]at h;simp only[eqFields];by_cases hn:f.name= "_"
     . simp only[hn,decide_true,AY]at h;simp only[hn,BS,BN,Ax];exact ihf xs ys us ws p h hx hy
     . simp only[hn,Em,AB]at h;simp only[BS,hn,AZ,AK];split at h
       . rename_i s1 s2 h1 h2;split at h
         . rename_i p1 q1 h3 h4
           cases h;obtain⟨v1,g1,k1⟩:=mr hx h1;obtain⟨v2,g2,k2⟩:=mr hy h2;rw[rb g1,rb g2,rb (ih _ _ _ _ _ _ h3 k1 k2)]
           cases p1 with
           |true=>simp only[AK,BF];exact ihf xs ys us ws q1 h4 hx hy
           |false=>simp only[Ah,Ax,Dv]
         . cases h
       . cases h
  intro t x y u w p h hx hy;unfold ed at h;split at h
  all_goals first
   |(cases h;done)
   |skip
  all_goals (rename_i hg)
  case h_1=> 
   cases h;cases hx with
   | pure hx=>cases hx with
     | bool=>cases hy with
       | pure hy=>cases hy with
         |bool=>simp only[eqT];rw[rb (show und tab t=_ from ro hg)]
  case h_2 =>
   rename_i k1 a1 k2 a2
   cases hk:decide (k1=k2)
   . rw[hk]at h;cases h
   . rw[hk]at h;cases h;have hk:=Bi hk
     cases hx with
     | pure hx=>cases hx with
       | int=>cases hy with
         | pure hy=>cases hy with
           |int=>simp only[eqT];rw[rb (show und tab t=_ from ro hg)];simp only[hk,AK]
  case h_3=>
   cases h;cases hx with
   | pure hx=>cases hx with
     | str=>cases hy with
       | pure hy=>cases hy with
         |str=>simp only[eqT];rw[rb (show und tab t=_ from ro hg)]
  case h_4=>
   cases h;cases hx with
   | pure hx=>cases hx with
     | aA=>cases hy with
       | pure hy=>cases hy with
         |aA=>simp only[eqT];rw[rb (show und tab t=_ from ro hg)]
  case h_5=>
   cases h;cases hx with
   | pure hx=>cases hx with
     | aA=>cases hy with
       |pure hy=>cases hy
       |ptr hI=>simp only[eqT];rw[rb (show und tab t=_ from ro hg)]
  case h_6=>
   cases h;cases hx with
   |pure hx=>cases hx
   | ptr hI=>cases hy with
     | pure hy=>cases hy with
       |aA=>simp only[eqT];rw[rb (show und tab t=_ from ro hg)]
  case h_7=>
   cases h;cases hx with
   | pure hx=>cases hx with
     | wp=>cases hy with
       | pure hy=>cases hy with
         |aA=>simp only[eqT];rw[rb (show und tab t=_ from ro hg)]
  case h_8=>
   cases h;cases hx with
   | pure hx=>cases hx with
     | aA=>cases hy with
       | pure hy=>cases hy with
         |wp=>simp only[eqT];rw[rb (show und tab t=_ from ro hg)]
  case h_9=>
   cases h;cases hx with
   | pure hx=>cases hx with
     | nils=>cases hy with
       | pure hy=>cases hy with
         |nils=>simp only[eqT];rw[rb (show und tab t=_ from ro hg)]
  case h_10=>
   cases h;cases hx with
   | pure hx=>cases hx with
     | aQ=>cases hy with
       | pure hy=>cases hy with
         |aQ=>simp only[eqT];rw[rb (show und tab t=_ from ro hg)]
  case h_11=>cases hy with
   |pure hy=>cases hy
  case h_12=>cases hx with
   |pure hx=>cases hx
  case h_13=>
   cases h;cases hx with
   | pure hx=>cases hx with
     | ah=>cases hy with
       | pure hy=>cases hy with
         |ah=>simp only[eqT];rw[rb (show und tab t=_ from ro hg)]
  case h_14=>
   cases h;cases hx with
   | pure hx=>cases hx with
     | ah=>cases hy with
       | pure hy=>cases hy with
         |fn=>simp only[eqT];rw[rb (show und tab t=_ from ro hg)]
       |fn=>simp only[eqT];rw[rb (show und tab t=_ from ro hg)]
  case h_15=>
   cases h;cases hy with
   | pure hy=>cases hy with
     | ah=>cases hx with
       | pure hx=>cases hx with
         |fn=>simp only[eqT];rw[rb (show und tab t=_ from ro hg)]
       |fn=>simp only[eqT];rw[rb (show und tab t=_ from ro hg)]
  case h_16=>
   split at h
   . rename_i hh;have hA:∀{cs:List SV} {v:AV},au C (.agg cs) v->∃us,v= .agg us/\aH C cs us:=by
       intro cs v hv
       cases hv with
       | pure hv=>cases hv with
         |agg h1 h2=>exact⟨_,rfl,h1,fun i s v hs hv=> .pure (h2 i s v hs hv)⟩
       |agg h1 h2=>exact⟨_,rfl,h1,h2⟩
     obtain⟨us,e1,h1⟩:=hA hx;obtain⟨ws,e2,h2⟩:=hA hy;subst e1;subst e2;simp only[eqT];rw[rb (show und tab t=_ from ro hg)];simp only[hh];exact hgo _ _ _ _ _ _ h h1 h2
   . cases h
theorem iE {cs:List SV} {v:AV} (hv:au C (.agg cs) v):∃us,v= .agg us/\aH C cs us:=by
 cases hv with
 |pure hv=>cases hv with
  |agg h1 h2=>exact⟨_,rfl,h1,fun i s v hs hv=> .pure (h2 i s v hs hv)⟩
 |agg h1 h2=>exact⟨_,rfl,h1,h2⟩
theorem ql {cs:List SV} {v:AV} (hv:au C (.aO cs) v):∃us,v= .aO us/\aH C cs us:=by
 cases hv with
 |pure hv=>cases hv with
  |aO h1 h2=>exact⟨_,rfl,h1,fun i s v hs hv=> .pure (h2 i s v hs hv)⟩
 |aO h1 h2=>exact⟨_,rfl,h1,h2⟩
theorem fy {k:IntKind} {n:Int} {v:AV} (hv:au C (.int k n) v):v= .int k n:=by
 cases hv with
 |pure hv=>cases hv;rfl
theorem eR {s:List UInt8} {v:AV} (hv:au C (.str s) v):v= .str s:=by
 cases hv with
 |pure hv=>cases hv;rfl
theorem iZ {b:Bool} {v:AV} (hv:au C (.bool b) v):v= .bool b:=by
 cases hv with
 |pure hv=>cases hv;rfl
theorem jJ {v:AV} (hv:au C .nils v):v= .nils:=by
 cases hv with
 |pure hv=>cases hv;rfl
theorem de (x y:Int):cu x y=decide (x<y):=by
 rw[A3,Ao];unfold cu
 cases x with
 |ofNat a=>cases y with
  |ofNat b=>simp
  |negSucc b=>simp;omega
 |negSucc a=>cases y with
  |ofNat b=>simp;omega
  |negSucc b=>simp;omega
theorem gl (x y:Int):cl x y=decide (x<=y):=by
 rw[A3,Ao];unfold cl
 cases x with
 |ofNat a=>cases y with
  |ofNat b=>simp
  |negSucc b=>simp;omega
 |negSucc a=>cases y with
  |ofNat b=>simp;omega
  |negSucc b=>simp;omega
theorem x7 {k:IntKind} {n:Int} (h:cg k n=true):k.wrap n=n:=by
 unfold cg at h;rw[gl,gl]at h;simp only[Ab,Ao]at h;obtain⟨h1,h2⟩:=h
 cases k<;>simp only[rp,rl,IntKind.wrap,IntKind.signed,IntKind.bits]at* <;>simp at* <;>omega
theorem qj {r:R AV} {s:SV} (h:oD r=some s):∃v,r= .ok v/\au C s v:=by
 cases r with
 |no w=>cases h
 |ok v=>exact⟨v,rfl,xM h⟩
theorem HL {t:TypeId} {x y:SV} {u w:AV} {p:Bool} (h:ed tab 8 t x y=some p) (hx:au C x u) (hy:au C y w) (hg:∀a b,x= .agg a->y= .agg b->tab.gK.get t=some false):eqOp tab a t u w= .ok p:=by
 have hh:=HN 8 t x y u w p h hx hy;have e:∀(u w:AV),(∀b i c j,u= .ptr b i->w= .ptr c j->False)->(∀a b,u= .agg a->w= .agg b->False)->(u= .dV->w= .dV->False)->eqOp tab a t u w=eqT tab 8 t u w:=by
  intro u w h1 h2 h3;unfold eqOp;split
  . exact(h1 _ _ _ _ rfl rfl).elim
  . exact(h2 _ _ rfl rfl).elim
  . exact(h3 rfl rfl).elim
  . rfl
 have h0:=h;unfold ed at h;split at h
 case h_17=>cases h
 case h_16=>
  obtain⟨us,rfl,_⟩:=iE hx;obtain⟨ws,rfl,_⟩:=iE hy;unfold eqOp;simp only[hg _ _ rfl rfl];exact hh
 all_goals
  rw[e u w ?_ ?_ ?_]
  . exact hh
  all_goals (intros;subst_vars)
  all_goals first
    | (cases hx with
     |pure hx=>cases hx
     |_=>(cases hy with
      |pure hy=>cases hy))
    |(cases hx with
     |pure hx=>cases hx)
    |(cases hy with
     |pure hy=>cases hy)
    |skip
end
end
section
universe u v
variable [Inhabited aE]
section
variable {tab:aM} {C:Cx} {h:SH} {a:AH}
def dU (C:Cx) (K:SV->Prop) (r:R AV):Prop:=∃s v,r= .ok v/\au C s v/\K s
theorem dU.pure {K:SV->Prop} {s:SV} {v:AV} (h:aC C.Fz s v) (hk:K s):dU C K (.ok v):=⟨s,v,rfl, .pure h,hk⟩
theorem F8 {op:BinOp} {k:IntKind} {x y:Int} {K:SV->Prop} (h:tu op k x y K):dU C K (intOp op k x y):=by
 have fit:∀n:Int,(bif k.signed then ck (cg k n) (K (.int k n))else K (.int k (k.wrap n)))->dU C K (.ok (.int k (k.wrap n))):=by
  intro n hn
  cases hs:k.signed
  . rw[hs]at hn;exact dU.pure (.int k _) hn
  . rw[hs]at hn;obtain⟨h1,h2⟩:=bC hn;rw[x7 h1];exact dU.pure (.int k _) h2
 unfold tu at h
 cases op
 case add=>exact fit _ h
 case sub=>exact fit _ h
 case mul=>exact fit _ h
 case quo=>
  obtain⟨h1,h2⟩:=bC h;have hy:¬y=0:=by simpa using h1
  simp only[intOp,Ae hy];exact fit _ h2
 case rem=>
  obtain⟨h1,h2⟩:=bC h;have hy:¬y=0:=by simpa using h1
  simp only[intOp,Ae hy];exact dU.pure (.int k _) h2
 case eql=>exact dU.pure (.bool _) h
 case neq=>exact dU.pure (.bool _) h
 case lss=>have h:K (.bool (cu x y)):=h;rw[de]at h;exact dU.pure (.bool _) h
 case leq=>have h:K (.bool (cl x y)):=h;rw[gl]at h;exact dU.pure (.bool _) h
 case gtr=>have h:K (.bool (cu y x)):=h;rw[de]at h;exact dU.pure (.bool _) h
 case geq=>have h:K (.bool (cl y x)):=h;rw[gl]at h;exact dU.pure (.bool _) h
 all_goals
  obtain⟨s,h1,h2⟩:=bW h;obtain⟨v,h3,h4⟩:=qj h1;exact⟨s,v,h3,h4,h2⟩
theorem wM {t:TypeId} {x y:SV} {p:Bool} {u w:AV} (h:ed tab 8 t x y=some p) (hx:au C x u) (hy:au C y w):
  (∃k m j n,x= .int k m/\y= .int j n)\/(∃s s',x= .str s/\y= .str s')\/
   (Am.binOp tab a .eql t u w=(do .ok (.bool (<-eqOp tab a t u w)):R AV)/\Am.binOp tab a .neq t u w=(do .ok (.bool (!(<-eqOp tab a t u w))):R AV)):=by
 have key:(∀k m j n,u= .int k m->w= .int j n->False)->(∀s s',u= .str s->w= .str s'->False)->
   (Am.binOp tab a .eql t u w=(do .ok (.bool (<-eqOp tab a t u w)):R AV)/\Am.binOp tab a .neq t u w=(do .ok (.bool (!(<-eqOp tab a t u w))):R AV)):=by
  intro h1 h2;constructor<;>(unfold Am.binOp;split<;>first|contradiction|(exact(h1 _ _ _ _ rfl rfl).elim)|(exact(h2 _ _ rfl rfl).elim)|rfl|(rename_i hh _;cases hh)|skip)
 unfold ed at h;split at h
 case h_2=>exact .inl ⟨_,_,_,_,rfl,rfl⟩
 case h_3=>exact .inr (.inl ⟨_,_,rfl,rfl⟩)
 case h_17=>cases h
 all_goals
  refine .inr (.inr (key ?_ ?_))
  all_goals (intros;subst_vars)
  all_goals first
   |(cases hx with
    |pure hx=>cases hx)
   |(cases hy with
    |pure hy=>cases hy)
   |(cases hx)
   |skip
theorem xT {op:BinOp} {t:TypeId} {x y:SV} {K:SV->Prop} {u w:AV} (h:lG tab op t x y K) (hx:au C x u) (hy:au C y w):dU C K (Am.binOp tab a op t u w):=by
 have eqK:∀{p:Bool},ed tab 8 t x y=some p->(∀a b,x= .agg a->y= .agg b->tab.gK.get t=some false)->eqOp tab a t u w= .ok p:=fun h1 h2=>HL h1 hx hy h2
 unfold lG at h;split at h
 ·
   rw[fy hx,fy hy];rename_i k a1 j b1;obtain⟨h1,h2⟩:=bC h;obtain⟨s,h3,h4⟩:=bW h2
   cases b1 with
   |negSucc m=>cases h1
   | ofNat m=>
     obtain⟨v,h5,h6⟩:=qj (C:=C) h3
     cases h5;refine⟨s,_,?_,h6,h4⟩;simp only[Am.binOp,shiftOp];rw[Ae (by simp)]
 ·
   rw[fy hx,fy hy];rename_i k a1 j b1;obtain⟨h1,h2⟩:=bC h;obtain⟨s,h3,h4⟩:=bW h2
   cases b1 with
   |negSucc m=>cases h1
   | ofNat m=>
     obtain⟨v,h5,h6⟩:=qj (C:=C) h3
     cases h5;refine⟨s,_,?_,h6,h4⟩;simp only[Am.binOp,shiftOp];rw[Ae (by simp)]
 ·
   rename_i k a1 j b1 hn1 hn2;rw[fy hx,fy hy];obtain⟨h1,h2⟩:=bC h;have hk:k=j:=Bi h1;subst hk;have:=F8 (C:=C) h2
   cases op<;>simp only[Am.binOp,AK]<;>first|exact this|exact(hn1 rfl).elim|exact(hn2 rfl).elim
 . obtain⟨h1,h2⟩:=bC h;rw[eR hx,eR hy];simp only[Am.binOp,strOp];rw[Ai (Ag h1)];exact dU.pure (.str _) h2
 . rw[eR hx,eR hy];exact dU.pure (.bool _) h
 . rw[eR hx,eR hy];exact dU.pure (.bool _) h
 . rw[eR hx,eR hy];exact dU.pure (.bool _) h
 . rw[eR hx,eR hy];exact dU.pure (.bool _) h
 . rw[eR hx,eR hy];exact dU.pure (.bool _) h
 . rw[eR hx,eR hy];exact dU.pure (.bool _) h
 . split at h
   . rename_i hg;obtain⟨p,h1,h2⟩:=bW h;have he:=eqK h1 (fun _ _ _ _=>hg);obtain⟨us,rfl,_⟩:=iE hx;obtain⟨ws,rfl,_⟩:=iE hy;simp only[Am.binOp];rw[rb he];exact dU.pure (.bool _) h2
   . exact h.elim
 . split at h
   . rename_i hg;obtain⟨p,h1,h2⟩:=bW h;have he:=eqK h1 (fun _ _ _ _=>hg);obtain⟨us,rfl,_⟩:=iE hx;obtain⟨ws,rfl,_⟩:=iE hy;simp only[Am.binOp];rw[rb he];exact dU.pure (.bool _) h2
   . exact h.elim
 . rename_i n1 n2 n3;obtain⟨p,h1,h2⟩:=bW h;have he:=eqK h1 (fun a b e1 e2=>(n3 a b e1 e2).elim);have hb:Am.binOp tab a .eql t u w=(do .ok (.bool (<-eqOp tab a t u w)):R AV):=by
     rcases wM h1 hx hy with⟨k,m,j,n,rfl,rfl⟩|⟨s1,s2,rfl,rfl⟩|hne
     . exact(n1 _ _ _ _ rfl rfl).elim
     . exact(n2 _ _ rfl rfl).elim
     . exact hne.1
   rw[hb,rb he];exact dU.pure (.bool _) h2
 . rename_i n1 n2 n3;obtain⟨p,h1,h2⟩:=bW h;have he:=eqK h1 (fun a b e1 e2=>(n3 a b e1 e2).elim);have hb:Am.binOp tab a .neq t u w=(do .ok (.bool (!(<-eqOp tab a t u w))):R AV):=by
     rcases wM h1 hx hy with⟨k,m,j,n,rfl,rfl⟩|⟨s1,s2,rfl,rfl⟩|hne
     . exact(n1 _ _ _ _ rfl rfl).elim
     . exact(n2 _ _ rfl rfl).elim
     . exact hne.2
   rw[hb,rb he];exact dU.pure (.bool _) h2
 . exact h.elim
end
end
section
universe u v
variable [Inhabited aE]
section
variable {tab:aM} {C:Cx} {h:SH} {a:AH}
theorem yA {op:UnOp} {x:SV} {K:SV->Prop} {u:AV} (h:tU op x K) (hx:au C x u):dU C K (Am.unOp op u):=by
 unfold tU at h;split at h
 . rename_i k n;rw[fy hx];simp only[Am.unOp]
   cases hs:k.signed
   . rw[hs]at h;exact dU.pure (.int k _) h
   . rw[hs]at h;obtain⟨h1,h2⟩:=bC h;rw[x7 h1];exact dU.pure (.int k _) h2
 . rw[fy hx];obtain⟨s,h1,h2⟩:=bW h;obtain⟨v,h3,h4⟩:=qj h1;exact⟨s,v,h3,h4,h2⟩
 . rw[iZ hx];exact dU.pure (.bool _) h
 . exact h.elim
theorem nR {x:SV} {K:Nat->Prop} {u:AV} (h:iw x K) (hx:au C x u):∃n,asNat u= .ok n/\K n:=by
 unfold iw at h;split at h
 . rename_i k n;obtain⟨h1,h2⟩:=bC h;rw[fy hx]
   cases n with
   |negSucc m=>cases h1
   |ofNat m=>exact⟨m,rfl,h2⟩
 . exact h.elim
theorem pn {ts:Fr} {ta:T AV} (hF:FS C ts ta):∀{l:List (Nat×Operand)} {m:List (Nat×SV)},mG ts l=some m->∃vs,hZ ta l= .ok vs/\vs.map (·.1)=m.map (·.1)/\aH C (m.map (·.2)) (vs.map (·.2)):=by
 intro l;induction l with
 |nil=>intro m h;simp only[mG,Az]at h;subst h;exact⟨[],rfl,rfl,aH.nil⟩
 |cons x l ih=>
  obtain⟨i,x⟩:=x;intro m h;simp only[mG]at h;split at h
  . rename_i s r h1 h2
    cases h;obtain⟨v,hv,g1⟩:=gA hF h1;obtain⟨vs,hvs,g2,g3⟩:=ih h2;refine⟨(i,v)::vs,?_,by simp[g2],aH.cons g1 g3⟩;simp only[hZ];rw[rb hv,rb hvs]
  . cases h
theorem pO:∀{ps:List (Nat×Nat×SV)} {qs:List (Nat×Nat×AV)} {cs:List SV} {ca:List AV} {r:List SV},aH C cs ca->qs.map (fun x=>(x.1,x.2.1))=ps.map (fun x=>(x.1,x.2.1))->aH C (ps.map (·.2.2)) (qs.map (·.2.2))->lA cs ps=some r->
  ∃ra,fill ca qs= .ok ra/\aH C r ra:=by
 intro ps;induction ps with
 |nil=>
  intro qs cs ca r hc hq _ h;simp only[lA,Az]at h;subst h
  cases qs with
  |nil=>exact⟨ca,rfl,hc⟩
  |cons q qs=>simp at hq
 | cons x ps ih=>
  intro qs cs ca r hc hq hs h
  cases qs with
  |nil=>simp at hq
  |cons q qs=>
   obtain⟨off,n,s⟩:=x;obtain⟨off',n',v⟩:=q;simp only[Ay,Bb,B9]at hq;obtain⟨⟨rfl,rfl⟩,hq⟩:=hq;simp only[Ay]at hs;obtain⟨hv,hs⟩:=hs.head;simp only[lA]at h
   cases hb:(s.known&&Nat.beq s.cells.length n'&&Nat.ble (off'+n') cs.length)
   . rw[hb]at h;cases h
   . rw[hb]at h;simp only[AY]at h;simp only[Ab]at hb;obtain⟨⟨hk,hl⟩,hr⟩:=hb;obtain⟨l,h1,h2⟩:=pz hv hk;obtain⟨ra,h3,h4⟩:=ih (vM hc h2 off') hq hs h;refine⟨ra,?_,h4⟩;simp only[fill];rw[rb h1,rb (rc (by rw[<-h2.1,hl,<-hc.1,hr];rfl))];exact h3
theorem Fw (fs:Array Field):∀{ps:List (Nat×SV)} {vs:List (Nat×AV)} {r:List (Nat×Nat×SV)},vs.map (·.1)=ps.map (·.1)->aH C (ps.map (·.2)) (vs.map (·.2))->nX tab fs ps=some r->
  ∃ra,lh tab fs vs= .ok ra/\ra.map (fun x=>(x.1,x.2.1))=r.map (fun x=>(x.1,x.2.1))/\aH C (r.map (·.2.2)) (ra.map (·.2.2)):=by
 intro ps;induction ps with
 |nil=>
  intro vs r hv _ h;simp only[nX,Az]at h;subst h
  cases vs with
  |nil=>exact⟨[],rfl,rfl,aH.nil⟩
  |cons q qs=>simp at hv
 | cons x ps ih=>
  intro vs r hv hs h
  cases vs with
  |nil=>simp at hv
  |cons q vs=>
   obtain⟨i,s⟩:=x;obtain⟨i',v⟩:=q;simp only[Ay,Bb]at hv;obtain⟨rfl,hv⟩:=hv;simp only[Ay]at hs;obtain⟨hsv,hs⟩:=hs.head;simp only[nX]at h;split at h
   . rename_i f hf;split at h
     . rename_i n r' hn hr
       cases h;obtain⟨ra,h1,h2,h3⟩:=ih hv hs hr;refine⟨(f.offset,n,v)::ra,?_,by simp[h2],aH.cons hsv h3⟩;simp only[lh];rw[rb (show R.of "field" _= .ok f from ro hf),rb (show siz tab f.type= .ok n from ro hn),rb h1]
     . cases h
   . cases h
theorem v7 {t:TypeId} {ps:List (Nat×SV)} {vs:List (Nat×AV)} {s:SV} (hv:vs.map (·.1)=ps.map (·.1)) (hs:aH C (ps.map (·.2)) (vs.map (·.2))) (h:tq tab t ps=some s):∃v,Am.build tab t vs= .ok v/\au C s v:=by
 unfold tq at h;unfold Am.build;split at h
 . rename_i z fs hz hu;obtain⟨zv,zc,g1,g2,g3⟩:=lr (C:=C) hz;rw[rb g1,rb g2,rb (show und tab t=_ from ro hu)]
   cases hb:fs.toList.all (fun f=>(tab.siz.get f.type).isSome)
   . rw[hb]at h;cases h
   . rw[hb]at h;simp only[AY]at h;split at h
     . rename_i q hq;obtain⟨r,hr,rfl⟩:=Aq.1 h;obtain⟨ra,h1,h2,h3⟩:=Fw fs hv hs hq;obtain⟨rb',h4,h5⟩:=pO g3 h2 h3 hr;simp only;rw[rb (rc hb),rb h1,rb h4];exact⟨_,rfl, .agg h5.1 h5.2⟩
     . cases h
 . rename_i z n e hz hu;split at h
   . rename_i m hm;obtain⟨r,hr,rfl⟩:=Aq.1 h;obtain⟨zv,zc,g1,g2,g3⟩:=lr (C:=C) hz;rw[rb g1,rb g2,rb (show und tab t=_ from ro hu)];simp only;rw[rb (show siz tab e=_ from ro hm)];obtain⟨rb',h4,h5⟩:=pO (qs:=vs.map fun x=>(x.1*m,m,x.2)) g3 (by
       simp only[Bp];have:=AN (List.map (fun i=>(i*m,m))) hv;simpa [Bp,BO]using this) (by simpa [Bp,BO]using hs) hr
     rw[rb h4];exact⟨_,rfl, .agg h5.1 h5.2⟩
   . cases h
 . cases h
def gi (o:Option Nat) (d:R Nat):R Nat:=match o with|none=>d|some n=> .ok n
theorem pZ {ts:Fr} {ta:T AV} (hF:FS C ts ta) {x:Option Operand} {K:Option Nat->Prop} (h:jy ts x K):∃o,K o/\ ∀d:R Nat,dD ta d x=gi o d/\(x=none↔o=none):=by
 unfold jy at h;split at h
 . exact⟨none,h,fun d=>⟨rfl,by simp⟩⟩
 . obtain⟨v,h1,h2⟩:=bW h;obtain⟨u,h3,h4⟩:=gA hF h1;obtain⟨n,h5,h6⟩:=nR h2 h4;refine⟨some n,h6,fun d=>⟨?_,by simp⟩⟩;simp only[dD];rw[rb h3];exact h5
end
end
end Go.Sy
namespace Go.Sy
open Go.Am Go.RowKit
universe u v
variable [Inhabited aE]
section
variable {tab:aM} {C:Cx} {h:SH} {a:AH}
theorem mD {α:Type u} {l:List α} {lo hi:Option Nat} {K:List α->Prop} (h:iq l lo hi K):lo.getD 0<=hi.getD l.length/\hi.getD l.length<=l.length/\K ((l.drop (lo.getD 0)).take (hi.getD l.length - lo.getD 0)):=by
 unfold iq at h;split at h
 . simpa using h
 . rename_i a;obtain⟨h1,h2⟩:=bC h;have h1:=Ag h1;refine⟨by simpa using h1,by simp,?_⟩;simp only[AA,Option.getD_none];rw[A2 (by simp)];exact h2
 . rename_i b;obtain⟨h1,h2⟩:=bC h;have h1:=Ag h1;refine⟨by simp,by simpa using h1,by simpa using h2⟩
 . rename_i a b;obtain⟨h1,h2⟩:=bC h;simp only[Ab]at h1;exact⟨by simpa using Ag h1.1,by simpa using Ag h1.2,h2⟩
theorem qi {X:Type} {L:List X} {enc:X->List SV} {v:AV} {Fz:Nat->Option AO} (hv:aC Fz (.aD X L enc) v) (hL:L≠[]):∃b off cap cs e sz ext bk,v= .sl b off L.length cap/\cX Fz b cs e sz ext bk/\0<sz/\off+L.length*sz<=cs.length/\
  (∀(i:Nat) x,L[i]? =some x->(enc x).length=sz)/\kC cap off L.length sz ext/\ ∀(i:Nat) x (j:Nat) v,L[i]? =some x->(enc x)[j]? =some v->∃u,cs[off+i*sz+j]? =some u/\aC Fz v u:=by
 cases hv with
 |bt h0 _=>exact absurd (AF h0) hL
 |aD b off cap cs e sz ext bk u hb hs hl hn hc h1 h2=>exact⟨b,off,cap,cs,e,sz,ext,bk,rfl,hb,hs,hl,hn,hc,fun i x j v hx hv=>⟨_,h1 i x j v hx hv,h2 i x j v hx hv⟩⟩
theorem qh {X:Type} {L:List X} {enc:X->List SV} {Fz:Nat->Option AO} (b off:Nat) (cap:dX) (cs:List AV) (e:TypeId) (sz:Nat) (ext:Bool) (bk:BK) (n:Nat) (hn':n=L.length)
   (hb:cX Fz b cs e sz ext bk) (hs:0<sz) (hl:off+L.length*sz<=cs.length) (hn:∀(i:Nat) x,L[i]? =some x->(enc x).length=sz) (hc:kC cap off L.length sz ext)
   (h1:∀(i:Nat) x (j:Nat) v,L[i]? =some x->(enc x)[j]? =some v->∃u,cs[off+i*sz+j]? =some u/\aC Fz v u):aC Fz (.aD X L enc) (.sl b off n cap):=by
 subst hn';refine .aD b off cap cs e sz ext bk (fun i j=>(cs[off+i*sz+j]?).getD (.aO [])) hb hs hl hn hc ?_ ?_
 . intro i x j v hx hv;obtain⟨u,h2,_⟩:=h1 i x j v hx hv;rw[h2];rfl
 . intro i x j v hx hv;obtain⟨u,h2,h3⟩:=h1 i x j v hx hv;rw[h2];exact h3
theorem pw {ta:T AV} {t e n:Nat} (hu:tab.und.get t=some (.slice e)) (hn:tab.siz.get e=some n) {X:Type} {L:List X} {enc:X->List SV} {v:AV} {Fz:Nat->Option AO} (hfz:∀i o,Fz i=some o->a.get i=some o) (hv:aC Fz (.aD X L enc) v)
  (hlen:∀x:X,(enc x).length=n) {lo hi:Option Operand} {l u:Option Nat} (h1:∀d:R Nat,dD ta d lo=gi l d) (h2:∀d:R Nat,dD ta d hi=gi u d)
  (hle:l.getD 0<=u.getD L.length) (hle2:u.getD L.length<=L.length):∃w,fG tab ta a t v lo hi none= .ok (w,a)/\aC Fz (.aD X ((L.drop (l.getD 0)).take (u.getD L.length - l.getD 0)) enc) w:=by
 by_cases hL:0<L.length
 case neg=>
  have hL0:L.length=0:=by omega
  have o1:dD ta (.ok 0) lo= .ok (l.getD 0):=by rw[h1];cases l<;>rfl
  have o2:∀d,dD ta (.ok d) hi= .ok (u.getD d):=by intro d;rw[h2];cases u<;>rfl
  rw[hL0]at hle hle2;have hu0:u.getD 0=0:=by omega
  have hl0:l.getD 0=0:=by omega
  have hr:((L.drop (l.getD 0)).take (u.getD L.length - l.getD 0)).length=0:=by simp;omega
  rw[hl0]at o1;unfold fG;rw[rb (show und tab t=_ from ro hu)]
  cases hv with
  |bt h0 hv=>
   rcases hv with rfl|⟨b,off,l1,n1,k,rfl⟩|⟨a',c,rfl⟩
   . refine⟨.nils,?_, .bt hr (.inl rfl)⟩;simp only;rw[rb (show siz tab e= .ok n from ro hn),rb o1,rb (o2 0),hu0];rfl
   . refine⟨.emp b off l1 n1 k,?_, .bt hr (.inr (.inl ⟨_,_,_,_,_,rfl⟩))⟩;simp only;rw[rb (show siz tab e= .ok n from ro hn),rb o1,rb (o2 0),hu0];rfl
   . refine⟨.raw (.slice a' 0 c),?_, .bt hr (.inr (.inr ⟨_,_,rfl⟩))⟩;simp only;rw[rb (show siz tab e= .ok n from ro hn),rb o1,rb (o2 0),hu0];rfl
  | aD b off cap cs e' sz ext bk w hb hs hl hn' hc h1' h2'=>
   obtain⟨sz0,ext0,hb0,hx0⟩:=id hb;have hcl:=eJ (hfz _ _ hb0);rw[hL0]at hc⊢;simp only
   cases cap with
   | lit m=>
     rw[rb (show capLow a b (.lit m)= .ok m from rfl),rb (show siz tab e= .ok n from ro hn),rb o1,rb (o2 0),hu0];simp only;rw[rb (rc (by simp))];refine⟨_,rfl,?_⟩;have:(aC Fz (.aD X ((L.drop (l.getD 0)).take (0 - l.getD 0)) enc) (.sl b off ((L.drop (l.getD 0)).take (0 - l.getD 0)).length (.lit m))):=by
       refine .aD b off (.lit m) cs e' sz ext bk w hb hs (by simp[hL0]at*;omega) (fun i x hx=>?_) (by simp[kC]) (fun i x j v hx=>?_) (fun i x j v hx=>?_)
       all_goals (simp at hx)
     simp at this⊢;exact this
   | tail k=>
     obtain⟨hext,hoff⟩:=hc;subst hext;obtain⟨hz1,hz2⟩:=hx0 rfl;have hz1:=hz1.symm;subst hz1;subst hz2;have hcap:capLow a b (.tail k)= .ok (cs.length / sz - k):=by
       simp only[capLow];rw[rb hcl];simp only;rw[rb (rc (by simp only[BF,AW];exact dZ (by omega)))];rfl
     rw[rb hcap,rb (show siz tab e= .ok n from ro hn),rb o1,rb (o2 0),hu0];simp only;rw[rb (rc (by simp))];refine⟨_,rfl,?_⟩;have:(aC Fz (.aD X ((L.drop (l.getD 0)).take (0 - l.getD 0)) enc) (.sl b off ((L.drop (l.getD 0)).take (0 - l.getD 0)).length (.tail k))):=by
       refine .aD b off (.tail k) cs e' sz true bk w hb hs (by simp[hL0]at*;omega) (fun i x hx=>?_) ⟨rfl,hoff⟩ (fun i x j v hx=>?_) (fun i x j v hx=>?_)
       all_goals (simp at hx)
     simp at this⊢;exact this
 case pos=>
  obtain⟨b,off,cap,cs,e',sz,ext,bk,rfl,hb,hs,hl,hsz,hc,hcell⟩:=qi hv (by rintro rfl;simp at hL);have hszn:sz=n:=by
   rw[<-hsz 0 _ (Af hL),hlen]
  subst hszn;have o1:dD ta (.ok 0) lo= .ok (l.getD 0):=by rw[h1];cases l<;>rfl
  have o2:∀d,dD ta (.ok d) hi= .ok (u.getD d):=by intro d;rw[h2];cases u<;>rfl
  obtain⟨sz0,ext0,hb0,hx0⟩:=id hb;have hcl:=eJ (hfz _ _ hb0);generalize l.getD 0=i at*
  generalize hj:u.getD L.length=j at*
  have hLl:((L.drop i).take (j - i)).length=j - i:=by simp;omega
  have hget:∀(q:Nat) x,((L.drop i).take (j - i))[q]? =some x->L[i+q]? =some x/\q<j - i:=by
   intro q x hx;rw[Bn]at hx;split at hx
   . rename_i hq;rw[Bx]at hx;exact⟨hx,hq⟩
   . cases hx
  have hmul:∀q,off+i*sz+q*sz=off+(i+q)*sz:=by intro q;rw[A7];omega
  have hbound:off+i*sz+(j - i)*sz<=cs.length:=by
   rw[hmul];have:(i+(j - i))*sz<=L.length*sz:=A6 _ (by omega);omega
  have mk:∀cap',kC cap' (off+i*sz) (j - i) sz ext->aC Fz (.aD X ((L.drop i).take (j - i)) enc) (.sl b (off+i*sz) (j - i) cap'):=by
   intro cap' hcap;refine qh b (off+i*sz) cap' cs e' sz ext bk _ hLl.symm hb hs (by rw[hLl];exact hbound) (fun q x hx=>hsz _ x (hget q x hx).1) (by rw[hLl];exact hcap) ?_;intro q x k s hx hs';obtain⟨w,g1,g2⟩:=hcell _ x k s (hget q x hx).1 hs';exact⟨w,by rw[hmul];exact g1,g2⟩
  have empty:j - i=0->∀w,(w= .nils\/(∃b off l n k,w= .emp b off l n k)\/ ∃a c,w= .raw (.slice a 0 c))->aC Fz (.aD X ((L.drop i).take (j - i)) enc) w:=fun h0 w hw=> .bt (by rw[hLl,h0]) hw
  unfold fG;rw[rb (show und tab t=_ from ro hu)];simp only
  cases cap with
  |lit m=>
   have hcm:L.length<=m:=hc;rw[rb (show capLow a b (.lit m)= .ok m from rfl),rb (show siz tab e= .ok sz from ro hn),rb o1,rb (o2 _),hj];simp only;rw[rb (rc (by simp only[Ab,Be];omega))];refine⟨_,rfl,?_⟩;by_cases hm:m=i
   . subst hm;simp only[Bo,AY];have h0:j - m=0:=by omega
     rw[h0];refine qh b off _ cs e' sz ext bk 0 (by simp) hb hs (by simp;omega) (fun q x hx=>by simp at hx) (by simp[kC]) (fun q x k s hx=>by simp at hx)
   . rw[dZ hm];simp only[AB];exact mk _ (by simp only[kC];omega)
  |tail k=>
   obtain⟨hext,hoff⟩:=hc;subst hext;obtain⟨hz1,hz2⟩:=hx0 rfl;have hz1:=hz1.symm;subst hz1;subst hz2;have hcap:capLow a b (.tail k)= .ok (cs.length / sz - k):=by
     simp only[capLow];rw[rb hcl];simp only;rw[rb (rc (by simp only[BF,AW];exact dZ (by omega)))];rfl
   have hge:L.length<=cs.length / sz - k:=by
     have:(k+L.length)*sz<=cs.length:=by rw[A7,<-hoff];exact hl
     have:=(Ew hs).2 this;omega
   rw[rb hcap,rb (show siz tab e= .ok sz from ro hn),rb o1,rb (o2 _),hj];simp only;rw[rb (rc (by simp only[Ab,Be];omega))];by_cases hi0:i=0
   . subst hi0;simp only[Bo,AY];have:=mk (.tail k) ⟨rfl,by simpa using hoff⟩;simp only[DE,A9,Bu]at this;exact⟨_,rfl,by simpa using this⟩
   . rw[dZ hi0];simp only[AB];by_cases hlt:i<cs.length / sz - k
     . rw[show Nat.blt i (cs.length / sz - k)=true from by simpa using hlt];simp only[AY];exact⟨_,rfl,mk _ ⟨rfl,by rw[A7,hoff]⟩⟩
     . rw[show Nat.blt i (cs.length / sz - k)=false from Ar.2 fun e=>hlt (by simpa using e)];simp only[AB];exact⟨_,rfl,empty (by omega) _ (.inr (.inl ⟨_,_,_,_,_,rfl⟩))⟩
 end
 end Go.Sy
namespace Go.Sy
open Go.Am Go.RowKit
section
universe u v
variable [Inhabited aE]
section
variable {tab:aM} {view:TypeId->Option View} {C:Cx} {s:St} {ta:T AV} {a:AH}
def aw (tab:aM) (C:Cx) (s:St) (ta:T AV) (a:AH) (K:SV->St->Prop) (r:R (AV×AH)):Prop:=∃sv s' v a',K sv s'/\r= .ok (v,a')/\kg tab C s ta a sv s' v a'
theorem aw.same {K:SV->St->Prop} (hF:FS C s.ts ta) (H:HS tab C s.h a) {sv:SV} {v:AV} (hv:au C sv v) (hk:K sv s):aw tab C s ta a K (.ok (v,a)):=⟨sv,s,v,a,hk,rfl,kg.same hF H hv⟩
theorem aw.val {K:SV->St->Prop} (hF:FS C s.ts ta) (H:HS tab C s.h a) {r:R AV} (h:dU C (fun v=>K v s) r):aw tab C s ta a K (do .ok (<-r,a)):=by
 obtain⟨sv,v,h1,h2,h3⟩:=h;rw[rb h1];exact aw.same hF H h2 h3
theorem FP (hF:FS C s.ts ta) (H:HS tab C s.h a) {t:TypeId} {x:SV} {v:AV} (hv:au C x v) {lo hi:Option Operand} {K:SV->St->Prop} (h:oo tab s t x lo hi K):aw tab C s ta a K (fG tab ta a t v lo hi none):=by
 unfold oo at h;obtain⟨l,h1,hl⟩:=pZ hF h;obtain⟨u,h2,hu⟩:=pZ hF h1;clear h h1;have h:=h2;clear h2;have o1:∀d:R Nat,dD ta d lo=gi l d:=fun d=>(hl d).1
 have o2:∀d:R Nat,dD ta d hi=gi u d:=fun d=>(hu d).1
 clear hl hu;split at h
 . rename_i c hg;rw[eR hv];obtain⟨h1,h2,h3⟩:=mD h;unfold fG;rw[rb (show und tab t=_ from ro hg)];simp only;rw[rb (show R.check "slice: max" (none:Option Operand).isNone= .ok ()from rfl),rb (show dD ta (.ok 0) lo= .ok (l.getD 0)from by rw[o1];cases l<;>rfl),rb (show dD ta (.ok c.length) hi= .ok (u.getD c.length)from by rw[o2];cases u<;>rfl),
     rb (rc (by simp only[Ab,Be];omega))]
   exact aw.same hF H (.pure (.str _)) h3
 . rename_i e X L enc hg;split at h
   . rename_i n hn;obtain⟨hlen,h⟩:=h;obtain⟨h1,h2,h3⟩:=mD h;obtain⟨w,h4,h5⟩:=pw hg hn H.fz (gT hv rfl) hlen o1 o2 h1 h2;rw[h4];exact aw.same hF H (.pure h5) h3
   . exact h.elim
 . rename_i e b hg;split at h
   . rename_i X L enc t' n hb hn;obtain⟨hlen,h⟩:=h;obtain⟨h1,h2,h3⟩:=mD h;obtain⟨C',e1,e2,e3,e4,e5,e6⟩:=gZ hF H hb;obtain⟨w,h4,h5⟩:=pw hg hn e3.fz (e5 v hv) hlen o1 o2 h1 h2;exact⟨_,_,w,a,h3,h4,⟨C',_,e1,e2, .pure h5,e3,e4,e6.bI _⟩,Grow.refl a⟩
   . exact h.elim
 . rename_i e b off len cap hg;split at h
   . rename_i n hn;obtain⟨h1,h2⟩:=bC h;simp only[Ab]at h1
     cases hv with
     |pure hv=>cases hv
     | sl hI=>
      unfold fG;rw[rb (show und tab t=_ from ro hg)];simp only;rw[rb (show capLow a _ (.lit cap)= .ok cap from rfl),rb (show siz tab e= .ok n from ro hn),rb (show dD ta (.ok 0) lo= .ok (l.getD 0)from by rw[o1];cases l<;>rfl),
       rb (show dD ta (.ok len) hi= .ok (u.getD len)from by rw[o2];cases u<;>rfl),
       rb (rc (by simp only[Ab];exact h1))]
      exact aw.same hF H (.sl hI) h2
   . exact h.elim
 . exact h.elim
theorem HS.fresh (H:HS tab C s.h a) (ca:List AV) (e:TypeId) (sz:Nat) (ext:Bool) (bk:BK):∃C':Cx,C.le C'/\C'.Fz a.next=some (.cells ca e sz ext bk)/\HS tab C' s.h (a.new (.cells ca e sz ext bk)):=by
 classical
 let C':Cx:={C with Fz:=fun i=>if i=a.next then some (.cells ca e sz ext bk)else C.Fz i}
 have hfz:∀i o,C.Fz i=some o->C'.Fz i=some o:=by
   intro i o hi;have:=H.wf _ _ (H.fz i o hi);simp only[C'];rw[Ae (by omega)];exact hi
 have hle:C.le C':=⟨fun _ _ h=>h,hfz⟩;have hblk:∀p o I,s.h.get p=some o->C.ρ p=some I->I.cap.isSome->I.β≠a.next:=by
   intro p o I hp hI hc;obtain⟨b,hb⟩:=(H.at_ hp hI).live hc;have:=H.wf _ _ hb;omega
 refine⟨C',hle,by simp[C'],⟨?_,H.inj,?_,?_,H.lt,?_⟩⟩
 . intro p o hp;obtain⟨I,hI,ho⟩:=H.obj p o hp;refine⟨I,hI,?_⟩;have ho':=ho.le hle;by_cases hc:I.cap.isSome
   . exact ho'.congr (by rw[AH.aF,Ae (hblk p o I hp hI hc)])
   . cases o with
     |cells cs t=>exact absurd ho.1 hc
     |arr X L enc t=>
      obtain⟨g1,g2,g3,g4,g5⟩:=ho';refine⟨g1,g2,g3,g4,?_⟩
      cases hcap:I.cap with
      |none=>rw[hcap]at g5;exact g5
      |some c=>rw[hcap]at hc;simp at hc
 . intro i o hi;simp only[C']at hi;rw[AH.aF];split at hi
   . rename_i e;rw[Ai e];exact hi
   . rename_i e;rw[Ae e];exact H.fz i o hi
 . intro p o I hp hI hc;simp only[C'];rw[Ae (hblk p o I hp hI hc)];exact H.dj p o I hp hI hc
 . intro i o hi;rw[AH.aF]at hi;simp only[AH.bg];split at hi
   . omega
   . have:=H.wf i o hi;omega
theorem eW {e n:Nat} (hn:tab.siz.get e=some n) (cs:List AV) (ext:Bool) (bk:BK):Am.newRow tab a e cs ext bk= .ok (a.new (.cells cs e n ext bk),a.next):=by
 unfold Am.newRow;rw[rb (show siz tab e= .ok n from ro hn)]
theorem GN {c:List UInt8} {i:Nat} {x:UInt8} (hx:c[i]? =some x) {j:Nat} {v:SV} (hv:(bL x)[j]? =some v):j=0/\v= .int .u8 (.ofNat x.toNat):=by
 cases j with
 |zero=>simp[bL]at hv;exact⟨rfl,hv.symm⟩
 |succ j=>simp[bL]at hv
theorem nu:∀{c:List UInt8},bytesOf (c.map fun b=>AV.int .u8 (.ofNat b.toNat))= .ok c:=by
 intro c;induction c with
 |nil=>rfl
 |cons x c ih=>
  simp only[Ay,bytesOf];rw[rb ih];simp
theorem vr {Fz:Nat->Option AO} (hfz:∀i o,Fz i=some o->a.get i=some o) {c:List UInt8} {v:AV} (hv:aC Fz (.aD UInt8 c bL) v):
  v= .nils/\c=[]\/((∃b off l n k,v= .emp b off l n k)\/ ∃a c,v= .raw (.slice a 0 c))/\c=[]\/ ∃b off cap,v= .sl b off c.length cap/\readN a b off c.length= .ok (c.map fun b=>AV.int .u8 (.ofNat b.toNat)):=by
 cases hv with
 |bt h0 hv=>
  have:=AF h0;rcases hv with rfl|hv
  . exact .inl ⟨rfl,this⟩
  . exact .inr (.inl ⟨hv,this⟩)
 | aD b off cap cs e sz ext bk u hb hs hl hn hc h1 h2=>
  refine .inr (.inr ⟨b,off,cap,rfl,?_⟩);obtain⟨sz0,ext0,hb,hx0⟩:=hb;have hsz:c≠[]->sz=1:=by
    intro hc0
    cases c with
    |nil=>exact absurd rfl hc0
    |cons x c=>rw[<-hn 0 x rfl];rfl
  unfold readN;rw[rb (eJ (hfz _ _ hb))];simp only;have hle:off+c.length<=cs.length:=by
    by_cases h0:c=[]
    . subst h0;simp at hl⊢;exact hl
    . rw[hsz h0]at hl;omega
  rw[rb (rc (by simp only[Be];exact hle))];congr 1
  apply Dg
  intro i;rw[Bn,Au];by_cases hi:i<c.length
  . rw[Ai hi,Bx];have hx:=Af hi;have h0:c≠[]:=by rintro rfl;simp at hi
    have g1:=h1 i _ 0 _ hx rfl;have g2:=h2 i _ 0 _ hx rfl;rw[hsz h0]at g1;simp only[Nat.mul_one,A9]at g1;rw[g1,hx]
    cases g2h:u i 0 with
    | int k n=>
      rw[g2h]at g2
      cases g2;rfl
    |_=>rw[g2h]at g2;cases g2
  . rw[Ae hi,Bh (by omega)];rfl
theorem GG (hF:FS C s.ts ta) (H:HS tab C s.h a) {src dst:TypeId} {x:SV} {v:AV} (hv:au C x v) {K:SV->St->Prop} (h:qx tab s src dst x K):aw tab C s ta a K (iX tab a src dst v):=by
 have hnu:∀{d:TypeDesc},tab.und.get dst=some d->(d≠ .unsafePointer)->(∀u,d≠ .pointer u)->iX tab a src dst v=Am.convert tab a src dst v:=by
   intro d hd h1 h2;unfold iX;rw[rb (show und tab dst=_ from ro hd)]
   cases d<;>first|rfl|exact absurd rfl h1|exact absurd rfl (h2 _)
 unfold qx at h;split at h
 . rename_i d k j n hs hd;rw[hnu hd (by simp) (by simp),fy hv];unfold Am.convert;rw[rb (show und tab src=_ from ro hs),rb (show und tab dst=_ from ro hd)];exact aw.same hF H (.pure (.int _ _)) h
 . rename_i d c hs hd;rw[hnu hd (by simp) (by simp),eR hv];unfold Am.convert;rw[rb (show und tab src=_ from ro hs),rb (show und tab dst=_ from ro hd)];exact aw.same hF H (.pure (.str _)) h
 . rename_i d e c hs hd;split at h
   . rename_i he hz;rw[hnu hd (by simp) (by simp),eR hv];unfold Am.convert;rw[rb (show und tab src=_ from ro hs),rb (show und tab dst=_ from ro hd)];obtain⟨C',g1,g2,g3⟩:=H.fresh (ofBytes c) e 1 true .mark;have hsim:aC C'.Fz (.aD UInt8 c bL) (.sl a.next 0 c.length (.tail 0)):=by
       refine qh a.next 0 _ (ofBytes c) e 1 true .mark _ rfl (.of g2) (by omega) (by simp[ofBytes]) (fun i x _=>rfl) ⟨rfl,rfl⟩ ?_;intro i x j w hx hw;obtain⟨rfl,rfl⟩:=GN hx hw;refine⟨_,?_, .int _ _⟩;simp[ofBytes,hx]
     have hr:Am.newRow tab a e (ofBytes c) true .mark= .ok (a.new (.cells (ofBytes c) e 1 true .mark),a.next):=eW hz _ _ _;have:aw tab C s ta a K (.ok (.sl a.next 0 c.length (.tail 0),a.new (.cells (ofBytes c) e 1 true .mark))):=
       ⟨_,s,_,_,h,rfl,⟨C',[],by simp,g1.tr, .pure hsim,g3,hF.le g1,bS.new H _ _ g1 (fun p o h=>⟨o,h⟩)⟩,Grow.new a _⟩
     cases d<;>simp only<;>(rw[rb (show und tab e=_ from ro he)];simp only;rw[rb (show siz tab e= .ok 1 from ro hz),rb (show R.check "convert: size" (Nat.beq 1 1)= .ok ()from rfl),rb hr];exact this)
   . exact h.elim
 . rename_i e hs hd;split at h
   . rename_i he;rw[hnu hd (by simp) (by simp),jJ hv];unfold Am.convert;rw[rb (show und tab src=_ from ro hs),rb (show und tab dst=_ from ro hd)];simp only;rw[rb (show und tab e=_ from ro he)];exact aw.same hF H (.pure (.str _)) h
   . exact h.elim
 . rename_i e X L enc hs hd;split at h
   . rename_i he;obtain⟨c,h1,h2⟩:=h;rw[h1]at hv;rw[hnu hd (by simp) (by simp)];unfold Am.convert;rw[rb (show und tab src=_ from ro hs),rb (show und tab dst=_ from ro hd)];rcases vr H.fz (gT hv rfl)with⟨rfl,rfl⟩|⟨⟨b,off,l,n,k,rfl⟩|⟨a1,c1,rfl⟩,rfl⟩|⟨b,off,cap,rfl,hr⟩
     . simp only;rw[rb (show und tab e=_ from ro he)];exact aw.same hF H (.pure (.str _)) h2
     . simp only;rw[rb (show und tab e=_ from ro he)];exact aw.same hF H (.pure (.str _)) h2
     . simp only;rw[rb (show und tab e=_ from ro he)];exact aw.same hF H (.pure (.str _)) h2
     . simp only;rw[rb (show und tab e=_ from ro he)];simp only;rw[rb hr,rb nu];exact aw.same hF H (.pure (.str _)) h2
   . exact h.elim
 . rename_i e b hs hd;split at h
   . rename_i X L enc t' he hb;obtain⟨c,h1,h2⟩:=h;obtain⟨C',e1,e2,e3,e4,e5,_⟩:=gZ hF H hb;have hv':=e5 v hv;rw[h1]at hv';rw[hnu hd (by simp) (by simp)];unfold Am.convert;rw[rb (show und tab src=_ from ro hs),rb (show und tab dst=_ from ro hd)];rcases vr e3.fz hv' with⟨rfl,rfl⟩|⟨⟨b,off,l,n,k,rfl⟩|⟨a1,c1,rfl⟩,rfl⟩|⟨b,off,cap,rfl,hr⟩
     . simp only;rw[rb (show und tab e=_ from ro he)];exact aw.same hF H (.pure (.str _)) h2
     . simp only;rw[rb (show und tab e=_ from ro he)];exact aw.same hF H (.pure (.str _)) h2
     . simp only;rw[rb (show und tab e=_ from ro he)];exact aw.same hF H (.pure (.str _)) h2
     . simp only;rw[rb (show und tab e=_ from ro he)];simp only;rw[rb hr,rb nu];exact aw.same hF H (.pure (.str _)) h2
   . exact h.elim
 . rename_i e b off len cap hs hd;split at h
   . rename_i cs t' he hb;obtain⟨hle,c,h1,h2⟩:=bC h;have hle:=Ag hle;rw[hnu hd (by simp) (by simp)]
     cases hv with
     |pure hv=>cases hv
     | @sl _ _ _ _ I hI=>
       obtain⟨_,ca,sz,g1,g2,_⟩:=H.at_ hb hI;have hcl:=g2.1;have hr:readN a I.β off len= .ok (c.map fun b=>AV.int .u8 (.ofNat b.toNat)):=by
        unfold readN;rw[rb (eJ g1)];simp only;rw[rb (rc (by simp only[Be];omega))];congr 1
        apply Dg
        intro i;have hS:=(g2.drop off).take len;rw[h1]at hS
        cases hq:(qy c)[i]? with
        |none=>
         have hn:=Dw.1 hq;rw[Bh (by rw[<-hS.1];exact hn),Bh (by simpa [qy]using hn)]
        |some v=>
         have hlt:=(Ac.1 hq).1;have hlt2:i<(List.take len (List.drop off ca)).length:=by rw[<-hS.1];exact hlt
         have hsv:=hS.2 i v _ hq (Af hlt2);unfold qy at hq;rw[Au]at hq⊢;obtain⟨b',hb',rfl⟩:=Aq.1 hq;rw[Af hlt2,fy hsv,hb'];rfl
       unfold Am.convert;rw[rb (show und tab src=_ from ro hs),rb (show und tab dst=_ from ro hd)];simp only;rw[rb (show und tab e=_ from ro he)];simp only;rw[rb hr,rb nu];exact aw.same hF H (.pure (.str _)) h2
   . exact h.elim
 . exact h.elim
end
end
section
universe u v
variable [Inhabited aE]
section
variable {tab:aM} {view:TypeId->Option View} {C:Cx} {s:St} {ta:T AV} {a:AH} {h:SH}
structure Told (Fz:Nat->Option AO) (X:Type) (l:List X) (enc:X->List SV) (n:Nat) (news:List AV):Prop where
 len:news.length=l.length*n
 each:∀(i:Nat) x,l[i]? =some x->(enc x).length=n
 cell:∀(i:Nat) x (j:Nat) v,l[i]? =some x->(enc x)[j]? =some v->∃u,news[i*n+j]? =some u/\aC Fz v u
 one:news.all ia=true
theorem uW {s:SV} (h:jc s=true):isScalar s=true:=by cases s<;>first|rfl|cases h
theorem F3 {Fz:Nat->Option AO} {s:SV} {v:AV} (h:aC Fz s v) (hp:jc s=true):ia v=true:=wB (C:=⟨fun _=>none,Fz⟩) (.pure h) (uW hp)
theorem FK {news:List AV} {n:Nat} (hn:n≠0) {m:Nat} (hl:news.length=m*n) (h:∀i j,i<m->j<n->∀u,news[i*n+j]? =some u->ia u=true):news.all ia=true:=by
 rw[Av];intro v hv;obtain⟨q,hq⟩:=A8.1 hv;have hlt:q<m*n:=by rw[<-hl];exact(Ac.1 hq).1
 have h1:q / n<m:=by
  apply (Nat.div_lt_iff_lt_mul (by omega)).2;exact hlt
 have h2:q % n<n:=Eb _ (by omega);refine h (q / n) (q % n) h1 h2 v ?_;rw[Nat.mul_comm,Nat.div_add_mod];exact hq
theorem vH {X:Type} {L:List X} {enc:X->List SV} {v:AV} {Fz:Nat->Option AO} {n:Nat} (hfz:∀i o,Fz i=some o->a.get i=some o) (hv:aC Fz (.aD X L enc) v) (hn:n≠0) (he:∀x:X,(enc x).length=n/\(enc x).all jc=true):
   ∃news,source a n v= .ok (L.length,news)/\Told Fz X L enc n news:=by
 by_cases hL:L=[]
 . subst hL;have ht:Told Fz X [] enc n []:=⟨by simp,fun i x hx=>by simp at hx,fun i x j v hx=>by simp at hx,rfl⟩
   cases hv with
   | bt h0 hv=>
     rcases hv with rfl|⟨b,off,l,k,c,rfl⟩|⟨a,c,rfl⟩
     . exact⟨[],rfl,ht⟩
     . exact⟨[],rfl,ht⟩
     . exact⟨[],rfl,ht⟩
   | aD b off cap cs e sz ext bk u hb hs hl hsz hc h1 h2=>
     obtain⟨sz0,ext0,hb,hx0⟩:=hb;refine⟨[],?_,ht⟩;simp only[source,Bf,DE];unfold readN;rw[rb (eJ (hfz _ _ hb))];simp only;rw[rb (rc (by simp only[Be];simpa using hl))];simp;rfl
 . obtain⟨b,off,cap,cs,e',sz,ext,bk,rfl,hb,hs,hl,hsz,hc,hcell⟩:=qi hv hL;obtain⟨sz0,ext0,hb,hx0⟩:=hb;have hszn:sz=n:=by
     obtain⟨x,hx⟩:∃x,L[0]? =some x:=⟨L[0]'(by cases L with|nil=>exact absurd rfl hL|cons=>simp),by simp⟩;rw[<-hsz 0 x hx,(he x).1]
   subst hszn;have hr:readN a b off (L.length*sz)= .ok ((cs.drop off).take (L.length*sz)):=by
     unfold readN;rw[rb (eJ (hfz _ _ hb))];simp only;rw[rb (rc (by simp only[Be];exact hl))]
   have hlen:((cs.drop off).take (L.length*sz)).length=L.length*sz:=by simp;omega
   have hget:∀(i j:Nat),i<L.length->j<sz->((cs.drop off).take (L.length*sz))[i*sz+j]? =cs[off+i*sz+j]? :=by
     intro i j hi hj;rw[Bn,Ai,Bx,BP]
     calc i*sz+j<i*sz+sz:=by omega
       _=(i+1)*sz:=by rw[A7,Dd]
       _<=L.length*sz:=A6 _ hi
   have hcell':∀(i:Nat) x (j:Nat) v,L[i]? =some x->(enc x)[j]? =some v->∃u,((cs.drop off).take (L.length*sz))[i*sz+j]? =some u/\aC Fz v u:=by
     intro i x j v hx hv;obtain⟨u,h1,h2⟩:=hcell i x j v hx hv;refine⟨u,?_,h2⟩;rw[hget i j (Ac.1 hx).1 (by rw[<-(he x).1];exact(Ac.1 hv).1)];exact h1
   refine⟨_,?_,hlen,hsz,hcell',FK (by omega) hlen ?_⟩
   . simp only[source];rw[rb hr]
   . intro i j hi hj u hu;have hx:=Af hi;have hjl:j<(enc L[i]).length:=by rw[(he _).1];exact hj
     have hv:=Af hjl;obtain⟨w,h1,h2⟩:=hcell' i _ j _ hx hv;rw[hu]at h1;cases h1;exact F3 h2 (Av.1 (he L[i]).2 _ (AX hjl))
theorem v8 (n:Nat):∀(m:Nat) (l:List SV) (i:Nat),i<m->(chunk n m l)[i]? =some ((l.drop (i*n)).take n):=by
 intro m;induction m with
 |zero=>intro l i h;omega
 | succ m ih=>
  intro l i h
  cases i with
  |zero=>simp[chunk]
  |succ i=>
   simp only[chunk,AJ];rw[ih _ _ (by omega),Dt,A7,Dd,Nat.add_comm]
theorem mf (n:Nat):∀(m:Nat) (l:List SV),(chunk n m l).length=m:=by
 intro m;induction m with
 |zero=>intro l;rfl
 |succ m ih=>intro l;simp[chunk,ih]
theorem ya {X:Type} {enc:X->List SV}:∀{c:List (List SV)} {K:List X->Prop},oX enc c K->∃l,l.length=c.length/\(∀(i:Nat) x q,l[i]? =some x->c[i]? =some q->enc x=q)/\K l:=by
 intro c;induction c with
 |nil=>intro K h;exact⟨[],rfl,fun i x q h=>by simp at h,h⟩
 |cons q c ih=>
  intro K h;obtain⟨x,hx,h⟩:=h;obtain⟨l,h1,h2,h3⟩:=ih h;refine⟨x::l,by simp[h1],fun i y r hy hr=>?_,h3⟩
  cases i with
  |zero=>simp at hy hr;subst hy;subst hr;exact hx
  |succ i=>exact h2 i y r (by simpa using hy) (by simpa using hr)
theorem rT {X:Type} {enc:X->List SV} {n m:Nat} (hn:n≠0) {cs:List SV} {ca:List AV} (hc:aH C cs ca) (hl:cs.length=m*n) (hp:cs.all jc=true) {l:List X} (hll:l.length=m)
   (he:∀(i:Nat) x q,l[i]? =some x->(chunk n m cs)[i]? =some q->enc x=q):Told C.Fz X l enc n ca:=by
 have hsub:∀i,i<m->i*n+n<=m*n:=by
   intro i hi
   calc i*n+n=(i+1)*n:=by rw[A7,Dd]
     _<=m*n:=A6 _ hi
 refine⟨by rw[<-hc.1,hl,hll],?_,?_,?_⟩
 . intro i x hx;have hi:i<m:=by rw[<-hll];exact(Ac.1 hx).1
   rw[he i x _ hx (v8 n m cs i hi)];have:=hsub i hi;simp;omega
 . intro i x j v hx hv;have hi:i<m:=by rw[<-hll];exact(Ac.1 hx).1
   rw[he i x _ hx (v8 n m cs i hi),Bn]at hv;split at hv
   . rename_i hj;rw[Bx]at hv;obtain⟨u,h1,h2⟩:=hc.get hv;exact⟨u,h1,gT h2 (Av.1 hp _ (Br hv))⟩
   . cases hv
 . refine vG hc ?_;rw[Av]at hp⊢;exact fun x hx=>uW (hp x hx)
theorem Hy {X:Type} {L M:List X} {enc:X->List SV} {n:Nat} {ca news:List AV} {Fz:Nat->Option AO} (hl:ca.length=L.length*n) (hL:∀(i:Nat) x,L[i]? =some x->(enc x).length=n)
   (hc:∀(i:Nat) x (j:Nat) v,L[i]? =some x->(enc x)[j]? =some v->∃u,ca[i*n+j]? =some u/\aC Fz v u) (hM:Told Fz X M enc n news):
   (ca++news).length=(L++M).length*n/\(∀(i:Nat) x,(L++M)[i]? =some x->(enc x).length=n)/\
     ∀(i:Nat) x (j:Nat) v,(L++M)[i]? =some x->(enc x)[j]? =some v->∃u,(ca++news)[i*n+j]? =some u/\aC Fz v u:=by
 have hlt:∀i j,i<L.length->j<n->i*n+j<L.length*n:=by
   intro i j hi hj
   calc i*n+j<(i+1)*n:=by rw[A7,Dd];omega
     _<=L.length*n:=A6 _ hi
 refine⟨by rw[BG,BG,hl,hM.len,A7],?_,?_⟩
 . intro i x hx;by_cases hi:i<L.length
   . rw[AI hi]at hx;exact hL i x hx
   . rw[AQ (by omega)]at hx;exact hM.each _ x hx
 . intro i x j v hx hv;by_cases hi:i<L.length
   . rw[AI hi]at hx;have hj:j<n:=by rw[<-hL i x hx];exact(Ac.1 hv).1
     obtain⟨u,h1,h2⟩:=hc i x j v hx hv;exact⟨u,by rw[AI (by rw[hl];exact hlt i j hi hj)];exact h1,h2⟩
   . rw[AQ (by omega)]at hx;obtain⟨u,h1,h2⟩:=hM.cell _ x j v hx hv;refine⟨u,?_,h2⟩;have hge:L.length*n<=i*n:=A6 _ (by omega);rw[AQ (by rw[hl];omega),hl];rw[Nat.sub_mul]at h1;rw[<-h1];congr 1;omega
def mH (by_ m:Nat):Prop:=(Nat.ble (m*by_) 16777216&&Nat.ble m 16777216)=true
theorem zN (H:HS tab C h a) {d:Nat} {X:Type} {L M:List X} {enc:X->List SV} {e n by_:Nat} {u:AV} {news:List AV} (hd:h.get d=some (.arr X L enc e)) (hv:au C (.own d) u) (hn:tab.siz.get e=some n) (hn0:n≠0)
   (hz:ib tab e n= .ok ()) (hroom:mH by_ (L.length+M.length)) (hM:Told C.Fz X M enc n news):
   ∃I v a',Am.aW tab a e n by_ u M.length news= .ok (v,a')/\bU C (.kill d) (C.put d I)/\HS tab (C.put d I) ⟨h.next,(d,some (.arr X (L++M) enc e))::fh (.kill d) h.os⟩ a'/\au (C.put d I) (.own d) v/\Grow a a'/\bS C h a [.kill d, .mod d] (C.put d I) ⟨h.next,(d,some (.arr X (L++M) enc e))::fh (.kill d) h.os⟩ a':=by
 have hpk:∀(I:BI) (o2:SO) p o J,h.get p=some o->C.ρ p=some J->p≠d->∃o',(SH.mk h.next ((d,some o2)::fh (.kill d) h.os)).get p=some o'/\(C.put d I).ρ p=some J:=by
   intro I o2 p o J hp hJ hpd;refine⟨o.on (.kill d),?_,by rw[fI _ _ hpd];exact hJ⟩;have h1:=mz (.kill d) h.next h.os p;simp only[SH.get,gj,Ae hpd]at h1 hp⊢;rw[h1,hp];rfl
 obtain⟨I0,hI0,ho⟩:=H.obj d _ hd;have ho':=ho;obtain⟨g1,g2,g3,g4,g5⟩:=ho;have hsz:I0.sz=n:=by rw[hn]at g1;exact(BT g1).symm
 have hlt:∀b i,C.Fz i=some b->i<a.next:=fun b i hi=>H.wf _ _ (H.fz _ _ hi)
 by_cases hm:M.length=0
 . have hM0:=AF hm;subst hM0;have hnews:news=[]:=AF (by rw[hM.len];simp);subst hnews;rw[Da];obtain⟨hT,H'⟩:=H.renew hd hI0 I0 (o:= .arr X L enc e) (a':=a) (fun i b _ h=>h) H.wf (fun hc=> .inr ⟨hc,rfl⟩) (Aj _) (fun hT=>by
     have:=ho'.turns hT;exact this)
   refine⟨I0,u,a,?_,hT,H',?_,Grow.refl a,fun p o J hp hJ hc hnd=>⟨rfl, .inl (hpk I0 _ p o J hp hJ (fun e=>hnd (by simp[gm,e])))⟩⟩
   . cases hv with
     |pure hv=>cases hv
     |cR hI hc=>simp[Am.aW]
     | own hI hc=>
       rw[hI0]at hI;cases hI;rw[hc]at g5;obtain⟨ca,ext,bk,k1,k2,k3,k4,k5⟩:=g5;rename_i c';have hlow:capLow a I0.β c'= .ok (I0.len):=by
         rcases k4 with⟨rfl,rfl⟩|⟨rfl,h0⟩
         . simp only[capLow];rw[rb (eJ k1)];simp only;rw[rb (rc (by simp only[BF,AW];exact dZ (by omega)))];simp only[Bu];rw[k3,g3];congr 1
           exact Nat.mul_div_cancel _ (by omega)
         . rw[show capLow a I0.β (.lit 0)= .ok 0 from rfl,g3,h0]
       simp only[Am.aW];rw[rb hlow,rb (eJ k1)];simp only;rw[rb (rc (by simp[hsz])),rb (rc (by rw[g3];exact hroom)),Bf,A9,show Nat.ble I0.len I0.len=true from by simp];simp only[AY];rfl
   . cases hv with
     |pure hv=>cases hv
     |cR hI hc=>exact .cR (fg _ _ _) (by rw[hI0]at hI;cases hI;exact hc)
     |own hI hc=>rw[hI0]at hI;cases hI;exact .own (fg _ _ _) hc
 . have hbm:Nat.beq M.length 0=false:=dZ hm;have hpos:0<n:=by omega
   have newrow:∀(ca:List AV) (a1:AH) (bk:BK),a1.next=a.next->(∀i o,a1.get i=some o->a.get i=some o)->(∀i b,(I0.cap.isSome->i≠I0.β)->a.get i=some b->a1.get i=some b)->(bk≠ .ro/\bk≠ .cold)->ca.length=L.length*n->
       (∀(i:Nat) x (j:Nat) v,L[i]? =some x->(enc x)[j]? =some v->∃u,ca[i*n+j]? =some u/\aC C.Fz v u)->
       ∃I,bU C (.kill d) (C.put d I)/\HS tab (C.put d I) ⟨h.next,(d,some (.arr X (L++M) enc e))::fh (.kill d) h.os⟩ (a1.new (.cells (ca++news) e n true bk))/\au (C.put d I) (.own d) (.sl a.next 0 (L.length+M.length) (.tail 0))/\Grow a (a1.new (.cells (ca++news) e n true bk))/\bS C h a [.kill d, .mod d] (C.put d I) ⟨h.next,(d,some (.arr X (L++M) enc e))::fh (.kill d) h.os⟩ (a1.new (.cells (ca++news) e n true bk)):=by
     intro ca a1 bk hn1 hold1 hkeep hbk hcl hcc;let I:BI:=⟨a.next,L.length+M.length,n,some (.tail 0)⟩
     obtain⟨r1,r2,r3⟩:=Hy hcl (fun i x hx=>by rw[<-hsz];exact g4 i x hx) hcc hM;obtain⟨hT,H'⟩:=H.renew hd hI0 I (o:= .arr X (L++M) enc e) (a':=a1.new (.cells (ca++news) e n true bk)) (fun i b hi hb=>by
         rw[AH.aF,Ae (by have:=H.wf _ _ hb;omega)];exact hkeep i b hi hb)
       (fun i b hi=>by
         rw[AH.aF]at hi;simp only[AH.bg];split at hi
         . omega
         . have:=H.wf _ _ (hold1 i b hi);omega)
       (fun _=> .inl (Aj _)) (by simp only[AH.bg];omega)
       (fun hT=>by
         refine⟨hn,hpos,by simp[I],r2,?_⟩;refine⟨ca++news,true,bk,by rw[AH.aF,Ai (by rw[hn1])],hbk,r1, .inl ⟨rfl,rfl⟩,fun i x j v hx hv=>?_⟩;obtain⟨w,w1,w2⟩:=r3 i x j v hx hv;exact⟨w,w1,w2.mono hT.1⟩)
     refine⟨I,hT,H', .own (I:=I) (fg _ _ _) rfl,⟨by simp only[AH.bg];omega,fun i o hi=>?_⟩,?_⟩
     . rw[AH.aF]at hi;split at hi
       . right;omega
       . exact .inl ⟨o,hold1 i o hi⟩
     . intro p o J hp hJ hc hnd;have hpd:p≠d:=fun e=>hnd (by simp[gm,e])
       obtain⟨b,hb⟩:=(H.at_ hp hJ).live hc;have hlt:=H.wf _ _ hb;refine⟨?_, .inl (hpk I _ p o J hp hJ hpd)⟩;rw[AH.aF,Ae (by omega),hkeep J.β b (fun hc0 e=>hpd (H.inj p d o _ J I0 hp hd hJ hI0 hc hc0 e)) hb,hb]
   cases hv with
   |pure hv=>cases hv
   | cR hI hc=>
     rw[hI0]at hI;cases hI;rw[hc]at g5;have hL0:=AF g5;subst hL0;obtain⟨I,q1,q2,q3,q4,q5⟩:=newrow [] a .rw rfl (fun i o h=>h) (fun i b _ h=>h) (by simp) (by simp) (fun i x j v hx=>by simp at hx);simp only[BC,Bf,A4]at q2 q3 q4;refine⟨I,_,_,?_,q1,q2,q3,q4,q5⟩;simp only[Am.aW,hbm,AB];have hr:(Nat.ble (M.length*by_) 16777216&&Nat.ble M.length 16777216)=true:=by
       have:=hroom;unfold mH at this;simpa using this
     rw[rb (rc hr),rb hz,rb (eW hn _ _ _)]
   | own hI hc=>
     rw[hI0]at hI;cases hI;rw[hc]at g5;obtain⟨ca,ext,bk,k1,k2,k3,k4,k5⟩:=g5;rw[hsz]at k1 k3 k5;rcases k4 with⟨rfl,rfl⟩|⟨rfl,h0⟩
     . obtain⟨I,q1,q2,q3,q4,q5⟩:=newrow ca (a.kill I0.β) bk.grown rfl (fun i o hi=>by
           rw[iP]at hi;split at hi
           . cases hi
           . exact hi) (fun i b hi hb=>by rw[iP,Ae (hi (by simp[hc]))];exact hb) (by cases bk<;>simp[BK.grown]) k3 k5
       refine⟨I,_,_,?_,q1,q2,q3,q4,q5⟩;have hlow:capLow a I0.β (.tail 0)= .ok L.length:=by
         simp only[capLow];rw[rb (eJ k1)];simp only;rw[rb (rc (by simp only[BF,AW];exact dZ hn0))];simp only[Bu];rw[k3];congr 1
         exact Nat.mul_div_cancel _ hpos
       simp only[Am.aW];rw[rb hlow,rb (eJ k1)];simp only;rw[rb (rc (by simp)),g3,rb (rc hroom),show Nat.ble (L.length+M.length) L.length=false from Ar.2 fun e=>by have:=Ag e;omega];simp only[AB];rw[rb (rc (by simp only[A4,Be];omega)),rb hz,rb (rc (by
         simp only[Bo,BF,Ab];exact⟨by simpa using k2,hM.one⟩)),show ca.take (L.length*n)=ca from A2 (by omega)]
       rw[rb (eW hn _ _ _)];rfl
     . have hL0:=AF h0;subst hL0;obtain⟨I,q1,q2,q3,q4,q5⟩:=newrow [] a .rw rfl (fun i o h=>h) (fun i b _ h=>h) (by simp) (by simp) (fun i x j v hx=>by simp at hx);simp only[BC,Bf,A4]at q2 q3 q4;refine⟨I,_,_,?_,q1,q2,q3,q4,q5⟩;have hlen0:I0.len=0:=by rw[g3];rfl
       simp only[Am.aW];rw[rb (show capLow a I0.β (.lit 0)= .ok 0 from rfl),rb (eJ k1)];simp only;rw[rb (rc (by simp)),hlen0,rb (rc (by have:=hroom;unfold mH at this;simpa using this)),show Nat.ble (0+M.length) 0=false from Ar.2 fun e=>by have:=Ag e;omega];simp only[AB];rw[rb (rc (by simp)),rb hz];simp only[DE,List.take_zero,BC,A4];rw[rb (eW hn _ _ _)]
theorem zM (H:HS tab C h a) {X:Type} {M:List X} {enc:X->List SV} {e n by_:Nat} {news:List AV} (hn:tab.siz.get e=some n) (hn0:n≠0)
   (hz:ib tab e n= .ok ()) (hroom:mH by_ M.length) (hM:Told C.Fz X M enc n news):
   ∃I v a',Am.aW tab a e n by_ .nils M.length news= .ok (v,a')/\C.le (C.put h.next I)/\HS tab (C.put h.next I) (h.new (.arr X M enc e)) a'/\au (C.put h.next I) (.own h.next) v/\Grow a a'/\bS C h a [] (C.put h.next I) (h.new (.arr X M enc e)) a':=by
 by_cases hm:M.length=0
 . let I:BI:=⟨0,0,n,none⟩
   obtain⟨h1,h2⟩:=H.rr (o:= .arr X M enc e) I rfl (fun hle=>⟨hn,by simp only[I];omega,by simp[I,hm],hM.each,hm⟩);exact⟨I, .nils,a,by simp[Am.aW,hm],h1,h2, .cR (I:=I) (fg _ _ _) rfl,Grow.refl a,fun p o J hp hJ hc _=>⟨rfl, .inl (by obtain⟨o2,g2⟩:=nH H (.arr X M enc e) p o hp;exact⟨o2,g2,h1.1 _ _ hJ⟩)⟩⟩
 . let I:BI:=⟨a.next,M.length,n,some (.tail 0)⟩
   obtain⟨h1,h2⟩:=H.new (ao:= .cells news e n true .rw) (o:= .arr X M enc e) I rfl (fun hle=>⟨hn,by simp only[I];omega,rfl,hM.each,news,true, .rw,by rw[AH.aF,Ai rfl],by simp,hM.len, .inl ⟨rfl,rfl⟩,fun i x j v hx hv=>by
    obtain⟨u,g1,g2⟩:=hM.cell i x j v hx hv;exact⟨u,g1,g2.mono hle.2⟩⟩)
   refine⟨I, .sl a.next 0 M.length (.tail 0),a.new (.cells news e n true .rw),?_,h1,h2, .own (I:=I) (fg _ _ _) rfl,Grow.new a _,bS.new H _ _ h1 (nH H _)⟩;simp only[Am.aW,dZ hm,AB];rw[rb (rc hroom),rb hz,rb (eW hn _ _ _)]
end
end
section
universe u v
variable [Inhabited aE]
section
variable {tab:aM} {view:TypeId->Option View} {C:Cx} {s:St} {ta:T AV} {a:AH} {h:SH}
theorem tb (s:St) (b p:Nat) (X:Type) (L:List X) (enc:X->List SV):((s.ev (.dy b X L enc)).del b).h.get p=if p=b then none else(s.h.get p).map (SO.on (.dy b X L enc)):=by
 obtain⟨ts,⟨n,os⟩,log⟩:=s;simp only[St.ev,St.del,SH.aI];by_cases e:p=b
 . simp[e]
 . simp only[Ae e];exact mz _ _ _ _
theorem CG:∀(l:List SV) (s:St) (p:Nat),s.h.get p=none->(eN l s).h.get p=none:=by
 intro l;induction l with
 |nil=>intro s p h;exact h
 | cons x l ih=>
  intro s p h
  cases x with
  |own b=>
   simp only[eN];split
   . refine ih _ p ?_;rw[tb];split
     . rfl
     . rw[h];rfl
   . exact ih s p h
  |_=>exact ih s p h
theorem vU:∀(l:List SV) (s:St) (C:Cx),FS C s.ts ta->HS tab C s.h a->∃C' new,(eN l s).log=s.log++new/\Tr C new C'/\HS tab C' (eN l s).h a/\FS C' (eN l s).ts ta/\
  cj C s.h a C' (eN l s).h/\eX new .nils= .nils/\ ∀d o,(eN l s).h.get d=some o->eX new (.own d)= .own d/\ ∀off n c,eX new (.sl d off n c)= .sl d off n c:=by
 intro l;induction l with
 |nil=>intro s C hF H;exact⟨C,[],by simp[eN],Tr.refl C,H,hF,cj.refl _ _ _,rfl,fun d o _=>⟨rfl,fun _ _ _=>rfl⟩⟩
 | cons x l ih=>
  intro s C hF H;have skip:eN (x::l) s=eN l s->∃C' new,(eN (x::l) s).log=s.log++new/\Tr C new C'/\HS tab C' (eN (x::l) s).h a/\FS C' (eN (x::l) s).ts ta/\
     cj C s.h a C' (eN (x::l) s).h/\eX new .nils= .nils/\ ∀d o,(eN (x::l) s).h.get d=some o->eX new (.own d)= .own d/\ ∀off n c,eX new (.sl d off n c)= .sl d off n c:=by
   intro e;rw[e];exact ih s C hF H
  cases x with
  |own b=>
   simp only[eN]at skip⊢;split
   . rename_i X L enc t hb;obtain⟨C1,e1,e2,e3,e4,_,e6⟩:=gZ hF H hb;obtain⟨C2,new,f1,f2,f3,f4,f7,f5,f6⟩:=ih _ C1 e4 e3;refine⟨C2,_,by rw[f1,e1,BA],e2.trans f2,f3,f4,e6.trans f7 f2.fz,?_,fun d o hd=>?_⟩
     . rw[o6];simp only[eX,SV.on];exact f5
     . have hne:d≠b:=by
         intro e;subst e;rw[CG l _ d (by rw[tb,Ai rfl])]at hd;cases hd
       obtain⟨g1,g2⟩:=f6 d o hd;constructor
       . rw[o6];simp only[eX,SV.on,dZ hne,AB];exact g1
       . intro off n c;rw[o6];simp only[eX,SV.on,dZ hne,AB];exact g2 off n c
   . exact ih s C hF H
  |_=>exact skip rfl
theorem Ga (s:St) (d:Nat) (o:SO):(((s.ev (.kill d)).bp d o).note (.mod d)).log=s.log++[.kill d, .mod d]/\(((s.ev (.kill d)).bp d o).note (.mod d)).h=⟨s.h.next,(d,some o)::fh (.kill d) s.h.os⟩/\
  (((s.ev (.kill d)).bp d o).note (.mod d)).ts=kX (.kill d) s.ts:=by
 obtain⟨ts,⟨n,os⟩,log⟩:=s;exact⟨by simp[St.ev,St.bp,St.note],rfl,rfl⟩
theorem St.iy (s:St) (o:SO):(s.new o).h=s.h.new o/\(s.new o).ts=s.ts/\(s.new o).log=s.log:=by
 obtain⟨ts,h,log⟩:=s;exact⟨rfl,rfl,rfl⟩
theorem bU.jv {C C':Cx} {d:Nat} (h:bU C (.kill d) C'):Tr C [.kill d, .mod d] C':=
 h.tr.trans (l:=[.kill d]) (bU.tr (e:= .mod d) ⟨fun _ _ h=>h,fun _ _ h=>h⟩)
theorem wQ (hF:FS C s.ts ta) (H:HS tab C s.h a) {d:Nat} {X:Type} {L M:List X} {enc:X->List SV} {e n by_:Nat} {u:AV} {news:List AV} {K:SV->St->Prop} (hd:s.h.get d=some (.arr X L enc e)) (hv:au C (.own d) u) (hn:tab.siz.get e=some n) (hn0:n≠0)
  (hz:ib tab e n= .ok ()) (hroom:mH by_ (L.length+M.length)) (hM:Told C.Fz X M enc n news) (hk:K (.own d) (((s.ev (.kill d)).bp d (.arr X (L++M) enc e)).note (.mod d))):
  aw tab C s ta a K (Am.aW tab a e n by_ u M.length news):=by
 obtain⟨I,v,a',h1,h2,h3,h4,h5,h6⟩:=zN H hd hv hn hn0 hz hroom hM;obtain⟨e1,e2,e3⟩:=Ga s d (.arr X (L++M) enc e);exact⟨_,_,v,a',hk,h1,⟨C.put d I,_,e1,h2.jv,h4,by rw[e2];exact h3,by rw[e3];exact hF.turns h2,by rw[e2];exact h6⟩,h5⟩
theorem uY (hF:FS C s.ts ta) (H:HS tab C s.h a) {X:Type} {M:List X} {enc:X->List SV} {e n by_:Nat} {news:List AV} {K:SV->St->Prop} (hn:tab.siz.get e=some n) (hn0:n≠0)
  (hz:ib tab e n= .ok ()) (hroom:mH by_ M.length) (hM:Told C.Fz X M enc n news) (hk:K (.own s.h.next) (s.new (.arr X M enc e))):aw tab C s ta a K (Am.aW tab a e n by_ .nils M.length news):=by
 obtain⟨I,v,a',h1,h2,h3,h4,h5,h6⟩:=zM H hn hn0 hz hroom hM;obtain⟨e1,e2,e3⟩:=s.iy (.arr X M enc e);exact⟨_,_,v,a',hk,h1,⟨_,[],by rw[e3];simp,h2.tr,h4,by rw[e1];exact h3,by rw[e2];exact hF.le h2,by rw[e1];exact h6⟩,h5⟩
theorem uP (l m:List Ev):gm (l++m)=gm l++gm m:=by
 induction l with
 |nil=>rfl
 |cons e l ih=>cases e<;>simp[gm,ih]
theorem aw.later {C1:Cx} {s1:St} {new:List Ev} {K:SV->St->Prop} {r:R (AV×AH)} (hl:s1.log=s.log++new) (ht:Tr C new C1) (hk:cj C s.h a C1 s1.h) (h:aw tab C1 s1 ta a K r):aw tab C s ta a K r:=by
 obtain⟨sv,s',v,a',h1,h2,⟨C',new',g1,g2,g3,g4,g5,g6⟩,h4⟩:=h;refine⟨sv,s',v,a',h1,h2,⟨C',new++new',by rw[g1,hl,BA],ht.trans g2,g3,g4,g5,?_⟩,h4⟩;intro p o I hp hI hc hn;rw[uP]at hn;rcases hk p o I hp hI hc with⟨o',q1,q2⟩|⟨b,q1,q2⟩
 . exact g6 p o' I q1 q2 hc (fun e=>hn (BV _ e))
 . exact⟨by rw[q1];exact g4.fz _ _ (g2.fz _ _ q2), .inr ⟨b,g2.fz _ _ q2⟩⟩
theorem vP (hF:FS C s.ts ta) (H:HS tab C s.h a) {e n by_:Nat} (hn:tab.siz.get e=some n) (hn0:n≠0) (hz:ib tab e n= .ok ()) {x:SV} {u w:AV} (hx:x= .nils->au C x u) (hx':∀d o,x= .own d->s.h.get d=some o->au C x u) {Y:Type} {M:List Y} {enc':Y->List SV} (hy:aC C.Fz (.aD Y M enc') w)
   {K:SV->St->Prop} (h:jq s e n by_ x Y M enc' K):∃m news,source a n w= .ok (m,news)/\aw tab C s ta a K (Am.aW tab a e n by_ u m news):=by
 unfold jq at h;split at h
 . obtain⟨he,h1⟩:=h;obtain⟨hr,hk⟩:=bC h1;obtain⟨news,g1,g2⟩:=vH H.fz hy hn0 he;rw[jJ (hx rfl)];exact⟨_,_,g1,uY hF H hn hn0 hz hr g2 hk⟩
 . rename_i d;split at h
   . rename_i X L enc e' hd;obtain⟨hee,h1⟩:=bC h;clear h;have hee:=Aa hee;subst hee;obtain⟨he,M',hM',h2⟩:=h1;obtain⟨hr,hk⟩:=bC h2;obtain⟨news,g1,g2⟩:=vH H.fz hy hn0 he
     cases hM';exact⟨_,_,g1,wQ hF H hd (hx' d _ rfl hd) hn hn0 hz hr g2 hk⟩
   . exact h.elim
 . exact h.elim
theorem EM (hF:FS C s.ts ta) (H:HS tab C s.h a) {e n by_ m:Nat} (hn:tab.siz.get e=some n) (hn0:n≠0) (hz:ib tab e n= .ok ()) {x:SV} {u:AV} (hx:x= .nils->au C x u) (hx':∀d o,x= .own d->s.h.get d=some o->au C x u) {cs:List SV} {ca:List AV} (hc:aH C cs ca)
   (hl:cs.length=m*n) (hp:cs.all jc=true) {K:SV->St->Prop} (h:kO view s e n by_ m x cs K):aw tab C s ta a K (Am.aW tab a e n by_ u m ca):=by
 unfold kO at h;split at h
 . split at h
   . rename_i V hV;obtain⟨l,h1,h2,h3⟩:=ya h;obtain⟨hr,hk⟩:=bC h3;rw[mf]at h1;have:=uY hF H hn hn0 hz hr (rT hn0 hc hl hp h1 h2) hk;rw[h1]at this;rw[jJ (hx rfl)];exact this
   . exact h.elim
 . rename_i d;split at h
   . rename_i X L enc e' hd;obtain⟨hee,h1⟩:=bC h;clear h;have hee:=Aa hee;subst hee;obtain⟨l,h1,h2,h3⟩:=ya h1;obtain⟨hr,hk⟩:=bC h3;rw[mf]at h1;have:=wQ hF H hd (hx' d _ rfl hd) hn hn0 hz hr (rT hn0 hc hl hp h1 h2) hk;rw[h1]at this;exact this
   . exact h.elim
 . exact h.elim
theorem EN (hF:FS C s.ts ta) (H:HS tab C s.h a) {e:TypeId} {x y:SV} {u w:AV} (hx:au C x u) (hy:au C y w) {K:SV->St->Prop} (h:sS tab view s e x y K):
   ∃n by_,tab.siz.get e=some n/\tab.byt.get e=some by_/\n≠0/\ ∃m news,source a n w= .ok (m,news)/\aw tab C s ta a K (Am.aW tab a e n by_ u m news):=by
 unfold sS at h;split at h
 . rename_i n by_ hn hby;refine⟨n,by_,hn,hby,?_⟩;obtain⟨hck,hh⟩:=bC h;clear h;simp only[Ab,AW]at hck;obtain⟨hn0,hzz⟩:=hck;have hn0:n≠0:=fun e=>by subst e;simp at hn0
   refine⟨hn0,?_⟩;have hz:ib tab e n= .ok ():=by
     split at hzz
     . rename_i z hz;obtain⟨zv,zc,g1,g2,g3⟩:=lr (C:=C) hz;unfold ib;rw[rb g1,rb g2];exact rc (by rw[<-g3.1];exact hzz)
     . cases hzz
   clear hzz;split at hh
   ·
     rename_i b off m cap;split at hh
     . rename_i cs0 t0 hb0;obtain⟨C1,new,f1,f2,f3,f4,f7,f5,f6⟩:=vU ((cs0.drop off).take (m*n)) s C hF H;have hx1:=f2.val _ _ hx;have hy1:=f2.val _ _ hy;generalize eN ((cs0.drop off).take (m*n)) s=s1 at*
       split at hh
       . rename_i cs t1 hb1;obtain⟨hck,hh⟩:=bC hh;simp only[Ab]at hck;have hle:=Ag hck.1;rw[(f6 b _ hb1).2]at hy1
         cases hy1 with
         |pure hy1=>cases hy1
         |sl hI=>
          rename_i I;obtain⟨hcap,ca,sz,k1,k2,_⟩:=f3.at_ hb1 hI;have hsub:=(k2.drop off).take (m*n);have hsrc:source a n (.sl I.β off m (.lit cap))= .ok (m,(ca.drop off).take (m*n)):=by
            have hr:readN a I.β off (m*n)= .ok ((ca.drop off).take (m*n)):=by
             unfold readN;rw[rb (eJ k1)];simp only;rw[rb (rc (by simp only[Be];rw[<-k2.1];exact hle))]
            simp only[source];rw[rb hr]
          refine⟨m,_,hsrc,aw.later f1 f2 f7 (EM f4 f3 hn hn0 hz (fun e=>?_) (fun d o e hd=>?_) hsub (by simp;omega) hck.2 hh)⟩
          . subst e;rw[f5]at hx1;exact hx1
          . subst e;rw[(f6 d o hd).1]at hx1;exact hx1
       . exact hh.elim
     . exact hh.elim
   . exact vP hF H hn hn0 hz (fun _=>hx) (fun _ _ _ _=>hx) (gT hy rfl) hh
   ·
     rename_i b;split at hh
     . rename_i Y M enc' t' hb;obtain⟨C1,e1,e2,e3,e4,e5,e6⟩:=gZ hF H hb;have hx1:=e2.val _ _ hx;obtain⟨m,news,g1,g2⟩:=vP (u:=u) e4 e3 hn hn0 hz (fun e=>by subst e;exact hx1) (fun d o e hd=>by
         subst e;have hne:d≠b:=by
          intro e;subst e;rw[tb,Ai rfl]at hd;cases hd
         simp only[eX,SV.on,dZ hne,AB]at hx1;exact hx1) (e5 w hy) hh
       exact⟨m,news,g1,g2.later e1 e2 e6⟩
     . exact hh.elim
   . split at hh
     . rw[jJ hy,jJ hx];exact⟨0,[],rfl,by simpa [Am.aW]using aw.same hF H (.pure .nils) hh⟩
     . exact hh.elim
   . exact hh.elim
 . exact h.elim
end
end
section
universe u v
variable [Inhabited aE]
section
variable {tab:aM} {view:TypeId->Option View} {C:Cx} {s:St} {ta:T AV} {a:AH} {h:SH}
theorem xX {k:IntKind}:∀{l:List SV} {m:List AV} {x:Int} {sv:SV},aH C l m->jx k x l=some sv->∃v,lz k x m= .ok v/\au C sv v:=by
 intro l;induction l with
 |nil=>intro m x sv hs h;cases m with
  |nil=>cases h;exact⟨_,rfl, .pure (.int _ _)⟩
  |cons=>have:=hs.1;simp at this
 | cons y l ih=>intro m x sv hs h;cases m with
  |nil=>have:=hs.1;simp at this
  |cons w m=>
   cases y<;>simp only[jx]at h<;>first|(cases h;done)|skip
   obtain⟨h1,h2⟩:=hs.head;rw[fy h1];simp only[lz];exact ih h2 h
theorem xW {k:IntKind}:∀{l:List SV} {m:List AV} {x:Int} {sv:SV},aH C l m->jw k x l=some sv->∃v,ly k x m= .ok v/\au C sv v:=by
 intro l;induction l with
 |nil=>intro m x sv hs h;cases m with
  |nil=>cases h;exact⟨_,rfl, .pure (.int _ _)⟩
  |cons=>have:=hs.1;simp at this
 | cons y l ih=>intro m x sv hs h;cases m with
  |nil=>have:=hs.1;simp at this
  |cons w m=>
   cases y<;>simp only[jw]at h<;>first|(cases h;done)|skip
   obtain⟨h1,h2⟩:=hs.head;rw[fy h1];simp only[ly];exact ih h2 h
theorem xV (H:HS tab C s.h a) {e:TypeId} {x:SV} {v:AV} (hx:au C x v) {n:Nat} (hn:kW s x=some n):lenOf a (.slice e) v= .ok n:=by
 unfold kW at hn;split at hn
 . cases hn;rw[jJ hx];rfl
 . cases hn
   cases hx with
   | pure hx=>cases hx with
     |bt h0 hv=>
      rw[h0];rcases hv with rfl|⟨b,off,l,n,k,rfl⟩|⟨a,c,rfl⟩<;>rfl
     |aD b off cap cs e sz ext bk u hb hs hl hn hc h1 h2=>rfl
 . cases hn
   cases hx with
   |pure hx=>cases hx
   |sl hI=>rfl
 . rename_i b;split at hn
   . rename_i X L enc t hb
     cases hn
     cases hx with
     |pure hx=>cases hx
     |cR hI hc=>
      obtain⟨_,_,g3,_,g5⟩:=H.at_ hb hI;rw[hc]at g5;rw[g5];rfl
     |own hI hc=>
      obtain⟨_,_,g3,_,g5⟩:=H.at_ hb hI;simp only[lenOf];rw[g3]
   . cases hn
 . cases hn
theorem Cm (hF:FS C s.ts ta) (H:HS tab C s.h a) {b:Builtin} {ats:Array TypeId} {l:List SV} {vs:List AV} (hl:aH C l vs) {K:SV->St->Prop} (h:mm tab view s b ats l K):aw tab C s ta a K (Am.builtin tab b ats vs a):=by
 unfold mm at h;split at h
 ·
   rename_i x;have hv:∃v,vs=[v]/\au C x v:=by
    cases vs with
    |nil=>have:=hl.1;simp at this
    | cons v vs=>cases vs with
      |nil=>exact⟨v,rfl,hl.head.1⟩
      |cons=>have:=hl.1;simp at this
   obtain⟨v,rfl,hx⟩:=hv;unfold Am.builtin;simp only
   cases ht:ats[0]? with
   |none=>rw[ht]at h;simp at h
   |some t=>
    rw[ht]at h;simp only[Bw]at h;rw[rb (ro rfl)];split at h
    . rename_i hg;split at h
      . rw[eR hx,rb (show und tab t=_ from ro hg)];exact aw.same hF H (.pure (.int _ _)) h
      . exact h.elim
    . rename_i e hg;obtain⟨n,h1,h2⟩:=bW h;rw[rb (show und tab t=_ from ro hg)];simp only;rw[rb (xV H hx h1)];exact aw.same hF H (.pure (.int _ _)) h2
    . exact h.elim
 ·
   rename_i x y;have hv:∃u w,vs=[u,w]/\au C x u/\au C y w:=by
    cases vs with
    |nil=>have:=hl.1;simp at this
    | cons v vs=>cases vs with
      |nil=>have:=hl.1;simp at this
      | cons w vs=>cases vs with
        |nil=>exact⟨v,w,rfl,hl.head.1,hl.head.2.head.1⟩
        |cons=>have:=hl.1;simp at this
   obtain⟨u,w,rfl,hx,hy⟩:=hv
   cases ht:ats[0]? with
   |none=>rw[ht]at h;simp at h
   |some t=>
    cases ht1:ats[1]? with
    |none=>rw[ht,ht1]at h;simp at h
    | some t1=>
      rw[ht,ht1]at h;simp only[Bw]at h;split at h
      . rename_i e e' hg hg';obtain⟨n,by_,hn,hby,hn0,m,news,h1,h2⟩:=EN hF H hx hy h;unfold Am.builtin;simp only;rw[ht,ht1,rb (show R.of "append" (some t)= .ok t from rfl),rb (show R.of "append" (some t1)= .ok t1 from rfl),rb (show und tab t1=_ from ro hg')];simp only;rw[rb (show und tab t=_ from ro hg)];simp only;rw[rb (show siz tab e=_ from ro hn),rb (show R.of "byt" (tab.byt.get e)= .ok by_ from ro hby),rb (rc (by simp only[AW];exact dZ hn0)),rb h1];exact h2
      . exact h.elim
 ·
   rename_i k x l
   cases vs with
   |nil=>have:=hl.1;simp at this
   |cons v vs=>
    obtain⟨h1,h2⟩:=hl.head;rw[fy h1];obtain⟨sv,h3,h4⟩:=bW h;obtain⟨v,h5,h6⟩:=xX h2 h3;unfold Am.builtin;simp only;rw[rb h5];exact aw.same hF H h6 h4
 ·
   rename_i k x l
   cases vs with
   |nil=>have:=hl.1;simp at this
   |cons v vs=>
    obtain⟨h1,h2⟩:=hl.head;rw[fy h1];obtain⟨sv,h3,h4⟩:=bW h;obtain⟨v,h5,h6⟩:=xW h2 h3;unfold Am.builtin;simp only;rw[rb h5];exact aw.same hF H h6 h4
 . exact h.elim
theorem sJ (hF:FS C s.ts ta) (H:HS tab C s.h a) {cs:List SV} {ca:List AV} (hc:aH C cs ca) (e n:Nat) (hn:tab.siz.get e=some n) {K:SV->St->Prop} {sv:SV} {v:AV} (hv:∀C':Cx,∀I,C'.ρ s.h.next=some I->I.β=a.next->au C' sv v) (hk:K sv (s.new (.cells cs e))):
  aw tab C s ta a K (.ok (v,a.new (.cells ca e n false .rw))):=by
 let I:BI:=⟨a.next,0,n,some (.lit 0)⟩
 obtain⟨h1,h2⟩:=H.new (ao:= .cells ca e n false .rw) (o:= .cells cs e) I rfl (fun hle=>⟨rfl,ca,n,by rw[AH.aF,Ai rfl],hc.le hle,hn⟩);obtain⟨e1,e2,e3⟩:=s.iy (.cells cs e);exact⟨sv,_,v,_,hk,rfl,⟨C.put s.h.next I,[],by rw[e3];simp,h1.tr,hv _ I (fg _ _ _) rfl,by rw[e1];exact h2,by rw[e2];exact hF.le h1,by rw[e1];exact bS.new H _ _ h1 (nH H _)⟩,Grow.new a _⟩
theorem xQ {l:List SV} {m:List AV} (h:aH C l m):∀n,aH C (lE n l) (rep n m):=by
 intro n;induction n with
 |zero=>exact aH.nil
 |succ n ih=>exact h.append ih
theorem zD (hF:FS C s.ts ta) (H:HS tab C s.h a) {t:TypeId} {len:Nat} {ps:List (Nat×SV)} {vs:List (Nat×AV)} (hv:vs.map (·.1)=ps.map (·.1)) (hs:aH C (ps.map (·.2)) (vs.map (·.2))) {K:SV->St->Prop} (h:pe tab view s t len ps K):
   aw tab C s ta a K (Am.buildSlice tab a t len vs):=by
 unfold pe at h;split at h
 . rename_i e hg;split at h
   . rename_i n z hn hz;obtain⟨hck,h1⟩:=bC h;clear h;simp only[Ab]at hck;obtain⟨zv,zc,g1,g2,g3⟩:=lr (C:=C) hz;have hzl:(Nat.beq zc.length n)=true:=by rw[<-g3.1];exact hck.2
     unfold Am.buildSlice;rw[rb (show und tab t=_ from ro hg)];simp only;rw[rb (show siz tab e=_ from ro hn),rb (rc hck.1),rb g1,rb g2,rb (rc hzl)];by_cases hl0:len=0
     . subst hl0;simp only[Bo,AY]at h1;obtain⟨hck2,h2⟩:=bC h1;clear h1;simp only[Ab,List.isEmpty_iff,AW]at hck2;obtain⟨rfl,hn0⟩:=hck2;have hn0:n≠0:=fun e=>by subst e;simp at hn0
       cases vs with
       |cons=>simp at hv
       |nil=>
        split at h2
        . rename_i V hV;simp only[D2,rep,fill];rw[rb (show(R.ok ([]:List AV))= .ok []from rfl),rb (eW hn _ _ _)];let I:BI:=⟨a.next,0,n,some (.lit 0)⟩
          obtain⟨q1,q2⟩:=H.new (ao:= .cells [] e n false .rw) (o:= .arr V.X [] V.enc e) I rfl (fun hle=>⟨hn,by simp only[I];omega,rfl,fun i x hx=>by simp at hx,[],false, .rw,by rw[AH.aF,Ai rfl],by simp,by simp, .inr ⟨rfl,rfl⟩,fun i x j v hx=>by simp at hx⟩);obtain⟨e1,e2,e3⟩:=s.iy (.arr V.X [] V.enc e);exact⟨_,_,_,_,h2,rfl,⟨C.put s.h.next I,[],by rw[e3];simp,q1.tr, .own (I:=I) (fg _ _ _) rfl,by rw[e1];exact q2,by rw[e2];exact hF.le q1,by rw[e1];exact bS.new H _ _ q1 (nH H _)⟩,Grow.new a _⟩
        . exact h2.elim
     . rw[dZ hl0]at h1;simp only[AB]at h1;obtain⟨cs,h2,hk⟩:=bW h1;obtain⟨ca,h3,h4⟩:=pO (qs:=vs.map fun x=>(x.1*n,n,x.2)) (xQ g3 len) (by
        simp only[Bp];have:=AN (List.map (fun i=>(i*n,n))) hv;simpa [Bp,BO]using this) (by simpa [Bp,BO]using hs) h2
       rw[rb h3,rb (eW hn _ _ _)];exact sJ hF H h4 e n hn (fun C' I hI hb=>by rw[<-hb];exact .sl hI) hk
   . exact h.elim
 . exact h.elim
theorem cz {ts:T AV} {x:Operand} {v:AV} (h:ev ts x= .ok v) {β:Type} (f:AV->R β):(ev ts x>>=f)=f v:=rb h f
theorem Jr (b:Nat) (C:Cx):Tr C [.mod b] C:=bU.tr (e:= .mod b) ⟨fun _ _ h=>h,fun _ _ h=>h⟩
theorem pD {t:TypeId} {f:Nat} {fd:Field} (h:qe tab t f=some fd):mE tab t f= .ok fd:=by
 unfold qe at h;unfold mE;split at h
 . rename_i fs hg;rw[rb (show und tab t=_ from ro hg)];exact ro h
 . cases h
theorem JN (hF:FS C s.ts ta) (H:HS tab C s.h a) {o:Oper} {K:SV->St->Prop} (h:ik tab view s o K):aw tab C s ta a K (df tab ta a o):=by
 obtain⟨dst,op,type,pos,after,guard⟩:=o;unfold ik at h;unfold df;have same1:∀{x:Operand} {K':SV->Prop},so (dE s.ts x) K'->∃sv v,ev ta x= .ok v/\au C sv v/\K' sv:=by
  intro x K' h;obtain⟨sv,h1,h2⟩:=bW h;obtain⟨v,h3,h4⟩:=gA hF h1;exact⟨sv,v,h3,h4,h2⟩
 cases op<;>simp only at h⊢
 case move x=>
  obtain⟨sv,v,h3,h4,h2⟩:=same1 h;rw[cz h3];exact aw.same hF H h4 h2
 case assign x=>
  obtain⟨sv,v,h3,h4,h2⟩:=same1 h;rw[cz h3];exact aw.same hF H h4 h2
 case pick c x y=>
  split at h
  . rename_i p hc;obtain⟨v,h3,h4⟩:=gA hF hc;rw[iZ h4]at h3;rw[cz h3];split at h
    . rename_i p1 p2 hx hy;obtain⟨u,g1,g2⟩:=gA hF hx;obtain⟨w,g3,g4⟩:=gA hF hy;rw[iZ g2]at g1;rw[iZ g4]at g3
      cases p
      . simp only;rw[cz g3];exact aw.same hF H (.pure (.bool _)) h
      . simp only;rw[cz g1];exact aw.same hF H (.pure (.bool _)) h
    . rcases qG h with⟨rfl,h⟩|⟨rfl,h⟩
      . obtain⟨sv,v,h3,h4,h2⟩:=same1 h;simp only;rw[cz h3];exact aw.same hF H h4 h2
      . obtain⟨sv,v,h3,h4,h2⟩:=same1 h;simp only;rw[cz h3];exact aw.same hF H h4 h2
  . exact h.elim
 case alloc e=>
  obtain⟨n,hn,h⟩:=bW h;obtain⟨cs,h1,h2⟩:=bW h;obtain⟨zv,zc,g1,g2,g3⟩:=lr (C:=C) h1;rw[rb g1,rb g2,rb (eW hn _ _ _)];exact sJ hF H g3 e n hn (fun C' I hI hb=>by rw[<-hb];exact .ptr hI) h2
 case box e x=>
  obtain⟨n,hn,h⟩:=bW h;obtain⟨sv,v,h3,h4,h2⟩:=same1 h;obtain⟨hk,h2⟩:=bC h2;obtain⟨l,g1,g2⟩:=pz h4 hk;rw[cz h3,rb g1,rb (eW hn _ _ _)];exact sJ hF H g2 e n hn (fun C' I hI hb=>by rw[<-hb];exact .ptr hI) h2
 case build t ps=>
  obtain⟨l,h1,h2⟩:=bW h;obtain⟨sv,h3,h4⟩:=bW h2;obtain⟨vs,g1,g2,g3⟩:=pn hF h1;obtain⟨v,g4,g5⟩:=v7 g2 g3 h3;rw[rb g1,rb g4];exact aw.same hF H g5 h4
 case buildSlice t n ps=>
  obtain⟨l,h1,h2⟩:=bW h;obtain⟨vs,g1,g2,g3⟩:=pn hF h1;rw[rb g1];exact zD hF H g2 g3 h2
 case load t x=>
  obtain⟨sv,v,h3,h4,h2⟩:=same1 h;obtain⟨b,off,u,su,rfl,g1,g2,g3⟩:=sI H h4 h2;rw[cz h3];simp only;rw[rb g1];exact aw.same hF H g2 g3
 case store t x y=>
  obtain⟨sv,v,h3,h4,h2⟩:=same1 h;obtain⟨sw,w,g3,g4,g2⟩:=same1 h2;obtain⟨b,off,a',h',rfl,k1,k2,k3,k4,k5⟩:=FT H h4 g4 g2;rw[cz h3];simp only;rw[cz g3,rb k1];obtain⟨ts,hh,log⟩:=s;refine⟨_,_,_,_,k3,rfl,⟨C,qR sv,rfl,?_, .pure (.aO rfl (fun i c v hc=>by simp at hc)),k2,hF,k5⟩,k4⟩
  cases sv<;>first|exact Jr _ C|exact Tr.refl C
 case nilCheck x=>
  obtain⟨sv,v,h3,h4,h2⟩:=same1 h;rw[cz h3];split at h2
  . cases h4 with
    |pure h=>cases h
    |ptr hI=>exact aw.same hF H (.ptr hI) h2
  . cases h4 with
    |pure h=>cases h
    |bo hI hc=>exact aw.same hF H (.bo hI hc) h2
  . cases h4 with
    | pure h=>cases h with
      |bB b base ca e sz ext bk u hb hl h1 h2'=>exact aw.same hF H (.pure (.bB b base ca e sz ext bk u hb hl h1 h2')) h2
  . cases h4 with
    | pure h=>cases h with
      |fn h1 h2' h3' h4'=>exact aw.same hF H (.pure (.fn h1 h2' h3' h4')) h2
    |fn h1 h2' h3' h4'=>exact aw.same hF H (.fn h1 h2' h3' h4') h2
  . exact h2.elim
 case binOp op t x y _=>
  obtain⟨sv,v,h3,h4,h2⟩:=same1 h;obtain⟨sw,w,g3,g4,g2⟩:=same1 h2;rw[cz h3,cz g3];exact aw.val hF H (xT g2 h4 g4)
 case unOp op _ x=>
  obtain⟨sv,v,h3,h4,h2⟩:=same1 h;rw[cz h3];exact aw.val hF H (yA h2 h4)
 case convert x y z=>
  obtain⟨sv,v,h3,h4,h2⟩:=same1 h;rw[cz h3];exact GG hF H h4 h2
 case makeFunc fn first captured=>
  split at h
  . obtain⟨xs,h1,h2⟩:=bW h;obtain⟨ys,h3,h4⟩:=bW h2;obtain⟨us,g1,g2⟩:=lv hF h1;obtain⟨vs,g3,g4⟩:=lv hF h3;simp only;rw[rb g1,rb g3];exact aw.same hF H (.fn g2.1 g4.1 g2.2 g4.2) h4
  . exact h.elim
 case slice t x lo hi mx=>
  cases mx with
  |some m=>exact h.elim
  | none=>
    obtain⟨sv,v,h3,h4,h2⟩:=same1 h;rw[cz h3];exact FP hF H h4 h2
 case fieldAddr st x f=>
  obtain⟨fd,h1,h2⟩:=bW h;obtain⟨hck,h3⟩:=bC h2;obtain⟨sv,v,h4,h5,h6⟩:=same1 h3;rw[rb (pD h1)];split at hck
  . rename_i n hn;rw[rb (show siz tab fd.type=_ from ro hn),rb (rc hck),cz h4];split at h6
    . cases h5 with
      |pure h=>cases h
      |ptr hI=>exact aw.same hF H (.ptr hI) h6
    . cases h5 with
      |pure h=>cases h
      |bo hI hc=>simp only[BP];exact aw.same hF H (.bo hI hc) h6
    . cases h5 with
      | pure h=>cases h with
        |bB b base ca e sz ext bk u hb hl h1 h2'=>simp only[BP];exact aw.same hF H (.pure (.bB b base ca e sz ext bk u hb hl h1 h2')) h6
    . exact h6.elim
  . cases hck
 case field t x f=>
  obtain⟨fd,h1,h2⟩:=bW h;obtain⟨sv,v,h4,h5,h6⟩:=same1 h2;rw[rb (pD h1),cz h4];split at h6
  . obtain⟨us,rfl,g1⟩:=iE h5;obtain⟨su,g2,g3⟩:=bW h6;obtain⟨u,g4,g5⟩:=mr g1 g2;simp only;rw[rb g4];exact aw.same hF H g5 g3
  . exact h6.elim
 case indexAddr t x ix=>
  obtain⟨sj,vj,h1,h2,h3⟩:=same1 h;obtain⟨i,h4,h5⟩:=nR h3 h2;obtain⟨sv,v,h6,h7,h8⟩:=same1 h5;rw[cz h1,rb h4];split at h8
  . rename_i len e b off hg;split at h8
    . rename_i n hn;obtain⟨g1,g2⟩:=bC h8;rw[rb (show und tab t=_ from ro hg),cz h6]
      cases h7 with
      |pure h=>cases h
      |ptr hI=>simp only;rw[rb (rc g1),rb (show siz tab e=_ from ro hn)];exact aw.same hF H (.ptr hI) g2
    . exact h8.elim
  . rename_i e b off len cap hg;split at h8
    . rename_i n hn;obtain⟨g1,g2⟩:=bC h8;rw[rb (show und tab t=_ from ro hg),cz h6]
      cases h7 with
      |pure h=>cases h
      |sl hI=>simp only;rw[rb (rc g1),rb (show siz tab e=_ from ro hn)];exact aw.same hF H (.ptr hI) g2
    . exact h8.elim
  . rename_i e X L enc hg;split at h8
    . rename_i n hn;obtain⟨x,g1,g2⟩:=bW h8;obtain⟨g2,g3⟩:=bC g2;have g2:=Aa g2;have hi:=(Ac.1 g1).1;obtain⟨b,off,cap,cs,e',sz,ext,bk,rfl,hb,hs,hl,hsz,hc,hcell⟩:=qi (gT h7 rfl) (by rintro rfl;simp at hi);obtain⟨sz0,ext0,hb,hx0⟩:=hb;have hszn:sz=n:=by rw[<-hsz i x g1];exact g2
      subst hszn;rw[rb (show und tab t=_ from ro hg),cz h6];simp only;rw[rb (rc (by simpa using hi)),rb (show siz tab e=_ from ro hn)];refine aw.same hF H (.pure ?_) g3;refine .bB b (off+i*sz) cs e' sz0 ext0 bk (fun j=>(cs[off+i*sz+j]?).getD (.aO [])) hb ?_ ?_ ?_
      . rw[g2];have:i*sz+sz<=L.length*sz:=by
         calc i*sz+sz=(i+1)*sz:=by rw[A7,Dd]
          _<=L.length*sz:=A6 _ hi
        omega
      . intro j v hv;obtain⟨u,q1,_⟩:=hcell i x j v g1 hv;rw[q1];rfl
      . intro j v hv;obtain⟨u,q1,q2⟩:=hcell i x j v g1 hv;rw[q1];exact q2
    . exact h8.elim
  . rename_i e b hg;split at h8
    . rename_i n X L enc e' hn hb;obtain⟨g1,g2⟩:=bC h8;simp only[Ab]at g1;have hee:=Aa g1.1;subst hee;have hi:i<L.length:=by simpa using g1.2
      rw[rb (show und tab t=_ from ro hg),cz h6]
      cases h7 with
      |pure h=>cases h
      | cR hI hc=>
        obtain⟨_,_,_,_,k5⟩:=H.at_ hb hI;rw[hc]at k5;omega
      | own hI hc=>
        rename_i I c;obtain⟨k1,k2,k3,_,k5⟩:=H.at_ hb hI;have hsz:I.sz=n:=by rw[hn]at k1;exact(BT k1).symm
        simp only;rw[rb (rc (by rw[k3];simpa using hi)),rb (show siz tab e=_ from ro hn)];have hh:au C (.bo b i 0) (.ptr I.β (i*I.sz+0)):= .bo hI (by simp[hc]);rw[hsz,A9]at hh;rw[A4];exact aw.same hF H hh g2
    . exact h8.elim
  . exact h8.elim
 case index t x ix=>
  obtain⟨sj,vj,h1,h2,h3⟩:=same1 h;obtain⟨i,h4,h5⟩:=nR h3 h2;obtain⟨sv,v,h6,h7,h8⟩:=same1 h5;rw[cz h1,rb h4];split at h8
  . rename_i len e cs hg;split at h8
    . rename_i n hn;obtain⟨g1,g2⟩:=bC h8;obtain⟨su,g3,g4⟩:=bW g2;obtain⟨us,rfl,g5⟩:=iE h7;obtain⟨u,g6,g7⟩:=mr g5 g3;rw[rb (show und tab t=_ from ro hg),cz h6];simp only;rw[rb (rc g1),rb (show siz tab e=_ from ro hn),rb g6];exact aw.same hF H g7 g4
    . exact h8.elim
  . rename_i c hg;obtain⟨b,g1,g2⟩:=bW h8;rw[rb (show und tab t=_ from ro hg),cz h6,eR h7];simp only;rw[rb (ro g1)];exact aw.same hF H (.pure (.int _ _)) g2
  . exact h8.elim
 case extract t i=>
  obtain⟨sv,v,h6,h7,h8⟩:=same1 h;rw[cz h6];split at h8
  . obtain⟨us,rfl,g5⟩:=ql h7;obtain⟨su,g3,g4⟩:=bW h8;obtain⟨u,g6,g7⟩:=g5.get g3;simp only;rw[rb (ro g6)];exact aw.same hF H g7 g4
  . exact h8.elim
 case call c=>
  split at h
  . rename_i b hb;obtain⟨l,h1,h2⟩:=bW h;obtain⟨vs,g1,g2⟩:=lv hF h1;rw[hb];simp only;rw[rb g1];exact Cm hF H g2 h2
  . exact h.elim
 all_goals exact h.elim
end
end
section
universe u v
variable [Inhabited aE]
def om (f:Nat->Option AO):Nat->T AO
 |0=> .e
 |n+1=>(om f n).set n (f n)
theorem FD (f:Nat->Option AO):∀n i,(om f n).get i=if i<n then f i else none:=by
 intro n;induction n with
 |zero=>intro i;simp[om,fF]
 |succ n ih=>
  intro i;simp only[om,T.aI,ih];by_cases h:i=n
  . subst h;simp
  . rw[Ae h];by_cases h2:i<n
    . rw[Ai h2,Ai (by omega)]
    . rw[Ae h2,Ae (by omega)]
def ofFn (next:Nat) (f:Nat->Option AO):AH:={t:=om f next,next}
theorem lq (next:Nat) (f:Nat->Option AO) (i:Nat):(ofFn next f).get i=if i<next then f i else none:=FD f next i
section
variable {P:Program} {tab:aM}
theorem da.frame {fr:ae} {h h0:AH} {Θ:AV->AH->Prop} (hgo:da P {fr,cs:=[],h:=h0} Θ) (hs:∀i o,h0.get i=some o->h.get i=some o) (hn:h0.next=h.next):
   da P {fr,cs:=[],h} fun v h2=>∃h1,Θ v h1/\h2.next=h1.next/\h.next<=h1.next/\(∀i o,h1.get i=some o->i<h1.next)/\ ∀i o,h2.get i=some o↔(h1.get i=some o\/(h.get i=some o/\h0.get i=none/\h1.get i=none)):=by
 classical
 intro D E K base frC csC w hR hB;have hdom:∀i o,h.get i=some o->i<h.next:=(hR.all E (ag.refl _ _)).1.cN;have hd0:∀i o,h0.get i=some o->i<h0.next:=fun i o hi=>by rw[hn];exact hdom i o (hs i o hi)
 have hRc:Rel D E (Am.Rest E h h0 K) {fr,cs:=[],h:=h0} base frC csC w:=by
   refine⟨fun E' he=>?_,fun i hi=>by simp only;rw[hn];exact hR.cN i hi,hR.wf⟩;obtain⟨g1,g2,g3⟩:=hR.all E' he;refine⟨?_,g2,g3⟩;rw[<-hR.dx he];exact g1.part hs hd0
 obtain⟨v,h1,hΘ,fr1,w',vC,E',D',s1,s2,s3,s4,s5,s6,s7,s8,s9,s10⟩:=hgo D E _ base frC csC w hRc hB.rest;simp only at s9;have hdom1:=(s4 E' (ag.refl _ _)).1.cN;let h2:AH:=ofFn h1.next fun i=>match h1.get i with
   |some o=>some o
   |none=>if(h0.get i).isNone then h.get i else none
 have hg2:∀i o,h2.get i=some o↔(h1.get i=some o\/(h.get i=some o/\h0.get i=none/\h1.get i=none)):=by
   intro i o;simp only[h2,lq];constructor
   . intro hh;split at hh
     . split at hh
       . rename_i o' ho';cases hh;exact .inl ho'
       . rename_i ho';split at hh
         . rename_i hz;exact .inr ⟨hh,by simpa using hz,ho'⟩
         . cases hh
     . cases hh
   . rintro(hh|⟨h3,h4,h5⟩)
     . rw[Ai (hdom1 i o hh),hh]
     . have:=hdom i o h3;rw[Ai (by omega),h5];simp[h4,h3]
 refine⟨v,h2,⟨h1,hΘ,rfl,by omega,hdom1,hg2⟩,fr1,w',vC,E',D',s1,s2,s3,?_,s5,s6,s7,s8.part,by simp only;rw[<-hn];exact s9,fun i hi=>by simp only;rw[<-hn];exact s10 i hi⟩;intro E'' he';obtain⟨g1,g2⟩:=s4 E'' he';have hag:=s5.trans he' s6;obtain⟨k1,k2,k3⟩:=hR.all E'' hag;refine⟨k1.join (by rw[hR.dx hag];exact g1) (by rw[hR.dx hag];exact s8) (fun i o hi=>((hg2 i o).1 hi).imp id (fun x=>⟨x.1,x.2.1⟩)) (fun i o hi=>?_),g2⟩;rcases(hg2 i o).1 hi with g|⟨g,_,_⟩
 . exact g1.cN i o g
 . have:=hdom i o g;show i<h1.next
   omega
def e9 (tab:aM) (C0:Cx) (h0:SH) (a0:AH) (Q:SV->St->Prop) (v:AV) (a':AH):Prop:=
 ∃sv s' C',Q sv s'/\au C' sv v/\HS tab C' s'.h a'/\Tr C0 s'.log C'/\Grow a0 a'/\bS C0 h0 a0 s'.log C' s'.h a'
def bq (P:Program) (tab:aM) (g:FuncId) (C:aR):Prop:=
 ∀ fn body,tab.fns.get g=some fn->fn.body=some body->∀y,C.pre y->∀(Fz:Nat->Option AO) (a:AH) (avs:List AV),(∀i o,Fz i=some o->a.get i=some o)->(∀i o,a.get i=some o->i<a.next)->
  (C.args y).length=avs.length->(∀(i:Nat) s v,(C.args y)[i]? =some s->avs[i]? =some v->aC Fz s v)->
  da P {fr:=ae.enter fn g body avs .normal,cs:=[],h:=a} fun v a'=>∃Fz':Nat->Option AO,(∀i o,Fz i=some o->Fz' i=some o)/\(∀i o,Fz' i=some o->a'.get i=some o)/\aC Fz' (C.res y) v/\Grow a a'/\
   (∀i o,a.get i=some o->a'.get i=some o)/\(∀i o,a'.get i=some o->i<a'.next)/\ ∀i o,Fz' i=some o->Fz i=some o\/a.next<=i
theorem bq.of {g:FuncId} {C:aR} (h:∀fn body,tab.fns.get g=some fn->fn.body=some body->∀y,C.pre y->∀(C0:Cx) (a:AH) (avs:List AV),C0.ρ=(fun _=>none)->HS tab C0 ⟨0,[]⟩ a->
     (C.args y).length=avs.length->(∀(i:Nat) s v,(C.args y)[i]? =some s->avs[i]? =some v->aC C0.Fz s v)->da P {fr:=ae.enter fn g body avs .normal,cs:=[],h:=a} (e9 tab C0 ⟨0,[]⟩ a fun v s=>
       (∀(C':Cx) (a':AH) (av:AV),HS tab C' s.h a'->au C' v av->∃Fz':Nat->Option AO,(∀i o,C'.Fz i=some o->Fz' i=some o)/\(∀i o,Fz' i=some o->a'.get i=some o)/\aC Fz' (C.res y) av))):bq P tab g C:=by
 intro fn body hfn hb y hy Fz a avs hfz hwf hlen hav;let h0:AH:=ofFn a.next Fz
 have hg0:∀i,h0.get i=Fz i:=by
   intro i;simp only[h0,lq];split
   . rfl
   . rename_i hi
     cases hz:Fz i with
     |none=>rfl
     |some o=>exact absurd (hwf i o (hfz i o hz)) hi
 let C0:Cx:=⟨fun _=>none,Fz⟩
 have H0:HS tab C0 ⟨0,[]⟩ h0:=by
   refine⟨fun p o hp=>by simp[SH.get,look]at hp,fun p q o o' I J hp=>by simp[SH.get,look]at hp,fun i o hi=>by rw[hg0];exact hi,fun p o I hp=>by simp[SH.get,look]at hp,fun p I hp=>by simp[C0]at hp,fun i o hi=>?_⟩;rw[hg0]at hi;exact hwf i o (hfz i o hi)
 have:=h fn body hfn hb y hy C0 h0 avs rfl H0 hlen hav;refine(this.frame (h:=a) (fun i o hi=>by rw[hg0]at hi;exact hfz i o hi) rfl).mono ?_;rintro v a2 ⟨a1,⟨sv,s',C',hQ,hsv,hH,hT,hG,_⟩,hn,hle,hw1,hg2⟩;obtain⟨Fz',f1,f2,f3⟩:=hQ C' a1 v hH hsv;refine⟨Fz',fun i o hi=>f1 i o (hT.fz i o hi),fun i o hi=>(hg2 i o).2 (.inl (f2 i o hi)),f3,⟨by rw[hn];exact hle,fun i o hi=>?_⟩,fun i o hi=>?_,fun i o hi=>?_,fun i o hi=>?_⟩
 . rcases(hg2 i o).1 hi with g|⟨g,_,_⟩
   . rcases hG.old i o g with⟨o0,g1⟩|g1
     . rw[hg0]at g1;exact .inl ⟨o0,hfz i o0 g1⟩
     . exact .inr g1
   . exact .inl ⟨o,g⟩
 . cases hz:Fz i with
   | some o'=>
     have:=hfz i o' hz;rw[hi]at this;cases this;exact(hg2 i o).2 (.inl (f2 i o (f1 i o (hT.fz i o hz))))
   | none=>
     refine(hg2 i o).2 (.inr ⟨hi,by rw[hg0];exact hz,?_⟩)
     cases hz1:a1.get i with
     |none=>rfl
     | some o1=>
       rcases hG.old i o1 hz1 with⟨o0,g1⟩|g1
       . rw[hg0,hz]at g1;cases g1
       . have:=hwf i o hi;have e:h0.next=a.next:=rfl;omega
 . rcases(hg2 i o).1 hi with g|⟨g,_,_⟩
   . rw[hn];exact hw1 i o g
   . have:=hwf i o g;omega
 . have h3:=f2 i o hi;rcases hG.old i o h3 with⟨o0,g1⟩|g1
   . rw[hg0]at g1;have:=f1 i o0 (hT.fz i o0 g1);rw[hi]at this;cases this;exact .inl g1
   . exact .inr g1
end
end
section
universe u v
variable [Inhabited aE]
def PL (Fz:Nat->Option AO) (fs:List SV) (vs:List AV):Prop:=fs.length=vs.length/\ ∀(i:Nat) f v,fs[i]? =some f->vs[i]? =some v->aC Fz f v
theorem PL.nil {Fz:Nat->Option AO}:PL Fz [] []:=⟨rfl,fun i f v h=>by simp at h⟩
theorem PL.cons {Fz:Nat->Option AO} {f:SV} {v:AV} {fs:List SV} {vs:List AV} (h:aC Fz f v) (t:PL Fz fs vs):PL Fz (f::fs) (v::vs):=by
 refine⟨by simp[t.1],fun i a b ha hb=>?_⟩
 cases i with
 |zero=>simp at ha hb;subst ha;subst hb;exact h
 |succ i=>exact t.2 i a b (by simpa using ha) (by simpa using hb)
theorem PL.split {Fz:Nat->Option AO} {xs fs:List SV} {us vs:List AV} (h:PL Fz (xs++fs) (us++vs)) (hl:xs.length=us.length):PL Fz xs us/\PL Fz fs vs:=by
 refine⟨⟨hl,fun i f v hf hv=>h.2 i f v ?_ ?_⟩,⟨?_,fun i f v hf hv=>h.2 (xs.length+i) f v ?_ ?_⟩⟩
 . rw[AI (Ac.1 hf).1];exact hf
 . rw[AI (Ac.1 hv).1];exact hv
 . have:=h.1;simp at this;omega
 . rw[AQ (by omega)];simpa using hf
 . rw[AQ (by omega),hl];simpa using hv
theorem yf {X X':Type} {L:List X} {L':List X'} {enc:X->List SV} {enc':X'->List SV} {Fz:Nat->Option AO} {v:AV} (h:SV.aD X' L' enc'=SV.aD X L enc) (hv:aC Fz (.aD X' L' enc') v):aC Fz (.aD X L enc) v:=h▸hv
section
variable {P:Program} {tab:aM} {cfg:eZ} {ta:T AV} {a:AH}
theorem uA {C:Cx} {s:St} (hF:FS C s.ts ta) (H:HS tab C s.h a) {d:Nat} {o0:SO} (hd:s.h.get d=some o0):∃C',((s.ev (.kill d)).del d).log=s.log++[.kill d]/\Tr C [.kill d] C'/\HS tab C' ((s.ev (.kill d)).del d).h a/\FS C' ((s.ev (.kill d)).del d).ts ta/\
   cj C s.h a C' ((s.ev (.kill d)).del d).h/\bU C (.kill d) C'/\ ∀I,C.ρ d=some I->I.cap.isSome->C'.Fz I.β=a.get I.β:=by
 obtain⟨ts,⟨n,os⟩,log⟩:=s;obtain⟨I,hI,ho⟩:=H.obj d _ hd;obtain⟨C',hT,H',hfb,hρ⟩:=H.freeze (e:= .kill d) hd hI (fun C' h1 h2 _=>C4 C' h1 h2);refine⟨C',rfl,hT.tr,H',hF.turns hT,?_,hT,fun J hJ hc=>by rw[hI]at hJ;cases hJ;exact hfb hc⟩;intro p o J hp hJ hc;by_cases e:p=d
 . subst e;rw[hI]at hJ;cases hJ;obtain⟨b,hb⟩:=(H.at_ hp hI).live hc;exact .inr ⟨b,hb,by rw[hfb hc,hb]⟩
 . refine .inl ⟨o.on (.kill d),?_,by rw[hρ];exact hJ⟩;simp only[St.ev,St.del,SH.aI,Ae e];rw[mz,hp];rfl
theorem sT (htab:cfg.tab=tab):∀(n:Nat) (fs as1:List SV) (vs:List AV) (s:St) (C:Cx) (K:St->Prop),cF cfg n fs as1 s K->aH C as1 vs->FS C s.ts ta->HS tab C s.h a->
  ∃C' new s',s'.log=s.log++new/\Tr C new C'/\HS tab C' s'.h a/\FS C' s'.ts ta/\cj C s.h a C' s'.h/\K s'/\PL C'.Fz fs vs:=by
 intro n;induction n with
 |zero=>intro fs as1 vs s C K h;exact h.elim
 | succ n ih=>
  intro fs as1 vs s C K h hs0 hF H;have lift:∀{f:SV} {fs:List SV} {a0:SV} {as1:List SV} {v:AV} {vs:List AV},cF cfg n fs as1 s K->aH C as1 vs->(∀Fz':Nat->Option AO,(∀i o,C.Fz i=some o->Fz' i=some o)->aC Fz' f v)->
    ∃C' new s',s'.log=s.log++new/\Tr C new C'/\HS tab C' s'.h a/\FS C' s'.ts ta/\cj C s.h a C' s'.h/\K s'/\PL C'.Fz (f::fs) (v::vs):=by
   intro f fs a0 as1 v vs h hs hv;obtain⟨C',new,s',g1,g2,g3,g4,g5,g6,g7⟩:=ih fs as1 vs s C K h hs hF H;exact⟨C',new,s',g1,g2,g3,g4,g5,g6,PL.cons (hv _ g2.fz) g7⟩
  have liftP:∀{f:SV} {fs:List SV} {as1:List SV} {v:AV} {vs:List AV},cF cfg n fs as1 s K->aH C as1 vs->aC C.Fz f v->
    ∃C' new s',s'.log=s.log++new/\Tr C new C'/\HS tab C' s'.h a/\FS C' s'.ts ta/\cj C s.h a C' s'.h/\K s'/\PL C'.Fz (f::fs) (v::vs):=fun h hs hv=>lift (a0:= .any) h hs (fun Fz' hf=>hv.mono hf)
  cases fs with
  | nil=>
   cases as1 with
   |nil=>
    cases vs with
    |nil=>exact⟨C,[],s,by simp,Tr.refl C,H,hF,cj.refl _ _ _,h,PL.nil⟩
    |cons=>have:=hs0.1;simp at this
   |cons=>simp only[cF]at h
  | cons f fs =>
   cases as1 with
   |nil=>simp only[cF]at h
   | cons x as1=>
    cases vs with
    |nil=>have:=hs0.1;simp at this
    | cons v vs=>
     obtain⟨hx,hs⟩:=hs0.head;clear hs0;simp only[cF]at h;split at h
     . exact liftP h hs (.any _)
     . obtain⟨rfl,h⟩:=h;rw[iZ hx];exact liftP h hs (.bool _)
     . obtain⟨h1,h2,h3⟩:=bC h;clear h;have h1:=Bi h1;subst h1;rw[fy hx,h2];exact liftP h3 hs (.int _ _)
     . obtain⟨rfl,h⟩:=h;rw[eR hx];exact liftP h hs (.str _)
     . exact liftP h hs (gT hx rfl)
     . obtain⟨rfl,h⟩:=h;exact liftP h hs (gT hx rfl)
     . exact liftP h hs (gT hx rfl)
     . exact liftP h hs (gT hx rfl)
     . exact liftP h hs (gT hx rfl)
     . obtain⟨h1,h⟩:=h;exact liftP h hs (yf h1 (gT hx rfl))
     . obtain⟨rfl,h⟩:=h;rw[jJ hx];exact liftP h hs (.bt rfl (.inl rfl))
     . rename_i X L enc b;split at h
       . rename_i X' L' enc' t hb;obtain⟨h1,h⟩:=h;obtain⟨C1,e1,e2,e3,e4,e5,e6⟩:=gZ hF H hb;have hs1:aH C1 (dH (.dy b X' L' enc') as1) vs:=by
           rw[jM];refine⟨by simp[hs.1],fun i q w hq hw=>?_⟩;rw[Au]at hq;obtain⟨q0,hq0,rfl⟩:=Aq.1 hq;exact e2.val q0 w (hs.2 i q0 w hq0 hw)
         obtain⟨C',new,s',g1,g2,g3,g4,g5,g6,g7⟩:=ih fs _ vs _ C1 K h hs1 e4 e3;exact⟨C',_,s',by rw[g1,e1,BA],e2.trans g2,g3,g4,e6.trans g5 g2.fz,g6,PL.cons ((yf h1 (e5 v hx)).mono g2.fz) g7⟩
       . exact h.elim
     . rename_i X L enc b off m c;split at h
       . rename_i cs e hb;split at h
         . rename_i r hr;rw[htab]at hr;obtain⟨hck,h⟩:=bC h;simp only[Ab,AW]at hck;obtain⟨⟨⟨hr0,hmc⟩,hle⟩,hpu⟩:=hck;have hr0:r≠0:=fun e=>by subst e;simp at hr0
           have hmc:=Ag hmc;have hle:=Ag hle;obtain⟨h1,h⟩:=h;obtain⟨C1,e1,e2,e3,e4,e5,e6,e7⟩:=uA hF H hb;have hs1:aH C1 (dH (.kill b) as1) vs:=hs.turns e6;obtain⟨C',new,s',g1,g2,g3,g4,g5,g6,g7⟩:=ih fs _ vs _ C1 K h hs1 e4 e3;refine⟨C',_,s',by rw[g1,e1,BA],e2.trans g2,g3,g4,e5.trans g5 g2.fz,g6,PL.cons ?_ g7⟩
           cases hx with
           |pure hx=>cases hx
           |sl hI=>
            rename_i I;obtain⟨hcap,ca,sz,k1,k2,k3⟩:=H.at_ hb hI;have hszr:r=sz:=by rw[hr]at k3;exact BT k3
            subst hszr;have hfz:=e7 I hI hcap;rw[k1]at hfz;have hLm:L.length=m:=by
              have:=AN List.length h1;rw[mf]at this;simpa using this.symm
            have hsub:=(k2.drop off).take (m*r);have hT:Told C.Fz X L enc r ((ca.drop off).take (m*r)):=rT hr0 hsub (by simp;omega) hpu hLm (fun i x q hx hq=>by
              rw[h1,Au,hx]at hq;simpa using hq)
            subst hLm;refine aC.mono g2.fz (qh I.β off _ ca e _ false .rw _ rfl (.of hfz) (by omega) (by rw[<-k2.1];exact hle) hT.each hmc ?_);intro i x j w hx hw;obtain⟨u,q1,q2⟩:=hT.cell i x j w hx hw;refine⟨u,?_,q2.mono e2.fz⟩;rw[Bn]at q1;split at q1
            . rw[Bx,<-BP]at q1;exact q1
            . cases q1
         . exact h.elim
       . exact h.elim
     . rename_i xs ys;obtain⟨h1,h⟩:=bC h;have h1:=Aa h1;obtain⟨us,rfl,hu⟩:=iE hx;obtain⟨C',new,s',g1,g2,g3,g4,g5,g6,g7⟩:=ih _ _ (us++vs) s C K h (hu.append hs) hF H;obtain⟨q1,q2⟩:=g7.split (h1.trans hu.1);exact⟨C',new,s',g1,g2,g3,g4,g5,g6,PL.cons (.agg q1.1 q1.2) q2⟩
     . rename_i f xs us g ys ws;obtain⟨h1,h'⟩:=bC h;clear h;have h:=h';clear h';simp only[Ab]at h1;obtain⟨⟨h0,h1⟩,h2⟩:=h1;have h0:=Aa h0;have h1:=Aa h1;have h2:=Aa h2;subst h0;have hfn:∃y' w',v= .fn (.func f) y' w'/\aH C ys y'/\aH C ws w':=by
         cases hx with
         | pure hx=>cases hx with
           |fn k1 k2 k3 k4=>exact⟨_,_,rfl,⟨k1,fun i q r a b=> .pure (k3 i q r a b)⟩,⟨k2,fun i q r a b=> .pure (k4 i q r a b)⟩⟩
         |fn k1 k2 k3 k4=>exact⟨_,_,rfl,⟨k1,k3⟩,⟨k2,k4⟩⟩
       obtain⟨y',w',rfl,k1,k2⟩:=hfn;obtain⟨C',new,s',g1,g2,g3,g4,g5,g6,g7⟩:=ih _ _ (y'++(w'++vs)) s C K h (k1.append (k2.append hs)) hF H;obtain⟨q1,q2⟩:=g7.split (h1.trans k1.1);obtain⟨q2,q3⟩:=q2.split (h2.trans k2.1);exact⟨C',new,s',g1,g2,g3,g4,g5,g6,PL.cons (.fn q1.1 q2.1 q1.2 q2.2) q3⟩
     . exact h.elim
end
end
section
universe u v
variable [Inhabited aE]
theorem iz {α:Type u}:∀{l:List α} {K:List α->Prop},fP l K->K l:=by
 intro l;induction l with
 |nil=>intro K h;exact h
 |cons x l ih=>intro K h;exact ih (K:=fun l'=>K (x::l')) h
theorem E8 {v:SV} {K:SV->Prop} (h:ti v K):K v:=by
 cases v<;>simp only[ti]at h<;>first|exact h|exact iz h|exact iz (iz h)
theorem E7 {o:SO} {K:SO->Prop} (h:yd o K):K o:=by
 cases o with
 |cells cs t=>exact iz (K:=fun cs=>K (.cells cs t)) h
 |arr X L enc t=>exact h
theorem vT {h:SH} {K:SH->Prop} (hh:oc h K):K h:=by
 obtain⟨n,os⟩:=h;simp only[oc]at hh;split at hh
 . exact E7 (K:=fun o=>K ⟨n,(_,some o)::_⟩) hh
 . exact hh
theorem pE {α:Type}:∀{t:T α} {K:T α->Prop},jP t K->K t:=by
 intro t;induction t with
 |e=>intro K h;exact h
 |n v l r ihl ihr=>
  intro K h;simp only[jP]at h;have h:=ihr (ihl h)
  cases v<;>exact h
section
variable {P:Program} {tab:aM} {cfg:eZ} {rec:SM->(SV->St->Prop)->Prop} {C:Cx} {s:St} {ta:T AV} {a:AH}
def jR (P:Program) (tab:aM) (rec:SM->(SV->St->Prop)->Prop):Prop:=
 ∀(f:FuncId) (fn:Func) (body:Code) (args:List SV) (h:SH) (a:AH) (C:Cx) (avs:List AV) (Q:SV->St->Prop),tab.fns.get f=some fn->fn.body=some body->
  rec ⟨f,Nat.max fn.ntmps args.length,h.next,[.code body],⟨Fr.of args 0,h,[]⟩⟩ Q->HS tab C h a->aH C args avs->da P {fr:=ae.enter fn f body avs .normal,cs:=[],h:=a} (e9 tab C h a Q)
theorem GW (htab:cfg.tab=tab) (hrec:jR P tab rec) (hcon:∀g C,cfg.cJ g=some C->bq P tab g C) {f:FuncId} {args:List SV} {avs:List AV} {K:SV->St->Prop} (h:tP cfg rec f args s K) (hF:FS C s.ts ta) (H:HS tab C s.h a) (hs:aH C args avs):
   ∃fn body,tab.fns.get f=some fn/\fn.body=some body/\da P {fr:=ae.enter fn f body avs .normal,cs:=[],h:=a} fun v a'=>a.next<=a'.next/\ ∃sv s',K sv s'/\kg tab C s ta a sv s' v a':=by
 unfold tP at h;rw[htab]at h;split at h
 . rename_i fn hfn;split at h
   . rename_i body hb;refine⟨fn,body,hfn,hb,?_⟩;split at h
     . rename_i Cn hCn;obtain⟨y,h⟩:=h;obtain⟨C1,new,s1,g1,g2,g3,g4,g5,⟨hpre,hk⟩,g7⟩:=sT htab 1000 _ _ _ _ _ _ h hs hF H;refine(hcon f Cn hCn fn body hfn hb y hpre C1.Fz a avs g3.fz g3.wf g7.1 g7.2).mono ?_;rintro v a' ⟨Fz',f1,f2,f3,f4,f5,f6,f7⟩;refine⟨f4.next,_,s1,hk,⟨⟨C1.ρ,Fz'⟩,new,g1,?_, .pure f3,?_,?_,?_⟩,f4⟩
       . have hle:C1.le ⟨C1.ρ,Fz'⟩:=⟨fun _ _ h=>h,f1⟩;have:=g2.trans hle.tr;simpa using this
       . have hle:C1.le ⟨C1.ρ,Fz'⟩:=⟨fun _ _ h=>h,f1⟩;refine⟨fun p o hp=>?_,g3.inj,f2,fun p o I hp hI hc=>?_,g3.lt,f6⟩
         . obtain⟨I,hI,ho⟩:=g3.obj p o hp;refine⟨I,hI,?_⟩;have ho':=ho.le hle;by_cases hc:I.cap.isSome
           . obtain⟨b,hb'⟩:=ho.live hc;exact ho'.congr ((f5 _ _ hb').trans hb'.symm)
           . cases o with
             |cells cs t=>exact absurd ho.1 hc
             | arr X L enc t=>
               obtain⟨q1,q2,q3,q4,q5⟩:=ho';refine⟨q1,q2,q3,q4,?_⟩
               cases hcap:I.cap with
               |none=>rw[hcap]at q5;exact q5
               |some c=>rw[hcap]at hc;simp at hc
         . show Fz' I.β=none
           cases hz:Fz' I.β with
           |none=>rfl
           | some b=>
             rcases f7 _ _ hz with hz1|hz1
             . have:=g3.dj p o I hp hI hc;rw[hz1]at this;cases this
             . obtain⟨b',hb'⟩:=(g3.at_ hp hI).live hc;have:=g3.wf _ _ hb';omega
       . have hle:C1.le ⟨C1.ρ,Fz'⟩:=⟨fun _ _ h=>h,f1⟩;exact FS.le hle g4
       . intro p o I hp hI hc _;obtain⟨b,hb'⟩:=(H.at_ hp hI).live hc;refine⟨by rw[hb'];exact f5 _ _ hb',?_⟩;rcases g5 p o I hp hI hc with h1|⟨b,_,h2⟩
         . exact .inl h1
         . exact .inr ⟨b,f1 _ _ h2⟩
     . obtain⟨ts,hh,log⟩:=s;simp only at h;refine(hrec f fn body args hh a C avs _ hfn hb h H hs).mono ?_;rintro v a' ⟨sv,s',C',hk,q1,q2,q3,q4,q5⟩;obtain⟨ts',h',log'⟩:=s';exact⟨q4.next,sv,_,hk,⟨C',log',rfl,q3,q1,q2,hF.log q3,q5⟩,q4⟩
   . exact h.elim
 . exact h.elim
theorem wN (htab:cfg.tab=tab) (hrec:jR P tab rec) (hcon:∀g C,cfg.cJ g=some C->bq P tab g C) {o:Oper} {K:SV->St->Prop} (h:qz cfg rec s o K) (hF:FS C s.ts ta) (H:HS tab C s.h a):
   eP P tab ta a o fun v a'=>∃sv s',K sv s'/\kg tab C s ta a sv s' v a':=by
 have hsop:ik cfg.tab cfg.view s o K->eP P tab ta a o fun v a'=>∃sv s',K sv s'/\kg tab C s ta a sv s' v a':=by
   intro h;rw[htab]at h;obtain⟨sv,s',v,a',h1,h2,h3⟩:=JN hF H h;exact .inl ⟨v,a',h2,h3.grow.next,sv,s',h1,h3⟩
 unfold qz at h;split at h
 . rename_i c hc;split at h
   . rename_i f hf;obtain⟨args,h1,h2⟩:=bW h;obtain⟨sf,h3,h4⟩:=bW h2;obtain⟨avs,g1,g2⟩:=lv hF h1;obtain⟨vf,g3,g4⟩:=gA hF h3;split at h4
     . rename_i g first captured;have hfn:∃us ws,vf= .fn (.func g) us ws/\aH C first us/\aH C captured ws:=by
        cases g4 with
        |pure hx=>cases hx with
         |fn k1 k2 k3 k4=>exact⟨_,_,rfl,⟨k1,fun i q r a b=> .pure (k3 i q r a b)⟩,⟨k2,fun i q r a b=> .pure (k4 i q r a b)⟩⟩
        |fn k1 k2 k3 k4=>exact⟨_,_,rfl,⟨k1,k3⟩,⟨k2,k4⟩⟩
       obtain⟨us,ws,rfl,k1,k2⟩:=hfn;obtain⟨fn,body,q1,q2,q3⟩:=GW htab hrec hcon h4 hF H ((k1.append g2).append k2);exact .inr ⟨c,f,g,us,ws,avs,fn,body,hc,hf,g3,g1,q1,q2,q3⟩
     . exact h4.elim
   . exact hsop h
 . exact hsop h
theorem sg {ops:Array Oper} {o:Oper} {K:Bool->St->Prop} (h:oe ops o s K) (hF:FS C s.ts ta):∃b s',K b s'/\wanted ops o ta= .ok b/\FS C s'.ts ta/\s'.h=s.h/\s'.log=s.log:=by
 unfold oe at h;unfold wanted;split at h
 . rename_i hg;rw[hg];exact⟨true,s,h,rfl,hF,rfl,rfl⟩
 . rename_i j w hg;rw[hg];simp only;obtain⟨ts,hh,log⟩:=s;split at h
   . rename_i d hd;simp only at h;rw[hd];simp only[Bw];have lit:∀p:Bool,look ts d=some (.bool p)->ta.get d=some (.bool p):=by
       intro p hp;have h1:=hF d _ hp;have h2:=iZ h1
       cases hg:ta.get d with
       |none=>rw[hg]at h2;simp at h2
       |some v=>rw[hg]at h2;simp at h2;rw[h2]
     have putb:∀p:Bool,ta.get d=some (.bool p)->FS C ((d, .bool p)::ts) ta:=by
       intro p hp t q hq;rw[gj]at hq;split at hq
       . rename_i e
         cases hq;rw[e,hp];exact .pure (.bool p)
       . exact hF t q hq
     split at h
     . rename_i p hp;have hta:=lit p hp;rw[hta];simp only;rcases qG h with⟨rfl,h⟩|⟨rfl,h⟩
       . exact⟨w,_,h,by cases w<;>rfl,putb true hta,rfl,rfl⟩
       . exact⟨!w,_,h,by cases w<;>rfl,putb false hta,rfl,rfl⟩
     . rename_i cs hp;have h1:=hF d _ hp;obtain⟨us,h2,_⟩:=ql h1
       cases hg:ta.get d with
       |none=>exact⟨false,_,h,rfl,hF,rfl,rfl⟩
       | some v=>
         rw[hg]at h2;simp at h2;rw[h2];exact⟨false,_,h,rfl,hF,rfl,rfl⟩
     . exact h.elim
   . rename_i hd;rw[hd];exact⟨false,_,h,rfl,hF,rfl,rfl⟩
def ef (nt:Nat) (ta:T AV) (d:Option Tmp) (v:AV):T AV:=match d with|some d=>bif Nat.blt d nt then ta.set d (some v)else ta|none=>ta
theorem mA {nt:Nat} {d:Option Tmp} {sv:SV} {v:AV} {K:St->Prop} (h:ft nt s d sv K) (hF:FS C s.ts ta) (hv:au C sv v):
  ∃s',K s'/\FS C s'.ts (ef nt ta d v)/\s'.h=s.h/\s'.log=s.log:=by
 obtain⟨ts,hh,log⟩:=s;unfold ft at h
 cases d with
 |none=>exact⟨_,vT (K:=fun h=>K ⟨ts,h,log⟩) h,hF,rfl,rfl⟩
 |some d=>
  simp only[ef]at h⊢
  cases hb:Nat.blt d nt
  . rw[hb]at h;exact⟨_,h,hF,rfl,rfl⟩
  . rw[hb]at h;have h:=vT (K:=fun h=>K ⟨(d,sv)::ts,h,log⟩) (E8 (K:=fun v=>oc hh fun h=>K ⟨(d,v)::ts,h,log⟩) h);exact⟨_,h,hF.put hv,rfl,rfl⟩
end
end
section
universe u v
variable [Inhabited aE]
mutual
theorem oS (e:Ev):∀(s:SV) (n:Nat),s.lt n=true->n<=e.id->s.on e=s
 | .bool b,n,_,_=>by simp[SV.on]
 | .int k m,n,_,_=>by simp[SV.on]
 | .str s,n,_,_=>by simp[SV.on]
 | .aA,n,_,_=>by simp[SV.on]
 | .wp _,n,_,_=>by simp[SV.on]
 | .ptr b off,n,h,he=>by
  simp only[SV.lt,BB]at h
  cases e<;>simp only[SV.on,Ev.id]at* <;>first|rfl|(rw[dZ (by omega)];rfl)
 | .bo b i off,n,h,he=>by
  simp only[SV.lt,BB]at h
  cases e<;>simp only[SV.on,Ev.id]at* <;>first|rfl|(rw[dZ (by omega)];rfl)
 | .bB cs off,n,_,_=>by simp[SV.on]
 | .nils,n,_,_=>by simp[SV.on]
 | .sl b off l c,n,h,he=>by
  simp only[SV.lt,BB]at h
  cases e<;>simp only[SV.on,Ev.id]at* <;>first|rfl|(rw[dZ (by omega)];rfl)
 | .own b,n,h,he=>by
  simp only[SV.lt,BB]at h
  cases e<;>simp only[SV.on,Ev.id]at* <;>first|rfl|(rw[dZ (by omega)];rfl)
 | .aD X L enc,n,_,_=>by simp[SV.on]
 | .aQ,n,_,_=>by simp[SV.on]
 | .map b,n,_,_=>by simp[SV.on]
 | .ah,n,_,_=>by simp[SV.on]
 | .fn f xs ys,n,h,he=>by
  simp only[SV.lt,Ab]at h;simp only[SV.on,iV e xs n h.1 he,iV e ys n h.2 he]
 | .agg cs,n,h,he=>by
  simp only[SV.lt]at h;simp only[SV.on,iV e cs n h he]
 | .aO cs,n,h,he=>by
  simp only[SV.lt]at h;simp only[SV.on,iV e cs n h he]
 | .any,n,_,_=>by simp[SV.on]
theorem iV (e:Ev):∀(l:List SV) (n:Nat),eL n l=true->n<=e.id->dH e l=l
 |[],n,_,_=>by simp[dH]
 |v::l,n,h,he=>by
  simp only[eL,Ab]at h;simp only[dH,oS e v n h.1 he,iV e l n h.2 he]
end
theorem xr:∀(log:List Ev) (s:SV) (n:Nat),s.lt n=true->(∀e∈log,n<=e.id)->eX log s=s:=by
 intro log;induction log with
 |nil=>intro s n _ _;rfl
 |cons e l ih=>
  intro s n h he;simp only[eX];rw[oS e s n h (he e Al)];exact ih s n h (fun e' h'=>he e' (Ap _ h'))
theorem cM {n:Nat}:∀{l:List SV},eL n l=true↔∀s∈l,s.lt n=true:=by
 intro l;induction l with
 |nil=>simp[eL]
 |cons v l ih=>simp[eL,ih]
theorem nW {n:Nat} {l:List SV} (h:eL n l=true) {i:Nat} {s:SV} (hs:l[i]? =some s):s.lt n=true:=cM.1 h s (Br hs)
open Classical in
noncomputable def Cx.cut (C:Cx) (n:Nat):Cx:={C with ρ:=fun p=>if p<n then C.ρ p else none}
theorem iU (C:Cx) {n p:Nat} (h:p<n):(C.cut n).ρ p=C.ρ p:=by simp[Cx.cut,h]
theorem au.cut {C:Cx} {n:Nat} {s:SV} {v:AV} (h:au C s v) (hl:s.lt n=true):au (C.cut n) s v:=by
 induction h with
 |pure h=>exact .pure h
 |ptr h=>simp only[SV.lt,BB]at hl;exact .ptr (by rw[iU C hl];exact h)
 |bo h hc=>simp only[SV.lt,BB]at hl;exact .bo (by rw[iU C hl];exact h) hc
 |cR h hc=>simp only[SV.lt,BB]at hl;exact .cR (by rw[iU C hl];exact h) hc
 |own h hc=>simp only[SV.lt,BB]at hl;exact .own (by rw[iU C hl];exact h) hc
 |sl h=>simp only[SV.lt,BB]at hl;exact .sl (by rw[iU C hl];exact h)
 |fn h1 h2 _ _ ih3 ih4=>
  simp only[SV.lt,Ab]at hl;exact .fn h1 h2 (fun i x u hx hu=>ih3 i x u hx hu (nW hl.1 hx)) (fun i x u hx hu=>ih4 i x u hx hu (nW hl.2 hx))
 |agg h1 _ ih=>simp only[SV.lt]at hl;exact .agg h1 (fun i x u hx hu=>ih i x u hx hu (nW hl hx))
 |aO h1 _ ih=>simp only[SV.lt]at hl;exact .aO h1 (fun i x u hx hu=>ih i x u hx hu (nW hl hx))
theorem aC.low {Fz:Nat->Option AO} {n:Nat} {s:SV} {v:AV} (h:aC Fz s v):s.lt n=true:=by
 induction h with
 |fn h1 h2 _ _ ih3 ih4=>
  simp only[SV.lt,Ab];constructor
  . rw[cM];intro s hs;obtain⟨i,hi⟩:=A8.1 hs;exact ih3 i s _ hi (Af (by rw[<-h1];exact(Ac.1 hi).1))
  . rw[cM];intro s hs;obtain⟨i,hi⟩:=A8.1 hs;exact ih4 i s _ hi (Af (by rw[<-h2];exact(Ac.1 hi).1))
 |agg h1 _ ih=>
  simp only[SV.lt];rw[cM];intro s hs;obtain⟨i,hi⟩:=A8.1 hs;exact ih i s _ hi (Af (by rw[<-h1];exact(Ac.1 hi).1))
 |aO h1 _ ih=>
  simp only[SV.lt];rw[cM];intro s hs;obtain⟨i,hi⟩:=A8.1 hs;exact ih i s _ hi (Af (by rw[<-h1];exact(Ac.1 hi).1))
 |_=>rfl
theorem au.low {C:Cx} {n:Nat} (hC:∀p I,C.ρ p=some I->p<n) {s:SV} {v:AV} (h:au C s v):s.lt n=true:=by
 induction h with
 |pure h=>exact h.low
 |ptr h=>simpa [SV.lt]using hC _ _ h
 |bo h hc=>simpa [SV.lt]using hC _ _ h
 |cR h hc=>simpa [SV.lt]using hC _ _ h
 |own h hc=>simpa [SV.lt]using hC _ _ h
 |sl h=>simpa [SV.lt]using hC _ _ h
 |fn h1 h2 _ _ ih3 ih4=>
  simp only[SV.lt,Ab];constructor
  . rw[cM];intro s hs;obtain⟨i,hi⟩:=A8.1 hs;exact ih3 i s _ hi (Af (by rw[<-h1];exact(Ac.1 hi).1))
  . rw[cM];intro s hs;obtain⟨i,hi⟩:=A8.1 hs;exact ih4 i s _ hi (Af (by rw[<-h2];exact(Ac.1 hi).1))
 |agg h1 _ ih=>
  simp only[SV.lt];rw[cM];intro s hs;obtain⟨i,hi⟩:=A8.1 hs;exact ih i s _ hi (Af (by rw[<-h1];exact(Ac.1 hi).1))
 |aO h1 _ ih=>
  simp only[SV.lt];rw[cM];intro s hs;obtain⟨i,hi⟩:=A8.1 hs;exact ih i s _ hi (Af (by rw[<-h1];exact(Ac.1 hi).1))
section
variable {P:Program} {tab:aM} {cfg:eZ}
structure e8 (fr:ae) (fn:FuncId) (nt:Nat):Prop where
 fn:fr.fn=fn
 nt:fr.nt=nt
 mode:fr.mode= .run
 defers:fr.defers=[]
 kind:fr.kind= .normal
 round:fr.round=none
theorem e8.todo {fr:ae} {fn:FuncId} {nt:Nat} (h:e8 fr fn nt) (ts:T AV) (k:List aT):e8 {fr with tmps:=ts,todo:=k} fn nt:=⟨h.fn,h.nt,h.mode,h.defers,h.kind,h.round⟩
def SI (tab:aM) (C0:Cx) (h0:SH) (a0:AH) (ta:T AV) (a:AH) (s:St):Prop:=∃C,FS C s.ts ta/\HS tab C s.h a/\Tr C0 s.log C/\Grow a0 a/\bS C0 h0 a0 s.log C s.h a
inductive TS (HO:(Fr->SH->List Ev->Prop)->Code->List aT->Prop):List cP->List aT->Prop
 |nil:TS HO [] []
 |code {k:List cP} {k':List aT} (c:Code) (h:TS HO k k'):TS HO (.code c::k) (.code c::k')
 |inBlock {k:List cP} {k':List aT} (id:Nat) (h:TS HO k k'):TS HO (.inBlock id::k) (.inBlock id::k')
 |inLoop {k:List cP} {k':List aT} (b:Code) (h:TS HO k k'):TS HO (.inLoop b::k) (.inLoop b::k')
 |inScope {k:List cP} {k':List aT} (b:Code) (h:TS HO k k'):TS HO (.inScope b::k) (.inScope b::k')
 |inRegion {k:List cP} {k':List aT} (ops:Array Oper) (l:List Nat) (h:TS HO k k'):TS HO (.inRegion ops l::k) (.inRegion ops l::k')
 |head {k:List cP} {k':List aT} (fl:Fr->SH->List Ev->Prop) (b:Code) (h:TS HO k k') (ho:HO fl b k'):TS HO (.head fl::k) (.inLoop b::k')
theorem TS.exit {HO:(Fr->SH->List Ev->Prop)->Code->List aT->Prop} {id:Nat}:∀{k:List cP} {k':List aT} {k1:List cP},TS HO k k'->jh id k=some k1->∃k1',Am.exitTo id k'=some k1'/\TS HO k1 k1':=by
 intro k k' k1 h;induction h with
 |nil=>intro h;cases h
 |inBlock j h ih=>
  intro he;simp only[jh]at he;simp only[Am.exitTo]
  cases hb:Nat.beq j id
  . rw[hb]at he;exact ih he
  . rw[hb]at he;cases he;exact⟨_,rfl,h⟩
 |code c h ih=>intro he;simp only[jh]at he;simp only[Am.exitTo];exact ih he
 |inLoop b h ih=>intro he;simp only[jh]at he;simp only[Am.exitTo];exact ih he
 |inScope b h ih=>intro he;simp only[jh]at he;simp only[Am.exitTo];exact ih he
 |inRegion ops l h ih=>intro he;simp only[jh]at he;simp only[Am.exitTo];exact ih he
 |head fl b h ho ih=>intro he;simp only[jh]at he;simp only[Am.exitTo];exact ih he
theorem IM (htab:cfg.tab=tab) {C:Cx} {s:St} {ta:T AV} {a:AH} (hF:FS C s.ts ta) (H:HS tab C s.h a):∀{l:List ResultVar} {K:List SV->Prop},gW cfg s l K->∃vs svs,Am.results tab a ta l= .ok vs/\aH C svs vs/\K svs:=by
 intro l;induction l with
 |nil=>intro K h;exact⟨[],[],rfl,aH.nil,h⟩
 | cons x l ih=>
  intro K h
  cases x with
  |tmp t=>
   simp only[gW]at h;obtain⟨v,h1,h2⟩:=bW h;obtain⟨vs,svs,g1,g2,g3⟩:=ih h2;refine⟨_,_,?_,aH.cons (hF t v h1) g2,g3⟩;simp only[Am.results];rw[rb g1]
  | cell b t=>
   simp only[gW]at h;rw[htab]at h;obtain⟨p,h1,h2⟩:=bW h;obtain⟨bb,off,u,sv,h3,h4,h5,h6⟩:=sI H (hF b p h1) h2;obtain⟨vs,svs,g1,g2,g3⟩:=ih h6;refine⟨_,_,?_,aH.cons h5 g2,g3⟩;simp only[Am.results]
   cases hg:ta.get b with
   |none=>rw[hg]at h3;simp at h3
   |some w=>
    rw[hg]at h3;simp only[AA]at h3;rw[h3];simp only;rw[rb h4,rb g1]
theorem yy (pr:eE P tab) (htab:cfg.tab=tab) {fn:FuncId} {nt:Nat} {s:St} {Q:SV->St->Prop} {C0:Cx} {h0:SH} {a0 a:AH} {fr:ae} (h:jT cfg fn s Q) (hf:e8 fr fn nt) (hS:SI tab C0 h0 a0 fr.tmps a s)
   (ht:fr.todo=[]\/ ∃k,fr.todo= .code .ret::k):da P {fr,cs:=[],h:=a} (e9 tab C0 h0 a0 Q):=by
 obtain⟨C,hF,H,hT,hG,hK⟩:=hS;have hstep:Am.step tab sub0 {fr,cs:=[],h:=a}= .ok (.next {fr:={fr with mode:= .returning},cs:=[],h:=a}):=by
   rcases ht with ht|⟨k,ht⟩
   . simp only[Am.step,hf.mode,ht,Am.leave,hf.round]
   . simp only[Am.step,hf.mode,ht,Am.leave,hf.round]
 refine da.next pr hstep ?_;unfold jT at h;rw[htab]at h;split at h
 . rename_i func hfn;obtain⟨vs,svs,g1,g2,g3⟩:=IM htab hF H h;have hdone:Am.step tab sub0 {fr:={fr with mode:= .returning},cs:=[],h:=a}= .ok (.done (Am.result vs) a):=by
     simp only[Am.step,Am.unwind,hf.defers,hf.fn,hfn];rw[rb g1];simp only[Am.doReturn,hf.kind]
   refine da.done pr hdone ⟨_,s,C,g3,?_,H,hT,hG,hK⟩;unfold Am.result
   cases svs with
   | nil=>cases vs with
     |nil=>exact .aO g2.1 g2.2
     |cons=>have:=g2.1;simp at this
   | cons x svs=>cases vs with
     |nil=>have:=g2.1;simp at this
     | cons v vs=>cases svs with
      |nil=>cases vs with
       |nil=>exact g2.head.1
       |cons=>have:=g2.1;simp at this
      |cons y svs=>cases vs with
       |nil=>have:=g2.1;simp at this
       |cons w vs=>exact .aO g2.1 g2.2
 . exact h.elim
end
end
section
universe u v
variable [Inhabited aE]
section
variable {P:Program} {tab:aM} {cfg:eZ}
theorem bS.trans {C0 C C':Cx} {h0 h h':SH} {a0 a a':AH} {l m:List Ev} (k:bS C0 h0 a0 l C h a) (k':bS C h a m C' h' a') (hf:∀i o,C.Fz i=some o->C'.Fz i=some o) (H:∀i o,C.Fz i=some o->a.get i=some o) (H':∀i o,C'.Fz i=some o->a'.get i=some o):
   bS C0 h0 a0 (l++m) C' h' a':=by
 intro p o I hp hI hc hn;rw[uP]at hn;obtain⟨g1,g2⟩:=k p o I hp hI hc (fun e=>hn (Dl _ e));rcases g2 with⟨o',h1,h2⟩|⟨b,h1⟩
 . obtain⟨g3,g4⟩:=k' p o' I h1 h2 hc (fun e=>hn (BV _ e));exact⟨g3.trans g1,g4⟩
 . exact⟨by rw[H' _ _ (hf _ _ h1),<-g1,H _ _ h1], .inr ⟨b,hf _ _ h1⟩⟩
theorem SI.res {C0 C:Cx} {h0:SH} {a0 a a':AH} {ta:T AV} {s s':St} {sv:SV} {v:AV} (H:HS tab C s.h a) (hT:Tr C0 s.log C) (hG:Grow a0 a) (hK:bS C0 h0 a0 s.log C s.h a) (hr:kg tab C s ta a sv s' v a'):
  ∃C',au C' sv v/\FS C' s'.ts ta/\HS tab C' s'.h a'/\Tr C0 s'.log C'/\Grow a0 a'/\bS C0 h0 a0 s'.log C' s'.h a':=by
 obtain⟨⟨C',new,e1,e2,e3,e4,e5,e6⟩,e7⟩:=hr;exact⟨C',e3,e5,e4,by rw[e1];exact hT.trans e2,hG.trans e7,by rw[e1];exact hK.trans e6 e2.fz H.fz e4.fz⟩
theorem dQ.mono {ops:Array Oper} {nt:Nat} {G G':DS->Prop} (hg:∀s,G s->G' s):∀n s,dQ P tab ops nt G n s->dQ P tab ops nt G' n s:=by
 intro n;induction n with
 |zero=>intro s h;exact h
 |succ n ih=>
  intro s h;obtain⟨s1,h1,h2⟩:=h;refine⟨s1,h1,h2.imp (fun x=>⟨x.1,hg _ x.2⟩) (fun⟨c,o,q1,q2,q3,q4⟩=>⟨c,o,q1,q2,q3,?_⟩)⟩;rcases q4 with⟨v,h1,k1,k2,k3,k4⟩|⟨c',f,g,first,captured,args,fn,body,k1,k2,k3,k4,k5,k6,k7⟩
  . exact .inl ⟨v,h1,k1,k2,k3,ih _ k4⟩
  . exact .inr ⟨c',f,g,first,captured,args,fn,body,k1,k2,k3,k4,k5,k6,k7.mono fun v h1 ⟨a,b,c⟩=>⟨a,b,ih _ c⟩⟩
def sQ (P:Program) (tab:aM) (cfg:eZ) (rec:SM->(SV->St->Prop)->Prop):Prop:=
 ∀(ops:Array Oper) (nt n:Nat) (s:St) (K:St->Prop) (ta:T AV) (a:AH) (C:Cx),ot cfg rec ops nt n ⟨s, .e,[],[]⟩ K->FS C s.ts ta->HS tab C s.h a->
  dQ P tab ops nt (fun sF=>∃s' C' new,K s'/\s'.log=s.log++new/\Tr C new C'/\HS tab C' s'.h sF.h/\FS C' s'.ts sF.ts/\Grow a sF.h/\bS C s.h a new C' s'.h sF.h) n {ts:=ta,h:=a,ax:= .e,reads:=[],ai:=[]}
theorem xL {C:Cx} {s:St} {ta:T AV} {c:Operand} {p:Bool} (hF:FS C s.ts ta) (hc:dE s.ts c=some (.bool p)):FS C (fixC s c p).ts ta/\(fixC s c p).h=s.h/\(fixC s c p).log=s.log:=by
 obtain⟨ts,h,log⟩:=s
 cases c with
 |tmp t=>
  refine⟨?_,rfl,rfl⟩;intro t' q hq;simp only[fixC]at hq;rw[gj]at hq;split at hq
  . rename_i e
    cases hq;rw[e];exact hF t _ hc
  . exact hF t' q hq
 |const v=>exact⟨hF,rfl,rfl⟩
 |func f=>exact⟨hF,rfl,rfl⟩
 |global g=>exact⟨hF,rfl,rfl⟩
theorem x9 {C:Cx} {v e:SV} {av:AV} (h:oW v e) (hv:au C v av):au C e av:=by
 unfold oW at h;split at h
 . rw[<-h];exact hv
 . obtain⟨h1,h2⟩:=bC h;have h1:=Bi h1;rw[<-h1,<-h2];exact hv
 . rw[<-h];exact hv
 . obtain⟨h1,_⟩:=bC h;simp only[Ab]at h1;rw[<-Aa h1.1,<-Aa h1.2];exact hv
 . obtain⟨h1,_⟩:=bC h;rw[<-Aa h1];exact hv
 . exact hv
 . exact hv
 . exact hv
 . exact hv
 . rw[jJ hv];exact .pure (.bt (by rw[h];rfl) (.inl rfl))
 . exact .pure (.any _)
 . rw[<-h];exact hv
theorem HM {C:Cx}:∀{l m:List SV} {vs:List AV},kT l m->aH C l vs->aH C m vs:=by
 intro l;induction l with
 |nil=>intro m vs h hs;cases m with
  |nil=>exact hs
  |cons=>exact h.elim
 | cons a l ih=>intro m vs h hs;cases m with
  |nil=>exact h.elim
  |cons b m=>
   cases vs with
   |nil=>have:=hs.1;simp at this
   |cons v vs=>exact aH.cons (x9 h.1 hs.head.1) (ih h.2 hs.head.2)
theorem Gu {ts:Fr} {h eh:SH}:∀{l:Fr},gf ts h eh l->∀{t:Nat} {e:SV},look l t=some e->∃v,look ts t=some v/\kU h eh v e:=by
 intro l;induction l with
 |nil=>intro _ t e h;cases h
 |cons x l ih=>
  obtain⟨k,e0⟩:=x;intro hf t e hl;rw[gj]at hl;split at hl
  . rename_i ek
    cases hl;rw[ek];exact bW hf.1
  . exact ih hf.2 hl
theorem xm {α:Type u}:∀{l:List (Nat×α)} {t:Nat} {v:α},look l t=some v->(t,v)∈l:=by
 intro l;induction l with
 |nil=>intro t v h;cases h
 |cons x l ih=>
  obtain⟨k,w⟩:=x;intro t v h;rw[gj]at h;split at h
  . rename_i e;cases h;rw[e];exact Al
  . exact Ap _ (ih h)
theorem Gt {h e:SH}:∀{n:Nat},tE tab h e n->∀p,p<n->mZ tab h.next p (h.get p) (e.get p):=by
 intro n;induction n with
 |zero=>intro _ p hp;omega
 |succ n ih=>
  intro hf p hp;by_cases e:p=n
  . subst e;exact hf.1
  . exact ih hf.2 p (by omega)
theorem SI.dy {C0:Cx} {h0:SH} {a0 a:AH} {ta:T AV} {s:St} (hS:SI tab C0 h0 a0 ta a s) (l:List SV):SI tab C0 h0 a0 ta a (eN l s):=by
 obtain⟨C,hF,H,hT,hG,hK⟩:=hS;obtain⟨C',new,e,t,H',F',st,_⟩:=vU l s C hF H;exact⟨C',F',H',by rw[e];exact hT.trans t,hG,by rw[e];exact hK.trans (st.bI new) t.fz H.fz H'.fz⟩
open Classical in
theorem yc (htab:cfg.tab=tab) {C0 C:Cx} {h0:SH} {a0 a:AH} {ta:T AV} {s:St} {base:Nat} (hC0:∀p I,C0.ρ p=some I->p<base) {log:List Ev} (hnew:(∀e∈s.log,base<=e.id)/\ ∀e∈log,base<=e.id) (hF:FS C s.ts ta) (H:HS tab C s.h a) (hT:Tr C0 s.log C) (hG:Grow a0 a) (hK:bS C0 h0 a0 s.log C s.h a)
   (hb0:∀p o,h0.get p=some o->p<base) {e:Fr×SH} (h1:gf s.ts s.h e.2 e.1) (h2:ir cfg.tab s.h e.2) (hl:low e.1 e.2=true) (hbn:base<=e.2.next) (hst:stay base s.h e.2=true):SI tab C0 h0 a0 ta a ⟨e.1,e.2,log⟩:=by
 obtain⟨ts,eh⟩:=e;simp only at h1 h2 hl hbn hst⊢;unfold low at hl;simp only[Ab,Av]at hl;obtain⟨hl1,hl2⟩:=hl;obtain⟨hnow,hlog⟩:=hnew;rw[htab]at h2;have hfit:=Gt h2;have hlow:∀p o,eh.get p=some o->p<eh.next/\o.lt eh.next=true:=by
   intro p o hp;unfold SH.get at hp;split at hp
   . rename_i o' ho'
     cases hp;have:=hl2 _ (xm ho');simp only[BB]at this;exact this
   . cases hp
 let szOf (t:TypeId):Nat:=(tab.siz.get t).getD 0
 let Cy:Cx:=⟨fun p=>if p<eh.next then(match C.ρ p with
     |some I=>some I
     | none=>match eh.get p with
       |some (.arr _ _ _ t)=>some ⟨0,0,szOf t,none⟩
       |_=>none)else none,C.Fz⟩
 have hρ:∀p I,p<eh.next->C.ρ p=some I->Cy.ρ p=some I:=by
   intro p I hp hI;simp[Cy,hp,hI]
 have hcut:(C.cut eh.next).le Cy:=by
   refine⟨fun p I hp=>?_,fun _ _ h=>h⟩;simp only[Cx.cut]at hp;split at hp
   . rename_i hlt;exact hρ p I hlt hp
   . cases hp
 have hval:∀{s:SV} {v:AV},au C s v->s.lt eh.next=true->au Cy s v:=fun h hl=>(h.cut hl).le hcut
 have hback:∀p I,Cy.ρ p=some I->I.cap.isSome->C.ρ p=some I:=by
   intro p I hp hc;simp only[Cy]at hp;split at hp
   . split at hp
     . rename_i I' hI';rw[hI'];exact hp
     . split at hp
       . cases hp;simp at hc
       . cases hp
   . cases hp
 have hlive:∀p o I,eh.get p=some o->C.ρ p=some I->∃o',s.h.get p=some o':=by
   intro p o I hp hI;obtain⟨hlt,_⟩:=hlow p o hp;have hf:=hfit p hlt;rw[hp]at hf
   cases hs:s.h.get p with
   |some o'=>exact⟨o',rfl⟩
   | none=>
     rw[hs]at hf
     cases o with
     |cells cs t=>exact hf.elim
     | arr X L enc t=>
       have:=Ag (bC hf).1;have:=H.lt p I hI;omega
 refine⟨Cy,?_,⟨?_,?_,H.fz,?_,?_,H.wf⟩,⟨?_,hT.fz⟩,hG,?_⟩
 ·
   intro t ev hev;obtain⟨v,hv,hfv⟩:=Gu h1 hev;have hlt:=hl1 _ (xm hev);have hsv:=hF t v hv;simp only at hlt;unfold kU at hfv;split at hfv
   . rename_i b;split at hfv
     . rename_i X L enc t' hb1 hb2;rw[jJ hsv];obtain⟨hbl,_⟩:=hlow _ _ hb2;have hf:=hfit _ hbl;rw[hb1,hb2]at hf;have hge:=Ag (bC hf).1;have hnone:C.ρ b=none:=by
         cases hz:C.ρ b with
         |none=>rfl
         |some I=>have:=H.lt _ _ hz;omega
       exact .cR (I:=⟨0,0,szOf t',none⟩) (by simp[Cy,hbl,hnone,hb2]) rfl
     . exact hfv.elim
   . exact hval (x9 hfv hsv) hlt
 ·
   intro p o hp;obtain⟨hlt,hol⟩:=hlow p o hp;have hf:=hfit p hlt;rw[hp]at hf
   cases hs:s.h.get p with
   | none=>
     rw[hs]at hf
     cases o with
     |cells cs t=>exact hf.elim
     | arr X L enc t=>
       obtain⟨hge,hL,hz⟩:=bC hf;obtain⟨n,hn,hz⟩:=bW hz;obtain⟨hn0,hz⟩:=bC hz;have hge:=Ag hge;have hnone:C.ρ p=none:=by
         cases hz:C.ρ p with
         |none=>rfl
         |some I=>have:=H.lt _ _ hz;omega
       have hsz:szOf t=n:=by simp[szOf,hn]
       refine⟨⟨0,0,szOf t,none⟩,by simp[Cy,hlt,hnone,hp],?_⟩;subst hL;have hn0:n≠0:=fun e=>by subst e;simp at hn0
       exact⟨by simp only[hsz];exact hn,by simp only[hsz];omega,rfl,fun i x hx=>by simp at hx,rfl⟩
   | some o'=>
     rw[hs]at hf;obtain⟨I,hI,ho⟩:=H.obj p o' hs;refine⟨I,hρ p I hlt hI,?_⟩
     cases o with
     | cells cs t=>
       cases o' with
       |arr X L enc t'=>exact hf.elim
       | cells cs' t'=>
         obtain⟨htt,hcs⟩:=bC hf;have htt:=Aa htt;subst htt;obtain⟨q1,ca,sz,q2,q3,q4⟩:=ho;have q5:=HM hcs q3;exact⟨q1,ca,sz,q2,⟨q5.1,fun i x v hx hv=>hval (q5.2 i x v hx hv) (nW hol hx)⟩,q4⟩
     | arr X L enc t=>
       cases o' with
       |cells cs' t'=>exact hf.elim
       | arr X' L' enc' t'=>
         obtain⟨htt,hLL⟩:=bC hf;have htt:=Aa htt;subst htt
         cases hLL;exact ho.congr (a':=a) rfl|>fun ho=>by
           obtain⟨g1,g2,g3,g4,g5⟩:=ho;exact⟨g1,g2,g3,g4,g5⟩
 . intro p q o o' I J hp hq hI hJ hc hc' e;have hI':=hback p I hI hc;have hJ':=hback q J hJ hc';obtain⟨o1,g1⟩:=hlive p o I hp hI';obtain⟨o2,g2⟩:=hlive q o' J hq hJ';exact H.inj p q o1 o2 I J g1 g2 hI' hJ' hc hc' e
 . intro p o I hp hI hc;have hI':=hback p I hI hc;obtain⟨o1,g1⟩:=hlive p o I hp hI';exact H.dj p o1 I g1 hI' hc
 . intro p I hI;simp only[Cy]at hI;split at hI
   . assumption
   . cases hI
 . intro sv v hsv;have hlt:=hsv.low hC0;have h3:=hT.val _ _ hsv;rw[xr _ _ base hlt hnow]at h3;show au Cy (eX log sv) v
   rw[xr _ _ base hlt hlog];exact hval h3 (hsv.low (fun p I hI=>Bd (hC0 p I hI) hbn))
 . intro p o I hp hI hc hn;have hpb:=hb0 p o hp;have hn':p∉gm s.log:=by
     have:∀(l:List Ev),(∀e∈l,base<=e.id)->p∉gm l:=by
       intro l;induction l with
       |nil=>intro _ h;cases h
       | cons e l ih=>
         intro he hm;have h1:=he e Al
         cases e<;>simp only[gm,Ev.id]at hm h1
         . rcases An.1 hm with rfl|hm
           . omega
           . exact ih (fun e' h'=>he e' (Ap _ h')) hm
         . rcases An.1 hm with rfl|hm
           . omega
           . exact ih (fun e' h'=>he e' (Ap _ h')) hm
         . exact ih (fun e' h'=>he e' (Ap _ h')) hm
     exact this _ hnow
   obtain⟨g1,g2⟩:=hK p o I hp hI hc hn';refine⟨g1,?_⟩;rcases g2 with⟨o',q1,q2⟩|g2
   . have:=Av.1 hst p (DK.2 hpb);rw[q1]at this
     cases hz:eh.get p with
     |none=>rw[hz]at this;cases this
     |some o2=>exact .inl ⟨o2,rfl,hρ p I (by omega) q2⟩
   . exact .inr g2
theorem I5 (pr:eE P tab) (htab:cfg.tab=tab) (hcon:∀g C,cfg.cJ g=some C->bq P tab g C) (hdraw:∀rec,jR P tab rec->sQ P tab cfg rec):∀(n:Nat),jR P tab (wp cfg n)/\ ∀(fn:FuncId) (nt base:Nat) (todo:List cP) (s:St) (Q:SV->St->Prop) (C0:Cx) (h0:SH) (a0:AH),(∀p I,C0.ρ p=some I->p<base)->(∀p o,h0.get p=some o->p<base)->∀(fr:ae) (a:AH),
  wp cfg n ⟨fn,nt,base,todo,s⟩ Q->e8 fr fn nt->
  TS (fun fl b k'=>∀(ts:Fr) (h:SH) (log:List Ev) (fr:ae) (a:AH),fl ts h log->fr.todo= .inLoop b::k'->e8 fr fn nt->SI tab C0 h0 a0 fr.tmps a ⟨ts,h,log⟩->da P {fr,cs:=[],h:=a} (e9 tab C0 h0 a0 Q)) todo fr.todo->
  SI tab C0 h0 a0 fr.tmps a s->da P {fr,cs:=[],h:=a} (e9 tab C0 h0 a0 Q):=by
 intro n;induction n with
 |zero=>exact⟨fun f fn body args h a C avs Q _ _ h'=>h'.elim,fun fn nt base todo s Q C0 h0 a0 _ _ fr a h=>h.elim⟩
 | succ n ihn=>
  obtain ⟨ihrec,ih⟩:=ihn;have walk:∀(fn:FuncId) (nt base:Nat) (todo:List cP) (s:St) (Q:SV->St->Prop) (C0:Cx) (h0:SH) (a0:AH),(∀p I,C0.ρ p=some I->p<base)->(∀p o,h0.get p=some o->p<base)->∀(fr:ae) (a:AH),
     wp cfg (n+1) ⟨fn,nt,base,todo,s⟩ Q->e8 fr fn nt->
     TS (fun fl b k'=>∀(ts:Fr) (h:SH) (log:List Ev) (fr:ae) (a:AH),fl ts h log->fr.todo= .inLoop b::k'->e8 fr fn nt->SI tab C0 h0 a0 fr.tmps a ⟨ts,h,log⟩->da P {fr,cs:=[],h:=a} (e9 tab C0 h0 a0 Q)) todo fr.todo->
     SI tab C0 h0 a0 fr.tmps a s->da P {fr,cs:=[],h:=a} (e9 tab C0 h0 a0 Q):=by
    intro fn nt base todo s Q C0 h0 a0 hC0 hh0 fr a h hf hts hS;have fM:∀(k:List cP) (k':List aT) (s':St),wp cfg n ⟨fn,nt,base,k,s'⟩ Q->(Am.step tab sub0 {fr,cs:=[],h:=a}= .ok (.next {fr:={fr with todo:=k'},cs:=[],h:=a}))->
      TS (fun fl b k'=>∀(ts:Fr) (h:SH) (log:List Ev) (fr:ae) (a:AH),fl ts h log->fr.todo= .inLoop b::k'->e8 fr fn nt->SI tab C0 h0 a0 fr.tmps a ⟨ts,h,log⟩->da P {fr,cs:=[],h:=a} (e9 tab C0 h0 a0 Q)) k k'->
      SI tab C0 h0 a0 fr.tmps a s'->da P {fr,cs:=[],h:=a} (e9 tab C0 h0 a0 Q):=fun k k' s' hw hstep hk hS'=>da.next pr hstep (ih fn nt base k s' Q C0 h0 a0 hC0 hh0 _ a hw (hf.todo fr.tmps k') hk hS')
    generalize htodo:fr.todo=todo' at hts
    simp only[wp]at h
    cases hts with
    |nil=>exact yy pr htab h hf hS (.inl htodo)
    |inBlock id hk=>exact fM _ _ s h (by simp only[Am.step,hf.mode,htodo]) hk hS
    |inScope b hk=>exact fM _ _ s h (by simp only[Am.step,hf.mode,htodo]) hk hS
    |inLoop b hk=>exact fM _ _ s h (by simp only[Am.step,hf.mode,htodo]) (.code b (.inLoop b hk)) hS
    |head fl b hk ho=>exact ho s.ts s.h s.log fr a h htodo hf hS
    | @inRegion k k' ops l hk=>
     cases l with
     |nil=>exact fM _ _ s h (by simp only[Am.step,hf.mode,htodo]) hk hS
     |cons i rest=>
      simp only at h;split at h
      . rename_i o ho;obtain⟨C,hF,H,hT,hG,hK⟩:=hS;obtain⟨b,s1,h1,hw,hF1,eh,el⟩:=sg h hF;have hfin:∀v,fr.finish v= .ok {fr with tmps:=fr.put o.dst v,todo:= .inRegion ops rest::k'}:=by
          intro v;unfold ae.finish;rw[htodo];simp only[ho,Bw]
        have hput:∀(v:AV),fr.put o.dst v=ef nt fr.tmps o.dst v:=by
          intro v;unfold ae.put ef;rw[hf.nt]
          cases o.dst<;>rfl
        have H1:HS tab C s1.h a:=by rw[eh];exact H
        have hT1:Tr C0 s1.log C:=by rw[el];exact hT
        have hK1:bS C0 h0 a0 s1.log C s1.h a:=by rw[el,eh];exact hK
        cases b with
        | false=>
          simp only[AB]at h1;obtain⟨s2,k1,k2,k3,k4⟩:=mA (v:= .aO []) h1 hF1 (.pure (.aO rfl (fun i c v hc=>by simp at hc)));refine da.next pr (m':={fr:={fr with tmps:=fr.put o.dst (.aO []),todo:= .inRegion ops rest::k'},cs:=[],h:=a}) (by
           simp only[Am.step,hf.mode,htodo,ho];rw[rb hw];simp only[Ah,Ax];rw[rb (hfin _),hf.mode]) (ih fn nt base _ s2 Q C0 h0 a0 hC0 hh0 _ a k1 (hf.todo _ _) (.inRegion ops rest hk) ⟨C,?_,by rw[k3];exact H1,by rw[k4];exact hT1,hG,by rw[k3,k4];exact hK1⟩)
          simp only;rw[hput];exact k2
        | true=>
          simp only[AY]at h1;refine Je pr hf.mode htodo ho hw (wN htab ihrec hcon h1 hF1 H1) (fun v=>⟨_,hfin v⟩) ?_;rintro v a1 ⟨sv,s2,k1,k2⟩ fr' hfr;rw[hfin v]at hfr
          cases hfr;obtain⟨C',q1,q2,q3,q4,q5,q6⟩:=SI.res H1 hT1 hG hK1 k2;obtain⟨s3,r1,r2,r3,r4⟩:=mA k1 q2 q1;refine ih fn nt base _ s3 Q C0 h0 a0 hC0 hh0 _ a1 r1 (hf.todo _ _) (.inRegion ops rest hk) ⟨C',?_,by rw[r3];exact q3,by rw[r4];exact q4,q5,by rw[r3,r4];exact q6⟩;simp only;rw[hput];exact r2
      . exact h.elim
    | @code k k' c hk=>
     cases c with
     |skip=>exact fM _ _ s h (by simp only[Am.step,hf.mode,htodo]) hk hS
     |label l=>exact fM _ _ s h (by simp only[Am.step,hf.mode,htodo]) hk hS
     |ret=>exact yy pr htab h hf hS (.inr ⟨_,htodo⟩)
     |seq x y=>exact fM _ _ s h (by simp only[Am.step,hf.mode,htodo]) (.code x (.code y hk)) hS
     |block id b=>exact fM _ _ s h (by simp only[Am.step,hf.mode,htodo]) (.code b (.inBlock id hk)) hS
     |scope b=>exact fM _ _ s h (by simp only[Am.step,hf.mode,htodo]) (.code b (.inScope b hk)) hS
     |exit id=>
      simp only at h;split at h
      . rename_i k1 hk1;obtain⟨k1',g1,g2⟩:=hk.exit hk1;exact fM _ _ s h (by simp only[Am.step,hf.mode,htodo,g1]) g2 hS
      . exact h.elim
     |cond x y z=>
      simp only at h;split at h
      . rename_i p hp;obtain⟨C,hF,H,hT,hG,hK⟩:=hS;obtain⟨v,g1,g2⟩:=gA hF hp;rw[iZ g2]at g1;rcases qG h with⟨rfl,h⟩|⟨rfl,h⟩
        . obtain⟨f1,f2,f3⟩:=xL hF hp;exact fM _ _ _ h (by simp only[Am.step,hf.mode,htodo];rw[rb g1]) (.code y hk) ⟨C,f1,by rw[f2];exact H,by rw[f3];exact hT,hG,by rw[f2,f3];exact hK⟩
        . obtain⟨f1,f2,f3⟩:=xL hF hp;exact fM _ _ _ h (by simp only[Am.step,hf.mode,htodo];rw[rb g1]) (.code z hk) ⟨C,f1,by rw[f2];exact H,by rw[f3];exact hT,hG,by rw[f2,f3];exact hK⟩
      . exact h.elim
     |region id ops d=>
      cases d with
      |false=>exact fM _ _ s h (by simp only[Am.step,hf.mode,htodo]) (.inRegion ops _ hk) hS
      | true=>
        simp only at h;obtain⟨hlt,h⟩:=bC h;obtain⟨C,hF,H,hT,hG,hK⟩:=hS;rw[<-hf.nt]at h;have hd:=hdraw (wp cfg n) ihrec ops fr.nt _ s _ fr.tmps a C h hF H;refine Kj pr hf.mode htodo hlt (n:=ops.size+1) (dQ.mono ?_ _ _ hd);rintro sF ⟨s',C',new,k1,k2,k3,k4,k5,k6,k7⟩;rw[hf.nt]at k1;exact ih fn nt base _ s' Q C0 h0 a0 hC0 hh0 _ sF.h k1 (hf.todo _ _) hk ⟨C',k5,k4,by rw[k2];exact hT.trans k3,hG.trans k6,by rw[k2];exact hK.trans k7 k3.fz H.fz k4.fz⟩
     |loop b=>
      simp only at h;split at h
      . exact fM _ _ s h (by simp only[Am.step,hf.mode,htodo]) (.code b (.inLoop b hk)) hS
      . rename_i A0 hA0;obtain⟨A,h⟩:=He h;have hS:=hS.dy (iu s.ts A.dy);have h:(∃x:A.α,A.ok x/\gf (cr A s).ts (cr A s).h (A.at (cr A s) x).2 (A.at (cr A s) x).1/\ir cfg.tab (cr A s).h (A.at (cr A s) x).2/\ck (stay base (cr A s).h (A.at (cr A s) x).2) True)/\
           ∀x:A.α,A.ok x->ck ((cr A s).log.all (fun e=>Nat.ble base e.id)&&(low (A.at (cr A s) x).1 (A.at (cr A s) x).2&&Nat.ble base (A.at (cr A s) x).2.next)) (wp cfg n ⟨fn,nt,base, .code b:: .head (tF cfg A (cr A s) base x)::k,⟨(A.at (cr A s) x).1,(A.at (cr A s) x).2,(cr A s).log⟩⟩ Q):=h
        have hS:SI tab C0 h0 a0 fr.tmps a (cr A s):=hS;generalize cr A s=s at h hS
        obtain⟨⟨x0,hx0,hf1,hf2,hf3⟩,hall⟩:=h;have hrest:∀x,A.ok x->(∀e∈s.log,base<=e.id)/\low (A.at s x).1 (A.at s x).2=true/\base<=(A.at s x).2.next/\wp cfg n ⟨fn,nt,base, .code b:: .head (tF cfg A s base x)::k,⟨(A.at s x).1,(A.at s x).2,s.log⟩⟩ Q:=by
          intro x hx;obtain⟨g1,g2⟩:=bC (hall x hx);simp only[Ab,Av]at g1;exact⟨fun e he=>Ag (g1.1 e he),g1.2.1,Ag g1.2.2,g2⟩
        have loop:∀(m:Nat) (x:A.α),A.μ x=m->A.ok x->∀(fr2:ae) (a2:AH),fr2.todo= .code b:: .inLoop b::k'->e8 fr2 fn nt->SI tab C0 h0 a0 fr2.tmps a2 ⟨(A.at s x).1,(A.at s x).2,s.log⟩->da P {fr:=fr2,cs:=[],h:=a2} (e9 tab C0 h0 a0 Q):=by
          intro m;induction m using Nat.strongRecOn with
          |_ m ihm=>
           intro x hm hx fr2 a2 ht2 hf2 hS2;obtain⟨_,_,_,hw⟩:=hrest x hx;refine ih fn nt base _ _ Q C0 h0 a0 hC0 hh0 fr2 a2 hw hf2 ?_ hS2;rw[ht2];refine .code b (.head _ b hk ?_);intro ts hh log fr3 a3 hchk ht3 hf3 hS3;have hS3:=hS3.dy (iu ts A.dy);have hchk:ck ((cr A ⟨ts,hh,log⟩).log.all fun e=>Nat.ble base e.id) (∃y:A.α,A.ok y/\A.μ y<A.μ x/\gf (cr A ⟨ts,hh,log⟩).ts (cr A ⟨ts,hh,log⟩).h (A.at s y).2 (A.at s y).1/\ir cfg.tab (cr A ⟨ts,hh,log⟩).h (A.at s y).2/\ck (stay base (cr A ⟨ts,hh,log⟩).h (A.at s y).2) True):=hchk;have hS3:SI tab C0 h0 a0 fr3.tmps a3 (cr A ⟨ts,hh,log⟩):=hS3;generalize cr A ⟨ts,hh,log⟩=s3 at hchk hS3
           obtain⟨hcov,y,hy,hμ,q1,q2,q3⟩:=bC hchk;obtain⟨l0,l1,l2,_⟩:=hrest y hy;obtain⟨C,hF,H,hT,hG,hK⟩:=hS3;have hpre:(∀e∈s3.log,base<=e.id)/\ ∀e∈s.log,base<=e.id:=⟨fun e he=>Ag (Av.1 hcov e he),l0⟩;have hSy:=yc htab hC0 (s:=s3) hpre hF H hT hG hK hh0 q1 q2 l1 l2 (bC q3).1;refine da.next pr (m':={fr:={fr3 with todo:= .code b:: .inLoop b::k'},cs:=[],h:=a3}) (by simp only[Am.step,hf3.mode,ht3]) ?_;exact ihm (A.μ y) (by omega) y rfl hy _ a3 rfl (hf3.todo fr3.tmps _) hSy
        obtain⟨l0,l1,l2,_⟩:=hrest x0 hx0;obtain⟨C,hF,H,hT,hG,hK⟩:=hS;have hS0:=yc htab hC0 (log:=s.log) ⟨l0,l0⟩ hF H hT hG hK hh0 hf1 hf2 l1 l2 (bC hf3).1;refine da.next pr (m':={fr:={fr with todo:= .code b:: .inLoop b::k'},cs:=[],h:=a}) (by simp only[Am.step,hf.mode,htodo]) ?_;exact loop _ x0 rfl hx0 _ a rfl (hf.todo fr.tmps _) hS0
     |_=>exact h.elim
  refine⟨?_,walk⟩;intro f fn body args h a C avs Q hfn hb hw H hs;refine walk f _ h.next _ _ Q C h a H.lt (fun p o hp=>?_) _ a hw ⟨rfl,?_,rfl,rfl,rfl,rfl⟩ (.code body .nil) ⟨C,?_,H,Tr.refl C,Grow.refl a,bS.same _ _ _ _⟩
  . obtain⟨I,hI,_⟩:=H.obj p o hp;exact H.lt p I hI
  . simp only[ae.enter];rw[hs.1]
  . have hlook:∀(l:List SV) (k t:Nat),look (Fr.of l k) t=if k<=t then l[t - k]? else none:=by
     intro l;induction l with
     |nil=>intro k t;simp[Fr.of,look]
     |cons v l ih=>
      intro k t;simp only[Fr.of,gj,ih];by_cases h1:t=k
      . subst h1;simp
      . rw[Ae h1];by_cases h2:k<=t
        . rw[Ai (by omega),Ai h2,show t - k=(t - (k+1))+1 from by omega,AJ]
        . rw[Ae (by omega),Ae h2]
    intro t q hq;rw[hlook]at hq;simp only[Bl,AK,Bu]at hq;obtain⟨v,h1,h2⟩:=hs.get hq;simp only[ae.enter];rw[lZ,h1];exact h2
theorem Ha (pr:eE P tab) (htab:cfg.tab=tab) (hcon:∀g C,cfg.cJ g=some C->bq P tab g C) (hdraw:∀rec,jR P tab rec->sQ P tab cfg rec):∀n,jR P tab (wp cfg n):=fun n=>(I5 pr htab hcon hdraw n).1
end
end
section
universe u v
variable [Inhabited aE]
section
variable {tab:aM} {ta:T AV}
def Part (h0 h:AH):Prop:=∀i o,h0.get i=some o->h.get i=some o
theorem rE {h0 h:AH} (hs:Part h0 h) {b:Nat} {r} (hp:fv h0 b= .ok r):fv h b= .ok r:=by
 unfold fv at hp⊢;split at hp
 . rename_i hg;rw[hs _ _ hg];exact hp
 . cases hp
theorem Cs {h0 h:AH} (hs:Part h0 h) {t b off:Nat} {r} (hp:Am.loadVar tab h0 t b off= .ok r):Am.loadVar tab h t b off= .ok r:=by
 unfold Am.loadVar readN at hp⊢;obtain⟨p,h1,hp⟩:=af.1 hp;rw[rb h1];split at hp
 . rename_i hc;simp only[hc,AK];obtain⟨n,h2,hp⟩:=af.1 hp;obtain⟨cs,h3,hp⟩:=af.1 hp;obtain⟨c,h4,h3⟩:=af.1 h3;rw[rb h2,rb (show(fv h b>>=_)=_ from by rw[rb (rE hs h4)];exact h3)];exact hp
 . rename_i hc;simp only[hc,Ax];obtain⟨c,h4,hp⟩:=af.1 hp;rw[rb (rE hs h4)];exact hp
theorem Cp {h0 h:AH} (hs:Part h0 h) {b:Nat} {c:dX} {r} (hp:capLow h0 b c= .ok r):capLow h b c= .ok r:=by
 cases c with
 |lit n=>exact hp
 |tail k=>
  simp only[capLow]at hp⊢;obtain⟨x,h1,hp⟩:=af.1 hp;rw[rb (rE hs h1)];exact hp
theorem Cw {h0 h h1:AH} (hs:Part h0 h) {t:TypeId} {x v:AV} {lo hi:Option Operand} (hp:fG tab ta h0 t x lo hi none= .ok (v,h1)):fG tab ta h t x lo hi none= .ok (v,h):=by
 unfold fG at hp⊢;obtain⟨d,hd,hp⟩:=af.1 hp;rw[rb hd];split at hp
 . obtain⟨_,h1,hp⟩:=af.1 hp;obtain⟨l,h2,hp⟩:=af.1 hp;obtain⟨u,h3,hp⟩:=af.1 hp;obtain⟨_,h4,hp⟩:=af.1 hp
   cases hp;rw[rb h1,rb h2,rb h3,rb h4]
 . obtain⟨_,h0,hp⟩:=af.1 hp;obtain⟨l,h1,hp⟩:=af.1 hp;obtain⟨u,h2,hp⟩:=af.1 hp;obtain⟨m,h3,hp⟩:=af.1 hp;obtain⟨_,h4,hp⟩:=af.1 hp
   cases hp;rw[rb h0,rb h1,rb h2,rb h3,rb h4]
 . rename_i cap _;obtain⟨c,h0,hp⟩:=af.1 hp;obtain⟨n,h1,hp⟩:=af.1 hp;obtain⟨l,h2,hp⟩:=af.1 hp;obtain⟨u,h3,hp⟩:=af.1 hp;rw[rb (Cp hs h0),rb h1,rb h2,rb h3];simp only at hp⊢
   cases cap with
   |lit m=>
    simp only at hp⊢;obtain⟨_,h4,hp⟩:=af.1 hp
    cases hp;rw[rb h4]
   |tail k=>
    simp only at hp⊢;obtain⟨_,h4,hp⟩:=af.1 hp;rw[rb h4]
    cases h5:Nat.beq l 0<;>rw[h5]at hp<;>simp only[AY,AB]at hp⊢
    . cases h6:Nat.blt l c<;>rw[h6]at hp<;>simp only[AY,AB]at hp⊢ <;>(cases hp;rfl)
    . cases hp;rfl
 . obtain⟨_,h0,hp⟩:=af.1 hp;obtain⟨l,h1,hp⟩:=af.1 hp;obtain⟨u,h2,hp⟩:=af.1 hp;obtain⟨_,h4,hp⟩:=af.1 hp
   cases hp;rw[rb h0,rb h1,rb h2,rb h4]
 . obtain⟨_,h0,hp⟩:=af.1 hp;obtain⟨l,h1,hp⟩:=af.1 hp;obtain⟨u,h2,hp⟩:=af.1 hp;obtain⟨_,h4,hp⟩:=af.1 hp
   cases hp;rw[rb h0,rb h1,rb h2,rb h4]
 . cases hp
theorem wi {h0 h:AH} (hs:Part h0 h) {t:TypeId} {x y:AV} {r} (hp:eqOp tab h0 t x y= .ok r):eqOp tab h t x y= .ok r:=by
 unfold eqOp at hp⊢;split at hp
 . obtain⟨d,hd,hp⟩:=af.1 hp;rw[rb hd];split at hp
   . obtain⟨n,h1,hp⟩:=af.1 hp;obtain⟨_,h2,hp⟩:=af.1 hp;rw[rb h1,rb h2];split at hp
     . rename_i hc;simp only[hc,AK];exact hp
     . rename_i hc;simp only[hc,Ax];split at hp
       . rename_i g1 g2;rw[hs _ _ g1,hs _ _ g2];exact hp
       . cases hp
   . cases hp
 . exact hp
 . cases hp
 . exact hp
theorem EP {h0 h:AH} (hs:Part h0 h) {op:BinOp} {t:TypeId} {x y:AV} {r} (hp:Am.binOp tab h0 op t x y= .ok r):Am.binOp tab h op t x y= .ok r:=by
 unfold Am.binOp at hp⊢;split at hp
 . exact hp
 . exact hp
 . exact hp
 . exact hp
 . obtain⟨b,h1,hp⟩:=af.1 hp;rw[rb (wi hs h1)];exact hp
 . obtain⟨b,h1,hp⟩:=af.1 hp;rw[rb (wi hs h1)];exact hp
 . cases hp
theorem C6 {h0 h:AH} (hs:Part h0 h) {u:TypeDesc} {x:AV} {r} (hp:lenOf h0 u x= .ok r):lenOf h u x= .ok r:=by
 unfold lenOf at hp⊢;split at hp
 . exact hp
 . exact hp
 . exact hp
 . exact hp
 . exact hp
 . exact hp
 . obtain⟨q,h1,hp⟩:=af.1 hp;unfold gU at h1⊢;split at h1
   . rename_i hg
     cases h1;simp only[hs _ _ hg];exact hp
   . cases h1
 . exact hp
 . cases hp
theorem rK {h0 h h1:AH} (hs:Part h0 h) {ats:Array TypeId} {l:List AV} {b:Builtin} (hb:b= .len\/b= .min\/b= .max) {v:AV} (hp:Am.builtin tab b ats l h0= .ok (v,h1)):Am.builtin tab b ats l h= .ok (v,h):=by
 rcases hb with rfl|rfl|rfl
 . cases l with
   |nil=>cases hp
   | cons x l=>
    cases l with
    |cons y l=>cases hp
    |nil=>
     unfold Am.builtin at hp⊢;simp only at hp⊢;obtain⟨t,h1,hp⟩:=af.1 hp;obtain⟨u,h2,hp⟩:=af.1 hp;rw[rb h1,rb h2];split at hp
     . obtain⟨w,h3,hp⟩:=af.1 hp;rw[rb h3];split at hp
       . cases hp;rfl
       . cases hp
     . obtain⟨n,h3,hp⟩:=af.1 hp;rw[rb (C6 hs h3)]
       cases hp;rfl
 . cases l with
   |nil=>cases hp
   |cons x l=>
    cases x<;>first|(cases hp;done)|skip
    unfold Am.builtin at hp⊢;simp only at hp⊢;obtain⟨t,h1,hp⟩:=af.1 hp;rw[rb h1];cases hp;rfl
 . cases l with
   |nil=>cases hp
   |cons x l=>
    cases x<;>first|(cases hp;done)|skip
    unfold Am.builtin at hp⊢;simp only at hp⊢;obtain⟨t,h1,hp⟩:=af.1 hp;rw[rb h1];cases hp;rfl
def nj (op:Op):Bool:=
 match op with
 | .lookup .. | .entry _| .typeAssert .. =>false
 | .slice _ _ _ _ (some _)=>false
 | .call c=>match c.callee with| .builtin .cap=>false|_=>true
 |_=>true
theorem rD {o:Oper} (hc:cls tab o= .pure\/cls tab o= .read) (hlk:nj o.op=true)
  {h0 h h1:AH} (hs:Part h0 h) {v:AV} (hp:df tab ta h0 o= .ok (v,h1)):df tab ta h o= .ok (v,h):=by
 obtain⟨dst,op,type,pos,after,guard⟩:=o;unfold df at hp⊢
 cases op<;>simp only[cls]at hc<;>simp only at hp⊢
 case slice t x lo hi mx=>
  cases mx with
  |some m=>cases hlk
  | none=>
    obtain⟨a,ha,hp⟩:=af.1 hp;rw[rb ha];exact Cw hs hp
 case load t a=>
  obtain⟨p,h1,hp⟩:=af.1 hp;rw[rb h1];split at hp
  . obtain⟨u,h2,hp⟩:=af.1 hp;rw[rb (Cs hs h2)];cases hp;rfl
  . cases hp
 case binOp op t x y e=>
  obtain⟨p,h1,hp⟩:=af.1 hp;obtain⟨q,h2,hp⟩:=af.1 hp;obtain⟨u,h3,hp⟩:=af.1 hp;rw[rb h1,rb h2,rb (EP hs h3)];cases hp;rfl
 case convert src dst x=>
  obtain⟨k,j,e1,e2⟩:=wU hc;obtain⟨w,h1,hp⟩:=af.1 hp;obtain⟨i,n,rfl,rfl,_⟩:=xH e1 e2 hp;rw[rb h1];exact vx e1 e2 i n h
 case lookup=>cases hlk
 case entry=>cases hlk
 case typeAssert=>cases hlk
 case call c=>
  cases hcc:c.callee with
  | builtin b=>
    rw[hcc]at hp hc;simp only at hp hc⊢;obtain⟨l,hl,hp⟩:=af.1 hp;rw[rb hl]
    cases b<;>first
     |exact rK hs (.inl rfl) hp
     |exact rK hs (.inr (.inl rfl)) hp
     |exact rK hs (.inr (.inr rfl)) hp
     |(simp only[nj,hcc]at hlk;cases hlk;done)
     |(rcases hc with hc|hc<;>cases hc)
  |value f=>rw[hcc]at hp;cases hp
  |invoke r m=>rw[hcc]at hp;cases hp
 all_goals first
  |(rcases hc with hc|hc<;>cases hc;done)
  |skip
 all_goals (repeat' first
  |(cases hp;done)
  |(cases hp;rfl)
  |(obtain⟨_,hx,hp⟩:=af.1 hp;rw[rb hx];clear hx)
  |split at hp)
end
end
section
universe u v
variable [Inhabited aE]
section
variable {tab:aM} {view:TypeId->Option View} {C:Cx} {s:St} {ta:T AV} {a:AH} {h:SH}
def bn (C:Cx) (s:St) (a:AH) (K:SV->St->Prop) (r:R (AV×AH)):Prop:=∃sv v,K sv s/\r= .ok (v,a)/\au C sv v
theorem bn.same {K:SV->St->Prop} {sv:SV} {v:AV} (hv:au C sv v) (hk:K sv s):bn C s a K (.ok (v,a)):=⟨sv,v,hk,rfl,hv⟩
theorem bn.val {K:SV->St->Prop} {r:R AV} (h:dU C (fun v=>K v s) r):bn C s a K (do .ok (<-r,a)):=by
 obtain⟨sv,v,h1,h2,h3⟩:=h;rw[rb h1];exact bn.same h2 h3
theorem CY (hF:FS C s.ts ta) (H:HS tab C s.h a) {t:TypeId} {x:SV} {v:AV} (hv:au C x v) {lo hi:Option Operand} {K:SV->St->Prop} (hK:∀sv s1,K sv s1->s1.log=s.log) (h:oo tab s t x lo hi K):bn C s a K (fG tab ta a t v lo hi none):=by
 unfold oo at h;obtain⟨l,h1,hl⟩:=pZ hF h;obtain⟨u,h2,hu⟩:=pZ hF h1;clear h h1;have h:=h2;clear h2;have o1:∀d:R Nat,dD ta d lo=gi l d:=fun d=>(hl d).1
 have o2:∀d:R Nat,dD ta d hi=gi u d:=fun d=>(hu d).1
 clear hl hu;split at h
 . rename_i c hg;rw[eR hv];obtain⟨h1,h2,h3⟩:=mD h;unfold fG;rw[rb (show und tab t=_ from ro hg)];simp only;rw[rb (show R.check "slice: max" (none:Option Operand).isNone= .ok ()from rfl),rb (show dD ta (.ok 0) lo= .ok (l.getD 0)from by rw[o1];cases l<;>rfl),rb (show dD ta (.ok c.length) hi= .ok (u.getD c.length)from by rw[o2];cases u<;>rfl),
     rb (rc (by simp only[Ab,Be];omega))]
   exact bn.same (.pure (.str _)) h3
 . rename_i e X L enc hg;split at h
   . rename_i n hn;obtain⟨hlen,h⟩:=h;obtain⟨h1,h2,h3⟩:=mD h;obtain⟨w,h4,h5⟩:=pw hg hn H.fz (gT hv rfl) hlen o1 o2 h1 h2;rw[h4];exact bn.same (.pure h5) h3
   . exact h.elim
 . rename_i e b hg;split at h
   . rename_i X L enc t' n hb hn;obtain⟨hlen,h⟩:=h;obtain⟨h1,h2,h3⟩:=mD h;obtain⟨C',e1,e2,e3,e4,e5,e6⟩:=gZ hF H hb;obtain⟨w,h4,h5⟩:=pw hg hn e3.fz (e5 v hv) hlen o1 o2 h1 h2;have:=hK _ _ h3;rw[e1]at this;simp at this
   . exact h.elim
 . rename_i e b off len cap hg;split at h
   . rename_i n hn;obtain⟨h1,h2⟩:=bC h;simp only[Ab]at h1
     cases hv with
     |pure hv=>cases hv
     | sl hI=>
      unfold fG;rw[rb (show und tab t=_ from ro hg)];simp only;rw[rb (show capLow a _ (.lit cap)= .ok cap from rfl),rb (show siz tab e= .ok n from ro hn),rb (show dD ta (.ok 0) lo= .ok (l.getD 0)from by rw[o1];cases l<;>rfl),
       rb (show dD ta (.ok len) hi= .ok (u.getD len)from by rw[o2];cases u<;>rfl),
       rb (rc (by simp only[Ab];exact h1))]
      exact bn.same (.sl hI) h2
   . exact h.elim
 . exact h.elim
theorem rI (hF:FS C s.ts ta) (H:HS tab C s.h a) {b:Builtin} {ats:Array TypeId} {l:List SV} {vs:List AV} (hl:aH C l vs) (hb:b= .len\/b= .min\/b= .max) {K:SV->St->Prop} (h:mm tab view s b ats l K):bn C s a K (Am.builtin tab b ats vs a):=by
 unfold mm at h;split at h
 ·
   rename_i x;have hv:∃v,vs=[v]/\au C x v:=by
    cases vs with
    |nil=>have:=hl.1;simp at this
    | cons v vs=>cases vs with
      |nil=>exact⟨v,rfl,hl.head.1⟩
      |cons=>have:=hl.1;simp at this
   obtain⟨v,rfl,hx⟩:=hv;unfold Am.builtin;simp only
   cases ht:ats[0]? with
   |none=>rw[ht]at h;simp at h
   |some t=>
    rw[ht]at h;simp only[Bw]at h;rw[rb (ro rfl)];split at h
    . rename_i hg;split at h
      . rw[eR hx,rb (show und tab t=_ from ro hg)];exact bn.same (.pure (.int _ _)) h
      . exact h.elim
    . rename_i e hg;obtain⟨n,h1,h2⟩:=bW h;rw[rb (show und tab t=_ from ro hg)];simp only;rw[rb (xV H hx h1)];exact bn.same (.pure (.int _ _)) h2
    . exact h.elim
 . rcases hb with hb|hb|hb<;>cases hb
 ·
   rename_i k x l
   cases vs with
   |nil=>have:=hl.1;simp at this
   |cons v vs=>
    obtain⟨h1,h2⟩:=hl.head;rw[fy h1];obtain⟨sv,h3,h4⟩:=bW h;obtain⟨v,h5,h6⟩:=xX h2 h3;unfold Am.builtin;simp only;rw[rb h5];exact bn.same h6 h4
 ·
   rename_i k x l
   cases vs with
   |nil=>have:=hl.1;simp at this
   |cons v vs=>
    obtain⟨h1,h2⟩:=hl.head;rw[fy h1];obtain⟨sv,h3,h4⟩:=bW h;obtain⟨v,h5,h6⟩:=xW h2 h3;unfold Am.builtin;simp only;rw[rb h5];exact bn.same h6 h4
 . exact h.elim
theorem GZ (hF:FS C s.ts ta) (H:HS tab C s.h a) {o:Oper} (hc:cls tab o= .pure\/cls tab o= .read) {K:SV->St->Prop} (hK:∀sv s1,K sv s1->s1.log=s.log) (h:ik tab view s o K):nj o.op=true/\bn C s a K (df tab ta a o):=by
 obtain⟨dst,op,type,pos,after,guard⟩:=o;unfold ik at h;unfold df;have same1:∀{x:Operand} {K':SV->Prop},so (dE s.ts x) K'->∃sv v,ev ta x= .ok v/\au C sv v/\K' sv:=by
  intro x K' h;obtain⟨sv,h1,h2⟩:=bW h;obtain⟨v,h3,h4⟩:=gA hF h1;exact⟨sv,v,h3,h4,h2⟩
 cases op<;>simp only at h⊢ <;>simp only[cls,nj]at hc⊢
 case move x=>
  refine⟨trivial,?_⟩;obtain⟨sv,v,h3,h4,h2⟩:=same1 h;rw[cz h3];exact bn.same h4 h2
 case assign x=>
  refine⟨trivial,?_⟩;obtain⟨sv,v,h3,h4,h2⟩:=same1 h;rw[cz h3];exact bn.same h4 h2
 case pick c x y=>
  refine⟨trivial,?_⟩;split at h
  . rename_i p hc;obtain⟨v,h3,h4⟩:=gA hF hc;rw[iZ h4]at h3;rw[cz h3];split at h
    . rename_i p1 p2 hx hy;obtain⟨u,g1,g2⟩:=gA hF hx;obtain⟨w,g3,g4⟩:=gA hF hy;rw[iZ g2]at g1;rw[iZ g4]at g3
      cases p
      . simp only;rw[cz g3];exact bn.same (.pure (.bool _)) h
      . simp only;rw[cz g1];exact bn.same (.pure (.bool _)) h
    . rcases qG h with⟨rfl,h⟩|⟨rfl,h⟩
      . obtain⟨sv,v,h3,h4,h2⟩:=same1 h;simp only;rw[cz h3];exact bn.same h4 h2
      . obtain⟨sv,v,h3,h4,h2⟩:=same1 h;simp only;rw[cz h3];exact bn.same h4 h2
  . exact h.elim
 case build t ps=>
  refine⟨trivial,?_⟩;obtain⟨l,h1,h2⟩:=bW h;obtain⟨sv,h3,h4⟩:=bW h2;obtain⟨vs,g1,g2,g3⟩:=pn hF h1;obtain⟨v,g4,g5⟩:=v7 g2 g3 h3;rw[rb g1,rb g4];exact bn.same g5 h4
 case load t x=>
  refine⟨trivial,?_⟩;obtain⟨sv,v,h3,h4,h2⟩:=same1 h;obtain⟨b,off,u,su,rfl,g1,g2,g3⟩:=sI H h4 h2;rw[cz h3];simp only;rw[rb g1];exact bn.same g2 g3
 case nilCheck x=>
  refine⟨trivial,?_⟩;obtain⟨sv,v,h3,h4,h2⟩:=same1 h;rw[cz h3];split at h2
  . cases h4 with
    |pure h=>cases h
    |ptr hI=>exact bn.same (.ptr hI) h2
  . cases h4 with
    |pure h=>cases h
    |bo hI hc=>exact bn.same (.bo hI hc) h2
  . cases h4 with
    | pure h=>cases h with
      |bB b base ca e sz ext bk u hb hl h1 h2'=>exact bn.same (.pure (.bB b base ca e sz ext bk u hb hl h1 h2')) h2
  . cases h4 with
    | pure h=>cases h with
      |fn h1 h2' h3' h4'=>exact bn.same (.pure (.fn h1 h2' h3' h4')) h2
    |fn h1 h2' h3' h4'=>exact bn.same (.fn h1 h2' h3' h4') h2
  . exact h2.elim
 case binOp op t x y _=>
  refine⟨trivial,?_⟩;obtain⟨sv,v,h3,h4,h2⟩:=same1 h;obtain⟨sw,w,g3,g4,g2⟩:=same1 h2;rw[cz h3,cz g3];exact bn.val (xT g2 h4 g4)
 case unOp op _ x=>
  refine⟨trivial,?_⟩;obtain⟨sv,v,h3,h4,h2⟩:=same1 h;rw[cz h3];exact bn.val (yA h2 h4)
 case makeFunc fn first captured=>
  refine⟨trivial,?_⟩;split at h
  . obtain⟨xs,h1,h2⟩:=bW h;obtain⟨ys,h3,h4⟩:=bW h2;obtain⟨us,g1,g2⟩:=lv hF h1;obtain⟨vs,g3,g4⟩:=lv hF h3;simp only;rw[rb g1,rb g3];exact bn.same (.fn g2.1 g4.1 g2.2 g4.2) h4
  . exact h.elim
 case fieldAddr st x f=>
  refine⟨trivial,?_⟩;obtain⟨fd,h1,h2⟩:=bW h;obtain⟨hck,h3⟩:=bC h2;obtain⟨sv,v,h4,h5,h6⟩:=same1 h3;rw[rb (pD h1)];split at hck
  . rename_i n hn;rw[rb (show siz tab fd.type=_ from ro hn),rb (rc hck),cz h4];split at h6
    . cases h5 with
      |pure h=>cases h
      |ptr hI=>exact bn.same (.ptr hI) h6
    . cases h5 with
      |pure h=>cases h
      |bo hI hc=>simp only[BP];exact bn.same (.bo hI hc) h6
    . cases h5 with
      | pure h=>cases h with
        |bB b base ca e sz ext bk u hb hl h1 h2'=>simp only[BP];exact bn.same (.pure (.bB b base ca e sz ext bk u hb hl h1 h2')) h6
    . exact h6.elim
  . cases hck
 case field t x f=>
  refine⟨trivial,?_⟩;obtain⟨fd,h1,h2⟩:=bW h;obtain⟨sv,v,h4,h5,h6⟩:=same1 h2;rw[rb (pD h1),cz h4];split at h6
  . obtain⟨us,rfl,g1⟩:=iE h5;obtain⟨su,g2,g3⟩:=bW h6;obtain⟨u,g4,g5⟩:=mr g1 g2;simp only;rw[rb g4];exact bn.same g5 g3
  . exact h6.elim
 case indexAddr t x ix=>
  refine⟨trivial,?_⟩;obtain⟨sj,vj,h1,h2,h3⟩:=same1 h;obtain⟨i,h4,h5⟩:=nR h3 h2;obtain⟨sv,v,h6,h7,h8⟩:=same1 h5;rw[cz h1,rb h4];split at h8
  . rename_i len e b off hg;split at h8
    . rename_i n hn;obtain⟨g1,g2⟩:=bC h8;rw[rb (show und tab t=_ from ro hg),cz h6]
      cases h7 with
      |pure h=>cases h
      |ptr hI=>simp only;rw[rb (rc g1),rb (show siz tab e=_ from ro hn)];exact bn.same (.ptr hI) g2
    . exact h8.elim
  . rename_i e b off len cap hg;split at h8
    . rename_i n hn;obtain⟨g1,g2⟩:=bC h8;rw[rb (show und tab t=_ from ro hg),cz h6]
      cases h7 with
      |pure h=>cases h
      |sl hI=>simp only;rw[rb (rc g1),rb (show siz tab e=_ from ro hn)];exact bn.same (.ptr hI) g2
    . exact h8.elim
  . rename_i e X L enc hg;split at h8
    . rename_i n hn;obtain⟨x,g1,g2⟩:=bW h8;obtain⟨g2,g3⟩:=bC g2;have g2:=Aa g2;have hi:=(Ac.1 g1).1;obtain⟨b,off,cap,cs,e',sz,ext,bk,rfl,hb,hs,hl,hsz,hc,hcell⟩:=qi (gT h7 rfl) (by rintro rfl;simp at hi);obtain⟨sz0,ext0,hb,hx0⟩:=hb;have hszn:sz=n:=by rw[<-hsz i x g1];exact g2
      subst hszn;rw[rb (show und tab t=_ from ro hg),cz h6];simp only;rw[rb (rc (by simpa using hi)),rb (show siz tab e=_ from ro hn)];refine bn.same (.pure ?_) g3;refine .bB b (off+i*sz) cs e' sz0 ext0 bk (fun j=>(cs[off+i*sz+j]?).getD (.aO [])) hb ?_ ?_ ?_
      . rw[g2];have:i*sz+sz<=L.length*sz:=by
         calc i*sz+sz=(i+1)*sz:=by rw[A7,Dd]
          _<=L.length*sz:=A6 _ hi
        omega
      . intro j v hv;obtain⟨u,q1,_⟩:=hcell i x j v g1 hv;rw[q1];rfl
      . intro j v hv;obtain⟨u,q1,q2⟩:=hcell i x j v g1 hv;rw[q1];exact q2
    . exact h8.elim
  . rename_i e b hg;split at h8
    . rename_i n X L enc e' hn hb;obtain⟨g1,g2⟩:=bC h8;simp only[Ab]at g1;have hee:=Aa g1.1;subst hee;have hi:i<L.length:=by simpa using g1.2
      rw[rb (show und tab t=_ from ro hg),cz h6]
      cases h7 with
      |pure h=>cases h
      | cR hI hc=>
        obtain⟨_,_,_,_,k5⟩:=H.at_ hb hI;rw[hc]at k5;omega
      | own hI hc=>
        rename_i I c;obtain⟨k1,k2,k3,_,k5⟩:=H.at_ hb hI;have hsz:I.sz=n:=by rw[hn]at k1;exact(BT k1).symm
        simp only;rw[rb (rc (by rw[k3];simpa using hi)),rb (show siz tab e=_ from ro hn)];have hh:au C (.bo b i 0) (.ptr I.β (i*I.sz+0)):= .bo hI (by simp[hc]);rw[hsz,A9]at hh;rw[A4];exact bn.same hh g2
    . exact h8.elim
  . exact h8.elim
 case index t x ix=>
  refine⟨trivial,?_⟩;obtain⟨sj,vj,h1,h2,h3⟩:=same1 h;obtain⟨i,h4,h5⟩:=nR h3 h2;obtain⟨sv,v,h6,h7,h8⟩:=same1 h5;rw[cz h1,rb h4];split at h8
  . rename_i len e cs hg;split at h8
    . rename_i n hn;obtain⟨g1,g2⟩:=bC h8;obtain⟨su,g3,g4⟩:=bW g2;obtain⟨us,rfl,g5⟩:=iE h7;obtain⟨u,g6,g7⟩:=mr g5 g3;rw[rb (show und tab t=_ from ro hg),cz h6];simp only;rw[rb (rc g1),rb (show siz tab e=_ from ro hn),rb g6];exact bn.same g7 g4
    . exact h8.elim
  . rename_i c hg;obtain⟨b,g1,g2⟩:=bW h8;rw[rb (show und tab t=_ from ro hg),cz h6,eR h7];simp only;rw[rb (ro g1)];exact bn.same (.pure (.int _ _)) g2
  . exact h8.elim
 case extract t i=>
  refine⟨trivial,?_⟩;obtain⟨sv,v,h6,h7,h8⟩:=same1 h;rw[cz h6];split at h8
  . obtain⟨us,rfl,g5⟩:=ql h7;obtain⟨su,g3,g4⟩:=bW h8;obtain⟨u,g6,g7⟩:=g5.get g3;simp only;rw[rb (ro g6)];exact bn.same g7 g4
  . exact h8.elim
 case slice t x lo hi mx=>
  cases mx with
  |some m=>exact h.elim
  | none=>
    refine⟨rfl,?_⟩;obtain⟨sv,v,h3,h4,h2⟩:=same1 h;rw[cz h3];exact CY hF H h4 hK h2
 case call c=>
  split at h
  . rename_i b hb;obtain⟨l,h1,h2⟩:=bW h;obtain⟨vs,g1,g2⟩:=lv hF h1;rw[hb]at hc⊢;simp only at hc⊢;rw[rb g1]
    cases b<;>simp only at hc⊢ <;>first|(rcases hc with hc|hc<;>cases hc;done)|skip
    case len=>exact⟨trivial,rI hF H g2 (.inl rfl) h2⟩
    case min=>exact⟨trivial,rI hF H g2 (.inr (.inl rfl)) h2⟩
    case max=>exact⟨trivial,rI hF H g2 (.inr (.inr rfl)) h2⟩
    case cap=>unfold mm at h2;exact h2.elim
  . exact h.elim
 case convert src dst x=>
  refine⟨trivial,?_⟩;obtain⟨k0,j0,e1,e2⟩:=wU hc;obtain⟨sv,v,h3,h4,h2⟩:=same1 h;rw[cz h3];unfold qx at h2;split at h2
  . rename_i d k i n hs hd;rw[e2]at hd
    cases hd;rw[fy h4,vx e1 e2];exact bn.same (.pure (.int _ _)) h2
  all_goals first
    |exact h2.elim
    |(rename_i hd;rw[e2]at hd;cases hd;done)
 all_goals first|exact h.elim|(rcases hc with hc|hc<;>cases hc)
end
end
section
universe u v
variable [Inhabited aE]
section
variable {tab:aM} {view:TypeId->Option View} {C:Cx} {s:St} {ta:T AV} {a:AH}
def Made (tab:aM) (C:Cx) (s:St) (a:AH) (K:SV->St->Prop) (r:AH->R (AV×AH)):Prop:=
 ∃sv v so ao I,K sv (s.new so)/\(∀h':AH,h'.next=a.next->r h'= .ok (v,h'.new ao))/\I.β=a.next/\I.cap.isSome/\(∀C',C.le C'->C'.ρ s.h.next=some I->au C' sv v)/\ ∀(C':Cx) (a':AH),C.le C'->a'.get a.next=some ao->cK tab C' I so a'
theorem Made.cells {cs:List SV} {ca:List AV} (hc:aH C cs ca) {e n:Nat} (hn:tab.siz.get e=some n) {K:SV->St->Prop} {sv:SV} {f:Nat->AV} (hv:∀C':Cx,∀I:BI,C'.ρ s.h.next=some I->au C' sv (f I.β)) (hk:K sv (s.new (.cells cs e))) {r:AH->R (AV×AH)}
  (hr:∀h':AH,h'.next=a.next->r h'= .ok (f h'.next,h'.new (.cells ca e n false .rw))):Made tab C s a K r:=by
 refine⟨sv,f a.next, .cells cs e, .cells ca e n false .rw,⟨a.next,0,n,some (.lit 0)⟩,hk,fun h' hh=>by rw[hr h' hh,hh],rfl,rfl,fun C' _ hI=>hv C' _ hI,fun C' a' hle hg=>⟨rfl,ca,n,hg,hc.le hle,hn⟩⟩
theorem G0 (hF:FS C s.ts ta) {o:Oper} (hc:cls tab o= .alloc) {K:SV->St->Prop} (h:ik tab view s o K):Made tab C s a K fun h'=>df tab ta h' o:=by
 obtain⟨dst,op,type,pos,after,guard⟩:=o;unfold ik at h;unfold df;have same1:∀{x:Operand} {K':SV->Prop},so (dE s.ts x) K'->∃sv v,ev ta x= .ok v/\au C sv v/\K' sv:=by
  intro x K' h;obtain⟨sv,h1,h2⟩:=bW h;obtain⟨v,h3,h4⟩:=gA hF h1;exact⟨sv,v,h3,h4,h2⟩
 cases op<;>simp only at h⊢ <;>simp only[cls]at hc
 case alloc e=>
  obtain⟨n,hn,h⟩:=bW h;obtain⟨cs,h1,h2⟩:=bW h;obtain⟨zv,zc,g1,g2,g3⟩:=lr (C:=C) h1;exact Made.cells (f:=fun b=> .ptr b 0) g3 hn (fun C' I hI=> .ptr hI) h2 (fun h' _=>by rw[rb g1,rb g2,rb (eW hn _ _ _)])
 case box e x=>
  obtain⟨n,hn,h⟩:=bW h;obtain⟨sv,v,h3,h4,h2⟩:=same1 h;obtain⟨hk,h2⟩:=bC h2;obtain⟨l,g1,g2⟩:=pz h4 hk;exact Made.cells (f:=fun b=> .ptr b 0) g2 hn (fun C' I hI=> .ptr hI) h2 (fun h' _=>by rw[cz h3,rb g1,rb (eW hn _ _ _)])
 case buildSlice t len ps=>
  obtain⟨l,h1,h2⟩:=bW h;obtain⟨vs,g1,g2,g3⟩:=pn hF h1;have:(fun h'=>(do let l<-hZ ta ps.toList;Am.buildSlice tab h' t len l))=fun h'=>Am.buildSlice tab h' t len vs:=by
    funext h';rw[rb g1]
  rw[this];clear this;clear h h1;have h:=h2;clear h2;unfold pe at h;split at h
  . rename_i e hg;split at h
    . rename_i n z hn hz;obtain⟨hck,h1⟩:=bC h;clear h;simp only[Ab]at hck;obtain⟨zv,zc,q1,q2,q3⟩:=lr (C:=C) hz;have hzl:(Nat.beq zc.length n)=true:=by rw[<-q3.1];exact hck.2
      have hb:∀(h':AH) (ca:List AV),fill (rep len zc) (vs.map fun(i,v)=>(i*n,n,v))= .ok ca->Am.buildSlice tab h' t len vs= .ok (.sl h'.next 0 len (.lit len),h'.new (.cells ca e n false .rw)):=by
        intro h' ca hca;unfold Am.buildSlice;rw[rb (show und tab t=_ from ro hg)];simp only;rw[rb (show siz tab e=_ from ro hn),rb (rc hck.1),rb q1,rb q2,rb (rc hzl),rb hca,rb (eW hn _ _ _)]
      by_cases hl0:len=0
      . subst hl0;simp only[Bo,AY]at h1;obtain⟨hck2,h2⟩:=bC h1;clear h1;simp only[Ab,List.isEmpty_iff,AW]at hck2;obtain⟨rfl,hn0⟩:=hck2;have hn0:n≠0:=fun e=>by subst e;simp at hn0
        cases vs with
        |cons=>simp at g2
        |nil=>
         split at h2
         . rename_i V hV;refine⟨_, .sl a.next 0 0 (.lit 0),_, .cells [] e n false .rw,⟨a.next,0,n,some (.lit 0)⟩,h2,fun h' hh=>(hb h' [] rfl).trans (by rw[hh]),rfl,rfl,fun C' _ hI=> .own hI rfl,fun C' a' hle hg=>⟨hn,by simp only;omega,rfl,fun i x hx=>by simp at hx,[],false, .rw,hg,by simp,by simp, .inr ⟨rfl,rfl⟩,fun i x j v hx=>by simp at hx⟩⟩
         . exact h2.elim
      . rw[dZ hl0]at h1;simp only[AB]at h1;obtain⟨cs,h2,hk⟩:=bW h1;obtain⟨ca,h3,h4⟩:=pO (qs:=vs.map fun x=>(x.1*n,n,x.2)) (xQ q3 len) (by
         simp only[Bp];have:=AN (List.map (fun i=>(i*n,n))) g2;simpa [Bp,BO]using this) (by simpa [Bp,BO]using g3) h2
        exact Made.cells (f:=fun b=> .sl b 0 len (.lit len)) h4 hn (fun C' I hI=> .sl hI) hk (fun h' _=>hb h' ca h3)
    . exact h.elim
  . exact h.elim
 case call c=>
  cases hcc:c.callee with
  |builtin b=>rw[hcc]at hc;cases b<;>cases hc
  |value f=>rw[hcc]at hc;cases hc
  |invoke r m=>rw[hcc]at hc;cases hc
 case convert src dst x=>exact(GX hc).elim
 all_goals first|exact h.elim|(cases hc;done)
end
end
section
universe u v
variable [Inhabited aE]
theorem pF:∀(l:List (Nat×Nat)) (h:SH) (p:Nat),(jS h l).get p=if ∃x∈l,x.2=p then none else h.get p:=by
 intro l;induction l with
 |nil=>intro h p;simp[jS]
 |cons x l ih=>
  intro h p;obtain⟨i,b⟩:=x;simp only[jS,ih,SH.aI];by_cases h1:∃x∈l,x.2=p
  . rw[Ai h1,Ai];obtain⟨x,hx,e⟩:=h1;exact⟨x,Ap _ hx,e⟩
  . rw[Ae h1];by_cases h2:p=b
    . rw[Ai h2,Ai ⟨(i,b),Al,h2.symm⟩]
    . rw[Ae h2,Ae];rintro⟨x,hx,e⟩;rcases An.1 hx with rfl|hx
      . exact h2 e.symm
      . exact h1 ⟨x,hx,e⟩
theorem E3:∀(l:List (Nat×Nat)) (h:SH),(jS h l).next=h.next:=by
 intro l;induction l with
 |nil=>intro h;rfl
 |cons x l ih=>intro h;obtain⟨i,b⟩:=x;simp only[jS,ih,SH.cQ]
theorem k9 (h0:SH) (log:List Ev):∀(l:List (Nat×Nat)) (h:SH) (p:Nat),(gV h h0 log l).get p=if ∃x∈l,x.2=p then fo (h0.get p) log else h.get p:=by
 intro l;induction l with
 |nil=>intro h p;simp[gV]
 |cons x l ih=>
  intro h p;obtain⟨i,b⟩:=x;simp only[gV,ih,SH.aI];by_cases h1:∃x∈l,x.2=p
  . rw[Ai h1,Ai];obtain⟨x,hx,e⟩:=h1;exact⟨x,Ap _ hx,e⟩
  . rw[Ae h1];by_cases h2:p=b
    . rw[Ai h2,Ai ⟨(i,b),Al,h2.symm⟩,h2]
    . rw[Ae h2,Ae];rintro⟨x,hx,e⟩;rcases An.1 hx with rfl|hx
      . exact h2 e.symm
      . exact h1 ⟨x,hx,e⟩
theorem EO (h0:SH) (log:List Ev):∀(l:List (Nat×Nat)) (h:SH),(gV h h0 log l).next=h.next:=by
 intro l;induction l with
 |nil=>intro h;rfl
 |cons x l ih=>intro h;obtain⟨i,b⟩:=x;simp only[gV,ih,SH.cQ]
theorem wv (h:SH) (n:Nat):∀(l:List Nat) (p:Nat),(SH.mk n (kG h l)).get p=if p∈l then h.get p else none:=by
 intro l;induction l with
 |nil=>intro p;simp[kG,SH.get,look]
 |cons b l ih=>
  intro p;have:=ih p;simp only[SH.get,kG,gj]at this⊢;by_cases e:p=b
  . subst e;simp only[AK,An,true_or]
    cases hg:look h.os p with
    |none=>rfl
    |some o=>cases o<;>rfl
  . simp only[Ae e,An,e,false_or];exact this
open Classical in
theorem q7 {a:AH} (hwf:∀i o,a.get i=some o->i<a.next) (P:Nat->Prop):∃a0:AH,a0.next=a.next/\ ∀i,a0.get i=if P i then a.get i else none:=by
 refine⟨eU a (((List.range a.next).filter fun i=>decide (¬P i)).map fun i=>(0,i)),fw _ _,fun i=>?_⟩;rw[eV];by_cases hP:P i
 . rw[Ai hP,Ae];rintro⟨x,hx,e⟩;obtain⟨j,hj,rfl⟩:=A1.1 hx;simp only[AL,Ao]at hj;simp only at e;exact hj.2 (e▸hP)
 . rw[Ae hP];split
   . rfl
   . rename_i hn
     cases hg:a.get i with
     |none=>rfl
     |some o=>exact absurd ⟨(0,i),A1.2 ⟨i,by simp only[AL,DK,Ao];exact⟨hwf i o hg,hP⟩,rfl⟩,rfl⟩ hn
section
variable {tab:aM} {C C':Cx} {h h0:SH} {a a0:AH}
theorem HS.part (H:HS tab C h a) (hn:h0.next=h.next) (hh:∀p o,h0.get p=some o->h.get p=some o) (hp:Part a0 a) (hn0:a0.next=a.next) (hf:∀i o,C.Fz i=some o->a0.get i=some o)
   (hb:∀p o I,h0.get p=some o->C.ρ p=some I->I.cap.isSome->a0.get I.β=a.get I.β):HS tab C h0 a0:=by
 refine⟨fun p o hp=>?_,fun p q o o' I J hp hq=>H.inj p q o o' I J (hh p o hp) (hh q o' hq),hf,fun p o I hp=>H.dj p o I (hh p o hp),fun p I hI=>by rw[hn];exact H.lt p I hI,fun i o hi=>by rw[hn0];exact H.wf i o (hp i o hi)⟩;obtain⟨I,hI,ho⟩:=H.obj p o (hh p o hp);refine⟨I,hI,?_⟩;by_cases hc:I.cap.isSome
 . exact ho.congr (hb p o I hp hI hc)
 . cases o with
   |cells cs t=>exact absurd ho.1 hc
   |arr X L enc t=>
    obtain⟨g1,g2,g3,g4,g5⟩:=ho;refine⟨g1,g2,g3,g4,?_⟩
    cases hcap:I.cap with
    |none=>rw[hcap]at g5;exact g5
    |some c=>rw[hcap]at hc;simp at hc
end
theorem Ig:∀{l:List AV},(∀(i:Nat) v,l[i]? =some v->AV.beq v v=true)->eK l l=true:=by
 intro l;induction l with
 |nil=>intro _;rfl
 |cons v l ih=>intro h;simp only[eK,Ab];exact⟨h 0 v rfl,ih fun i w hw=>h (i+1) w (by simpa using hw)⟩
theorem Fb:∀{l:List SV},fS l=true->∀(i:Nat) (s:SV),l[i]? =some s->s.full=true:=by
 intro l;induction l with
 |nil=>intro _ i s h;simp at h
 |cons v l ih=>
  intro h i s hs;simp only[fS,Ab]at h
  cases i with
  |zero=>simp at hs;rw[<-hs];exact h.1
  |succ i=>exact ih h.2 i s (by simpa using hs)
theorem kp {l:List SV} {m:List AV} (hl:l.length=m.length) (hf:fS l=true) (h:∀(i:Nat) s v,l[i]? =some s->m[i]? =some v->s.full=true->AV.beq v v=true):eK m m=true:=by
 refine Ig fun i v hv=>?_
 have hi:=(Ac.1 hv).1;have hs:l[i]? =some l[i]:=Af (by omega);exact h i _ v hs hv (Fb hf i _ hs)
theorem Fc {Fz:Nat->Option AO} {s:SV} {v:AV} (h:aC Fz s v) (hf:s.full=true):AV.beq v v=true:=by
 induction h with
 |any v=>cases hf
 |bt h0 hv=>rcases hv with rfl|⟨b,off,l,n,k,rfl⟩|⟨a,c,rfl⟩<;>simp[AV.beq]
 |fn h1 h2 _ _ ih3 ih4=>
  simp only[SV.full,Ab]at hf;simp only[AV.beq,Ab];exact⟨⟨by simp,kp h1 hf.1 ih3⟩,kp h2 hf.2 ih4⟩
 |agg h1 _ ih=>simp only[SV.full]at hf;simp only[AV.beq];exact kp h1 hf ih
 |aO h1 _ ih=>simp only[SV.full]at hf;simp only[AV.beq];exact kp h1 hf ih
 |_=>simp[AV.beq]
theorem Hc {C:Cx} {s:SV} {v:AV} (h:au C s v) (hf:s.full=true):AV.beq v v=true:=by
 induction h with
 |pure h=>exact Fc h hf
 |fn h1 h2 _ _ ih3 ih4=>
  simp only[SV.full,Ab]at hf;simp only[AV.beq,Ab];exact⟨⟨by simp,kp h1 hf.1 ih3⟩,kp h2 hf.2 ih4⟩
 |agg h1 _ ih=>simp only[SV.full]at hf;simp only[AV.beq];exact kp h1 hf ih
 |aO h1 _ ih=>simp only[SV.full]at hf;simp only[AV.beq];exact kp h1 hf ih
 |_=>simp[AV.beq]
def gE (C:Cx) (h:SH):List (Nat×Nat)->List (Nat×Nat)->Prop
 |[],[]=>True
 |(i,p)::l,(j,β)::m=>i=j/\(∃o I,h.get p=some o/\C.ρ p=some I/\I.cap.isSome/\I.β=β)/\gE C h l m
 |_,_=>False
theorem gE.filter {C:Cx} {h:SH} (f:Nat->Bool):∀{l m:List (Nat×Nat)},gE C h l m->gE C h (l.filter fun x=>f x.1) (m.filter fun x=>f x.1):=by
 intro l;induction l with
 |nil=>intro m hm;cases m with
  |nil=>exact hm
  |cons=>exact hm.elim
 | cons x l ih=>
  intro m hm;obtain⟨i,p⟩:=x
  cases m with
  |nil=>exact hm.elim
  |cons y m=>
   obtain⟨j,β⟩:=y;obtain⟨rfl,h1,h2⟩:=hm;simp only[B0]
   cases f i
   . simpa using ih h2
   . simpa using⟨rfl,h1,ih h2⟩
theorem gE.mono {C C':Cx} {h h':SH}:∀{l m:List (Nat×Nat)},gE C h l m->(∀x∈l,∀o I,h.get x.2=some o->C.ρ x.2=some I->I.cap.isSome->∃o',h'.get x.2=some o'/\C'.ρ x.2=some I)->gE C' h' l m:=by
 intro l;induction l with
 |nil=>intro m hm _;cases m with
  |nil=>exact hm
  |cons=>exact hm.elim
 | cons x l ih=>
  intro m hm hk;obtain⟨i,p⟩:=x
  cases m with
  |nil=>exact hm.elim
  |cons y m=>
   obtain⟨j,β⟩:=y;obtain⟨rfl,⟨o,I,g1,g2,g3,g4⟩,h2⟩:=hm;obtain⟨o',k1,k2⟩:=hk (i,p) Al o I g1 g2 g3;exact⟨rfl,⟨o',I,k1,k2,g3,g4⟩,ih h2 (fun x hx=>hk x (Ap _ hx))⟩
theorem gE.left {C:Cx} {h:SH}:∀{l m:List (Nat×Nat)},gE C h l m->∀x∈l,∃o I,h.get x.2=some o/\C.ρ x.2=some I/\I.cap.isSome/\ ∃y∈m,y.2=I.β:=by
 intro l;induction l with
 |nil=>intro m _ x hx;cases hx
 | cons x l ih=>
  intro m hm y hy;obtain⟨i,p⟩:=x
  cases m with
  |nil=>exact hm.elim
  |cons z m=>
   obtain⟨j,β⟩:=z;obtain⟨rfl,⟨o,I,g1,g2,g3,g4⟩,h2⟩:=hm;rcases An.1 hy with rfl|hy
   . exact⟨o,I,g1,g2,g3,(i,β),Al,g4.symm⟩
   . obtain⟨o,I,q1,q2,q3,w,hw,q4⟩:=ih h2 y hy;exact⟨o,I,q1,q2,q3,w,Ap _ hw,q4⟩
theorem gE.right {C:Cx} {h:SH}:∀{l m:List (Nat×Nat)},gE C h l m->∀y∈m,∃x∈l,∃o I,h.get x.2=some o/\C.ρ x.2=some I/\I.cap.isSome/\I.β=y.2:=by
 intro l;induction l with
 |nil=>intro m hm y hy;cases m with
  |nil=>cases hy
  |cons=>exact hm.elim
 | cons x l ih=>
  intro m hm y hy;obtain⟨i,p⟩:=x
  cases m with
  |nil=>exact hm.elim
  |cons z m=>
   obtain⟨j,β⟩:=z;obtain⟨rfl,⟨o,I,g1,g2,g3,g4⟩,h2⟩:=hm;rcases An.1 hy with rfl|hy
   . exact⟨(i,p),Al,o,I,g1,g2,g3,g4⟩
   . obtain⟨w,hw,q⟩:=ih h2 y hy;exact⟨w,Ap _ hw,q⟩
def l8 (tab:aM) (ops:Array Oper) (C:Cx) (h:SH) (a:AH) (x:Nat×T AV×AV) (rs:List Nat):Prop:=
 ∃o a0 h1,ops[x.1]? =some o/\(cls tab o= .pure\/cls tab o= .read)/\nj o.op=true/\AV.beq x.2.2 x.2.2=true/\df tab x.2.1 a0 o= .ok (x.2.2,h1)/\
  ∀β ob,a0.get β=some ob->C.Fz β=some ob\/(a.get β=some ob/\ ∃p∈rs,∃o' I,h.get p=some o'/\C.ρ p=some I/\I.cap.isSome/\I.β=β)
theorem l8.mono {tab:aM} {ops:Array Oper} {C C':Cx} {h h':SH} {a a':AH} {x:Nat×T AV×AV} {rs:List Nat} (hx:l8 tab ops C h a x rs) (hf:∀i o,C.Fz i=some o->C'.Fz i=some o)
   (hk:∀p∈rs,∀o I,h.get p=some o->C.ρ p=some I->I.cap.isSome->a'.get I.β=a.get I.β/\ ∃o',h'.get p=some o'/\C'.ρ p=some I):l8 tab ops C' h' a' x rs:=by
 obtain⟨o,a0,h1,g1,g2,g3,gb,g4,g5⟩:=hx;refine⟨o,a0,h1,g1,g2,g3,gb,g4,fun β ob hb=>?_⟩;rcases g5 β ob hb with q|⟨q,p,hp,o',I,q1,q2,q3,rfl⟩
 . exact .inl (hf _ _ q)
 . obtain⟨k1,o2,k2,k3⟩:=hk p hp o' I q1 q2 q3;exact .inr ⟨by rw[k1];exact q,p,hp,o2,I,k2,k3,q3,rfl⟩
structure fK (tab:aM) (ops:Array Oper) (C:Cx) (d:SD) (e:DS):Prop where
 F:FS C d.s.ts e.ts
 H:HS tab C d.s.h e.h
 ax:d.ax=e.ax
 al:gE C d.s.h d.ai e.ai
 rd:∀x∈e.reads,∃rs,(x.1,rs)∈d.reads/\l8 tab ops C d.s.h e.h x rs
structure Prog (C:Cx) (d:SD) (e:DS) (new:List Ev) (C':Cx) (d':SD) (e':DS):Prop where
 log:d'.s.log=d.s.log++new
 tr:Tr C new C'
 grow:Grow e.h e'.h
 bI:bS C d.s.h e.h new C' d'.s.h e'.h
end
section
universe u v
variable [Inhabited aE]
section
variable {tab:aM} {cfg:eZ} {ops:Array Oper} {nt:Nat}
theorem o8 (ts:T AV) (o:Oper) (v:AV):eB nt ts o v=ef nt ts o.dst v:=by
 unfold eB ef
 cases o.dst<;>rfl
theorem Prog.refl {C C':Cx} {d d':SD} {e e':DS} (hl:d'.s.log=d.s.log) (hh:d'.s.h=d.s.h) (he:e'.h=e.h) (hc:C'=C):Prog C d e [] C' d' e':=by
 subst hc;exact⟨by simp[hl],Tr.refl _,by rw[he];exact Grow.refl _,by rw[hh,he];exact bS.same _ _ _ _⟩
open Classical in
theorem Gy (htab:cfg.tab=tab) {C:Cx} {d:SD} {e:DS} {i:Nat} {o:Oper} {K:SD->Prop} (h:tp cfg ops nt i o d K) (S:fK tab ops C d e) (hi:ops[i]? =some o):
  ∃r d' C',lg tab ops nt i o e= .ok r/\K d'/\fK tab ops C' d' (r.getD e)/\Prog C d e [] C' d' (r.getD e):=by
 obtain⟨s,ax,reads,ai⟩:=d;obtain⟨hF,H,hanc,hal,hrd⟩:=S;simp only at hF H hanc hal hrd;simp only[tp]at h;rw[htab]at h;obtain⟨hok,h⟩:=bC h;obtain⟨w,s1,h1,hw,hF1,eh,el⟩:=sg h hF;clear h;subst hanc;unfold lg
 rw[rb (rc hok)];simp only;rw[rb hw]
 cases w with
 |false=>
  simp only[Du,AY]at h1;have h2:=pE (iz h1);obtain⟨s2,k1,k2,k3,k4⟩:=mA (v:= .aO []) h2 hF1 (.pure (.aO rfl (fun i c v hc=>by simp at hc)));refine⟨_,_,C,rfl,k1,⟨?_,?_,rfl,?_,?_⟩,Prog.refl ?_ ?_ rfl rfl⟩
  . simp only[AA];rw[o8];exact k2
  . simp only[AA];rw[k3,eh];exact H
  . simp only[AA];rw[k3,eh];exact hal
  . simp only[AA];rw[k3,eh];exact hrd
  . simp only;rw[k4,el]
  . simp only;rw[k3,eh]
 | true =>
  simp only[BQ,AB]at h1;simp only[BQ,Ah,Ax];have Hs:HS tab C s1.h e.h:=by rw[eh];exact H
  have look :∀(hc:cls tab o= .pure\/cls tab o= .read),(fP (cI e.ax o) fun an=>jP (e.ax.set i (some an)) fun ax=>match s1 with
    | ⟨ts,h,log⟩=>fP (th ts o) fun rs=>ck (rs.all fun b=>ai.all fun x=> !(Nat.beq x.2 b)) (ik tab cfg.view ⟨ts,⟨h.next,kG h rs⟩,[]⟩ o fun v s'=>ck (s'.log.isEmpty&&v.full) (ft nt ⟨ts,h,log⟩ o.dst v fun s'=>K ⟨s',ax,(i,rs)::reads,ai⟩)))->
      ∃ d' v,K d'/\(∀v' hx',df tab e.ts {t:= .e,next:=0} o= .ok (v',hx')->v'=v/\hx'.next=0)/\df tab e.ts (eU e.h e.ai) o= .ok (v,eU e.h e.ai)/\
        ∀rd',(rd'=e.reads\/rd'=(i,e.ts,v)::e.reads)->fK tab ops C d' {e with ts:=eB nt e.ts o v,ax:=e.ax.set i (some (cI e.ax o)),reads:=rd'}/\Prog C ⟨s,e.ax,reads,ai⟩ e [] C d' {e with ts:=eB nt e.ts o v,ax:=e.ax.set i (some (cI e.ax o)),reads:=rd'}:=by
    intro hc h;have h:=pE (iz h);obtain⟨ts,hh,log⟩:=s1;simp only at h eh el hF1 Hs;subst eh;have h:=iz h;generalize th ts o=rs at h
    obtain⟨hdis,h⟩:=bC h;obtain⟨a0,hn0,hg0⟩:=q7 H.wf (fun i=>(∃ob,C.Fz i=some ob)\/ ∃p∈rs,∃o' I,s.h.get p=some o'/\C.ρ p=some I/\I.cap.isSome/\I.β=i);have hpart:Part a0 e.h:=by
      intro j ob hj;rw[hg0]at hj;split at hj
      . exact hj
      . cases hj
    have H0:HS tab C ⟨s.h.next,kG s.h rs⟩ a0:=by
      refine Hs.part rfl (fun p o' hp=>?_) hpart hn0 (fun j ob hj=>?_) (fun p o' I hp hI hcap=>?_)
      . rw[wv]at hp;split at hp
        . exact hp
        . cases hp
      . rw[hg0,Ai (.inl ⟨ob,hj⟩)];exact H.fz j ob hj
      . rw[wv]at hp;split at hp
        . rename_i hm;rw[hg0,Ai (.inr ⟨p,hm,o',I,hp,hI,hcap,rfl⟩)]
        . cases hp
    obtain⟨hlk,sv,v,hk,hp,hv⟩:=GZ (s:=⟨ts,⟨s.h.next,kG s.h rs⟩,[]⟩) hF1 H0 hc (fun sv s1 hk=>by have:=(bC hk).1;simp only[Ab]at this;simpa using this.1) h;obtain⟨hfull,hk⟩:=bC hk;simp only[Ab]at hfull;have hbeq:=Hc hv hfull.2;obtain⟨s2,k1,k2,k3,k4⟩:=mA hk hF1 hv;have hhid:Part a0 (eU e.h e.ai):=by
      intro β ob hβ;rw[eV,Ae]
      . exact hpart β ob hβ
      . rintro⟨y,hy,rfl⟩;obtain⟨x,hx,ox,Ix,x1,x2,x3,x4⟩:=hal.right y hy;rw[hg0]at hβ;split at hβ
        . rename_i hP;rcases hP with⟨ob',hP⟩|⟨p,hpm,op,Ip,p1,p2,p3,p4⟩
          . have:=H.dj x.2 ox Ix x1 x2 x3;rw[x4,hP]at this;cases this
          . have:=H.inj p x.2 op ox Ip Ix p1 x1 p2 x2 p3 x3 (by rw[p4,x4]);have h5:=Av.1 (Av.1 hdis p hpm) x hx;rw[this]at h5;simp at h5
        . cases hβ
    refine⟨_,v,k1,fun v' hx' hp'=>?_,rD hc hlk hhid hp,fun rd' hrd'=>⟨⟨?_,?_,rfl,?_,?_⟩,Prog.refl ?_ ?_ rfl rfl⟩⟩
    . have h5:=rD hc hlk (h0:={t:= .e,next:=0}) (h:=a0) (fun j ob hj=>by cases hj) hp';have h6:=ph ⟨by rcases hc with e|e<;>rw[e]<;>simp,by rcases hc with e|e<;>rw[e]<;>simp⟩ hp';rw[hp]at h5
      cases h5;exact⟨rfl,by rw[h6]⟩
    . simp only;rw[o8];exact k2
    . simp only;rw[k3];exact H
    . simp only;rw[k3];exact hal
    . simp only;rw[k3];intro x hx;rcases hrd' with rfl|rfl
      . obtain⟨rs',g1,g2⟩:=hrd x hx;exact⟨rs',Ap _ g1,g2⟩
      . rcases An.1 hx with rfl|hx
        . refine⟨rs,Al,o,a0,_,hi,hc,hlk,hbeq,hp,fun β ob hβ=>?_⟩;have hβ':=hpart β ob hβ;rw[hg0]at hβ;split at hβ
          . rename_i hP;rcases hP with⟨ob',hP⟩|hP
            . have:=H.fz _ _ hP;rw[hβ']at this;cases this;exact .inl hP
            . exact .inr ⟨hβ',hP⟩
          . cases hβ
        . obtain⟨rs',g1,g2⟩:=hrd x hx;exact⟨rs',Ap _ g1,g2⟩
    . simp only;rw[k4];exact el
    . simp only;rw[k3]
  cases hcl:cls tab o with
  | fN=>
    rw[hcl]at h1;simp only at h1⊢;exact⟨none,_,C,rfl,h1,⟨hF1,Hs,rfl,by simp only;rw[eh];exact hal,by simp only;rw[eh];exact hrd⟩,Prog.refl el eh rfl rfl⟩
  | pure=>
    obtain⟨d',v,g1,g2,g3,g4⟩:=look (.inl hcl) (by rw[hcl]at h1;exact h1);simp only
    cases hp:df tab e.ts {t:= .e,next:=0} o with
    | ok r=>
      obtain⟨v',hx'⟩:=r;obtain⟨rfl,hn⟩:=g2 v' hx' hp;simp only;rw[rb (rc (by rw[hn];rfl))];obtain⟨q1,q2⟩:=g4 e.reads (.inl rfl);exact⟨_,d',C,rfl,g1,q1,q2⟩
    | no _=>
      simp only;rw[g3];obtain⟨q1,q2⟩:=g4 _ (.inr rfl);exact⟨_,d',C,rfl,g1,q1,q2⟩
  | read=>
    obtain⟨d',v,g1,g2,g3,g4⟩:=look (.inr hcl) (by rw[hcl]at h1;exact h1);simp only;rw[g3];obtain⟨q1,q2⟩:=g4 _ (.inr rfl);exact⟨_,d',C,rfl,g1,q1,q2⟩
  | alloc=>
    rw[hcl]at h1;simp only at h1⊢;have h2:=pE (iz h1);clear h1 look;obtain⟨ts,hh,log⟩:=s1;simp only at h2 eh el hF1 Hs;subst eh;obtain⟨sv,v,so,ao,I,m1,m2,m3,m4,m5,m6⟩:=G0 (s:=⟨ts,s.h,[]⟩) (a:=e.h) hF1 hcl h2;clear h2;simp only[St.new]at m1;obtain⟨_,m1⟩:=bC m1;obtain⟨q1,q2⟩:=H.new (ao:=ao) (o:=so) I m3 (fun hle=>m6 _ _ hle (by rw[AH.aF,Ai rfl]));obtain⟨s2,k1,k2,k3,k4⟩:=mA (C:=C.put s.h.next I) m1 (FS.le q1 hF1) (m5 _ q1 (fg _ _ _));rw[rb (m2 {t:= .e,next:=e.h.next} rfl)];simp only;rw[rb (rc (by simp)),rb (ro (show AH.get _ _=some ao from by rw[AH.aF,Ai rfl]))];have hnew:∀p o',s.h.get p=some o'->(s.h.new so).get p=some o':=by
      intro p o' hp;obtain⟨J,hJ,_⟩:=H.obj p o' hp;have:=H.lt p J hJ;rw[SH.aF,Ae (by omega)];exact hp
    have hkeep:∀p o' J,s.h.get p=some o'->C.ρ p=some J->J.cap.isSome->(e.h.new ao).get J.β=e.h.get J.β:=by
      intro p o' J hp hJ hc;obtain⟨b,hb⟩:=(H.at_ hp hJ).live hc;have:=H.wf _ _ hb;rw[AH.aF,Ae (by omega)]
    refine⟨_,_,C.put s.h.next I,rfl,k1,⟨?_,?_,rfl,?_,?_⟩,⟨?_,q1.tr,?_,?_⟩⟩
    . simp only[AA];rw[o8];exact k2
    . simp only[AA];rw[k3];exact q2
    . simp only[AA];rw[k3];refine⟨rfl,⟨so,I,by rw[SH.aF,Ai rfl],fg _ _ _,m4,m3⟩,hal.mono fun x hx o' J hp hJ hc=>⟨o',hnew _ _ hp,q1.1 _ _ hJ⟩⟩
    . simp only[AA];rw[k3];intro x hx;obtain⟨rs,g1,g2⟩:=hrd x hx;exact⟨rs,g1,g2.mono q1.2 (fun p hp o' J hp hJ hc=>⟨hkeep p o' J hp hJ hc,o',hnew _ _ hp,q1.1 _ _ hJ⟩)⟩
    . simp only[Da];rw[k4];exact el
    . exact Grow.new _ _
    . simp only[AA];rw[k3];exact bS.new H _ _ q1 (nH H _)
end
end
section
universe u v
variable [Inhabited aE]
section
variable {P:Program} {tab:aM} {cfg:eZ} {ops:Array Oper} {nt:Nat} {rec:SM->(SV->St->Prop)->Prop}
theorem Prog.trans {C C' C'':Cx} {d d' d'':SD} {e e' e'':DS} {l m:List Ev} (p:Prog C d e l C' d' e') (q:Prog C' d' e' m C'' d'' e'') (H:∀i o,C'.Fz i=some o->e'.h.get i=some o) (H':∀i o,C''.Fz i=some o->e''.h.get i=some o):Prog C d e (l++m) C'' d'' e'':=
 ⟨by rw[q.log,p.log,BA],p.tr.trans q.tr,p.grow.trans q.grow,p.bI.trans q.bI q.tr.fz H H'⟩
theorem HI (htab:cfg.tab=tab):∀(l:List Oper) (k:Nat) (d:SD) (e:DS) (C:Cx) (K:SD->Prop),(∀j o,l[j]? =some o->ops[k+j]? =some o)->oz cfg ops nt k l d K->fK tab ops C d e->
  ∃e' d' C',gx tab ops nt k l e= .ok e'/\K d'/\fK tab ops C' d' e'/\Prog C d e [] C' d' e':=by
 intro l;induction l with
 |nil=>
  intro k d e C K _ h S;exact⟨e,d,C,rfl,h,S,Prog.refl rfl rfl rfl rfl⟩
 |cons o l ih=>
  intro k d e C K hl h S;have hi:=hl 0 o rfl;have hl':∀j o,l[j]? =some o->ops[k+1+j]? =some o:=fun j o' hj=>by
    have:=hl (j+1) o' (by simpa using hj);rwa [show k+1+j=k+(j+1)from by omega]
  simp only[oz,S.ax]at h;simp only[gx]
  cases hr:isReady e.ax k o
  . rw[hr]at h;exact ih (k+1) d e C K hl' h S
  . rw[hr]at h;simp only[AY]at h⊢;obtain⟨r,d1,C1,g1,g2,g3,g4⟩:=Gy htab h S (by simpa using hi);rw[rb g1];obtain⟨e',d',C',q1,q2,q3,q4⟩:=ih (k+1) d1 _ C1 K hl' g2 g3;refine⟨e',d',C',?_,q2,q3,?_⟩
    . cases r<;>exact q1
    . have:=g4.trans q4 g3.H.fz q3.H.fz;simpa using this
theorem eP.mono {ts:T AV} {h0:AH} {o:Oper} {Θ Θ':AV->AH->Prop} (h:eP P tab ts h0 o Θ) (hi:∀v h1,h0.next<=h1.next->Θ v h1->Θ' v h1):eP P tab ts h0 o Θ':=by
 rcases h with⟨v,h1,k1,k2,k3⟩|⟨c',f,g,first,captured,args,fn,body,k1,k2,k3,k4,k5,k6,k7⟩
 . exact .inl ⟨v,h1,k1,k2,hi _ _ k2 k3⟩
 . exact .inr ⟨c',f,g,first,captured,args,fn,body,k1,k2,k3,k4,k5,k6,k7.mono fun v h1 ⟨a,b⟩=>⟨a,hi _ _ a b⟩⟩
theorem F6 {h:AH}:∀{l:List (Nat×T AV×AV)},(∀x∈l,∃o h1,ops[x.1]? =some o/\df tab x.2.1 h o= .ok (x.2.2,h1)/\AV.beq x.2.2 x.2.2=true)->reread tab ops h l= .ok ():=by
 intro l;induction l with
 |nil=>intro _;rfl
 |cons x l ih=>
  intro hx;obtain⟨i,ts,v⟩:=x;obtain⟨o,h1,g1,g2,g3⟩:=hx _ Al;simp only at g1 g2 g3;simp only[reread];rw[rb (ro g1),rb g2];simp only;rw[rb (rc g3)];exact ih fun y hy=>hx y (Ap _ hy)
theorem vF:∀(log:List Ev) (s:SV) (b:Nat),(∀e∈log,e.id≠b)->(s= .own b\/s= .bo b 1 0\/s= .ptr b 0)->eX log s=s:=by
 intro log;induction log with
 |nil=>intro s b _ _;rfl
 | cons e l ih=>
  intro s b hb hs;have h1:=hb e Al;have:s.on e=s:=by
   rcases hs with rfl|rfl|rfl<;>cases e<;>simp only[Ev.id]at h1<;>simp only[SV.on]<;>first|rfl|(rw[dZ (fun h=>h1 h.symm)];rfl)
  simp only[eX,this];exact ih s b (fun e' he=>hb e' (Ap _ he)) hs
theorem Tr.same {C C':Cx} {log:List Ev} (hT:Tr C log C') {p:Nat} {I:BI} (hI:C.ρ p=some I) (hc:I.cap.isSome) (hm:∀e∈log,e.id≠p):C'.ρ p=some I:=by
 obtain⟨c,hc'⟩:=Bz.1 hc;have h1:=hT.val _ _ (.own hI hc');rw[vF log _ p hm (.inl rfl)]at h1;have h2:=hT.val _ _ (.bo (i:=1) (off:=0) hI hc);rw[vF log _ p hm (.inr (.inl rfl))]at h2;obtain⟨β,len,sz,cap⟩:=I;simp only at h1 h2 hc';subst hc';generalize hv1:AV.sl β 0 len c=v1 at h1
 generalize hv2:AV.ptr β (1*sz+0)=v2 at h2
 cases h1 with
 |pure h=>cases h
 |cR hJ hc=>cases hv1
 | own hJ hc=>
  rename_i J c2
  cases h2 with
  |pure h=>cases h
  |bo hJ' hc2=>
   rw[hJ]at hJ'
   cases hJ'
   cases hv1;simp only[AV.ptr.injEq]at hv2;rw[hJ];obtain⟨β',len',sz',cap'⟩:=J;simp only at hc hv2⊢;subst hc;have:sz=sz':=by omega
   rw[this]
theorem Gg (o:SO):∀(log:List Ev),∃o',fo (some o) log=some o'/\ ∀{C C':Cx} {I:BI} {a a':AH},Tr C log C'->a'.get I.β=a.get I.β->cK tab C I o a->cK tab C' I o' a':=by
 intro log
 cases o with
 | cells cs t=>
  have:∀(log:List Ev) (cs:List SV),fo (some (.cells cs t)) log=some (.cells (cs.map (eX log)) t):=by
   intro log;induction log with
   |nil=>intro cs;simp[fo];exact(List.map_id'' (fun _=>rfl) cs).symm
   |cons e l ih=>intro cs;simp only[fo,AS,SO.on,ih,jM,Bp];rfl
  refine⟨_,this log cs,fun hT hg ho=>?_⟩;obtain⟨g1,ca,sz,g2,g3,g4⟩:=ho;refine⟨g1,ca,sz,by rw[hg];exact g2,⟨by simpa using g3.1,fun i s v hs hv=>?_⟩,g4⟩;rw[Au]at hs;obtain⟨s0,h0,rfl⟩:=Aq.1 hs;exact hT.val _ _ (g3.2 i s0 v h0 hv)
 | arr X L enc t=>
  have:∀(log:List Ev),fo (some (.arr X L enc t)) log=some (.arr X L enc t):=by
   intro log;induction log with
   |nil=>rfl
   |cons e l ih=>simp only[fo,AS,SO.on,ih]
  refine⟨_,this log,fun{C C' I a a'} hT hg ho=>?_⟩;obtain⟨h1,h2,h3,h4,h5⟩:=ho;refine⟨h1,h2,h3,h4,?_⟩
  cases hcap:I.cap with
  |none=>rw[hcap]at h5;exact h5
  |some c=>
   rw[hcap]at h5;obtain⟨ca,ext,bk,g1,g2,g3,g4,g5⟩:=h5;refine⟨ca,ext,bk,by rw[hg];exact g1,g2,g3,g4,fun i x j v hx hv=>?_⟩;obtain⟨u,k1,k2⟩:=g5 i x j v hx hv;exact⟨u,k1,k2.mono hT.fz⟩
end
end
end Go.Sy
namespace Go.Proofs
open Go Go.Am Go.RowKit
section
variable [Inhabited aE]
theorem Tryz.rj:Tryz.tab.fns.get 80=some Tryz.f80:=by kernel_rfl
theorem Kn:Extern.findNext Tryz.f80=none:=by kernel_rfl
theorem Kl:Extern.find Tryz.f80=some (ji 4 Tryz.f80):=by kernel_rfl
theorem Tryz.nf:Tryz.tab.fns.get 183=some Tryz.f183:=by kernel_rfl
theorem Kf:Extern.findNext Tryz.f183=none:=by kernel_rfl
theorem Kc:Extern.find Tryz.f183=some (ji 1 Tryz.f183):=by kernel_rfl
theorem Tryz.ng:Tryz.tab.fns.get 207=some Tryz.f207:=by kernel_rfl
theorem Kg:Extern.findNext Tryz.f207=none:=by kernel_rfl
theorem Kd:Extern.find Tryz.f207=some (ji 5 Tryz.f207):=by kernel_rfl
theorem oQ:dS Tryz.prog Tryz.tab:=uz [(80,4),(183,1),(207,5)] rfl (by
 intro x hx;simp only[An,DC,DY]at hx;rcases hx with rfl|rfl|rfl
 . exact⟨_,Tryz.rj,Kn,Kl⟩
 . exact⟨_,Tryz.nf,Kf,Kc⟩
 . exact⟨_,Tryz.ng,Kg,Kd⟩)
theorem Tryz.mix:Tryz.prog.follows .mixedOrders=true:=by kernel_rfl
theorem cB:Go.Sy.eE Tryz.prog Tryz.tab:=⟨Tryz.gC,yb Tryz.gC oQ,Tryz.mix⟩
end
theorem uB:Tryz.tab.fns.get 4=some Tryz.f4:=by kernel_rfl
theorem ui:sR (gr Tryz.tab yQ 20000 {fr:=ae.enter Tryz.f4 4 (Tryz.f4.body.getD .skip) [] .normal,cs:=[],h:=db})=true:=by kernel_rfl
theorem uq (w:World):Calls Tryz.prog 4 #[] w fun e w'=>e= .returned (.bool true)/\Below w.heap.size w w':=by
 letI:Inhabited aE:=⟨⟨True,#[]⟩⟩
 exact CL Tryz.gC oQ Tryz.mix Hm uB (by kernel_rfl) ui (fun _=>rfl)
end Go.Proofs
