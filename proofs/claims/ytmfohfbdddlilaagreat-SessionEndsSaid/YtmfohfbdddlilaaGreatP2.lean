/- Part 2: an evaluator, proved sound, and its use at this seat; no condition. -/
import Derived.KernelRfl
import Derived.Test.YtmfohfbdddlilaaGreatP0
import Derived.Test.YtmfohfbdddlilaaGreatP1
set_option linter.unusedSimpArgs false
set_option linter.unusedVariables false
set_option linter.unusedSectionVars false
set_option linter.deprecated false
set_option maxRecDepth 100000
namespace Go.Sy
open Go.Am
section
universe u v
inductive SV:Type 1 where
 |bool (b:Bool)
 |int (k:IntKind) (n:Int)
 |str (s:List UInt8)
 |aW
 |wp (a:Addr)
 |ptr (b off:Nat)
 |bR (b i off:Nat)
 |cB (cs:List SV) (off:Nat)
 |nils
 |sl (b off len cap:Nat)
 |own (b:Nat)
 |aJ (X:Type) (L:List X) (enc:X->List SV)
 |bh
 |map (b:Nat)
 |bB
 |fn (f:FuncId) (first captured:List SV)
 |agg (cs:List SV)
 |bj (vs:List SV)
 |any
inductive SO:Type 1 where
 |cells (cs:List SV) (elem:TypeId)
 |arr (X:Type) (L:List X) (enc:X->List SV) (elem:TypeId)
def so {α:Type u} (x:Option α) (k:α->Prop):Prop:=match x with|some a=>k a|none=>False
def br (b:Bool) (p q:Prop):Prop:=match b with|true=>p|false=>q
def ck (b:Bool) (p:Prop):Prop:=match b with|true=>p|false=>False
def look {α:Type u}:List (Nat×α)->Nat->Option α
 |[],_=>none
 |(k,v)::l,n=>bif Nat.beq k n then some v else look l n
abbrev Fr:=List (Nat×SV)
structure SH:Type 1 where
 next:Nat
 os:List (Nat×Option SO)
def SH.get (h:SH) (b:Nat):Option SO:=match look h.os b with|some (some o)=>some o|_=>none
def SH.set:SH->Nat->Option SO->SH
 |⟨n,os⟩,b,o=>⟨n,(b,o)::os⟩
def SH.new:SH->SO->SH
 |⟨n,os⟩,o=>⟨n+1,(n,some o)::os⟩
def Fr.of:List SV->Nat->Fr
 |[],_=>[]
 |v::l,n=>(n,v)::Fr.of l (n+1)
def sy:Value->Option SV
 | .bool b=>some (.bool b)
 | .int k n=>some (.int k n)
 | .string s=>some (.str s.data.toList)
 | .pointer none=>some .aW
 | .slice none 0 0=>some .nils
 | .map none=>some .bh
 | .nilFunc=>some .bB
 |_=>none
def ic {α:Type u} {β:Type v} (f:α->Option β):List α->Option (List β)
 |[]=>some []
 |x::l=>match f x,ic f l with|some y,some m=>some (y::m)|_,_=>none
def xU:Value->Option SV
 | .agg cs=>(ic sy cs.toList).map .agg
 | .tuple vs=>(ic sy vs.toList).map .bj
 |v=>sy v
def jB:AV->Option SV
 | .bool b=>some (.bool b)
 | .int k n=>some (.int k n)
 | .str s=>some (.str s)
 | .aW=>some .aW
 | .nils=>some .nils
 | .bh=>some .bh
 | .bB=>some .bB
 |_=>none
def wz:AV->Option (List SV)
 | .agg cs=>ic jB cs
 |v=>(jB v).map fun x=>[x]
def fk (ts:Fr):Operand->Option SV
 | .tmp t=>look ts t
 | .const v=>xU v
 | .func f=>some (.fn f [] [])
 | .global _=>none
def jN (ts:Fr) (l:List Operand):Option (List SV):=ic (fk ts) l
def SV.cells:SV->List SV
 | .agg cs=>cs
 |v=>[v]
def lz:SV->Bool
 | .bool _| .int _ _| .str _| .aW| .wp _| .nils| .bh| .bB| .aJ _ _ _=>true
 |_=>false
def SV.known:SV->Bool
 | .any=>false
 |_=>true
def uL:SV->Bool
 | .agg _| .bj _| .any=>false
 |_=>true
section
variable (tab:aZ)
def lD (t:TypeId) (cs:List SV) (off:Nat):Option SV:=
 match tab.agg.get t with
 |some true=>match tab.siz.get t with
  |some n=>bif Nat.ble (off+n) cs.length then some (.agg ((cs.drop off).take n))else none
  |none=>none
 |some false=>cs[off]?
 |none=>none
def sb (cs:List SV) (off:Nat) (vs:List SV):List SV:=cs.take off++(vs++cs.drop (off+vs.length))
def wx (h:SH) (t:TypeId) (p:SV) (k:SV->Prop):Prop:=
 match p with
 | .ptr b off=>match h.get b with
  |some (.cells cs _)=>so (lD tab t cs off) k
  |_=>False
 | .bR b i off=>match h.get b with
  |some (.arr _ L enc _)=>so (L[i]?) fun x=>so (lD tab t (enc x) off) k
  |_=>False
 | .cB cs off=>so (lD tab t cs off) k
 |_=>False
def yU (h:SH) (t:TypeId) (p v:SV) (k:SH->Prop):Prop:=
 match tab.siz.get t with
 | some n=>ck (!(Nat.beq n 0)&&v.known&&Nat.beq v.cells.length n&&v.cells.all uL) (match p with
  | .ptr b off=>match h.get b with
   |some (.cells cs e)=>ck (Nat.ble (off+n) cs.length) (k (h.set b (some (.cells (sb cs off v.cells) e))))
   |_=>False
  |_=>False)
 |none=>False
end
end
section
universe u v
inductive Ev:Type 1 where
 |kill (b:Nat)
 |mod (b:Nat)
 |eW (b:Nat) (X:Type) (L:List X) (enc:X->List SV)
def jH:List Ev->List Nat
 |[]=>[]
 | .mod b::l=>b::jH l
 | .kill b::l=>b::jH l
 |_::l=>jH l
mutual
def SV.on (e:Ev):SV->SV
 | .bR b i off=>match e with
  | .kill c=>bif Nat.beq b c then .any else .bR b i off
  | .eW c _ L enc=>bif Nat.beq b c then(match L[i]? with|some x=> .cB (enc x) off|none=> .any)else .bR b i off
  | .mod _=> .bR b i off
 | .own b=>match e with
  | .kill c=>bif Nat.beq b c then .any else .own b
  | .eW c X L enc=>bif Nat.beq b c then .aJ X L enc else .own b
  | .mod _=> .own b
 | .sl b off len cap=>match e with
  | .kill c=>bif Nat.beq b c then .any else .sl b off len cap
  | .eW c _ _ _=>bif Nat.beq b c then .any else .sl b off len cap
  | .mod _=> .sl b off len cap
 | .ptr b off=>match e with
  | .kill c=>bif Nat.beq b c then .any else .ptr b off
  | .eW c _ _ _=>bif Nat.beq b c then .any else .ptr b off
  | .mod _=> .ptr b off
 | .fn f xs ys=> .fn f (fo e xs) (fo e ys)
 | .agg cs=> .agg (fo e cs)
 | .bj cs=> .bj (fo e cs)
 |v=>v
def fo (e:Ev):List SV->List SV
 |[]=>[]
 |v::l=>SV.on e v::fo e l
end
def SO.on (e:Ev):SO->SO
 | .cells cs t=> .cells (fo e cs) t
 |o=>o
def ir (e:Ev):List (Nat×Option SO)->List (Nat×Option SO)
 |[]=>[]
 |(b,none)::l=>(b,none)::ir e l
 |(b,some o)::l=>(b,some (o.on e))::ir e l
def oD (e:Ev):Fr->Fr
 |[]=>[]
 |(t,v)::l=>(t,v.on e)::oD e l
structure St:Type 1 where
 ts:Fr
 h:SH
 log:List Ev
def St.note:St->Ev->St
 |⟨ts,h,log⟩,e=>⟨ts,h,log++[e]⟩
def St.ev:St->Ev->St
 |⟨ts,⟨n,os⟩,log⟩,e=>⟨oD e ts,⟨n,ir e os⟩,log++[e]⟩
def St.new:St->SO->St
 |⟨ts,h,log⟩,o=>⟨ts,h.new o,log⟩
def St.aM:St->Nat->SO->St
 |⟨ts,h,log⟩,b,o=>⟨ts,h.set b (some o),log⟩
def St.del:St->Nat->St
 |⟨ts,h,log⟩,b=>⟨ts,h.set b none,log⟩
def St.J0:St->SH->List Ev->St
 |⟨ts,_,log⟩,h,l=>⟨ts,h,log++l⟩
def jm {α:Type u}:List α->(List α->Prop)->Prop
 |[],K=>K []
 |x::l,K=>jm l fun l'=>K (x::l')
def yO (v:SV) (K:SV->Prop):Prop:=
 match v with
 | .bool b=>K (.bool b)
 | .int k n=>K (.int k n)
 | .str s=>K (.str s)
 | .aW=>K .aW
 | .wp a=>K (.wp a)
 | .ptr b off=>K (.ptr b off)
 | .bR b i off=>K (.bR b i off)
 | .cB cs off=>jm cs fun cs=>K (.cB cs off)
 | .nils=>K .nils
 | .sl b off n c=>K (.sl b off n c)
 | .own b=>K (.own b)
 | .aJ X L enc=>K (.aJ X L enc)
 | .bh=>K .bh
 | .map b=>K (.map b)
 | .bB=>K .bB
 | .fn f xs ys=>jm xs fun xs=>jm ys fun ys=>K (.fn f xs ys)
 | .agg cs=>jm cs fun cs=>K (.agg cs)
 | .bj cs=>jm cs fun cs=>K (.bj cs)
 | .any=>K .any
def IA (o:SO) (K:SO->Prop):Prop:=
 match o with
 | .cells cs t=>jm cs fun cs=>K (.cells cs t)
 | .arr X L enc t=>K (.arr X L enc t)
def sE (h:SH) (K:SH->Prop):Prop:=
 match h with
 |⟨n,os⟩=>match os with
  |(b,some o)::l=>IA o fun o=>K ⟨n,(b,some o)::l⟩
  |l=>K ⟨n,l⟩
def nc {α:Type}:T α->(T α->Prop)->Prop
 | .e,K=>K .e
 | .n v l r,K=>nc l fun l=>nc r fun r=>match v with
  |some a=>K (.n (some a) l r)
  |none=>K (.n none l r)
structure View:Type 1 where
 X:Type
 enc:X->List SV
def qN (tab:aZ) (t:TypeId):Option (List SV):=(tab.j3.get t).bind wz
def ti:R AV->Option SV
 | .ok v=>jB v
 | .no _=>none
def bV (x y:Int):Bool:=
 match x with
 | .ofNat a=>match y with
  | .ofNat b=>Nat.blt a b
  | .negSucc _=>false
 | .negSucc a=>match y with
  | .ofNat _=>true
  | .negSucc b=>Nat.blt b a
def bG (x y:Int):Bool:=
 match x with
 | .ofNat a=>match y with
  | .ofNat b=>Nat.ble a b
  | .negSucc _=>false
 | .negSucc a=>match y with
  | .ofNat _=>true
  | .negSucc b=>Nat.ble b a
def wN:IntKind->Int
 | .i8=> .negSucc 127| .i16=> .negSucc 32767| .i32=> .negSucc 2147483647| .i64=> .negSucc 9223372036854775807
 |_=> .ofNat 0
def wL:IntKind->Int
 | .i8=> .ofNat 127| .i16=> .ofNat 32767| .i32=> .ofNat 2147483647| .i64=> .ofNat 9223372036854775807
 | .u8=> .ofNat 255| .u16=> .ofNat 65535| .u32=> .ofNat 4294967295| .u64=> .ofNat 18446744073709551615
def bC (k:IntKind) (n:Int):Bool:=bG (wN k) n&&bG n (wL k)
def nn (n:Int):Bool:=match n with| .ofNat _=>true| .negSucc _=>false
def ll (v:SV) (k:Nat->Prop):Prop:=
 match v with
 | .int _ n=>ck (nn n) (k n.toNat)
 |_=>False
section
variable (tab:aZ) (view:TypeId->Option View)
def j9 (eq:TypeId->SV->SV->Option Bool):List Field->List SV->List SV->Option Bool
 |[],_,_=>some true
 | f::fs,xs,ys=>
  bif decide (f.name= "_")then j9 eq fs xs ys else
   match lD tab f.type xs f.offset,lD tab f.type ys f.offset with
   |some a,some b=>match eq f.type a b,j9 eq fs xs ys with
    |some p,some q=>some (p&&q)
    |_,_=>none
   |_,_=>none
def fJ:Nat->TypeId->SV->SV->Option Bool
 |0,_,_,_=>none
 | d+1,t,x,y=>
  match tab.und.get t,x,y with
  |some .bool, .bool a, .bool b=>some (a==b)
  |some (.int _), .int k a, .int j b=>bif decide (k=j)then some (a==b)else none
  |some .string, .str a, .str b=>some (a==b)
  |some (.pointer _), .aW, .aW=>some true
  |some (.pointer _), .aW, .ptr _ _=>some false
  |some (.pointer _), .ptr _ _, .aW=>some false
  |some (.pointer _), .wp _, .aW=>some false
  |some (.pointer _), .aW, .wp _=>some false
  |some (.slice _), .nils, .nils=>some true
  |some (.map _ _), .bh, .bh=>some true
  |some (.map _ _), .bh, .map _=>some false
  |some (.map _ _), .map _, .bh=>some false
  |some (.func _ _ _), .bB, .bB=>some true
  |some (.func _ _ _), .bB, .fn .. =>some false
  |some (.func _ _ _), .fn .., .bB=>some false
  |some (.struct fs), .agg xs, .agg ys=>
   match tab.held.get t with
   |some false=>j9 tab (fJ d) fs.toList xs ys
   |_=>none
  |_,_,_=>none
def cG (b:UInt8):List SV:=[.int .u8 (.ofNat b.toNat)]
def o6 (c:List UInt8):List SV:=c.map fun b=> .int .u8 (.ofNat b.toNat)
def yT (op:BinOp) (k:IntKind) (x y:Int) (K:SV->Prop):Prop:=
 let fit (n:Int):Prop:=bif k.signed then ck (bC k n) (K (.int k n))else K (.int k (k.wrap n))
 match op with
 | .add=>fit (x+y)
 | .sub=>fit (x - y)
 | .mul=>fit (x*y)
 | .quo=>ck (!(y==0)) (fit (x.tdiv y))
 | .rem=>ck (!(y==0)) (K (.int k (x.tmod y)))
 | .eql=>K (.bool (x==y))
 | .neq=>K (.bool (!(x==y)))
 | .lss=>K (.bool (bV x y))
 | .leq=>K (.bool (bG x y))
 | .gtr=>K (.bool (bV y x))
 | .geq=>K (.bool (bG y x))
 |op=>so (ti (intOp op k x y)) K
def pe (op:BinOp) (t:TypeId) (x y:SV) (K:SV->Prop):Prop:=
 match op,x,y with
 | .shl, .int k a, .int _ b=>ck (nn b) (so (ti (.ok (.int k (k.wrap (a*2 ^ (min b.toNat k.bits)))))) K)
 | .shr, .int k a, .int _ b=>ck (nn b) (so (ti (.ok (.int k (a.fdiv (2 ^ (min b.toNat k.bits)))))) K)
 |op, .int k a, .int j b=>ck (decide (k=j)) (yT op k a b K)
 | .add, .str a, .str b=>ck (Nat.ble (a.length+b.length) 1048576) (K (.str (a++b)))
 | .eql, .str a, .str b=>K (.bool (a==b))
 | .neq, .str a, .str b=>K (.bool (!(a==b)))
 | .lss, .str a, .str b=>K (.bool (Op.bytesLess a b))
 | .leq, .str a, .str b=>K (.bool (Op.bytesLess a b||a==b))
 | .gtr, .str a, .str b=>K (.bool (!(Op.bytesLess a b||a==b)))
 | .geq, .str a, .str b=>K (.bool (!Op.bytesLess a b))
 | .eql, .agg a, .agg b=>match tab.ka.get t with|some false=>so (fJ tab 8 t (.agg a) (.agg b)) fun p=>K (.bool p)|_=>False
 | .neq, .agg a, .agg b=>match tab.ka.get t with|some false=>so (fJ tab 8 t (.agg a) (.agg b)) fun p=>K (.bool (!p))|_=>False
 | .eql,x,y=>so (fJ tab 8 t x y) fun p=>K (.bool p)
 | .neq,x,y=>so (fJ tab 8 t x y) fun p=>K (.bool (!p))
 |_,_,_=>False
def zu (op:UnOp) (x:SV) (K:SV->Prop):Prop:=
 match op,x with
 | .neg, .int k n=>bif k.signed then ck (bC k (0 - n)) (K (.int k (0 - n)))else K (.int k (k.wrap (0 - n)))
 | .xor, .int k n=>so (ti (unOp .xor (.int k n))) K
 | .not, .bool b=>K (.bool (!b))
 |_,_=>False
def o8 (cs:List SV):List (Nat×Nat×SV)->Option (List SV)
 |[]=>some cs
 |(off,n,v)::rest=>bif v.known&&Nat.beq v.cells.length n&&Nat.ble (off+n) cs.length then o8 (sb cs off v.cells) rest else none
def sA (fs:Array Field):List (Nat×SV)->Option (List (Nat×Nat×SV))
 |[]=>some []
 | (i,v)::rest=>match fs[i]? with
  |some f=>match tab.siz.get f.type,sA fs rest with
   |some n,some r=>some ((f.offset,n,v)::r)
   |_,_=>none
  |none=>none
def qK (ts:Fr):List (Nat×Operand)->Option (List (Nat×SV))
 |[]=>some []
 |(i,x)::l=>match fk ts x,qK ts l with
  |some v,some r=>some ((i,v)::r)
  |_,_=>none
def yP (t:TypeId) (ps:List (Nat×SV)):Option SV:=
 match qN tab t,tab.und.get t with
 | some z,some (.struct fs)=>bif fs.toList.all (fun f=>(tab.siz.get f.type).isSome)then
   match sA tab fs ps with
   |some q=>(o8 z q).map .agg
   |none=>none
  else none
 |some z,some (.array _ e)=>match tab.siz.get e with
  |some n=>(o8 z (ps.map fun(i,v)=>(i*n,n,v))).map .agg
  |none=>none
 |_,_=>none
def o9:Nat->List SV->List SV
 |0,_=>[]
 |n+1,l=>l++o9 n l
def tN (s:St) (t:TypeId) (len:Nat) (ps:List (Nat×SV)) (K:SV->St->Prop):Prop:=
 match tab.und.get t with
 | some (.slice e)=>match tab.siz.get e,qN tab e with
  | some n,some z=>ck (Nat.ble (len*n) 16777216&&Nat.beq z.length n) (bif Nat.beq len 0 then
    ck (ps.isEmpty&& !(Nat.beq n 0)) (match view e with
    |some V=>K (.own s.h.next) (s.new (.arr V.X [] V.enc e))
    |none=>False)
   else so (o8 (o9 len z) (ps.map fun(i,v)=>(i*n,n,v))) fun cs=>K (.sl s.h.next 0 len len) (s.new (.cells cs e)))
  |_,_=>False
 |_=>False
def mP (ts:Fr) (x:Option Operand) (K:Option Nat->Prop):Prop:=
 match x with
 |none=>K none
 |some y=>so (fk ts y) fun v=>ll v fun n=>K (some n)
def lg {α:Type u} (l:List α) (lo hi:Option Nat) (K:List α->Prop):Prop:=
 match lo,hi with
 |none,none=>K l
 |some a,none=>ck (Nat.ble a l.length) (K (l.drop a))
 |none,some b=>ck (Nat.ble b l.length) (K (l.take b))
 |some a,some b=>ck (Nat.ble a b&&Nat.ble b l.length) (K ((l.drop a).take (b - a)))
def sL (s:St) (t:TypeId) (x:SV) (lo hi:Option Operand) (K:SV->St->Prop):Prop:=
 mP s.ts lo fun l=>mP s.ts hi fun u=>
 match tab.und.get t,x with
 |some .string, .str c=>lg c l u fun c'=>K (.str c') s
 |some (.slice e), .aJ X L enc=>match tab.siz.get e with
  |some n=>(∀x:X,(enc x).length=n)/\lg L l u fun L'=>K (.aJ X L' enc) s
  |none=>False
 |some (.slice e), .own b=>match s.h.get b,tab.siz.get e with
  |some (.arr X L enc _),some n=>(∀x:X,(enc x).length=n)/\lg L l u fun L'=>K (.aJ X L' enc) ((s.ev (.eW b X L enc)).del b)
  |_,_=>False
 | some (.slice e), .sl b off len cap=>match tab.siz.get e with
  |some n=>let a:=l.getD 0
   let c:=u.getD len
   ck (Nat.ble a c&&Nat.ble c cap) (K (.sl b (bif Nat.beq cap a then off else off+a*n) (c - a) (cap - a)) s)
  |none=>False
 |_,_=>False
def vU (s:St) (src dst:TypeId) (x:SV) (K:SV->St->Prop):Prop:=
 match tab.und.get src,tab.und.get dst,x with
 |some _,some (.int k), .int _ n=>K (.int k (k.wrap n)) s
 |some _,some .string, .str c=>K (.str c) s
 |some _,some (.slice e), .str c=>match tab.und.get e,tab.siz.get e with
  |some (.int .u8),some 1=>K (.aJ UInt8 c cG) s
  |_,_=>False
 |some (.slice e),some .string, .nils=>match tab.und.get e with
  |some (.int .u8)=>K (.str []) s
  |_=>False
 |some (.slice e),some .string, .aJ X L enc=>match tab.und.get e with
  |some (.int .u8)=>∃c:List UInt8,SV.aJ X L enc=SV.aJ UInt8 c cG/\K (.str c) s
  |_=>False
 |some (.slice e),some .string, .own b=>match tab.und.get e,s.h.get b with
  |some (.int .u8),some (.arr X L enc _)=>∃c:List UInt8,SV.aJ X L enc=SV.aJ UInt8 c cG/\K (.str c) s
  |_,_=>False
 |some (.slice e),some .string, .sl b off len _=>match tab.und.get e,s.h.get b with
  |some (.int .u8),some (.cells cs _)=>ck (Nat.ble (off+len) cs.length) (∃c:List UInt8,(cs.drop off).take len=o6 c/\K (.str c) s)
  |_,_=>False
 |_,_,_=>False
def vH (t:TypeId) (f:Nat):Option Field:=
 match tab.und.get t with
 |some (.struct fs)=>fs[f]?
 |_=>none
def fv (n:Nat):Nat->List SV->List (List SV)
 |0,_=>[]
 |m+1,l=>l.take n::fv n m (l.drop n)
def tB {X:Type} (enc:X->List SV):List (List SV)->(List X->Prop)->Prop
 |[],K=>K []
 |c::cs,K=>∃x:X,enc x=c/\tB enc cs fun l=>K (x::l)
def gz:List SV->St->St
 |[],s=>s
 | .own b::l,s=>match s.h.get b with
  |some (.arr X L enc _)=>gz l ((s.ev (.eW b X L enc)).del b)
  |_=>gz l s
 |_::l,s=>gz l s
def mH (s:St) (e n by_:Nat) (x:SV) (Y:Type) (M:List Y) (enc':Y->List SV) (K:SV->St->Prop):Prop:=
 match x with
 | .nils=>(∀x:Y,(enc' x).length=n/\(enc' x).all lz=true)/\ck (Nat.ble (M.length*by_) 16777216&&Nat.ble M.length 16777216) (K (.own s.h.next) (s.new (.arr Y M enc' e)))
 | .own d=>match s.h.get d with
  |some (.arr X L enc e')=>ck (Nat.beq e e') ((∀x:Y,(enc' x).length=n/\(enc' x).all lz=true)/\ ∃M':List X,SV.aJ Y M enc'=SV.aJ X M' enc/\ck (Nat.ble ((L.length+M'.length)*by_) 16777216&&Nat.ble (L.length+M'.length) 16777216) (K (.own d) (((s.ev (.kill d)).aM d (.arr X (L++M') enc e)).note (.mod d))))
  |_=>False
 |_=>False
def om (s:St) (e n by_ m:Nat) (x:SV) (cs:List SV) (K:SV->St->Prop):Prop:=
 match x with
 | .nils=>match view e with
  |some V=>tB V.enc (fv n m cs) fun l=>ck (Nat.ble (l.length*by_) 16777216&&Nat.ble l.length 16777216) (K (.own s.h.next) (s.new (.arr V.X l V.enc e)))
  |none=>False
 | .own d=>match s.h.get d with
  |some (.arr X L enc e')=>ck (Nat.beq e e') (tB enc (fv n m cs) fun l=>ck (Nat.ble ((L.length+l.length)*by_) 16777216&&Nat.ble (L.length+l.length) 16777216) (K (.own d) (((s.ev (.kill d)).aM d (.arr X (L++l) enc e)).note (.mod d))))
  |_=>False
 |_=>False
def yr (s:St) (e:TypeId) (x y:SV) (K:SV->St->Prop):Prop:=
 match tab.siz.get e,tab.byt.get e with
 | some n,some by_=>
  ck (!(Nat.beq n 0)&&(match qN tab e with|some z=>Nat.beq z.length n|none=>false))
  (match y with
  | .sl b off m _=>match s.h.get b with
   |some (.cells cs0 _)=>
    match(gz ((cs0.drop off).take (m*n)) s).h.get b with
    |some (.cells cs _)=>ck (Nat.ble (off+m*n) cs.length&&((cs.drop off).take (m*n)).all lz) (om view (gz ((cs0.drop off).take (m*n)) s) e n by_ m x ((cs.drop off).take (m*n)) K)
    |_=>False
   |_=>False
  | .aJ Y M enc'=>mH s e n by_ x Y M enc' K
  | .own b=>match s.h.get b with
   |some (.arr Y M enc' _)=>mH ((s.ev (.eW b Y M enc')).del b) e n by_ x Y M enc' K
   |_=>False
  | .nils=>match x with
   | .nils=>K .nils s
   |_=>False
  |_=>False)
 |_,_=>False
def mO (k:IntKind):Int->List SV->Option SV
 |x,[]=>some (.int k x)
 |x, .int _ y::l=>mO k (if y<x then y else x) l
 |_,_=>none
def mN (k:IntKind):Int->List SV->Option SV
 |x,[]=>some (.int k x)
 |x, .int _ y::l=>mN k (if y>x then y else x) l
 |_,_=>none
def oB (s:St) (x:SV):Option Nat:=
 match x with
 | .nils=>some 0
 | .aJ _ L _=>some L.length
 | .sl _ _ n _=>some n
 | .own b=>match s.h.get b with
  |some (.arr _ L _ _)=>some L.length
  |_=>none
 |_=>none
def qn (s:St) (b:Builtin) (ats:Array TypeId) (args:List SV) (K:SV->St->Prop):Prop:=
 match b,args with
 | .len,[x]=>match(ats[0]?).bind tab.und.get with
  |some .string=>match x with| .str c=>K (.int .i64 (.ofNat c.length)) s|_=>False
  |some (.slice _)=>so (oB s x) fun n=>K (.int .i64 (.ofNat n)) s
  |_=>False
 | .append,[x,y]=>match(ats[0]?).bind tab.und.get,(ats[1]?).bind tab.und.get with
  |some (.slice e),some (.slice _)=>yr tab view s e x y K
  |_,_=>False
 | .min, .int k x::l=>so (mO k x l) fun v=>K v s
 | .max, .int k x::l=>so (mN k x l) fun v=>K v s
 |_,_=>False
def wy:SV->List Ev
 | .ptr b _=>[.mod b]
 |_=>[]
def kU (s:St) (o:Oper) (K:SV->St->Prop):Prop:=
 match o.op with
 | .move x=>so (fk s.ts x) fun v=>K v s
 | .assign x=>so (fk s.ts x) fun v=>K v s
 | .pick c a b=>match fk s.ts c with
  |some (.bool p)=>match fk s.ts a,fk s.ts b with
   |some (.bool x),some (.bool y)=>K (.bool (bif p then x else y)) s
   |u,v=>br p (so u fun v=>K v s) (so v fun v=>K v s)
  |_=>False
 | .alloc e=>so (tab.siz.get e) fun _=>so (qN tab e) fun cs=>K (.ptr s.h.next 0) (s.new (.cells cs e))
 | .box e x=>so (tab.siz.get e) fun _=>so (fk s.ts x) fun v=>ck v.known (K (.ptr s.h.next 0) (s.new (.cells v.cells e)))
 | .build t ps=>so (qK s.ts ps.toList) fun l=>so (yP tab t l) fun v=>K v s
 | .buildSlice t n ps=>so (qK s.ts ps.toList) fun l=>tN tab view s t n l K
 | .load t a=>so (fk s.ts a) fun p=>wx tab s.h t p fun v=>K v s
 | .store t a x=>so (fk s.ts a) fun p=>so (fk s.ts x) fun v=>yU tab s.h t p v fun h'=>K (.bj []) (s.J0 h' (wy p))
 | .nilCheck x=>so (fk s.ts x) fun v=>match v with
  | .ptr .. | .bR .. | .cB .. | .fn .. =>K v s
  |_=>False
 | .binOp op t x y _=>so (fk s.ts x) fun a=>so (fk s.ts y) fun b=>pe tab op t a b fun v=>K v s
 | .unOp op _ x=>so (fk s.ts x) fun a=>zu op a fun v=>K v s
 | .convert a b x=>so (fk s.ts x) fun v=>vU tab s a b v K
 | .makeFunc fn first captured=>match fn with
  | .func f=>so (jN s.ts first.toList) fun xs=>so (jN s.ts captured.toList) fun ys=>K (.fn f xs ys) s
  |_=>False
 | .slice t x lo hi none=>so (fk s.ts x) fun v=>sL tab s t v lo hi K
 | .fieldAddr st x f=>so (vH tab st f) fun fd=>ck (match tab.siz.get fd.type with|some n=> !(Nat.beq n 0)|none=>false) (so (fk s.ts x) fun v=>match v with
  | .ptr b off=>K (.ptr b (off+fd.offset)) s
  | .bR b i off=>K (.bR b i (off+fd.offset)) s
  | .cB cs off=>K (.cB cs (off+fd.offset)) s
  |_=>False)
 | .field t x f=>so (vH tab t f) fun fd=>so (fk s.ts x) fun v=>match v with
  | .agg cs=>so (lD tab fd.type cs fd.offset) fun u=>K u s
  |_=>False
 | .indexAddr t x ix=>so (fk s.ts ix) fun j=>ll j fun i=>so (fk s.ts x) fun v=>match tab.und.get t,v with
  |some (.array len e), .ptr b off=>match tab.siz.get e with
   |some n=>ck (Nat.blt i len) (K (.ptr b (off+i*n)) s)
   |none=>False
  |some (.slice e), .sl b off len _=>match tab.siz.get e with
   |some n=>ck (Nat.blt i len) (K (.ptr b (off+i*n)) s)
   |none=>False
  |some (.slice e), .aJ _ L enc=>match tab.siz.get e with
   |some n=>so (L[i]?) fun x=>ck (Nat.beq (enc x).length n) (K (.cB (enc x) 0) s)
   |none=>False
  |some (.slice e), .own b=>match tab.siz.get e,s.h.get b with
   |some _,some (.arr _ L _ e')=>ck (Nat.beq e e'&&Nat.blt i L.length) (K (.bR b i 0) s)
   |_,_=>False
  |_,_=>False
 | .index t x ix=>so (fk s.ts ix) fun j=>ll j fun i=>so (fk s.ts x) fun v=>match tab.und.get t,v with
  |some (.array len e), .agg cs=>match tab.siz.get e with
   |some n=>ck (Nat.blt i len) (so (lD tab e cs (i*n)) fun u=>K u s)
   |none=>False
  |some .string, .str c=>so (c[i]?) fun b=>K (.int .u8 (.ofNat b.toNat)) s
  |_,_=>False
 | .extract t i=>so (fk s.ts t) fun v=>match v with
  | .bj vs=>so (vs[i]?) fun u=>K u s
  |_=>False
 | .call c=>match c.callee with
  | .builtin b=>so (jN s.ts c.args.toList) fun l=>qn tab view s b c.argTypes l K
  |_=>False
 |_=>False
end
end
section
universe u v
structure aP:Type 1 where
 Y:Type
 pre:Y->Prop
 args:Y->List SV
 res:Y->SV
structure aK:Type 1 where
 α:Type
 ok:α->Prop
 μ:α->Nat
 aU:List Nat
 aR:α->List (Nat×SV)
 bD:α->List (Nat×SO)
 eW:List Nat:=[]
 link:Option (α->α->Prop):=none
structure iq:Type 1 where
 tab:aZ
 view:TypeId->Option View
 gm:FuncId->Option aP
 kW:FuncId->Nat->Option aK
inductive eg:Type 1 where
 |code (c:Code)
 |inBlock (id:Nat)
 |inLoop (body:Code)
 |head (gO:Fr->SH->List Ev->Prop)
 |inScope (body:Code)
 |inRegion (ops:Array Oper) (l:List Nat)
structure SM:Type 1 where
 fn:FuncId
 nt:Nat
 base:Nat
 todo:List eg
 s:St
mutual
def SV.lt (n:Nat):SV->Bool
 | .ptr b _=>Nat.blt b n
 | .bR b _ _=>Nat.blt b n
 | .own b=>Nat.blt b n
 | .sl b _ _ _=>Nat.blt b n
 | .map b=>Nat.blt b n
 | .fn _ xs ys=>gq n xs&&gq n ys
 | .agg cs=>gq n cs
 | .bj cs=>gq n cs
 |_=>true
def gq (n:Nat):List SV->Bool
 |[]=>true
 |v::l=>SV.lt n v&&gq n l
end
mutual
def SV.full:SV->Bool
 | .any=>false
 | .fn _ xs ys=>jt xs&&jt ys
 | .agg cs=>jt cs
 | .bj cs=>jt cs
 |_=>true
def jt:List SV->Bool
 |[]=>true
 |v::l=>SV.full v&&jt l
end
def SO.lt (n:Nat):SO->Bool
 | .cells cs _=>gq n cs
 | .arr .. =>true
def Ev.id:Ev->Nat
 | .kill b=>b
 | .mod b=>b
 | .eW b _ _ _=>b
def tA (v e:SV):Prop:=
 match v,e with
 | .bool a, .bool b=>a=b
 | .int k a, .int j b=>ck (decide (k=j)) (a=b)
 | .str a, .str b=>a=b
 | .ptr a i, .ptr b j=>ck (Nat.beq a b&&Nat.beq i j) True
 | .own a, .own b=>ck (Nat.beq a b) True
 | .aW, .aW=>True
 | .nils, .nils=>True
 | .bh, .bh=>True
 | .bB, .bB=>True
 | .nils, .aJ _ L _=>L=[]
 |_, .any=>True
 |v,e=>v=e
def ov:List SV->List SV->Prop
 |[],[]=>True
 |a::l,b::m=>tA a b/\ov l m
 |_,_=>False
def rm (o e:SO):Prop:=
 match o,e with
 | .cells a t, .cells b u=>ck (Nat.beq t u) (ov a b)
 | .arr X L enc t, .arr X' L' enc' u=>ck (Nat.beq t u) (SV.aJ X L enc=SV.aJ X' L' enc')
 |_,_=>False
def rn (tab:aZ) (next p:Nat) (o e:Option SO):Prop:=
 match e,o with
 |none,_=>True
 |some (.arr X L enc t),some o=>rm o (.arr X L enc t)
 |some (.arr X L enc t),none=>ck (Nat.ble next p) (L=[]/\so (tab.siz.get t) fun n=>ck (!(Nat.beq n 0)) (∀x:X,(enc x).length=n))
 |some e,some o=>rm o e
 |some _,none=>False
def zm (tab:aZ) (h e:SH):Nat->Prop
 |0=>True
 |n+1=>rn tab h.next n (h.get n) (e.get n)/\zm tab h e n
def lh (tab:aZ) (h e:SH):Prop:=zm tab h e e.next
def oA (h eh:SH) (v e:SV):Prop:=
 match e,v with
 | .own b, .nils=>match h.get b,eh.get b with|none,some (.arr ..)=>True|_,_=>False
 |e,v=>tA v e
def jA (ts:Fr) (h eh:SH):Fr->Prop
 |[]=>True
 |(t,e)::l=>so (look ts t) (fun v=>oA h eh v e)/\jA ts h eh l
def stay (n:Nat) (h eh:SH):Bool:=(List.range n).all fun p=>match h.get p,eh.get p with|some _,none=>false|_,_=>true
def yv (ts:Fr) (e:Fr):List Nat->Fr
 |[]=>e
 |t::l=>match look ts t with|some v=>(t,v)::yv ts e l|none=>yv ts e l
def rA:SH->List (Nat×SO)->SH
 |h,[]=>h
 |⟨n,os⟩,(b,o)::l=>rA ⟨Nat.max n (b+1),(b,some o)::os⟩ l
def aK.at (A:aK) (s:St) (x:A.α):Fr×SH:=(yv s.ts (A.aR x) A.aU,rA s.h (A.bD x))
def low (ts:Fr) (h:SH):Bool:=ts.all (fun x=>x.2.lt h.next)&&h.os.all (fun x=>Nat.blt x.1 h.next&&(match x.2 with|some o=>o.lt h.next|none=>true))
def l8:Code->Option Nat
 | .region id _ _=>some id
 | .seq a b=>match l8 a with|some r=>some r|none=>l8 b
 | .cond _ a b=>match l8 a with|some r=>some r|none=>l8 b
 | .block _ b=>l8 b
 | .loop b=>l8 b
 | .scope b=>l8 b
 | .rangeFunc _ _ a b=>match l8 a with|some r=>some r|none=>l8 b
 |_=>none
def mw (id:Nat):List eg->Option (List eg)
 | .inBlock j::k=>bif Nat.beq j id then some k else mw id k
 |_::k=>mw id k
 |[]=>none
section
variable (cfg:iq)
def dP:Nat->List SV->List SV->St->(St->Prop)->Prop
 |0,_,_,_,_=>False
 |_+1,[],[],s,K=>K s
 | n+1,f::fs,a::as1,s,K=>
  match f,a with
  | .any,_=>dP n fs as1 s K
  | .bool x, .bool y=>y=x/\dP n fs as1 s K
  | .int k x, .int j y=>ck (decide (k=j)) (y=x/\dP n fs as1 s K)
  | .str x, .str y=>y=x/\dP n fs as1 s K
  | .aW, .aW=>dP n fs as1 s K
  | .wp x, .wp y=>y=x/\dP n fs as1 s K
  | .nils, .nils=>dP n fs as1 s K
  | .bh, .bh=>dP n fs as1 s K
  | .bB, .bB=>dP n fs as1 s K
  | .aJ X L enc, .aJ X' L' enc'=>SV.aJ X' L' enc'=SV.aJ X L enc/\dP n fs as1 s K
  | .aJ _ L _, .nils=>L=[]/\dP n fs as1 s K
  | .aJ X L enc, .own b=>match s.h.get b with
   |some (.arr X' L' enc' _)=>SV.aJ X' L' enc'=SV.aJ X L enc/\dP n fs (fo (.eW b X' L' enc') as1) ((s.ev (.eW b X' L' enc')).del b) K
   |_=>False
  | .aJ X L enc, .sl b off m c=>match s.h.get b with
   |some (.cells cs e)=>match cfg.tab.siz.get e with
    |some r=>ck (!(Nat.beq r 0)&&Nat.ble m c&&Nat.ble (off+m*r) cs.length&&((cs.drop off).take (m*r)).all lz) (fv r m ((cs.drop off).take (m*r))=L.map enc/\dP n fs (fo (.kill b) as1) ((s.ev (.kill b)).del b) K)
    |none=>False
   |_=>False
  | .agg xs, .agg ys=>ck (Nat.beq xs.length ys.length) (dP n (xs++fs) (ys++as1) s K)
  | .fn f xs us, .fn g ys vs=>ck (Nat.beq f g&&Nat.beq xs.length ys.length&&Nat.beq us.length vs.length) (dP n (xs++(us++fs)) (ys++(vs++as1)) s K)
  |_,_=>False
 |_,_,_,_,_=>False
def qO:List Ev->Fr->Fr
 |[],ts=>ts
 |e::l,ts=>qO l (oD e ts)
def za (rec:SM->(SV->St->Prop)->Prop) (f:FuncId) (args:List SV) (s:St) (K:SV->St->Prop):Prop:=
 match cfg.tab.fns.get f with
 | some fn=>match fn.body with
  | some body=>match cfg.gm f with
   |some C=>∃y:C.Y,dP cfg 1000 (C.args y) args s fun s=>C.pre y/\K (C.res y) s
   | none=>match s with
    |⟨ts,h,log⟩=>rec ⟨f,Nat.max fn.ntmps args.length,h.next,[.code body],⟨Fr.of args 0,h,[]⟩⟩ fun v s'=>
     match s' with
     |⟨_,h',log'⟩=>K v ⟨qO log' ts,h',log++log'⟩
  |none=>False
 |none=>False
def iF (nt:Nat) (s:St) (d:Option Tmp) (v:SV) (K:St->Prop):Prop:=
 match s,d with
 |⟨ts,h,log⟩,some d=>bif Nat.blt d nt then yO v fun v=>sE h fun h=>K ⟨(d,v)::ts,h,log⟩else K ⟨ts,h,log⟩
 |⟨ts,h,log⟩,none=>sE h fun h=>K ⟨ts,h,log⟩
def sG (ops:Array Oper) (o:Oper) (s:St) (K:Bool->St->Prop):Prop:=
 match o.guard with
 |none=>K true s
 | some (j,w)=>
  match(ops[j]?).bind (·.dst)with
  | some d=>match s with
   |⟨ts,h,log⟩=>match look ts d with
    |some (.bool p)=>br p (K w ⟨(d, .bool true)::ts,h,log⟩) (K (!w) ⟨(d, .bool false)::ts,h,log⟩)
    |some (.bj _)=>K false ⟨ts,h,log⟩
    |_=>False
  |none=>K false s
def vV (rec:SM->(SV->St->Prop)->Prop) (s:St) (o:Oper) (K:SV->St->Prop):Prop:=
 match o.op with
 | .call c=>match c.callee with
  | .value f=>so (jN s.ts c.args.toList) fun args=>so (fk s.ts f) fun v=>match v with
   | .fn g first captured=>za cfg rec g (first++args++captured) s K
   |_=>False
  |_=>kU cfg.tab cfg.view s o K
 |_=>kU cfg.tab cfg.view s o K
structure SD:Type 1 where
 s:St
 aE:T (List Nat)
 reads:List (Nat×List Nat)
 ax:List (Nat×Nat)
def nr:SH->List (Nat×Nat)->SH
 |h,[]=>h
 |h,(_,b)::l=>nr (h.set b none) l
def iC (o:Option SO):List Ev->Option SO
 |[]=>o
 |e::l=>iC (o.map (SO.on e)) l
def kq (h h0:SH) (log:List Ev):List (Nat×Nat)->SH
 |[]=>h
 |(_,b)::l=>kq (h.set b (iC (h0.get b) log)) h0 log l
def yH (ts:Fr) (o:Oper):List Nat:=
 match o.op with
 | .load _ a=>match fk ts a with
  |some (.ptr b _)=>[b]
  |some (.bR b _ _)=>[b]
  |_=>[]
 | .indexAddr _ x _=>match fk ts x with
  |some (.own b)=>[b]
  |_=>[]
 | .call c=>match c.args.toList with
  |[x]=>match fk ts x with
   |some (.own b)=>[b]
   |_=>[]
  |_=>[]
 |_=>[]
def nZ (h:SH):List Nat->List (Nat×Option SO)
 |[]=>[]
 |b::l=>(b,h.get b)::nZ h l
def yN (ops:Array Oper) (nt i:Nat) (o:Oper) (d:SD) (K:SD->Prop):Prop:=
 match d with
 |⟨s,aE,reads,ax⟩=>
 ck (iE aE ops i o) (sG ops o s fun w s=>
  bif !w then jm (dS aE o) fun an=>nc (aE.set i (some an)) fun aE=>iF nt s o.dst (.bj []) fun s=>K ⟨s,aE,reads,ax⟩
  else match cls cfg.tab o with
  | .jf=>K ⟨s,aE,reads,ax⟩
  | .alloc=>jm (dS aE o) fun an=>nc (aE.set i (some an)) fun anc'=>match s with
   |⟨ts,h,log⟩=>kU cfg.tab cfg.view ⟨ts,h,[]⟩ o fun v s'=>match s' with
    |⟨ts',h',log'⟩=>ck log'.isEmpty (iF nt ⟨ts',h',log⟩ o.dst v fun s'=>K ⟨s',anc',reads,(i,h.next)::ax⟩)
  |_=>jm (dS aE o) fun an=>nc (aE.set i (some an)) fun aE=>match s with
   |⟨ts,h,log⟩=>jm (yH ts o) fun rs=>ck (rs.all fun b=>ax.all fun x=> !(Nat.beq x.2 b)) (kU cfg.tab cfg.view ⟨ts,⟨h.next,nZ h rs⟩,[]⟩ o fun v s'=>ck (s'.log.isEmpty&&v.full) (iF nt ⟨ts,h,log⟩ o.dst v fun s'=>K ⟨s',aE,(i,rs)::reads,ax⟩)))
def th (ops:Array Oper) (nt:Nat):Nat->List Oper->SD->(SD->Prop)->Prop
 |_,[],d,K=>K d
 |i,o::l,d,K=>
  bif gv d.aE i o then yN cfg ops nt i o d fun d'=>th ops nt (i+1) l d' K
  else th ops nt (i+1) l d K
def ou (rec:SM->(SV->St->Prop)->Prop) (ops:Array Oper) (nt i:Nat) (o:Oper) (d:SD) (K:SD->Prop):Prop:=
 match d with
 |⟨s,aE,reads,ax⟩=>
 ck (iE aE ops i o) (sG ops o s fun w s=>
  ck w (jm (dS aE o) fun an=>nc (aE.set i (some an)) fun aE=>
   jm (ax.filter fun x=> !(cq x.1 an)) fun hid=>jm (reads.filter fun x=> !(cq x.1 an)) fun reads=>match s with
   | ⟨ts,h,log⟩=>vV cfg rec ⟨ts,nr h hid,[]⟩ o fun v s'=>match s' with
    |⟨ts',h',log'⟩=>ck ((reads.all fun x=>x.2.all fun b=> !(cq b (log'.map Ev.id))&&(h'.get b).isSome&&hid.all fun y=> !(Nat.beq y.2 b))&&hid.all fun x=> !(cq x.2 (log'.map Ev.id)))
     (iF nt ⟨ts',kq h' h log' hid,log++log'⟩ o.dst v fun s'=>K ⟨s',aE,reads,hid⟩)))
def sR (rec:SM->(SV->St->Prop)->Prop) (ops:Array Oper) (nt:Nat):Nat->SD->(St->Prop)->Prop
 |0,_,_=>False
 |n+1,d,K=>th cfg ops nt 0 ops.toList d fun d1=>
  match iL d1.aE 0 ops.toList with
  |[]=>ck ((List.range ops.size).all fun i=>(d1.aE.get i).isSome) (K d1.s)
  |[(i,o)]=>ou cfg rec ops nt i o d1 fun d2=>sR rec ops nt n d2 K
  |_=>False
def kr (s:St):List ResultVar->(List SV->Prop)->Prop
 |[],K=>K []
 | .tmp t::l,K=>so (look s.ts t) fun v=>kr s l fun vs=>K (v::vs)
 | .cell a t::l,K=>so (look s.ts a) fun p=>wx cfg.tab s.h t p fun v=>kr s l fun vs=>K (v::vs)
def nv (fn:FuncId) (s:St) (Q:SV->St->Prop):Prop:=
 match cfg.tab.fns.get fn with
 |some fn=>kr cfg s fn.results.toList fun vs=>Q (match vs with|[v]=>v|vs=> .bj vs) s
 |none=>False
def fixC (s:St) (c:Operand) (p:Bool):St:=
 match s,c with
 |⟨ts,h,log⟩, .tmp t=>⟨(t, .bool p)::ts,h,log⟩
 |s,_=>s
def lj (ts:Fr):List Nat->List SV
 |[]=>[]
 |t::l=>match look ts t with|some v=>v::lj ts l|none=>lj ts l
def dE (A:aK) (s:St):St:=gz (lj s.ts A.eW) s
def zn (A:aK) (s:St) (base:Nat) (x:A.α) (ts:Fr) (h:SH) (log:List Ev):Prop:=
 match dE A ⟨ts,h,log⟩with
 |⟨ts,h,log⟩=>ck (log.all fun e=>Nat.ble base e.id) (∃y:A.α,A.ok y/\A.μ y<A.μ x/\jA ts h (A.at s y).2 (A.at s y).1/\lh cfg.tab h (A.at s y).2/\ck (stay base h (A.at s y).2) True)
def RV (A:aK) (s:St) (base:Nat) (cont:(Fr->SH->List Ev->Prop)->St->Prop):Prop:=
 match dE A s with
 |⟨ts,h,log⟩=>(∃x:A.α,A.ok x/\jA ts h (A.at ⟨ts,h,log⟩ x).2 (A.at ⟨ts,h,log⟩ x).1/\lh cfg.tab h (A.at ⟨ts,h,log⟩ x).2/\ck (stay base h (A.at ⟨ts,h,log⟩ x).2) True)/\
  ∀x:A.α,A.ok x->ck (log.all (fun e=>Nat.ble base e.id)&&(low (A.at ⟨ts,h,log⟩ x).1 (A.at ⟨ts,h,log⟩ x).2&&Nat.ble base (A.at ⟨ts,h,log⟩ x).2.next)) (cont (zn cfg A ⟨ts,h,log⟩ base x) ⟨(A.at ⟨ts,h,log⟩ x).1,(A.at ⟨ts,h,log⟩ x).2,log⟩)
def aK.when (A:aK) (R:A.α->A.α->Prop) (x0:A.α):aK:={α:=A.α,ok:=fun x=>A.ok x/\R x0 x,μ:=A.μ,aU:=A.aU,aR:=A.aR,bD:=A.bD,eW:=A.eW}
def zo (A:aK) (K:aK->Prop):Prop:=
 match A.link with
 |none=>K A
 |some R=>∃x0:A.α,K (A.when R x0)
theorem OD {A:aK} {K:aK->Prop} (h:zo A K):∃A',K A':=by
 unfold zo at h;split at h
 . exact⟨_,h⟩
 . obtain⟨x0,h⟩:=h;exact⟨_,h⟩
def wp:Nat->SM->(SV->St->Prop)->Prop
 |0,_,_=>False
 | n+1,⟨fn,nt,base,todo,s⟩,Q=>
  match todo with
  |[]=>nv cfg fn s Q
  | .code .ret::_=>nv cfg fn s Q
  | .code .skip::k=>wp n ⟨fn,nt,base,k,s⟩ Q
  | .code (.label _)::k=>wp n ⟨fn,nt,base,k,s⟩ Q
  | .inBlock _::k=>wp n ⟨fn,nt,base,k,s⟩ Q
  | .inScope _::k=>wp n ⟨fn,nt,base,k,s⟩ Q
  | .code (.seq a b)::k=>wp n ⟨fn,nt,base, .code a:: .code b::k,s⟩ Q
  | .code (.cond c a b)::k=>match fk s.ts c with
   |some (.bool p)=>br p (wp n ⟨fn,nt,base, .code a::k,fixC s c true⟩ Q) (wp n ⟨fn,nt,base, .code b::k,fixC s c false⟩ Q)
   |_=>False
  | .code (.block id b)::k=>wp n ⟨fn,nt,base, .code b:: .inBlock id::k,s⟩ Q
  | .code (.scope b)::k=>wp n ⟨fn,nt,base, .code b:: .inScope b::k,s⟩ Q
  | .code (.loop b)::k=>match(l8 b).bind (cfg.kW fn)with
   |none=>wp n ⟨fn,nt,base, .code b:: .inLoop b::k,s⟩ Q
   |some A=>zo A fun A=>RV cfg A s base fun gO s'=>wp n ⟨fn,nt,base, .code b:: .head gO::k,s'⟩ Q
  | .inLoop b::k=>wp n ⟨fn,nt,base, .code b:: .inLoop b::k,s⟩ Q
  | .head gO::_=>gO s.ts s.h s.log
  | .code (.exit id)::k=>match mw id k with
   |some k'=>wp n ⟨fn,nt,base,k',s⟩ Q
   |none=>False
  | .code (.region _ ops false)::k=>wp n ⟨fn,nt,base, .inRegion ops (List.range ops.size)::k,s⟩ Q
  | .code (.region _ ops true)::k=>ck (oc 0 ops.toList) (sR cfg (wp n) ops nt (ops.size+1) ⟨s, .e,[],[]⟩ fun s=>wp n ⟨fn,nt,base,k,s⟩ Q)
  | .inRegion _ []::k=>wp n ⟨fn,nt,base,k,s⟩ Q
  | .inRegion ops (i::rest)::k=>match ops[i]? with
   |some o=>sG ops o s fun w s=>
    bif w then vV cfg (wp n) s o fun v s'=>iF nt s' o.dst v fun s'=>wp n ⟨fn,nt,base, .inRegion ops rest::k,s'⟩ Q
    else iF nt s o.dst (.bj []) fun s'=>wp n ⟨fn,nt,base, .inRegion ops rest::k,s'⟩ Q
   |none=>False
  |_=>False
def ask (n:Nat) (f:FuncId) (args:List SV) (Q:SV->St->Prop):Prop:=
 match cfg.tab.fns.get f with
 |some fn=>match fn.body with
  |some body=>wp cfg n ⟨f,Nat.max fn.ntmps args.length,0,[.code body],⟨Fr.of args 0,⟨0,[]⟩,[]⟩⟩ Q
  |none=>False
 |none=>False
end
end
end Go.Sy
namespace Go.Sy
open Go.Am Go.RowKit
section
variable [Inhabited aF]
theorem _root_.Go.Am.eD.rest {E:Env} {h h0:AH} {K:KS} {w:World} (hB:eD K w):eD (Am.Rest E h h0 K) w:=fun b hb=>⟨.inl (hB b hb).1,(hB b hb).2⟩
def cV (w:World):Prop:=∀b,b<(default:aF).old.size->w.heap[b]? =(default:aF).old[b]?
theorem cV.lt {w:World} (h:cV w) {b:Nat} (hb:b<(default:aF).old.size):b<w.heap.size:=by
 have:=h b hb;rw[A5 hb]at this;exact(Ac.1 this).1
theorem cV.kY {w:World} (h:cV w):eD (KS.old w.heap.size) w:=fun b hb=>⟨h.lt hb,h b hb⟩
theorem cV.below {w w':World} (h:cV w) (hb:Below w.heap.size w w'):cV w':=fun b hb'=>by rw[hb.block b (h.lt hb')];exact h b hb'
theorem cV.oC (h:(default:aF).old.size=0) (w:World):cV w:=fun b hb=>by omega
theorem _root_.Go.Am.eD.oC (h:(default:aF).old.size=0) (K:KS) (w:World):eD K w:=fun b hb=>by omega
def eC (P:Program) (m:AM) (Ψ:AV->AH->Prop):Prop:=
 ∀(D:Nat->Prop) (E:Env) (K:KS) (base:List Frame) (frC:Frame) (csC:List Frame) (w:World),Rel D E K m base frC csC w->eD K w->
  ∃v h',Ψ v h'/\Am.Ends P m.h.next (lone frC csC w) D E K v h' base (bot m.fr m.cs) w
structure fI (P:Program) (tab:aZ):Prop where
 ok:bw P tab
 ext:jX P tab
 mix:P.follows .mixedOrders=true
theorem eC.mono {P:Program} {m:AM} {Ψ Φ:AV->AH->Prop} (h:eC P m Ψ) (hi:∀v h',Ψ v h'->Φ v h'):eC P m Φ:=by
 intro D E K base frC csC w hR hB;obtain⟨v,h',h1,h2⟩:=h D E K base frC csC w hR hB;exact⟨v,h',hi v h' h1,h2⟩
def sub0:FuncId->List AV->AH->R (List (AV×AH)):=fun _ _ _=> .no "sub0"
theorem vo {P:Program} {tab:aZ}:jY P tab sub0:=by
 intro f fn body args h outs _ _ ho
 cases ho
section
variable {P:Program} {tab:aZ} (pr:fI P tab) {Ψ:AV->AH->Prop}
include pr
theorem eC.next {m m':AM} (hs:Am.step tab sub0 m= .ok (.next m')) (h:eC P m' Ψ):eC P m Ψ:=by
 intro D E K base frC csC w hR hB;obtain⟨hb,fr',cs',w',E',D',s1,s2,s3,s4,s5,s6,s7⟩:=xq pr.ok vo pr.ext (xv pr.ok vo pr.ext pr.mix) hs hR;obtain⟨v,h',h1,h2⟩:=h D' E' K base fr' cs' w' s2 (hB.kept s5);rw[hb]at h2;exact⟨v,h',h1,Am.Ends.trans s1 s3 s4 s5 s6 s7 h2⟩
theorem eC.done {m:AM} {v:AV} {h:AH} (hs:Am.step tab sub0 m= .ok (.done v h)) (hv:Ψ v h):eC P m Ψ:=by
 intro D E K base frC csC w hR hB;exact⟨v,h,hv,xq pr.ok vo pr.ext (xv pr.ok vo pr.ext pr.mix) hs hR⟩
end
def gD (P:Program) (tab:aZ) (ts:T AV) (h0:AH) (o:Oper) (Θ:AV->AH->Prop):Prop:=
 (∃v h1,eM tab ts h0 o= .ok (v,h1)/\h0.next<=h1.next/\Θ v h1)\/
 (∃c f g first captured args fn body,o.op= .call c/\c.callee= .value f/\ev ts f= .ok (.fn (.func g) first captured)/\iR ts c.args.toList= .ok args/\
  tab.fns.get g=some fn/\fn.body=some body/\eC P {fr:=af.enter fn g body (first++args++captured) .normal,cs:=[],h:=h0} fun v h1=>h0.next<=h1.next/\Θ v h1)
theorem gD.congr {P:Program} {tab:aZ} {ts ts':T AV} {h0:AH} {o:Oper} {Θ:AV->AH->Prop} (hops:∀x∈o.op.operands,ev ts x=ev ts' x) (hp:gD P tab ts h0 o Θ):gD P tab ts' h0 o Θ:=by
 rcases hp with⟨v,h1,hp,hle,hΘ⟩|⟨c,f,g,first,captured,args,fn,body,hc,hcf,hu,hargs,hfn,hb',hgo⟩
 . exact .inl ⟨v,h1,by rw[<-rJ o hops];exact hp,hle,hΘ⟩
 . refine .inr ⟨c,f,g,first,captured,args,fn,body,hc,hcf,?_,?_,hfn,hb',hgo⟩
   . rw[<-hops f (by simp[hc,Op.operands,Call.operands,hcf])];exact hu
   . rw[<-rM c.args.toList fun x hx=>hops x (by simp[hc,Op.operands,Call.operands,hcf];right;simpa using hx)];exact hargs
section
variable {P:Program} {tab:aZ} (pr:fI P tab)
variable {D:Nat->Prop} {E:Env} {K:KS} {base:List Frame} {frC:Frame} {csC:List Frame} {w:World}
variable {fr:af} {cs:List af} {h h0:AH} {ops:Array Oper} {i:Nat} {rest:List Nat} {o:Oper}
include pr
theorem FL {Θ:AV->AH->Prop} (hR:Rel D E K {fr,cs,h} base frC csC w) (hB:eD K w) (a:gX frC ops i rest o) (hp:gD P tab fr.tmps h0 o Θ)
   (hs:∀i o,h0.get i=some o->h.get i=some o) (hd0:∀i o,h0.get i=some o->i<h0.next) (hltD:∀i,D i->i<h0.next):
   ∃ v h1,Θ v h1/\h0.next<=h1.next/\ ∀fr' h2,fr.finish v= .ok fr'->(∀i o,h2.get i=some o->h1.get i=some o\/(h.get i=some o/\h0.get i=none))->
     (∀i o,h2.get i=some o->i<h2.next\/(h1.get i=some o/\h1.next<=h2.next))->h2.next=h1.next->fQ P h0.next (lone frC csC w) D E K {fr:=fr',cs,h:=h2} base w:=by
 rcases hp with⟨v,h1,hp,hle,hΘ⟩|⟨c,f,g,first,captured,args,fn,body,hc,hcf,hu,hargs,hfn,hb,hgo⟩
 . refine⟨v,h1,hΘ,hle,fun fr' h2 hf hg hd2 hnx=>?_⟩;refine zp (rS pr.ok hR a hp hf hs hd0 hg hd2 (fun i=>i=h0.next/\h0.next<h1.next) (fun h=>⟨rfl,h⟩) (fun i hi=>⟨hi.1,fun hd=>by have:=hltD i hd;omega⟩) ?_) (by simp only;omega) (fun i hi=>by omega);rintro i (hi|hi)
   . have:=hltD i hi;omega
   . omega
 . have ok:=pr.ok;have hρ:∀E',ak D E E'->∀x u,ev fr.tmps x= .ok u->frC.eval x=ab E' u:=by
     intro E' he x u hx;rw[<-(hR.all E' he).2.1];exact oU hR.wf.1 E' hx
   have hd:qw (.fn (.func g) first captured) args= .ok {target:= .fn (.func g) captured,args:=first++args}:=rfl;have hres:∀E',ak D E E'->Deferred.ofValue (frC.eval f) (c.args.map frC.eval)=pure (eK E' {target:= .fn (.func g) captured,args:=first++args}):=by
     intro E' he;rw[<-tI hd E',hρ E' he _ _ hu,<-oV (hρ E' he) _ _ hargs];congr 1
     simp[<-Array.toList_inj]
   have hrob:=wV hres;have hnd:∀c',o.op≠ .defer c':=by rw[hc];intro c' e;cases e
   have hctx:Ctx P (lone frC csC w) frC csC w .normal (eK E {target:= .fn (.func g) captured,args:=first++args}):=xE a (.inr hnd) (by simp[execOp,hc,resolve,hcf,hres E (ak.refl _ _)]);have hinv:∀E',ak D E E'->invoke (eK E {target:= .fn (.func g) captured,args:=first++args}).target (eK E {target:= .fn (.func g) captured,args:=first++args}).args=callFunc g (aY E' (first++args++captured)).toArray:=by
     intro E' he;rw[<-hrob E' he];simp only[eK,mr,invoke,dq];simp
   have hP:=ok.fns g fn hfn;have hn:fn.name≠ "runtime.NumGoroutine" :=by simpa using ok.tD g fn hfn
   have hrun:∀a,(callFunc g a).run P w= .ok (.enter g a) w:=by
     intro a;simp[callFunc,hP,hn,hb]
   have hstep:∀E',ak D E E'->Go.step P (lone frC csC w)= .next (lone (Frame.enter P g (aY E' (first++args++captured)).toArray .normal) (frC::csC) w):=fun E' he=>
     hctx.enter _ _ _ (by rw[hinv E' he,hrun])
   have hargsC:∀E',ak D E E'->(aY E' (first++args++captured)).toArray=(aY E (first++args++captured)).toArray:=by
     intro E' he;have h4:=hrun (aY E' (first++args++captured)).toArray;rw[<-hinv E' he,hinv E (ak.refl _ _),hrun]at h4;simpa using h4.symm
   have hRc:Rel D E (Am.Rest E h h0 K) {fr:=af.enter fn g body (first++args++captured) .normal,cs:=[],h:=h0} (frC::csC) (Frame.enter P g (aY E (first++args++captured)).toArray .normal) (frC::csC) w:=by
     refine⟨fun E' he=>⟨?_,?_,rfl⟩,hltD,qq _ _ _ _ _,fun f hf=>by cases hf⟩
     . rw[<-hR.eY he];exact(hR.all E' he).1.part hs hd0
     . rw[<-hargsC E' he,mb hP hb]
   obtain⟨v,h1,⟨hle,hΘ⟩,he2⟩:=hgo D E (Am.Rest E h h0 K) (frC::csC) _ _ w hRc hB.rest;refine⟨v,h1,hΘ,hle,fun fr' h2 hf hg hd2 hnx=>?_⟩;have hfc:=jR hf;obtain⟨fr1,w',vC,E',D',s1,s2,s3,s4,s5,s6,s7,s8,s9,s10⟩:=he2;refine⟨frC.finish vC,csC,w',E',D',?_,⟨?_,?_,?_⟩,s5,s6,s8.part,by simp only;omega,s10⟩
   . exact(Steps.head (hstep E (ak.refl _ _)) s1).trans (.one (step_leave_returned s3))
   . intro E'' he';obtain⟨g1,g2⟩:=s4 E'' he';have hag:=s5.trans he' s6;obtain⟨k1,k2,k3⟩:=hR.all E'' hag;refine⟨k1.join (by rw[hR.eY hag];exact g1) (by rw[hR.eY hag];exact s8) hg (fun i o hi=>(hd2 i o hi).elim id (fun h=>AU (g1.eo i o h.1) h.2)),?_,k3⟩;rw[<-(hfc E'').1,<-g2,<-k2]
   . intro i hi;have:=s7 i hi;simp only;omega
   . exact⟨(hfc E).2.1 hR.wf.1,hR.wf.2⟩
theorem R7 {Θ:AV->AH->Prop} {Ψ:AV->AH->Prop} {k:List bm} (hm:fr.mode= .run) (ht:fr.todo= .inRegion ops (i::rest)::k) (ho:ops[i]? =some o) (hw:wanted ops o fr.tmps= .ok true) (hp:gD P tab fr.tmps h o Θ)
  (hfin:∀v,∃fr',fr.finish v= .ok fr') (hk:∀v h1,Θ v h1->∀fr',fr.finish v= .ok fr'->eC P {fr:=fr',cs,h:=h1} Ψ):eC P {fr,cs,h} Ψ:=by
 intro D E K base frC csC w hR hB;have hdom:=(hR.all E (ak.refl _ _)).1.eo;obtain⟨v,h1,hΘ,hle,hgets⟩:=FL pr hR hB (kX hR hm ht ho hw) hp (fun _ _ h=>h) hdom (fun i hi=>hR.eo i hi);obtain⟨fr',hf⟩:=hfin v;obtain⟨frC',csC',w',E',D',s1,s2,s3,s4,s5,s6,s7⟩:=hgets fr' h1 hf (fun _ _ h=> .inl h) (fun _ _ h=> .inr ⟨h,Ah _⟩) rfl;obtain⟨v',h',g1,g2⟩:=hk v h1 hΘ fr' hf D' E' K base frC' csC' w' s2 (hB.kept s5);refine⟨v',h',g1,?_⟩;have hb:=gS (jR hf E).2.2 cs;rw[hb]at g2;exact Am.Ends.trans s1 s3 s4 s5 s6 s7 g2
end
end
section
variable [Inhabited aF]
def mE (P:Program) (tab:aZ) (ops:Array Oper) (nt i:Nat) (o:Oper) (s:DS) (Φ:DS->Prop):Prop:=
 iE s.aE ops i o=true/\wanted ops o s.ts= .ok true/\
 gD P tab s.ts (gV s.h (s.ax.filter fun x=> !(cq x.1 (dS s.aE o)))) o fun v h1=>
  reread tab ops (gV (ik h1 s.h (s.ax.filter fun x=> !(cq x.1 (dS s.aE o)))) (s.ax.filter fun x=> !(cq x.1 (dS s.aE o)))) (s.reads.filter fun x=> !(cq x.1 (dS s.aE o)))= .ok ()/\
  Φ {ts:=fX nt s.ts o v,h:=ik h1 s.h (s.ax.filter fun x=> !(cq x.1 (dS s.aE o))),aE:=s.aE.set i (some (dS s.aE o)),reads:=s.reads.filter fun x=> !(cq x.1 (dS s.aE o)),ax:=s.ax.filter fun x=> !(cq x.1 (dS s.aE o))}
def fy (P:Program) (tab:aZ) (ops:Array Oper) (nt:Nat) (G:DS->Prop):Nat->DS->Prop
 |0,_=>False
 |n+1,s=>∃s1,jT tab ops nt 0 ops.toList s= .ok s1/\((iL s1.aE 0 ops.toList=[]/\G s1)\/
  ∃c o,iL s1.aE 0 ops.toList=[(c,o)]/\mE P tab ops nt c o s1 (fy P tab ops nt G n))
def vJ (P:Program) (tab:aZ) (ops:Array Oper) (nt:Nat) (G:DS->Prop) (n:Nat) (s1:DS):Prop:=
 (iL s1.aE 0 ops.toList=[]/\G s1)\/ ∃c o,iL s1.aE 0 ops.toList=[(c,o)]/\mE P tab ops nt c o s1 (fy P tab ops nt G n)
section
variable {P:Program} {tab:aZ} (pr:fI P tab)
variable {D:Nat->Prop} {E:Env} {K:KS} {base:List Frame} {frC:Frame} {csC:List Frame} {w:World}
variable {ops:Array Oper} {fr0:af} {cs:List af} {k:List bm} {lo:Nat} {s:DS} {Φ:DS->Prop} {X:Nat->Prop} {tsR:T AV} {hR:AH} {j:Nat} {l:List Nat} {o:Oper}
open Classical in
include pr in
theorem Mr (H:cU tab ops fr0.nt fr0.tmps lo s X) (Q:eA ops fr0 cs k base s X D E K tsR hR (j::l) frC csC w) (hB:eD K w) (hm:fr0.mode= .run) (ho:ops[j]? =some o) (hr:gv s.aE j o=true)
   (hd:mE P tab ops fr0.nt j o s Φ) (hready:∀p∈gL o,X p):∃s2,Φ s2/\cU tab ops fr0.nt fr0.tmps lo s2 (fun i=>X i\/i=j)/\qG P ops fr0 cs k base s2 (fun i=>X i\/i=j) D E K lo l frC csC w:=by
 obtain⟨hok,hb,hp⟩:=hd;obtain⟨hnone,hpre⟩:=nL hr;obtain⟨hok1,hok2⟩:=vl hok;have hxj:¬X j:=fun h=>by have:=H.cx j h;rw[hnone]at this;cases this
 have hanX:∀p∈dS s.aE o,X p:=by
   intro p hp;rcases ec.1 hp with h|⟨q,hq,ap,h1,h2⟩
   . exact hready p h
   . exact H.pf q ap (hready q hq) h1 p h2
 generalize hhid:(s.ax.filter fun x=> !(cq x.1 (dS s.aE o)))=hid at*
 have hidm:∀x,x∈hid↔x∈s.ax/\x.1∉dS s.aE o:=by
   intro x;rw[<-hhid,AB];constructor
   . rintro⟨h1,h2⟩;refine⟨h1,fun hm=>?_⟩;rw[cQ.2 hm]at h2;cases h2
   . rintro⟨h1,h2⟩;refine⟨h1,?_⟩
     cases hb:cq x.1 (dS s.aE o)with
     |true=>exact absurd (cQ.1 hb) h2
     |false=>rfl
 have hidj:∀x∈hid,x.1≠j:=by
   intro x hx e;have:=(H.al x ((hidm x).1 hx).1).2.1;rw[e,hnone]at this;cases this
 have hl:∀t∈mA ops o,tsR.get t=s.ts.get t:=by
   intro t ht;by_cases hw:∃jj oj,ops[jj]? =some oj/\oj.dst=some t/\(s.aE.get jj).isSome
   . obtain⟨jj,oj,g1,g2,g3⟩:=hw;exact Q.nC jj oj t (hready jj (hok1 t ht jj oj g1 g2 g3)) g1 g2
   . rw[Q.nA t (fun jj oj hx hoj hd=>hw ⟨jj,oj,hoj,hd,H.cx jj hx⟩),H.od t (fun jj oj hc hoj hd=>hw ⟨jj,oj,hoj,hd,hc⟩)]
 obtain⟨hops,hwant⟩:=xl hl;have a:=kX Q.rel hm rfl ho (by rw[hwant];exact hb);obtain⟨v,h1,⟨hrr,hΦ⟩,hle,hgets0⟩:=FL pr Q.rel hB a (h0:=gV s.h hid) (hp.congr (fun x hx=>(hops x hx).symm))
   (by
     intro i ob h;rw[gR]at h;split at h
     . cases h
     . rename_i hne;refine(Q.hr i ob).2 ⟨h,fun x hx e=>?_⟩;by_cases hc:x.1∈dS s.aE o
       . exact hanX _ hc
       . exact absurd ⟨x,(hidm x).2 ⟨hx,hc⟩,e⟩ hne)
   (by
     intro i ob h;rw[gR]at h;split at h
     . cases h
     . rw[iH];exact H.hd i ob h)
   (by intro i hi;rw[iH,<-Q.hn];exact Q.rel.eo i hi)
 rw[iH]at hle;have hfin:=xg (fr0:=fr0) (tsR:=tsR) (l:=l) (k:=k) ho v;let h2:=ik h1 s.h hid
 let pd:=hid.filter fun x=>decide (¬(X x.1\/x.1=j))
 let hR2:=gV h2 pd
 have hg2:∀i,h2.get i=if ∃x∈hid,x.2=i then s.h.get i else h1.get i:=fun i=>mU _ _ _ _
 have hn2:h2.next=h1.next:=qf _ _ _;have hchar:∀i ob,hR2.get i=some ob↔h2.get i=some ob/\ ∀x∈hid,x.2=i->X x.1\/x.1=j:=by
   intro i ob;simp only[hR2,gR];constructor
   . intro h;split at h
     . cases h
     . rename_i hne;refine⟨h,fun x hx e=>?_⟩;by_cases hc:X x.1\/x.1=j
       . exact hc
       . exact absurd ⟨x,by simp only[pd,AB];exact⟨hx,by simpa using hc⟩,e⟩ hne
   . rintro⟨h1,h2⟩;rw[if_neg]
     . exact h1
     . rintro⟨x,hx,e⟩;simp only[pd,AB]at hx;have:=h2 x hx.1 e;exact absurd this (by simpa using hx.2)
 have hR2n:hR2.next=h1.next:=(iH _ _).trans hn2;have hgets:=hgets0 _ hR2 hfin
   (by
     intro i ob h;obtain⟨h3,h4⟩:=(hchar i ob).1 h;rw[hg2]at h3;split at h3
     . rename_i hex;right;refine⟨(Q.hr i ob).2 ⟨h3,fun x hx e=>?_⟩,by rw[gR,if_pos hex]⟩;obtain⟨y,hy,e'⟩:=hex;have:x=y:=H.nK x hx y ((hidm y).1 hy).1 (e.trans e'.symm);subst this;exact(h4 x hy e').resolve_right (hidj x hy)
     . exact .inl h3)
   (by
     intro i ob h;obtain⟨h3,_⟩:=(hchar i ob).1 h;rw[hg2]at h3;rw[hR2n];split at h3
     . have:=H.hd i ob h3;left;omega
     . exact .inr ⟨h3,Ah _⟩)
   hR2n
 obtain⟨frC',csC',w',E1,D1,s1,rel1,ag1,dd1,kp1,_,new1⟩:=hgets;rw[iH]at new1;have hdom2:∀i ob,h2.get i=some ob->i<h2.next:=by
   intro i ob h;rw[hn2];rw[hg2]at h;split at h
   . have:=H.hd i ob h;omega
   . rename_i hne;have h3:=(hchar i ob).2 ⟨by rw[hg2,if_neg hne];exact h,fun x hx e=>absurd ⟨x,hx,e⟩ hne⟩;have:=(rel1.all E1 (ak.refl _ _)).1.eo i ob h3;rw[<-hR2n];exact this
 refine⟨_,hΦ,?_,fX fr0.nt tsR o v,hR2,frC',csC',w',D1,E1,s1,⟨rel1,hchar,hR2n.trans hn2.symm,?_,?_,?_⟩,ag1,dd1,kp1,?_⟩
 . refine H.jf ho hr hok hanX rfl rfl (by simp only;rw[qf];exact hle) (fun x hx=>((hidm x).1 hx).1) (fun x hx hn=>(hidm x).2 ⟨hx,hn⟩) ?_ hdom2 ?_
   . intro x hx;show h2.get x.2=s.h.get x.2
     rw[hg2,if_pos ⟨x,hx,rfl⟩]
   . intro j' oj tj vj hmr hjan hoj hce hca;have hmf:(j',tj,vj)∈s.reads.filter (fun x=> !(cq x.1 (dS s.aE o))):=by
       rw[AB];refine⟨hmr,?_⟩
       cases hb:cq j' (dS s.aE o)with
       |true=>exact absurd (cQ.1 hb) hjan
       |false=>rfl
     refine⟨hmf,?_⟩;obtain⟨oj',hr',g1,g2⟩:=Ge _ hrr _ _ _ hmf;rw[hoj]at g1
     cases g1;have hsame:=tS ⟨hce,hca⟩ g2;subst hsame;refine⟨_,g2,?_⟩;intro b ob hg;rw[gR]at hg;split at hg
     . cases hg
     . rename_i hne;exact⟨by rw[iH];exact hdom2 b ob hg,hg,fun x hx e=>hne ⟨x,hx,e⟩⟩
 . intro i oi t hi hoi hd;show(fX fr0.nt tsR o v).get t=(fX fr0.nt s.ts o v).get t
   rw[jQ,jQ];by_cases hc:o.dst=some t/\t<fr0.nt
   . rw[if_pos hc,if_pos hc]
   . rw[if_neg hc,if_neg hc];rcases hi with hi|rfl
     . exact Q.nC i oi t hi hoi hd
     . rw[ho]at hoi
       cases hoi;have hge:fr0.nt<=t:=DQ (fun hlt=>hc ⟨hd,hlt⟩);rw[H.qZ t hge];exact Q.rel.wf.1 t hge
 . intro t ht;rw[jQ,if_neg (fun h=>ht j o (.inr rfl) ho h.1)];exact Q.nA t (fun i oi hi hoi=>ht i oi (.inl hi) hoi)
 . intro x hx hnx hD;have hxm:=((hidm x).1 hx).1;rcases new1 x.2 hD with hd|hd
   . exact Q.dp x hxm (fun h=>hnx (.inl h)) hd
   . have:=(H.al x hxm).1;omega
 . intro i hi;rcases new1 i hi with h|h
   . exact .inl h
   . exact .inr (Aq H.nx h)
end
section
variable {P:Program} {tab:aZ} (pr:fI P tab)
variable {K:KS} {base:List Frame}
variable {ops:Array Oper} {fr0:af} {cs:List af} {k:List bm} {lo:Nat}
def og (P:Program) (fr0:af) (cs:List af) (k:List bm) (base:List Frame) (K:KS) (lo:Nat) (G:DS->Prop) (D:Nat->Prop) (E:Env) (frC:Frame) (csC:List Frame) (w:World):Prop:=
 ∃sF frC' csC' w' D' E',G sF/\Steps P (lone frC csC w) (lone frC' csC' w')/\Rel D' E' K {fr:={fr0 with tmps:=sF.ts,todo:=k},cs,h:=sF.h} base frC' csC' w'/\ak D E E'/\(∀i,D i->D' i)/\Kept K w w'/\(∀i,D' i->D i\/lo<=i)/\lo<=sF.h.next
include pr in
theorem wP (hm:fr0.mode= .run) (hlt:oc 0 ops.toList=true):∀(fuel t:Nat) (listed:Array Bool) (s:DS) (G:DS->Prop) (n:Nat) (D:Nat->Prop) (E:Env) (tsR:T AV) (hR:AH) (frC:Frame) (csC:List Frame) (w:World),
  listed.size=ops.size->mC ops.size listed<=fuel->vJ P tab ops fr0.nt G n s->cU tab ops fr0.nt fr0.tmps lo s (dW listed)->
  eA ops fr0 cs k base s (dW listed) D E K tsR hR (Region.linearise.go .any ops fuel t listed []) frC csC w->eD K w->og P fr0 cs k base K lo G D E frC csC w:=by
 have hend:∀(listed:Array Bool) (s:DS) (G:DS->Prop) (n:Nat) (D:Nat->Prop) (E:Env) (tsR:T AV) (hR:AH) (frC:Frame) (csC:List Frame) (w:World),(∀j,j<ops.size->dW listed j)->
    vJ P tab ops fr0.nt G n s->cU tab ops fr0.nt fr0.tmps lo s (dW listed)->eA ops fr0 cs k base s (dW listed) D E K tsR hR [] frC csC w->og P fr0 cs k base K lo G D E frC csC w:=by
  intro listed s G n D E tsR hR frC csC w hall htodo H Q;rcases htodo with⟨_,hG⟩|⟨c,o,hc,_⟩
  . have hts:∀t,tsR.get t=s.ts.get t:=by
      intro t;by_cases hw:∃(j:Nat) (oj:Oper),ops[j]? =some oj/\oj.dst=some t
      . obtain⟨j,oj,h1,h2⟩:=hw;exact Q.nC j oj t (hall j (Ac.1 h1).1) h1 h2
      . rw[Q.nA t (fun j oj _ h1 h2=>hw ⟨j,oj,h1,h2⟩),H.od t (fun j oj _ h1 h2=>hw ⟨j,oj,h1,h2⟩)]
    have hst:∀E',Go.step P (lone (bc E' {fr0 with tmps:=tsR,todo:= .inRegion ops []::k}) csC w)= .next (lone (bc E' {fr0 with tmps:=tsR,todo:=k}) csC w):=
      fun E'=>step_lone_go (by simp[stepG,stepG.exec,bc,hm,fe,dL])
    have hconc:∀E',bc E' {fr0 with tmps:=s.ts,todo:=k}=bc E' {fr0 with tmps:=tsR,todo:=k}:=by
      intro E';have:gn E' s.ts fr0.nt=gn E' tsR fr0.nt:=by
        unfold gn tf;simp only[hts]
      simp only[bc,this]
    have hfr:=(Q.rel.all E (ak.refl _ _)).2.1;simp only at hfr;refine⟨s,bc E {fr0 with tmps:=tsR,todo:=k},csC,w,D,E,hG, .one (by rw[<-hfr];exact hst E),⟨fun E' he=>?_,fun i hi=>?_,?_,Q.rel.wf.2⟩,ak.refl _ _,fun _ h=>h,Kept.refl K w,fun i hi=> .inl hi,H.nx⟩
    . obtain⟨g1,g2,g3⟩:=Q.rel.all E' he;refine⟨g1.same (fun i ob h=>(Q.hr i ob).2 ⟨h,fun x hx _=>?_⟩) (by simp only;rw[Q.hn];exact Ah _),?_,g3⟩
      . obtain⟨o,ho⟩:=H.op _ (H.al x hx).2.1;exact hall _ (Ac.1 ho).1
      . simp only;rw[hconc E'];have h1:=hst E';simp only at g2;rw[g2,<-hfr,hst E]at h1;exact(oO (by simpa using h1)).1.symm
    . have:=Q.rel.eo i hi;simp only at this⊢;rw[Q.hn]at this;exact this
    . intro t ht;have:=Q.rel.wf.1 t ht;simp only at this⊢;rw[<-hts t];exact this
  . have hcm:(c,o)∈iL s.aE 0 ops.toList:=by rw[hc];exact Ao
    obtain⟨j',h1,h2,h3⟩:=Cp _ _ _ _ _ hcm;have hlt':c<ops.size:=by
      have:=(Ad.1 h2).1;simp at this;omega
    have:=H.cx c (hall c hlt');rw[(nL h3).1]at this
    cases this
 intro fuel;induction fuel with
 |zero=>
  intro t listed s G n D E tsR hR frC csC w hsz hu htodo H Q hB;exact hend listed s G n D E tsR hR frC csC w (GJ (by omega)) htodo H (by simpa [Region.linearise.go]using Q)
 | succ fuel ih=>
  intro t listed s G n D E tsR hR frC csC w hsz hu htodo H Q hB;simp only[Region.linearise.go]at Q;change eA ops fr0 cs k base s (dW listed) D E K tsR hR (match(Region.ready .any ops listed)[t % (Region.ready .any ops listed).length]? with
    |some i=>Region.linearise.go .any ops fuel (t / (Region.ready .any ops listed).length) (listed.setIfInBounds i true) [i]
    |none=>[].reverse) frC csC w at Q
  have hget:∀j,j<ops.size->(listed.getD j true=false↔¬dW listed j):=by
    intro j hj;unfold dW;have:j<listed.size:=by omega
    simp[Array.getD,this]
  cases hi:(Region.ready .any ops listed)[t % (Region.ready .any ops listed).length]? with
  | none=>
    rw[hi]at Q;have hnil:Region.ready .any ops listed=[]:=by
      cases hr:Region.ready .any ops listed with
      |nil=>rfl
      | cons x xs=>
        rw[hr]at hi;have hlt:t % (x::xs).length<(x::xs).length:=Nat.mod_lt _ (by simp);rw[Ec]at hi;omega
    have hall:∀j,j<ops.size->dW listed j:=by
      intro j;induction j using Nat.strongRecOn with
      | _ j ihj=>
        intro hj;by_cases hx:dW listed j
        . exact hx
        . exfalso;have hm':j∈Region.ready .any ops listed:=by
           rw[mem_ready];refine⟨(hget j hj).2 hx,ops[j],A5 hj,?_⟩;intro e he hb;have hp:e.on∈gL ops[j]:=Ar.2 ⟨e,AB.2 ⟨by simpa using he,hb⟩,rfl⟩;have hlt':=GX ops.toList 0 hlt j ops[j] (by simp[hj]) e.on hp;exact ihj e.on (by omega) (by omega)
          rw[hnil]at hm'
          cases hm'
    exact hend listed s G n D E tsR hR frC csC w hall htodo H Q
  | some i =>
    rw[hi]at Q;simp only at Q;rw[linearise_go_acc,DE,Dr]at Q;obtain⟨hl1,o,ho,hdeps⟩:=mem_ready.1 (BP hi);have hin:i<ops.size:=(Ac.1 ho).1;have hx:=(hget i hin).1 hl1;have hready:∀p∈gL o,dW listed p:=by
      intro p hp;obtain⟨e,he,rfl⟩:=Ar.1 hp;obtain⟨he1,he2⟩:=AB.1 he;exact hdeps e (by simpa using he1) he2
    have hsz':(listed.setIfInBounds i true).size=ops.size:=by simp[hsz]
    have hu':mC ops.size (listed.setIfInBounds i true)<=fuel:=by
      have:=H6 hin (by omega) hx;omega
    have hX':dW (listed.setIfInBounds i true)=fun j=>dW listed j\/j=i:=vb (by omega)
    have hfin:∀(s':DS) (n':Nat),vJ P tab ops fr0.nt G n' s'->cU tab ops fr0.nt fr0.tmps lo s' (fun j=>dW listed j\/j=i)->
        qG P ops fr0 cs k base s' (fun j=>dW listed j\/j=i) D E K lo (Region.linearise.go .any ops fuel (t / (Region.ready .any ops listed).length) (listed.setIfInBounds i true) []) frC csC w->og P fr0 cs k base K lo G D E frC csC w:=by
      intro s' n' htd H' hc;obtain⟨tsR',hR',frC',csC',w',D',E',c1,c2,c3,c4,c5,c6⟩:=hc;obtain⟨sF,frF,cSF,wF,DF,EF,f0,f1,f2,f3,f4,f5,f6,f7⟩:=ih _ (listed.setIfInBounds i true) s' G n' D' E' tsR' hR' frC' csC' w' hsz' hu' htd (by rw[hX'];exact H') (by rw[hX'];exact c2) (hB.kept c5);exact⟨sF,frF,cSF,wF,DF,EF,f0,c1.trans f1,f2,c3.trans f3 c4,fun x hx=>f4 x (c4 x hx),c5.trans f5,fun x hx=>(f6 x hx).elim (c6 x) .inr,f7⟩
    by_cases hC:(s.aE.get i).isSome=true
    . exact hfin s n htodo (H.rj hC ho hready) (FN pr.ok H Q hm ho hC hx hready)
    . have hr:gv s.aE i o=true:=by
        unfold gv;simp only[Ab,AE];exact⟨by simpa using hC,fun p hp=>H.cx p (hready p hp)⟩
      have hcm:(i,o)∈iL s.aE 0 ops.toList:=by
        have:=GF ops.toList 0 s.aE i o (by simpa using ho) (by simpa using hr);simpa using this
      rcases htodo with⟨hc,_⟩|⟨c,o',hc,hd⟩
      . rw[hc]at hcm;cases hcm
      . rw [hc]at hcm;rcases Aj.1 hcm with e|hcm
        . cases e;obtain⟨s2,hloop,H2,tsR',hR',frC',csC',w',D',E',c1,c2,c3,c4,c5,c6⟩:=Mr pr H Q hB hm ho hr hd hready
          cases n with
          |zero=>exact hloop.elim
          | succ n=>
           obtain⟨s3,hpass,htd3⟩:=hloop;have hpl:∀j o,ops.toList[j]? =some o->ops[0+j]? =some o:=by
            intro j o hj;simpa using hj
           obtain⟨hR3,Q3⟩:=ur ops.toList 0 s2 s3 hR' hpl hpass H2 c2;exact hfin s3 n htd3 (tQ ops.toList 0 s2 s3 hpl hpass H2) ⟨tsR',hR3,frC',csC',w',D',E',c1,Q3,c3,c4,c5,c6⟩
        . cases hcm
include pr in
theorem Tx {Ψ:AV->AH->Prop} {h:AH} {id:Nat} {n:Nat} (hm:fr0.mode= .run) (ht:fr0.todo= .code (.region id ops true)::k) (hlt:oc 0 ops.toList=true)
  (hd:fy P tab ops fr0.nt (fun sF=>eC P {fr:={fr0 with tmps:=sF.ts,todo:=k},cs,h:=sF.h} Ψ) n {ts:=fr0.tmps,h,aE:= .e,reads:=[],ax:=[]}):eC P {fr:=fr0,cs,h} Ψ:=by
 intro D E K base frC csC w hR hB;obtain⟨n,rfl⟩:∃n',n=n'+1:=by
  cases n with
  |zero=>exact hd.elim
  |succ n=>exact⟨n,rfl⟩
 obtain⟨s1,hpass,htodo⟩:=hd;let s0:DS:={ts:=fr0.tmps,h,aE:= .e,reads:=[],ax:=[]}
 let ord:=w.tape w.drawn (.order frC.fn id)
 let l:=Go.Region.linearise.go .any ops ops.size ord (Array.replicate ops.size false) []
 have hstep:∀E',ak D E E'->Go.step P (lone frC csC w)= .next (lone (bc E' {fr0 with tmps:=fr0.tmps,todo:= .inRegion ops l::k}) csC w.drew):=by
  intro E' he;have e1:=(hR.all E' he).2.1;simp only at e1;refine step_lone_go ?_;have hmC:frC.mode= .run:=by rw[<-e1];simp[bc,hm,fe]
  have htC:frC.todo= .code (.region id ops true)::k.map (dL E'):=by rw[<-e1];simp[bc,ht,dL]
  have hrun:(choose (.order frC.fn id)).run P w= .ok ord w.drew:=by
    simp only[choose,Sem.run,Question.forced,Ak,Aw,Question.cut];rfl
  have hsch:Go.Region.schedule (P.follows .mixedOrders) ops ord=l:=by
    simp only[Go.Region.schedule,pr.mix,D5,if_true];rfl
  have hgoal:bc E' {fr0 with tmps:=fr0.tmps,todo:= .inRegion ops l::k}={frC with todo:= .inRegion ops l::k.map (dL E')}:=by
    rw[<-e1];rfl
  rw[hgoal];unfold stepG stepG.exec;simp only[hmC,htC,BH,Ak,Aw,hrun,hsch,GStep.bare_go]
 have hdom:=(hR.all E (ak.refl _ _)).1.eo;have H0:cU tab ops fr0.nt fr0.tmps h.next s0 (dW (Array.replicate ops.size false)):=by
  have hnone:∀j,s0.aE.get j=none:=fun _=>rfl
  refine⟨fun j hj=>absurd hj (qj _ _),fun j a hj=>absurd hj (qj _ _),?_,?_,?_,fun _ _=>rfl,?_,fun x hx=>(by cases hx),Ah _,hR.wf.1,fun x hx=>(by cases hx),hdom⟩
  . intro j hj;rw[hnone]at hj;cases hj
  . intro j a o hj;rw[hnone]at hj;cases hj
  . intro i j oi oj d hi;rw[hnone]at hi;cases hi
  . intro j hj;rw[hnone]at hj;cases hj
 have Q0:eA ops fr0 cs k base s0 (dW (Array.replicate ops.size false)) D E K fr0.tmps h l (bc E {fr0 with tmps:=fr0.tmps,todo:= .inRegion ops l::k}) csC w.drew:=by
  refine⟨⟨fun E' he=>?_,hR.eo,hR.wf⟩,fun i ob=>⟨fun h=>⟨h,fun x hx=>(by cases hx)⟩,fun h=>h.1⟩,rfl,fun j o t hx=>absurd hx (qj _ _),fun _ _=>rfl,fun x hx=>by cases hx⟩;obtain⟨g1,g2,g3⟩:=hR.all E' he;refine⟨g1.drew,?_,g3⟩;have h1:=hstep E' he;rw[hstep E (ak.refl _ _)]at h1;exact(oO (by simpa using h1)).1.symm
 have htodo:vJ P tab ops fr0.nt (fun sF=>eC P {fr:={fr0 with tmps:=sF.ts,todo:=k},cs,h:=sF.h} Ψ) n s1:=htodo;have hpl:∀j o,ops.toList[j]? =some o->ops[0+j]? =some o:=by
  intro j o hj;simpa using hj
 obtain⟨hR1,Q1⟩:=ur ops.toList 0 s0 s1 h hpl hpass H0 Q0;have H1:=tQ ops.toList 0 s0 s1 hpl hpass H0;obtain⟨sF,frC',csC',w',D',E',f0,f1,f2,f3,f4,f5,f6,f7⟩:=wP pr hm hlt ops.size ord (Array.replicate ops.size false) s1 _ n D E fr0.tmps hR1 _ csC w.drew (by simp)
  (by unfold mC;have:=A7 (fun i=> !(Array.replicate ops.size false).getD i false) (List.range ops.size);simpa using this) htodo H1 Q1 hB
 obtain⟨v,h',g1,g2⟩:=f0 D' E' K base frC' csC' w' f2 (eD.kept (w:=w.drew) hB f5);have hb:bot {fr0 with tmps:=sF.ts,todo:=k} cs=bot fr0 cs:=gS (fr:=fr0) (fr':={fr0 with tmps:=sF.ts,todo:=k}) rfl cs;simp only at g2;rw[hb]at g2;exact⟨v,h',g1,Am.Ends.trans (Steps.head (hstep E (ak.refl _ _)) f1) f3 f4 ((Kept.drew K w).trans f5) f7 f6 g2⟩
end
end
section
universe u v
variable [Inhabited aF]
structure BI where
 β:Nat
 len:Nat
 sz:Nat
 cap:Option fD
structure Cx where
 ρ:Nat->Option BI
 Fz:Nat->Option AO
def nY (cap:fD) (off n sz:Nat) (ext:Bool):Prop:=
 match cap with
 | .lit m=>n<=m
 | .tail k=>ext=true/\off=k*sz
def eG (Fz:Nat->Option AO) (b:Nat) (cs:List AV) (e:TypeId) (sz:Nat) (ext:Bool) (bk:BK):Prop:=
 ∃sz0 ext0,Fz b=some (.cells cs e sz0 ext0 bk)/\(ext=true->sz0=sz/\ext0=true)
theorem eG.of {Fz:Nat->Option AO} {b:Nat} {cs:List AV} {e:TypeId} {sz:Nat} {ext:Bool} {bk:BK} (h:Fz b=some (.cells cs e sz ext bk)):eG Fz b cs e sz ext bk:=⟨sz,ext,h,fun h=>⟨rfl,h⟩⟩
theorem eG.mono {Fz Fz':Nat->Option AO} (hf:∀i o,Fz i=some o->Fz' i=some o) {b:Nat} {cs:List AV} {e:TypeId} {sz:Nat} {ext:Bool} {bk:BK} (h:eG Fz b cs e sz ext bk):eG Fz' b cs e sz ext bk:=by
 obtain⟨s,x,h1,h2⟩:=h;exact⟨s,x,hf _ _ h1,h2⟩
inductive aI (Fz:Nat->Option AO):SV->AV->Prop
 |bool (b:Bool):aI Fz (.bool b) (.bool b)
 |int (k:IntKind) (n:Int):aI Fz (.int k n) (.int k n)
 |str (s:List UInt8):aI Fz (.str s) (.str s)
 |aW:aI Fz .aW .aW
 |wp (a:Addr):aI Fz (.wp a) (.raw (.pointer (some a)))
 |nils:aI Fz .nils .nils
 |bh:aI Fz .bh .bh
 |bB:aI Fz .bB .bB
 |any (v:AV):aI Fz .any v
 |bL {X:Type} {L:List X} {enc:X->List SV} {v:AV} (h0:L.length=0) (hv:v= .nils\/(∃b off l n k,v= .emp b off l n k)\/ ∃a c,v= .raw (.slice a 0 c)):aI Fz (.aJ X L enc) v
 |aJ {X:Type} {L:List X} {enc:X->List SV} (b off:Nat) (cap:fD) (cs:List AV) (e:TypeId) (sz:Nat) (ext:Bool) (bk:BK) (u:Nat->Nat->AV)
  (hb:eG Fz b cs e sz ext bk) (hs:0<sz) (hl:off+L.length*sz<=cs.length) (hn:∀(i:Nat) x,L[i]? =some x->(enc x).length=sz) (hc:nY cap off L.length sz ext)
  (h1:∀(i:Nat) x (j:Nat) v,L[i]? =some x->(enc x)[j]? =some v->cs[off+i*sz+j]? =some (u i j)) (h2:∀(i:Nat) x (j:Nat) v,L[i]? =some x->(enc x)[j]? =some v->aI Fz v (u i j)):aI Fz (.aJ X L enc) (.sl b off L.length cap)
 |cB {cs:List SV} {off:Nat} (b base:Nat) (ca:List AV) (e:TypeId) (sz:Nat) (ext:Bool) (bk:BK) (u:Nat->AV) (hb:Fz b=some (.cells ca e sz ext bk)) (hl:base+cs.length<=ca.length)
  (h1:∀(j:Nat) v,cs[j]? =some v->ca[base+j]? =some (u j)) (h2:∀(j:Nat) v,cs[j]? =some v->aI Fz v (u j)):aI Fz (.cB cs off) (.ptr b (base+off))
 |fn {f:FuncId} {xs ys:List SV} {us vs:List AV} (h1:xs.length=us.length) (h2:ys.length=vs.length) (h3:∀(i:Nat) x u,xs[i]? =some x->us[i]? =some u->aI Fz x u) (h4:∀(i:Nat) x u,ys[i]? =some x->vs[i]? =some u->aI Fz x u):aI Fz (.fn f xs ys) (.fn (.func f) us vs)
 |agg {cs:List SV} {vs:List AV} (h1:cs.length=vs.length) (h2:∀(i:Nat) c v,cs[i]? =some c->vs[i]? =some v->aI Fz c v):aI Fz (.agg cs) (.agg vs)
 |bj {cs:List SV} {vs:List AV} (h1:cs.length=vs.length) (h2:∀(i:Nat) c v,cs[i]? =some c->vs[i]? =some v->aI Fz c v):aI Fz (.bj cs) (.bj vs)
inductive aB (C:Cx):SV->AV->Prop
 |pure {s:SV} {v:AV} (h:aI C.Fz s v):aB C s v
 |ptr {b off:Nat} {I:BI} (h:C.ρ b=some I):aB C (.ptr b off) (.ptr I.β off)
 |bR {b i off:Nat} {I:BI} (h:C.ρ b=some I) (hc:I.cap.isSome):aB C (.bR b i off) (.ptr I.β (i*I.sz+off))
 |ew {b:Nat} {I:BI} (h:C.ρ b=some I) (hc:I.cap=none):aB C (.own b) .nils
 |own {b:Nat} {I:BI} {c:fD} (h:C.ρ b=some I) (hc:I.cap=some c):aB C (.own b) (.sl I.β 0 I.len c)
 |sl {b off n c:Nat} {I:BI} (h:C.ρ b=some I):aB C (.sl b off n c) (.sl I.β off n (.lit c))
 |fn {f:FuncId} {xs ys:List SV} {us vs:List AV} (h1:xs.length=us.length) (h2:ys.length=vs.length) (h3:∀(i:Nat) x u,xs[i]? =some x->us[i]? =some u->aB C x u) (h4:∀(i:Nat) x u,ys[i]? =some x->vs[i]? =some u->aB C x u):aB C (.fn f xs ys) (.fn (.func f) us vs)
 |agg {cs:List SV} {vs:List AV} (h1:cs.length=vs.length) (h2:∀(i:Nat) c v,cs[i]? =some c->vs[i]? =some v->aB C c v):aB C (.agg cs) (.agg vs)
 |bj {cs:List SV} {vs:List AV} (h1:cs.length=vs.length) (h2:∀(i:Nat) c v,cs[i]? =some c->vs[i]? =some v->aB C c v):aB C (.bj cs) (.bj vs)
theorem fF {b c:Nat} (h:¬b=c):Nat.beq b c=false:=AN.2 fun e=>h (Af e)
def aN (C:Cx) (l:List SV) (m:List AV):Prop:=l.length=m.length/\ ∀(i:Nat) s v,l[i]? =some s->m[i]? =some v->aB C s v
theorem aN.nil {C:Cx}:aN C [] []:=⟨rfl,fun i s v h=>by simp at h⟩
theorem aN.cons {C:Cx} {s:SV} {v:AV} {l:List SV} {m:List AV} (h:aB C s v) (t:aN C l m):aN C (s::l) (v::m):=by
 refine⟨by simp[t.1],fun i a b ha hb=>?_⟩
 cases i with
 |zero=>simp at ha hb;subst ha;subst hb;exact h
 |succ i=>exact t.2 i a b (by simpa using ha) (by simpa using hb)
theorem aN.head {C:Cx} {s:SV} {v:AV} {l:List SV} {m:List AV} (h:aN C (s::l) (v::m)):aB C s v/\aN C l m:=
 ⟨h.2 0 s v rfl rfl,by simpa using h.1,fun i a b ha hb=>h.2 (i+1) a b (by simpa using ha) (by simpa using hb)⟩
theorem aN.append {C:Cx} {l l':List SV} {m m':List AV} (h:aN C l m) (h':aN C l' m'):aN C (l++l') (m++m'):=by
 refine⟨by simp[h.1,h'.1],fun i a b ha hb=>?_⟩;by_cases hi:i<l.length
 . rw[AX hi]at ha;rw[AX (by rw[<-h.1];exact hi)]at hb;exact h.2 i a b ha hb
 . rw[A3 (by omega)]at ha;rw[A3 (by rw[<-h.1];omega),<-h.1]at hb;exact h'.2 _ a b ha hb
theorem aN.take {C:Cx} {l:List SV} {m:List AV} (h:aN C l m) (n:Nat):aN C (l.take n) (m.take n):=by
 refine⟨by simp[h.1],fun i a b ha hb=>?_⟩;rw[Be]at ha hb;split at ha
 . rename_i hi;rw[if_pos hi]at hb;exact h.2 i a b ha hb
 . cases ha
theorem aN.drop {C:Cx} {l:List SV} {m:List AV} (h:aN C l m) (n:Nat):aN C (l.drop n) (m.drop n):=by
 refine⟨by simp[h.1],fun i a b ha hb=>?_⟩;rw[BN]at ha hb;exact h.2 _ a b ha hb
theorem aI.mono {Fz Fz':Nat->Option AO} (hf:∀i o,Fz i=some o->Fz' i=some o) {s:SV} {v:AV} (h:aI Fz s v):aI Fz' s v:=by
 induction h with
 |bool b=>exact .bool b
 |int k n=>exact .int k n
 |str s=>exact .str s
 |aW=>exact .aW
 |wp a=>exact .wp a
 |nils=>exact .nils
 |bh=>exact .bh
 |bB=>exact .bB
 |any v=>exact .any v
 |bL h0 hv=>exact .bL h0 hv
 |aJ b off cap cs e sz ext bk u hb hs hl hn hc h1 _ ih=>exact .aJ b off cap cs e sz ext bk u (hb.mono hf) hs hl hn hc h1 ih
 |cB b base ca e sz ext bk u hb hl h1 _ ih=>exact .cB b base ca e sz ext bk u (hf _ _ hb) hl h1 ih
 |fn h1 h2 _ _ ih3 ih4=>exact .fn h1 h2 ih3 ih4
 |agg h1 _ ih=>exact .agg h1 ih
 |bj h1 _ ih=>exact .bj h1 ih
theorem ni (e:Ev) (l:List SV):fo e l=l.map (SV.on e):=by
 induction l with
 |nil=>simp[fo]
 |cons a l ih=>simp[fo,ih]
theorem aI.on {Fz:Nat->Option AO} {s:SV} {v:AV} (h:aI Fz s v) (e:Ev):aI Fz (s.on e) v:=by
 induction h with
 |bool b=>simp only[SV.on];exact .bool b
 |int k n=>simp only[SV.on];exact .int k n
 |str s=>simp only[SV.on];exact .str s
 |aW=>simp only[SV.on];exact .aW
 |wp a=>simp only[SV.on];exact .wp a
 |nils=>simp only[SV.on];exact .nils
 |bh=>simp only[SV.on];exact .bh
 |bB=>simp only[SV.on];exact .bB
 |any v=>simp only[SV.on];exact .any v
 |bL h0 hv=>simp only[SV.on];exact .bL h0 hv
 |aJ b off cap cs e sz ext bk u hb hs hl hn hc h1 h2 _=>simp only[SV.on];exact .aJ b off cap cs e sz ext bk u hb hs hl hn hc h1 h2
 |cB b base ca e sz ext bk u hb hl h1 h2 _=>simp only[SV.on];exact .cB b base ca e sz ext bk u hb hl h1 h2
 |fn h1 h2 _ _ ih3 ih4=>
  simp only[SV.on,ni];refine .fn (by simpa using h1) (by simpa using h2) (fun i x u hx hu=>?_) (fun i x u hx hu=>?_)
  . rw[Au]at hx;obtain⟨y,hy,rfl⟩:=Ap.1 hx;exact ih3 i y u hy hu
  . rw[Au]at hx;obtain⟨y,hy,rfl⟩:=Ap.1 hx;exact ih4 i y u hy hu
 |agg h1 _ ih=>
  simp only[SV.on,ni];refine .agg (by simpa using h1) (fun i x u hx hu=>?_);rw[Au]at hx;obtain⟨y,hy,rfl⟩:=Ap.1 hx;exact ih i y u hy hu
 |bj h1 _ ih=>
  simp only[SV.on,ni];refine .bj (by simpa using h1) (fun i x u hx hu=>?_);rw[Au]at hx;obtain⟨y,hy,rfl⟩:=Ap.1 hx;exact ih i y u hy hu
def dd (C:Cx) (e:Ev) (C':Cx):Prop:=
 (∀i o,C.Fz i=some o->C'.Fz i=some o)/\
 match e with
 | .mod _=>∀p I,C.ρ p=some I->C'.ρ p=some I
 | .kill b=>∀p I,p≠b->C.ρ p=some I->C'.ρ p=some I
 | .eW b X L enc=>(∀p I,p≠b->C.ρ p=some I->C'.ρ p=some I)/\ ∀I,C.ρ b=some I->
  (∀v,aB C (.own b) v->aI C'.Fz (.aJ X L enc) v)/\(∀(i:Nat) off v x,L[i]? =some x->aB C (.bR b i off) v->aI C'.Fz (.cB (enc x) off) v)
theorem aB.turns {C C':Cx} {e:Ev} (ht:dd C e C') {s:SV} {v:AV} (h:aB C s v):aB C' (s.on e) v:=by
 induction h with
 |pure h=>exact .pure ((h.mono ht.1).on e)
 | @ptr b off I h=>
  simp only[SV.on]
  cases e with
  |mod c=>exact .ptr (ht.2 _ _ h)
  | kill c=>
    by_cases hb:b=c
    . simp[hb];exact .pure (.any _)
    . simp only[fF hb,AJ];exact .ptr (ht.2 _ _ hb h)
  | eW c X L enc=>
    by_cases hb:b=c
    . simp[hb];exact .pure (.any _)
    . simp only[fF hb,AJ];exact .ptr (ht.2.1 _ _ hb h)
 | @bR b i off I h hc=>
  simp only[SV.on]
  cases e with
  |mod c=>exact .bR (ht.2 _ _ h) hc
  | kill c=>
    by_cases hb:b=c
    . simp[hb];exact .pure (.any _)
    . simp only[fF hb,AJ];exact .bR (ht.2 _ _ hb h) hc
  | eW c X L enc=>
    by_cases hb:b=c
    . subst hb;simp only[BS,A8];split
      . rename_i x hx;exact .pure ((ht.2.2 I h).2 i off _ x hx (.bR h hc))
      . exact .pure (.any _)
    . simp only[fF hb,AJ];exact .bR (ht.2.1 _ _ hb h) hc
 | @ew b I h hc=>
  simp only[SV.on]
  cases e with
  |mod c=>exact .ew (ht.2 _ _ h) hc
  | kill c=>
    by_cases hb:b=c
    . simp[hb];exact .pure (.any _)
    . simp only[fF hb,AJ];exact .ew (ht.2 _ _ hb h) hc
  | eW c X L enc=>
    by_cases hb:b=c
    . subst hb;simp only[BS,A8];exact .pure ((ht.2.2 I h).1 _ (.ew h hc))
    . simp only[fF hb,AJ];exact .ew (ht.2.1 _ _ hb h) hc
 | @own b I c' h hc=>
  simp only[SV.on]
  cases e with
  |mod c=>exact .own (ht.2 _ _ h) hc
  | kill c=>
    by_cases hb:b=c
    . simp[hb];exact .pure (.any _)
    . simp only[fF hb,AJ];exact .own (ht.2 _ _ hb h) hc
  | eW c X L enc=>
    by_cases hb:b=c
    . subst hb;simp only[BS,A8];exact .pure ((ht.2.2 I h).1 _ (.own h hc))
    . simp only[fF hb,AJ];exact .own (ht.2.1 _ _ hb h) hc
 | @sl b off n c' I h=>
  simp only[SV.on]
  cases e with
  |mod c=>exact .sl (ht.2 _ _ h)
  | kill c=>
    by_cases hb:b=c
    . simp[hb];exact .pure (.any _)
    . simp only[fF hb,AJ];exact .sl (ht.2 _ _ hb h)
  | eW c X L enc=>
    by_cases hb:b=c
    . simp[hb];exact .pure (.any _)
    . simp only[fF hb,AJ];exact .sl (ht.2.1 _ _ hb h)
 |fn h1 h2 _ _ ih3 ih4=>
  simp only[SV.on,ni];refine .fn (by simpa using h1) (by simpa using h2) (fun i x u hx hu=>?_) (fun i x u hx hu=>?_)
  . rw[Au]at hx;obtain⟨y,hy,rfl⟩:=Ap.1 hx;exact ih3 i y u hy hu
  . rw[Au]at hx;obtain⟨y,hy,rfl⟩:=Ap.1 hx;exact ih4 i y u hy hu
 |agg h1 _ ih=>
  simp only[SV.on,ni];refine .agg (by simpa using h1) (fun i x u hx hu=>?_);rw[Au]at hx;obtain⟨y,hy,rfl⟩:=Ap.1 hx;exact ih i y u hy hu
 |bj h1 _ ih=>
  simp only[SV.on,ni];refine .bj (by simpa using h1) (fun i x u hx hu=>?_);rw[Au]at hx;obtain⟨y,hy,rfl⟩:=Ap.1 hx;exact ih i y u hy hu
def gW:List Ev->SV->SV
 |[],s=>s
 |e::l,s=>gW l (s.on e)
theorem tH (l m:List Ev) (s:SV):gW (l++m) s=gW m (gW l s):=by
 induction l generalizing s with
 |nil=>rfl
 |cons e l ih=>exact ih _
structure Tr (C:Cx) (log:List Ev) (C':Cx):Prop where
 val:∀s v,aB C s v->aB C' (gW log s) v
 fz:∀i o,C.Fz i=some o->C'.Fz i=some o
theorem Tr.refl (C:Cx):Tr C [] C:=⟨fun _ _ h=>h,fun _ _ h=>h⟩
theorem Tr.trans {C C' C'':Cx} {l m:List Ev} (h:Tr C l C') (k:Tr C' m C''):Tr C (l++m) C'':=
 ⟨fun s v hs=>by rw[tH];exact k.val _ _ (h.val _ _ hs),fun i o hi=>k.fz i o (h.fz i o hi)⟩
theorem dd.tr {C C':Cx} {e:Ev} (h:dd C e C'):Tr C [e] C':=⟨fun _ _ hs=>hs.turns h,h.1⟩
def Cx.le (C C':Cx):Prop:=(∀p I,C.ρ p=some I->C'.ρ p=some I)/\ ∀i o,C.Fz i=some o->C'.Fz i=some o
theorem aB.le {C C':Cx} (hc:C.le C') {s:SV} {v:AV} (h:aB C s v):aB C' s v:=by
 induction h with
 |pure h=>exact .pure (h.mono hc.2)
 |ptr h=>exact .ptr (hc.1 _ _ h)
 |bR h hs=>exact .bR (hc.1 _ _ h) hs
 |ew h hs=>exact .ew (hc.1 _ _ h) hs
 |own h hs=>exact .own (hc.1 _ _ h) hs
 |sl h=>exact .sl (hc.1 _ _ h)
 |fn h1 h2 _ _ ih3 ih4=>exact .fn h1 h2 ih3 ih4
 |agg h1 _ ih=>exact .agg h1 ih
 |bj h1 _ ih=>exact .bj h1 ih
theorem Cx.le.tr {C C':Cx} (h:C.le C'):Tr C [] C':=⟨fun _ _ hs=>hs.le h,h.2⟩
theorem Cx.le_refl (C:Cx):C.le C:=⟨fun _ _ h=>h,fun _ _ h=>h⟩
def dV (tab:aZ) (C:Cx) (I:BI) (o:SO) (a:AH):Prop:=
 match o with
 | .cells cs e=>I.cap.isSome/\ ∃ca sz,a.get I.β=some (.cells ca e sz false .rw)/\aN C cs ca/\tab.siz.get e=some sz
 | .arr X L enc e=>tab.siz.get e=some I.sz/\0<I.sz/\I.len=L.length/\(∀(i:Nat) x,L[i]? =some x->(enc x).length=I.sz)/\
  match I.cap with
  |none=>L.length=0
  |some c=>∃ca ext bk,a.get I.β=some (.cells ca e I.sz ext bk)/\(bk≠ .ro/\bk≠ .cold)/\ca.length=L.length*I.sz/\((c= .tail 0/\ext=true)\/(c= .lit 0/\L.length=0))/\
   ∀(i:Nat) x (j:Nat) v,L[i]? =some x->(enc x)[j]? =some v->∃u,ca[i*I.sz+j]? =some u/\aI C.Fz v u
structure HS (tab:aZ) (C:Cx) (h:SH) (a:AH):Prop where
 obj:∀p o,h.get p=some o->∃I,C.ρ p=some I/\dV tab C I o a
 inj:∀p q o o' I J,h.get p=some o->h.get q=some o'->C.ρ p=some I->C.ρ q=some J->I.cap.isSome->J.cap.isSome->I.β=J.β->p=q
 fz:∀i o,C.Fz i=some o->a.get i=some o
 dj:∀p o I,h.get p=some o->C.ρ p=some I->I.cap.isSome->C.Fz I.β=none
 lt:∀p I,C.ρ p=some I->p<h.next
 wf:∀i o,a.get i=some o->i<a.next
def FS (C:Cx) (ts:Fr) (ta:T AV):Prop:=∀t s,look ts t=some s->aB C s ((ta.get t).getD (.bj []))
end
section
universe u v
variable [Inhabited aF]
theorem jv {α:Type u} (k:Nat) (v:α) (l:List (Nat×α)) (n:Nat):look ((k,v)::l) n=if n=k then some v else look l n:=by
 simp only[look];by_cases h:n=k
 . subst h;simp
 . rw[if_neg h,fF (fun e=>h e.symm)];rfl
theorem SH.aS (h:SH) (b p:Nat) (o:Option SO):(h.set b o).get p=if p=b then o else h.get p:=by
 obtain⟨n,os⟩:=h;simp only[SH.set,SH.get,jv];by_cases e:p=b
 . simp[e];cases o<;>rfl
 . simp[e]
theorem SH.aL (h:SH) (p:Nat) (o:SO):(h.new o).get p=if p=h.next then some o else h.get p:=by
 obtain⟨n,os⟩:=h;simp only[SH.new,SH.get,jv];by_cases e:p=n<;>simp[e]
theorem SH.eu (h:SH) (b:Nat) (o:Option SO):(h.set b o).next=h.next:=by obtain⟨n,os⟩:=h;rfl
theorem SH.cR (h:SH) (o:SO):(h.new o).next=h.next+1:=by obtain⟨n,os⟩:=h;rfl
theorem OE (e:Ev) (os:List (Nat×Option SO)) (p:Nat):look (ir e os) p=(look os p).map fun o=>o.map (SO.on e):=by
 induction os with
 |nil=>rfl
 |cons x l ih=>
  obtain⟨b,o⟩:=x
  cases o with
  |none=>simp only[ir,jv,ih];split<;>simp
  |some o=>simp only[ir,jv,ih];split<;>simp
theorem qy (e:Ev) (n:Nat) (os:List (Nat×Option SO)) (p:Nat):(SH.mk n (ir e os)).get p=((SH.mk n os).get p).map (SO.on e):=by
 simp only[SH.get,OE]
 cases h:look os p with
 |none=>rfl
 |some o=>cases o<;>rfl
theorem GL (e:Ev) (ts:Fr) (t:Nat):look (oD e ts) t=(look ts t).map (SV.on e):=by
 induction ts with
 |nil=>rfl
 |cons x l ih=>
  obtain⟨b,v⟩:=x;simp only[oD,jv,ih];split<;>simp
theorem FS.turns {C C':Cx} {e:Ev} (ht:dd C e C') {ts:Fr} {ta:T AV} (h:FS C ts ta):FS C' (oD e ts) ta:=by
 intro t s hs;rw[GL]at hs;obtain⟨s0,h0,rfl⟩:=Ap.1 hs;exact(h t s0 h0).turns ht
theorem FS.le {C C':Cx} (hc:C.le C') {ts:Fr} {ta:T AV} (h:FS C ts ta):FS C' ts ta:=fun t s hs=>(h t s hs).le hc
theorem FS.log {C C':Cx} {log:List Ev} (ht:Tr C log C') {ts:Fr} {ta:T AV} (h:FS C ts ta):FS C' (qO log ts) ta:=by
 have key:∀(log:List Ev) (ts:Fr) (t:Nat),look (qO log ts) t=(look ts t).map (gW log):=by
  intro log;induction log with
  |nil=>intro ts t;simp[qO];cases look ts t<;>rfl
  |cons e l ih=>
   intro ts t;simp only[qO,ih,GL,Option.map_map];rfl
 intro t s hs;rw[key]at hs;obtain⟨s0,h0,rfl⟩:=Ap.1 hs;exact ht.val _ _ (h t s0 h0)
theorem FS.put {C:Cx} {ts:Fr} {ta:T AV} (h:FS C ts ta) {t:Nat} {s:SV} {v:AV} (hv:aB C s v):FS C ((t,s)::ts) (ta.set t (some v)):=by
 intro t' s' hs;rw[jv]at hs;rw[T.aS];split at hs
 . rename_i e
   cases hs;simpa [e]using hv
 . rename_i e;simpa [e]using h t' s' hs
theorem aN.le {C C':Cx} (hc:C.le C') {l:List SV} {m:List AV} (h:aN C l m):aN C' l m:=⟨h.1,fun i s v hs hv=>(h.2 i s v hs hv).le hc⟩
theorem aN.turns {C C':Cx} {e:Ev} (ht:dd C e C') {l:List SV} {m:List AV} (h:aN C l m):aN C' (fo e l) m:=by
 rw[ni];refine⟨by simp[h.1],fun i s v hs hv=>?_⟩;rw[Au]at hs;obtain⟨s0,h0,rfl⟩:=Ap.1 hs;exact(h.2 i s0 v h0 hv).turns ht
section
variable {tab:aZ} {C C':Cx} {I:BI} {o:SO} {a a':AH} {h:SH}
theorem dV.congr (hg:a'.get I.β=a.get I.β) (ho:dV tab C I o a):dV tab C I o a':=by
 cases o with
 |cells cs e=>
  simp only[dV,hg]at ho⊢;exact ho
 |arr X L enc e=>
  simp only[dV,hg]at ho⊢;exact ho
theorem dV.le (hc:C.le C') (ho:dV tab C I o a):dV tab C' I o a:=by
 cases o with
 |cells cs e=>
  obtain⟨h1,ca,sz,h2,h3,h4⟩:=ho;exact⟨h1,ca,sz,h2,h3.le hc,h4⟩
 | arr X L enc e=>
  obtain⟨h1,h2,h3,h4,h5⟩:=ho;refine⟨h1,h2,h3,h4,?_⟩
  cases hcap:I.cap with
  |none=>rw[hcap]at h5;exact h5
  |some c=>
   rw[hcap]at h5;obtain⟨ca,ext,bk,g1,g2,g3,g4,g5⟩:=h5;refine⟨ca,ext,bk,g1,g2,g3,g4,fun i x j v hx hv=>?_⟩;obtain⟨u,k1,k2⟩:=g5 i x j v hx hv;exact⟨u,k1,k2.mono hc.2⟩
theorem dV.turns {e:Ev} (ht:dd C e C') (ho:dV tab C I o a):dV tab C' I (o.on e) a:=by
 cases o with
 |cells cs t=>
  obtain⟨h1,ca,sz,h2,h3,h4⟩:=ho;exact⟨h1,ca,sz,h2,h3.turns ht,h4⟩
 | arr X L enc t=>
  obtain⟨h1,h2,h3,h4,h5⟩:=ho;refine⟨h1,h2,h3,h4,?_⟩
  cases hcap:I.cap with
  |none=>rw[hcap]at h5;exact h5
  |some c=>
   rw[hcap]at h5;obtain⟨ca,ext,bk,g1,g2,g3,g4,g5⟩:=h5;refine⟨ca,ext,bk,g1,g2,g3,g4,fun i x j v hx hv=>?_⟩;obtain⟨u,k1,k2⟩:=g5 i x j v hx hv;exact⟨u,k1,k2.mono ht.1⟩
theorem dV.live (ho:dV tab C I o a) (hc:I.cap.isSome):∃b,a.get I.β=some b:=by
 cases o with
 |cells cs e=>
  obtain⟨_,ca,sz,h2,_⟩:=ho;exact⟨_,h2⟩
 |arr X L enc e=>
  obtain⟨_,_,_,_,h5⟩:=ho;obtain⟨c,hc⟩:=By.1 hc;rw[hc]at h5;obtain⟨ca,ext,bk,g1,_⟩:=h5;exact⟨_,g1⟩
open Classical in
noncomputable def Cx.put (C:Cx) (p:Nat) (I:BI):Cx:={C with ρ:=fun q=>if q=p then some I else C.ρ q}
theorem il (C:Cx) (p:Nat) (I:BI):(C.put p I).ρ p=some I:=by simp[Cx.put]
theorem iX (C:Cx) {p q:Nat} (I:BI) (h:q≠p):(C.put p I).ρ q=C.ρ q:=by simp[Cx.put,h]
structure Grow (a a':AH):Prop where
 next:a.next<=a'.next
 old:∀i o,a'.get i=some o->(∃o0,a.get i=some o0)\/a.next<=i
theorem Grow.refl (a:AH):Grow a a:=⟨Ah _,fun i o h=> .inl ⟨o,h⟩⟩
theorem Grow.trans {a b c:AH} (h:Grow a b) (k:Grow b c):Grow a c:=
 ⟨Aq h.next k.next,fun i o hi=>(k.old i o hi).elim (fun⟨o',ho⟩=>h.old i o' ho) (fun hl=> .inr (Aq h.next hl))⟩
theorem Grow.new (a:AH) (o:AO):Grow a (a.new o):=⟨by simp,fun i o' hi=>by
 rw[AH.aL]at hi;split at hi
 . rename_i e;exact .inr (by omega)
 . exact .inl ⟨o',hi⟩⟩
theorem HS.new (H:HS tab C h a) {ao:AO} {o:SO} (I:BI) (hI:I.β=a.next) (ho:C.le (C.put h.next I)->dV tab (C.put h.next I) I o (a.new ao)):
   C.le (C.put h.next I)/\HS tab (C.put h.next I) (h.new o) (a.new ao):=by
 have hle:C.le (C.put h.next I):=by
   refine⟨fun p J hp=>?_,fun i o h=>h⟩;have:=H.lt p J hp;rw[iX _ _ (by omega)];exact hp
 refine⟨hle,?_⟩;have hold:∀p o',(h.new o).get p=some o'->p≠h.next->h.get p=some o':=by
   intro p o' hp hne;rw[SH.aL,if_neg hne]at hp;exact hp
 have hne:∀p o',h.get p=some o'->p≠h.next:=by
   intro p o' hp e;obtain⟨J,hJ,_⟩:=H.obj p o' hp;have:=H.lt p J hJ;omega
 have hblk:∀p o' J,h.get p=some o'->C.ρ p=some J->J.cap.isSome->J.β<a.next:=by
   intro p o' J hp hJ hc;obtain⟨J',hJ',hs⟩:=H.obj p o' hp;rw[hJ]at hJ';cases hJ';obtain⟨b,hb⟩:=hs.live hc;exact H.wf _ _ hb
 refine⟨?_,?_,?_,?_,?_,?_⟩
 . intro p o' hp;by_cases e:p=h.next
   . subst e;rw[SH.aL,if_pos rfl]at hp
     cases hp;exact⟨I,il _ _ _,ho hle⟩
   . have hp':=hold p o' hp e;obtain⟨J,hJ,hs⟩:=H.obj p o' hp';refine⟨J,hle.1 _ _ hJ,?_⟩;have hs':=hs.le hle;by_cases hc:J.cap.isSome
     . refine hs'.congr ?_;have:=hblk p o' J hp' hJ hc;rw[AH.aL,if_neg (by omega)]
     . cases o' with
       |cells cs t=>exact absurd hs.1 hc
       |arr X L enc t=>
        obtain⟨h1,h2,h3,h4,h5⟩:=hs';refine⟨h1,h2,h3,h4,?_⟩
        cases hcap:J.cap with
        |none=>rw[hcap]at h5;exact h5
        |some c=>rw[hcap]at hc;simp at hc
 . intro p q o1 o2 J J' hp hq hJ hJ' hc hc' e;by_cases e1:p=h.next
   . by_cases e2:q=h.next
     . rw[e1,e2]
     . exfalso;subst e1;rw[il]at hJ;cases hJ;rw[iX _ _ e2]at hJ';have:=hblk q o2 J' (hold q o2 hq e2) hJ' hc';omega
   . rw[iX _ _ e1]at hJ;by_cases e2:q=h.next
     . exfalso;subst e2;rw[il]at hJ';cases hJ';have:=hblk p o1 J (hold p o1 hp e1) hJ hc;omega
     . rw[iX _ _ e2]at hJ';exact H.inj p q o1 o2 J J' (hold p o1 hp e1) (hold q o2 hq e2) hJ hJ' hc hc' e
 . intro i o' hi;have:=H.fz i o' hi;have hl:=H.wf _ _ this;rw[AH.aL,if_neg (by omega)];exact this
 . intro p o' J hp hJ hc;by_cases e:p=h.next
   . subst e;rw[il]at hJ;cases hJ;rw[hI]
     cases hz:(C.put h.next I).Fz a.next with
     |none=>rfl
     | some o2=>
       have:=H.wf _ _ (H.fz _ _ hz);omega
   . rw[iX _ _ e]at hJ;exact H.dj p o' J (hold p o' hp e) hJ hc
 . intro p J hJ;rw[SH.cR];by_cases e:p=h.next
   . omega
   . rw[iX _ _ e]at hJ;have:=H.lt p J hJ;omega
 . intro i o' hi;rw[AH.aL]at hi;simp only[AH.cR];split at hi
   . omega
   . have:=H.wf i o' hi;omega
theorem HS.wQ (H:HS tab C h a) {o:SO} (I:BI) (hI:I.cap=none) (ho:C.le (C.put h.next I)->dV tab (C.put h.next I) I o a):
   C.le (C.put h.next I)/\HS tab (C.put h.next I) (h.new o) a:=by
 have hle:C.le (C.put h.next I):=by
   refine⟨fun p J hp=>?_,fun i o h=>h⟩;have:=H.lt p J hp;rw[iX _ _ (by omega)];exact hp
 refine⟨hle,?_⟩;have hold:∀p o',(h.new o).get p=some o'->p≠h.next->h.get p=some o':=by
   intro p o' hp hne;rw[SH.aL,if_neg hne]at hp;exact hp
 refine⟨?_,?_,H.fz,?_,?_,H.wf⟩
 . intro p o' hp;by_cases e:p=h.next
   . subst e;rw[SH.aL,if_pos rfl]at hp
     cases hp;exact⟨I,il _ _ _,ho hle⟩
   . obtain⟨J,hJ,hs⟩:=H.obj p o' (hold p o' hp e);exact⟨J,hle.1 _ _ hJ,hs.le hle⟩
 . intro p q o1 o2 J J' hp hq hJ hJ' hc hc' e;by_cases e1:p=h.next
   . subst e1;rw[il]at hJ;cases hJ;rw[hI]at hc;simp at hc
   . rw[iX _ _ e1]at hJ;by_cases e2:q=h.next
     . subst e2;rw[il]at hJ';cases hJ';rw[hI]at hc';simp at hc'
     . rw[iX _ _ e2]at hJ';exact H.inj p q o1 o2 J J' (hold p o1 hp e1) (hold q o2 hq e2) hJ hJ' hc hc' e
 . intro p o' J hp hJ hc;by_cases e:p=h.next
   . subst e;rw[il]at hJ;cases hJ;rw[hI]at hc;simp at hc
   . rw[iX _ _ e]at hJ;exact H.dj p o' J (hold p o' hp e) hJ hc
 . intro p J hJ;rw[SH.cR];by_cases e:p=h.next
   . omega
   . rw[iX _ _ e]at hJ;have:=H.lt p J hJ;omega
theorem HS.renew (H:HS tab C h a) {d:Nat} {o0:SO} {I0:BI} (hd:h.get d=some o0) (hI0:C.ρ d=some I0) (I:BI) {o:SO}
   (hold:∀i b,(I0.cap.isSome->i≠I0.β)->a.get i=some b->a'.get i=some b) (hwf:∀i b,a'.get i=some b->i<a'.next)
   (hnew:I.cap.isSome->a.next<=I.β\/(I0.cap.isSome/\I.β=I0.β)) (hn:a.next<=a'.next) (ho:dd C (.kill d) (C.put d I)->dV tab (C.put d I) I o a'):
   dd C (.kill d) (C.put d I)/\HS tab (C.put d I) ⟨h.next,(d,some o)::ir (.kill d) h.os⟩ a':=by
 have hT:dd C (.kill d) (C.put d I):=⟨fun i o h=>h,fun p J hp hJ=>by rw[iX _ _ hp];exact hJ⟩;refine⟨hT,?_⟩;have hget:∀p,(SH.mk h.next ((d,some o)::ir (.kill d) h.os)).get p=if p=d then some o else(h.get p).map (SO.on (.kill d)):=by
   intro p;have h1:=qy (.kill d) h.next h.os p;simp only[SH.get,jv]at h1⊢;by_cases e:p=d
   . simp[e]
   . simp only[if_neg e];exact h1
 have hback:∀p o',(SH.mk h.next ((d,some o)::ir (.kill d) h.os)).get p=some o'->p≠d->∃o1,h.get p=some o1/\o'=o1.on (.kill d):=by
   intro p o' hp hne;rw[hget,if_neg hne]at hp;obtain⟨o1,h1,h2⟩:=Ap.1 hp;exact⟨o1,h1,h2.symm⟩
 have hlive:∀p o1 J,h.get p=some o1->C.ρ p=some J->dV tab C J o1 a:=by
   intro p o1 J hp hJ;obtain⟨J',hJ',hs⟩:=H.obj p o1 hp;rw[hJ]at hJ';cases hJ';exact hs
 have hne:∀p o1 J,h.get p=some o1->C.ρ p=some J->J.cap.isSome->p≠d->(I0.cap.isSome->J.β≠I0.β):=by
   intro p o1 J hp hJ hc hpd hc0 e;exact hpd (H.inj p d o1 o0 J I0 hp hd hJ hI0 hc hc0 e)
 refine⟨?_,?_,?_,?_,?_,hwf⟩
 . intro p o' hp;by_cases e:p=d
   . subst e;rw[hget,if_pos rfl]at hp
     cases hp;exact⟨I,il _ _ _,ho hT⟩
   . obtain⟨o1,h1,rfl⟩:=hback p o' hp e;obtain⟨J,hJ,hs⟩:=H.obj p o1 h1;refine⟨J,hT.2 p J e hJ,?_⟩;have hs':=hs.turns hT;by_cases hc:J.cap.isSome
     . obtain⟨b,hb⟩:=hs.live hc;exact hs'.congr ((hold _ _ (hne p o1 J h1 hJ hc e) hb).trans hb.symm)
     . cases o1 with
       |cells cs t=>exact absurd hs.1 hc
       |arr X L enc t=>
        obtain⟨g1,g2,g3,g4,g5⟩:=hs';refine⟨g1,g2,g3,g4,?_⟩
        cases hcap:J.cap with
        |none=>rw[hcap]at g5;exact g5
        |some c=>rw[hcap]at hc;simp at hc
 . have key:∀q o2 J,(SH.mk h.next ((d,some o)::ir (.kill d) h.os)).get q=some o2->q≠d->(C.put d I).ρ q=some J->J.cap.isSome->I.cap.isSome->I.β≠J.β:=by
     intro q o2 J hq e2 hJ' hc' hc e;rw[iX _ _ e2]at hJ';obtain⟨o3,h3,rfl⟩:=hback q o2 hq e2;obtain⟨b,hb⟩:=(hlive q o3 J h3 hJ').live hc';have hlt:=H.wf _ _ hb;rcases hnew hc with hge|⟨h0,he⟩
     . omega
     . exact hne q o3 J h3 hJ' hc' e2 h0 (by rw[<-e,he])
   intro p q o1 o2 J J' hp hq hJ hJ' hc hc' e;by_cases e1:p=d
   . by_cases e2:q=d
     . rw[e1,e2]
     . exfalso;subst e1;rw[il]at hJ;cases hJ;exact key q o2 J' hq e2 hJ' hc' hc e
   . by_cases e2:q=d
     . exfalso;subst e2;rw[il]at hJ';cases hJ';exact key p o1 J hp e1 hJ hc hc' e.symm
     . rw[iX _ _ e1]at hJ;rw[iX _ _ e2]at hJ';obtain⟨o3,h3,_⟩:=hback p o1 hp e1;obtain⟨o4,h4,_⟩:=hback q o2 hq e2;exact H.inj p q o3 o4 J J' h3 h4 hJ hJ' hc hc' e
 . intro i b hi;have h1:=H.fz i b hi;refine hold i b (fun hc e=>?_) h1;subst e;have:=H.dj d o0 I0 hd hI0 hc;rw[show C.Fz I0.β=some b from hi]at this;cases this
 . intro p o' J hp hJ hc;by_cases e:p=d
   . subst e;rw[il]at hJ;cases hJ;rcases hnew hc with hge|⟨h0,he⟩
     . cases hz:C.Fz I.β with
       |none=>exact hz
       |some o2=>
        have:=H.wf _ _ (H.fz _ _ hz);omega
     . rw[he];exact H.dj p o0 I0 hd hI0 h0
   . rw[iX _ _ e]at hJ;obtain⟨o3,h3,_⟩:=hback p o' hp e;exact H.dj p o3 J h3 hJ hc
 . intro p J hJ;by_cases e:p=d
   . subst e;exact H.lt p I0 hI0
   . rw[iX _ _ e]at hJ;exact H.lt p J hJ
end
end
section
universe u v
variable [Inhabited aF]
section
variable {tab:aZ} {C C':Cx} {I:BI} {o:SO} {a a':AH} {h:SH}
theorem HS.at_ (H:HS tab C h a) {p:Nat} {o:SO} {I:BI} (hp:h.get p=some o) (hI:C.ρ p=some I):dV tab C I o a:=by
 obtain⟨J,hJ,hs⟩:=H.obj p o hp;rw[hI]at hJ;cases hJ;exact hs
theorem HS.mod (H:HS tab C h a) {d:Nat} {o0:SO} {I0:BI} (hd:h.get d=some o0) (hI0:C.ρ d=some I0) (hb:I0.cap.isSome) {o:SO} {ao:AO} (ho:dV tab C I0 o (a.set I0.β ao)):
   HS tab C (h.set d (some o)) (a.set I0.β ao):=by
 have hback:∀p o',(h.set d (some o)).get p=some o'->p≠d->h.get p=some o':=by
   intro p o' hp hne;rw[SH.aS,if_neg hne]at hp;exact hp
 have hany:∀p o',(h.set d (some o)).get p=some o'->∃o1,h.get p=some o1:=by
   intro p o' hp;by_cases e:p=d
   . exact⟨o0,e▸hd⟩
   . exact⟨o',hback p o' hp e⟩
 have hlt:=H.wf _ _ ((H.at_ hd hI0).live hb).choose_spec;refine⟨?_,?_,?_,?_,?_,?_⟩
 . intro p o' hp;by_cases e:p=d
   . subst e;rw[SH.aS,if_pos rfl]at hp
     cases hp;exact⟨I0,hI0,ho⟩
   . have hp':=hback p o' hp e;obtain⟨J,hJ,hs⟩:=H.obj p o' hp';refine⟨J,hJ,?_⟩;by_cases hc:J.cap.isSome
     . refine hs.congr ?_;rw[AH.aS,if_neg];intro e';exact e (H.inj p d o' o0 J I0 hp' hd hJ hI0 hc hb e')
     . cases o' with
       |cells cs t=>exact absurd hs.1 hc
       |arr X L enc t=>
        obtain⟨g1,g2,g3,g4,g5⟩:=hs;refine⟨g1,g2,g3,g4,?_⟩
        cases hcap:J.cap with
        |none=>rw[hcap]at g5;exact g5
        |some c=>rw[hcap]at hc;simp at hc
 . intro p q o1 o2 J J' hp hq hJ hJ' hc hc' e;obtain⟨o3,h3⟩:=hany p o1 hp;obtain⟨o4,h4⟩:=hany q o2 hq;exact H.inj p q o3 o4 J J' h3 h4 hJ hJ' hc hc' e
 . intro i b hi;have h1:=H.fz i b hi;rw[AH.aS,if_neg]
   . exact h1
   . intro e;subst e;have:=H.dj d o0 I0 hd hI0 hb;rw[hi]at this;cases this
 . intro p o' J hp hJ hc;obtain⟨o3,h3⟩:=hany p o' hp;exact H.dj p o3 J h3 hJ hc
 . intro p J hJ;rw[SH.eu];exact H.lt p J hJ
 . intro i b hi;rw[AH.aS]at hi;simp only[AH.eu];split at hi
   . rename_i e;rw[e];exact hlt
   . exact H.wf i b hi
open Classical in
noncomputable def Cx.freeze (C:Cx) (β:Nat) (p:Prop) (o:Option AO):Cx:={C with Fz:=fun i=>if p/\i=β then o else C.Fz i}
theorem HS.freeze (H:HS tab C h a) {d:Nat} {o0:SO} {I0:BI} (hd:h.get d=some o0) (hI0:C.ρ d=some I0) {e:Ev} (he:∀C':Cx,(∀i o,C.Fz i=some o->C'.Fz i=some o)->(∀p I,C.ρ p=some I->C'.ρ p=some I)->
     (I0.cap.isSome->C'.Fz I0.β=a.get I0.β)->dd C e C'):
   ∃C',dd C e C'/\HS tab C' ⟨h.next,(d,none)::ir e h.os⟩ a/\(I0.cap.isSome->C'.Fz I0.β=a.get I0.β)/\C'.ρ=C.ρ:=by
 classical
 let C':Cx:=C.freeze I0.β (I0.cap.isSome=true) (a.get I0.β)
 have hfz:∀i o,C.Fz i=some o->C'.Fz i=some o:=by
   intro i o hi;simp only[C',Cx.freeze];split
   . rename_i hc;obtain⟨hb,rfl⟩:=hc;have:=H.dj d o0 I0 hd hI0 hb;rw[hi]at this;cases this
   . exact hi
 have hfb:I0.cap.isSome->C'.Fz I0.β=a.get I0.β:=by
   intro hb;simp[C',Cx.freeze,hb]
 have hback':∀i o,C'.Fz i=some o->C.Fz i=some o\/(I0.cap.isSome/\i=I0.β/\a.get i=some o):=by
   intro i o hi;simp only[C',Cx.freeze]at hi;split at hi
   . rename_i hc;exact .inr ⟨hc.1,hc.2,by rw[hc.2];exact hi⟩
   . exact .inl hi
 have hT:=he C' hfz (fun p I h=>h) hfb;refine⟨C',hT,?_,hfb,rfl⟩;have hget:∀p,(SH.mk h.next ((d,none)::ir e h.os)).get p=if p=d then none else(h.get p).map (SO.on e):=by
   intro p;have h1:=qy e h.next h.os p;simp only[SH.get,jv]at h1⊢;by_cases e:p=d
   . simp[e]
   . simp only[if_neg e];exact h1
 have hback:∀p o',(SH.mk h.next ((d,none)::ir e h.os)).get p=some o'->p≠d/\ ∃o1,h.get p=some o1/\o'=o1.on e:=by
   intro p o' hp;rw[hget]at hp;split at hp
   . cases hp
   . rename_i hne;obtain⟨o1,h1,h2⟩:=Ap.1 hp;exact⟨hne,o1,h1,h2.symm⟩
 refine⟨?_,?_,?_,?_,H.lt,H.wf⟩
 . intro p o' hp;obtain⟨hne,o1,h1,rfl⟩:=hback p o' hp;obtain⟨J,hJ,hs⟩:=H.obj p o1 h1;exact⟨J,hJ,hs.turns hT⟩
 . intro p q o1 o2 J J' hp hq hJ hJ' hc hc' e;obtain⟨_,o3,h3,_⟩:=hback p o1 hp;obtain⟨_,o4,h4,_⟩:=hback q o2 hq;exact H.inj p q o3 o4 J J' h3 h4 hJ hJ' hc hc' e
 . intro i b hi;rcases hback' i b hi with h1|⟨_,_,h1⟩
   . exact H.fz i b h1
   . exact h1
 . intro p o' J hp hJ hc;obtain⟨hne,o3,h3,_⟩:=hback p o' hp
   cases hz:C'.Fz J.β with
   |none=>rfl
   | some b=>
     rcases hback' _ b hz with h1|⟨hb,h1,_⟩
     . have:=H.dj p o3 J h3 hJ hc;rw[h1]at this;cases this
     . exact absurd (H.inj p d o3 o0 J I0 h3 hd hJ hI0 hc hb h1) hne
theorem Mw (H:HS tab C h a) {d:Nat} {X:Type} {L:List X} {enc:X->List SV} {t:TypeId} {I0:BI} (hd:h.get d=some (.arr X L enc t)) (hI0:C.ρ d=some I0) (C':Cx)
   (hfz:∀i o,C.Fz i=some o->C'.Fz i=some o) (hρ:∀p I,C.ρ p=some I->C'.ρ p=some I) (hb:I0.cap.isSome->C'.Fz I0.β=a.get I0.β):dd C (.eW d X L enc) C':=by
 refine⟨hfz,fun p I _ h=>hρ p I h,fun I hI=>?_⟩;rw[hI0]at hI;cases hI;obtain⟨g1,g2,g3,g4,g5⟩:=H.at_ hd hI0;constructor
 . intro v hv
   cases hv with
   |pure h=>cases h
   |ew hI hc=>
    rw[hI0]at hI;cases hI;rw[hc]at g5;exact .bL g5 (.inl rfl)
   |own hI hc=>
    rw[hI0]at hI;cases hI;rw[hc]at g5;obtain⟨ca,ext,bk,k1,k2,k3,k4,k5⟩:=g5;rw[g3];refine .aJ I0.β 0 _ ca t I0.sz ext bk (fun i j=>(ca[0+i*I0.sz+j]?).getD (.bj [])) (.of (by rw[hb (by simp[hc]),k1])) g2 (by omega) g4 ?_ ?_ ?_
    . rcases k4 with⟨rfl,rfl⟩|⟨rfl,h0⟩
      . exact⟨rfl,by simp⟩
      . simp[nY,h0]
    . intro i x j v hx hv;obtain⟨u,k6,_⟩:=k5 i x j v hx hv;rw[Ay,k6];rfl
    . intro i x j v hx hv;obtain⟨u,k6,k7⟩:=k5 i x j v hx hv;rw[Ay,k6];exact k7.mono hfz
 . intro i off v x hx hv
   cases hv with
   |pure h=>cases h
   | bR hI hc=>
    rw[hI0]at hI;cases hI;obtain⟨c,hc'⟩:=By.1 hc;rw[hc']at g5;obtain⟨ca,ext,bk,k1,k2,k3,k4,k5⟩:=g5;refine .cB I0.β (i*I0.sz) ca t I0.sz ext bk (fun j=>(ca[i*I0.sz+j]?).getD (.bj [])) (by rw[hb hc,k1]) ?_ ?_ ?_
    . have hlt:=(Ad.1 hx).1;rw[k3,g4 i x hx]
      calc i*I0.sz+I0.sz=(i+1)*I0.sz:=by rw[Bq,DD]
        _<=L.length*I0.sz:=Bp _ hlt
    . intro j v hv;obtain⟨u,k6,_⟩:=k5 i x j v hx hv;rw[k6];rfl
    . intro j v hv;obtain⟨u,k6,k7⟩:=k5 i x j v hx hv;rw[k6];exact k7.mono hfz
theorem Mf {d:Nat} (C':Cx) (hfz:∀i o,C.Fz i=some o->C'.Fz i=some o) (hρ:∀p I,C.ρ p=some I->C'.ρ p=some I):dd C (.kill d) C':=⟨hfz,fun p I _ h=>hρ p I h⟩
end
def cN (C:Cx) (h:SH) (a:AH) (new:List Ev) (C':Cx) (h':SH) (a':AH):Prop:=∀p o I,h.get p=some o->C.ρ p=some I->I.cap.isSome->p∉jH new->
 a'.get I.β=a.get I.β/\((∃o',h'.get p=some o'/\C'.ρ p=some I)\/ ∃b,C'.Fz I.β=some b)
theorem cN.same (C:Cx) (h:SH) (a:AH) (new:List Ev):cN C h a new C h a:=fun _ o _ hp hI _ _=>⟨rfl, .inl ⟨o,hp,hI⟩⟩
theorem cN.new {tab:aZ} {C C':Cx} {h h':SH} {a:AH} (H:HS tab C h a) (o:AO) (new:List Ev) (hle:C.le C') (hh:∀p o,h.get p=some o->∃o',h'.get p=some o'):cN C h a new C' h' (a.new o):=by
 intro p o' I hp hI hc _;obtain⟨b,hb⟩:=(H.at_ hp hI).live hc;have:=H.wf _ _ hb;obtain⟨o2,h2⟩:=hh p o' hp;exact⟨by rw[AH.aL,if_neg (by omega)], .inl ⟨o2,h2,hle.1 _ _ hI⟩⟩
theorem rQ {tab:aZ} {C:Cx} {h:SH} {a:AH} (H:HS tab C h a) (o:SO):∀p o',h.get p=some o'->∃o2,(h.new o).get p=some o2:=by
 intro p o' hp;obtain⟨I,hI,_⟩:=H.obj p o' hp;have:=H.lt p I hI;exact⟨o',by rw[SH.aL,if_neg (by omega)];exact hp⟩
structure nJ (tab:aZ) (C:Cx) (s:St) (ta:T AV) (a:AH) (sv:SV) (s':St) (v:AV) (a':AH):Prop where
 ex:∃C' new,s'.log=s.log++new/\Tr C new C'/\aB C' sv v/\HS tab C' s'.h a'/\FS C' s'.ts ta/\cN C s.h a new C' s'.h a'
 grow:Grow a a'
theorem nJ.same {tab:aZ} {C:Cx} {s:St} {ta:T AV} {a:AH} {sv:SV} {v:AV} (hF:FS C s.ts ta) (H:HS tab C s.h a) (hv:aB C sv v):nJ tab C s ta a sv s v a:=
 ⟨⟨C,[],by simp,Tr.refl C,hv,H,hF,cN.same _ _ _ _⟩,Grow.refl a⟩
def dA (C:Cx) (h:SH) (a:AH) (C1:Cx) (h1:SH):Prop:=∀p o I,h.get p=some o->C.ρ p=some I->I.cap.isSome->(∃o',h1.get p=some o'/\C1.ρ p=some I)\/ ∃b,a.get I.β=some b/\C1.Fz I.β=some b
theorem dA.refl (C:Cx) (h:SH) (a:AH):dA C h a C h:=fun p o I hp hI _=> .inl ⟨o,hp,hI⟩
theorem dA.trans {C C1 C2:Cx} {h h1 h2:SH} {a:AH} (k:dA C h a C1 h1) (k':dA C1 h1 a C2 h2) (hf:∀i o,C1.Fz i=some o->C2.Fz i=some o):dA C h a C2 h2:=by
 intro p o I hp hI hc;rcases k p o I hp hI hc with⟨o',h1,h2⟩|⟨b,h1,h2⟩
 . exact k' p o' I h1 h2 hc
 . exact .inr ⟨b,h1,hf _ _ h2⟩
theorem dA.aU {C C1:Cx} {h h1:SH} {a:AH} (k:dA C h a C1 h1) (new:List Ev):cN C h a new C1 h1 a:=
 fun p o I hp hI hc _=>⟨rfl,(k p o I hp hI hc).imp id (fun⟨b,_,h⟩=>⟨b,h⟩)⟩
theorem kx {tab:aZ} {C:Cx} {s:St} {ta:T AV} {a:AH} (hF:FS C s.ts ta) (H:HS tab C s.h a) {d:Nat} {X:Type} {L:List X} {enc:X->List SV} {t:TypeId} (hd:s.h.get d=some (.arr X L enc t)):
   ∃C',((s.ev (.eW d X L enc)).del d).log=s.log++[.eW d X L enc]/\Tr C [.eW d X L enc] C'/\HS tab C' ((s.ev (.eW d X L enc)).del d).h a/\FS C' ((s.ev (.eW d X L enc)).del d).ts ta/\
    (∀v,aB C (.own d) v->aI C'.Fz (.aJ X L enc) v)/\dA C s.h a C' ((s.ev (.eW d X L enc)).del d).h:=by
 obtain⟨ts,⟨n,os⟩,log⟩:=s;obtain⟨I,hI,ho⟩:=H.obj d _ hd;obtain⟨C',hT,H',hfb,hρ⟩:=H.freeze hd hI (Mw H hd hI);refine⟨C',rfl,hT.tr,H',hF.turns hT,(hT.2.2 I hI).1,?_⟩;intro p o J hp hJ hc;by_cases e:p=d
 . subst e;rw[hI]at hJ;cases hJ;obtain⟨b,hb⟩:=(H.at_ hp hI).live hc;exact .inr ⟨b,hb,by rw[hfb hc,hb]⟩
 . refine .inl ⟨o.on (.eW d X L enc),?_,by rw[hρ];exact hJ⟩;simp only[St.ev,St.del,SH.aS,if_neg e];rw[qy,hp];rfl
end
section
universe u v
variable [Inhabited aF]
theorem rb {α β:Type} {x:R α} {a:α} (h:x= .ok a) (f:α->R β):(x>>=f)=f a:=by rw[h];rfl
theorem ro {α:Type} {s:String} {x:Option α} {a:α} (h:x=some a):R.of s x= .ok a:=by rw[h];rfl
theorem rc {s:String} {b:Bool} (h:b=true):R.check s b= .ok ():=by rw[h];rfl
theorem de {α:Type u} {x:Option α} {k:α->Prop} (h:so x k):∃a,x=some a/\k a:=by
 cases x with
 |none=>exact h.elim
 |some a=>exact⟨a,rfl,h⟩
theorem cH {b:Bool} {p:Prop} (h:ck b p):b=true/\p:=by
 cases b with
 |false=>exact h.elim
 |true=>exact⟨rfl,h⟩
theorem vY {b:Bool} {p q:Prop} (h:br b p q):(b=true/\p)\/(b=false/\q):=by
 cases b with
 |false=>exact .inr ⟨rfl,h⟩
 |true=>exact .inl ⟨rfl,h⟩
theorem yA {α:Type u} {β:Type v} {f:α->Option β}:∀{l:List α} {m:List β},ic f l=some m->l.length=m.length/\ ∀(i:Nat) a b,l[i]? =some a->m[i]? =some b->f a=some b:=by
 intro l;induction l with
 |nil=>intro m h;simp only[ic,AL]at h;subst h;exact⟨rfl,fun i a b h=>by simp at h⟩
 |cons x l ih=>
  intro m h;simp only[ic]at h;split at h
  . rename_i y m' hy hm
    cases h;obtain⟨h1,h2⟩:=ih hm;refine⟨by simp[h1],fun i a b ha hb=>?_⟩
    cases i with
    |zero=>simp at ha hb;subst ha;subst hb;exact hy
    |succ i=>exact h2 i a b (by simpa using ha) (by simpa using hb)
  . cases h
section
variable {tab:aZ} {C:Cx}
theorem xn {v:Value} {s:SV} (h:sy v=some s):aB C s (nh v):=by
 unfold sy at h;split at h<;>cases h<;>simp only[nh]<;>exact .pure (by constructor)
theorem Lf {v:Value} {s:SV} (h:xU v=some s):aB C s (oW v):=by
 unfold xU at h;split at h
 . rename_i cs;obtain⟨l,hl,rfl⟩:=Ap.1 h;obtain⟨h1,h2⟩:=yA hl;refine .agg (by simp[<-h1]) (fun i c v hc hv=>?_);rw[Au]at hv;obtain⟨w,hw,rfl⟩:=Ap.1 hv;exact xn (h2 i w c hw hc)
 . rename_i cs;obtain⟨l,hl,rfl⟩:=Ap.1 h;obtain⟨h1,h2⟩:=yA hl;refine .bj (by simp[<-h1]) (fun i c v hc hv=>?_);rw[Au]at hv;obtain⟨w,hw,rfl⟩:=Ap.1 hv;exact xn (h2 i w c hw hc)
 . rename_i h1 h2;have:oW v=nh v:=by
    cases v with
    |agg cs=>exact absurd rfl (h1 cs)
    |tuple cs=>exact absurd rfl (h2 cs)
    |_=>rfl
   rw[this];exact xn h
theorem Ie {v:AV} {s:SV} (h:jB v=some s):aB C s v:=by
 unfold jB at h;split at h<;>cases h<;>exact .pure (by constructor)
theorem jV {ts:Fr} {ta:T AV} (hF:FS C ts ta) {x:Operand} {s:SV} (h:fk ts x=some s):∃v,ev ta x= .ok v/\aB C s v:=by
 cases x with
 |tmp t=>exact⟨_,rfl,hF t s h⟩
 |const v=>exact⟨_,rfl,Lf h⟩
 |func f=>
  simp only[fk,AL]at h;subst h;exact⟨_,rfl, .fn rfl rfl (fun i x u hx=>by simp at hx) (fun i x u hx=>by simp at hx)⟩
 |global g=>cases h
theorem oS {ts:Fr} {ta:T AV} (hF:FS C ts ta):∀{l:List Operand} {m:List SV},jN ts l=some m->∃vs,iR ta l= .ok vs/\aN C m vs:=by
 intro l;induction l with
 |nil=>intro m h;simp only[jN,ic,AL]at h;subst h;exact⟨[],rfl,aN.nil⟩
 |cons x l ih=>
  intro m h;simp only[jN,ic]at h;split at h
  . rename_i y m' hy hm
    cases h;obtain⟨v,hv,h1⟩:=jV hF hy;obtain⟨vs,hvs,h2⟩:=ih hm;refine⟨v::vs,?_,aN.cons h1 h2⟩;simp only[iR];rw[rb hv,rb hvs]
  . cases h
theorem aN.get {cs:List SV} {ca:List AV} (h:aN C cs ca) {i:Nat} {s:SV} (hs:cs[i]? =some s):∃v,ca[i]? =some v/\aB C s v:=by
 have hlt:i<ca.length:=by rw[<-h.1];exact(Ad.1 hs).1
 exact⟨ca[i],Ag hlt,h.2 i s _ hs (Ag hlt)⟩
theorem qv {cs:List SV} {ca:List AV} (hc:aN C cs ca) {t off:Nat} {s:SV} (h:lD tab t cs off=some s):∃v,Am.part tab t ca off= .ok v/\aB C s v:=by
 unfold lD at h;unfold Am.part;split at h
 . rename_i hg;split at h
   . rename_i n hn
     cases hb:Nat.ble (off+n) cs.length
     . rw[hb]at h;cases h
     . rw[hb]at h;cases h;refine⟨.agg ((ca.drop off).take n),?_, .agg ((hc.drop off).take n).1 ((hc.drop off).take n).2⟩;rw[rb (show Am.isAgg tab t= .ok true from ro hg)];simp only[if_true];rw[rb (show siz tab t= .ok n from ro hn)]
   . cases h
 . rename_i hg;obtain⟨v,h1,h2⟩:=hc.get h;refine⟨v,?_,h2⟩;rw[rb (show Am.isAgg tab t= .ok false from ro hg)];simp only[Ak,Aw];exact ro h1
 . cases h
theorem CU {cs vs:List SV} {ca va:List AV} (hc:aN C cs ca) (hv:aN C vs va) (off:Nat):aN C (sb cs off vs) (mh ca off va):=by
 unfold sb mh;rw[hv.1];exact(hc.take off).append (hv.append (hc.drop _))
theorem ub {s:SV} {v:AV} (h:aB C s v) (hk:s.known=true):∃l,v.cells= .ok l/\aN C s.cells l:=by
 have one:∀{s:SV} {v:AV},aB C s v->aN C [s] [v]:=fun h=>aN.cons h aN.nil
 cases h with
 | pure h=>
  cases h with
  |any v=>cases hk
  |agg h1 h2=>exact⟨_,rfl,h1,fun i s v hs hv=> .pure (h2 i s v hs hv)⟩
  |bool b=>exact⟨_,rfl,one (.pure (.bool b))⟩
  |int k n=>exact⟨_,rfl,one (.pure (.int k n))⟩
  |str s=>exact⟨_,rfl,one (.pure (.str s))⟩
  |aW=>exact⟨_,rfl,one (.pure .aW)⟩
  |wp a=>exact⟨_,rfl,one (.pure (.wp a))⟩
  |nils=>exact⟨_,rfl,one (.pure .nils)⟩
  |bh=>exact⟨_,rfl,one (.pure .bh)⟩
  |bB=>exact⟨_,rfl,one (.pure .bB)⟩
  |bL h0 hv=>
   rcases hv with rfl|⟨b,off,l,n,k,rfl⟩|⟨a,c,rfl⟩
   . exact⟨_,rfl,one (.pure (.bL h0 (.inl rfl)))⟩
   . exact⟨_,rfl,one (.pure (.bL h0 (.inr (.inl ⟨_,_,_,_,_,rfl⟩))))⟩
   . exact⟨_,rfl,one (.pure (.bL h0 (.inr (.inr ⟨_,_,rfl⟩))))⟩
  |aJ b off cap cs e sz ext bk u hb hs hl hn hc h1 h2=>exact⟨_,rfl,one (.pure (.aJ b off cap cs e sz ext bk u hb hs hl hn hc h1 h2))⟩
  |cB b base ca e sz ext bk u hb hl h1 h2=>exact⟨_,rfl,one (.pure (.cB b base ca e sz ext bk u hb hl h1 h2))⟩
  |fn h1 h2 h3 h4=>exact⟨_,rfl,one (.pure (.fn h1 h2 h3 h4))⟩
  |bj h1 h2=>exact⟨_,rfl,one (.pure (.bj h1 h2))⟩
 |ptr h=>exact⟨_,rfl,one (.ptr h)⟩
 |bR h hc=>exact⟨_,rfl,one (.bR h hc)⟩
 |ew h hc=>exact⟨_,rfl,one (.ew h hc)⟩
 |own h hc=>exact⟨_,rfl,one (.own h hc)⟩
 |sl h=>exact⟨_,rfl,one (.sl h)⟩
 |fn h1 h2 h3 h4=>exact⟨_,rfl,one (.fn h1 h2 h3 h4)⟩
 |agg h1 h2=>exact⟨_,rfl,h1,h2⟩
 |bj h1 h2=>exact⟨_,rfl,one (.bj h1 h2)⟩
theorem Gj {s:SV} {v:AV} (h:aB C s v) (hk:uL s=true):kH v=true:=by
 cases h with
 |pure h=>
  cases h with
  |any v=>cases hk
  |agg h1 h2=>cases hk
  |bj h1 h2=>cases hk
  |bL h0 hv=>rcases hv with rfl|⟨b,off,l,n,k,rfl⟩|⟨a,c,rfl⟩<;>rfl
  |_=>rfl
 |agg h1 h2=>cases hk
 |bj h1 h2=>cases hk
 |_=>rfl
theorem C7 {cs:List SV} {ca:List AV} (hc:aN C cs ca) (h:cs.all uL=true):ca.all kH=true:=by
 rw[AE]at h⊢;intro v hv;obtain⟨i,hi⟩:=Bt.1 hv;have hlt:i<cs.length:=by rw[hc.1];exact(Ad.1 hi).1
 exact Gj (hc.2 i _ v (Ag hlt) hi) (h _ (AF hlt))
theorem oK {t:TypeId} {z:List SV} (h:qN tab t=some z):∃zv zc,zero tab t= .ok zv/\zv.cells= .ok zc/\aN C z zc:=by
 unfold qN at h;obtain⟨zv,h1,h2⟩:=Ei.1 h;refine⟨zv,?_⟩
 cases zv with
 |agg cs=>
  simp only[wz]at h2;obtain⟨g1,g2⟩:=yA h2;exact⟨cs,ro h1,rfl,g1.symm,fun i s v hs hv=>Ie (g2 i v s hv hs)⟩
 |raw v=>simp[wz,jB]at h2
 | _=>
  simp only[wz,jB,A2,BV,AL]at h2
  first
   |(cases h2;done)
   |(subst h2;exact⟨_,ro h1,rfl,aN.cons (.pure (by constructor)) aN.nil⟩)
end
end
section
universe u v
variable [Inhabited aF]
section
variable {tab:aZ} {C:Cx} {h:SH} {a:AH}
theorem gx {b:Nat} {ca:List AV} {e:TypeId} {sz:Nat} {ext:Bool} {bk:BK} (hb:a.get b=some (.cells ca e sz ext bk)):iT a b= .ok (ca,e,sz,ext,bk):=by
 unfold iT;rw[hb]
theorem yG {b base:Nat} {ca:List AV} {e:TypeId} {sz:Nat} {ext:Bool} {bk:BK} (hb:a.get b=some (.cells ca e sz ext bk)) {cs:List SV} (hl:base+cs.length<=ca.length)
   (hc:∀(j:Nat) s,cs[j]? =some s->∃u,ca[base+j]? =some u/\aB C s u) {t off:Nat} {sv:SV} (hp:lD tab t cs off=some sv):∃u,Am.loadVar tab a t b (base+off)= .ok u/\aB C sv u:=by
 unfold lD at hp;unfold Am.loadVar;split at hp
 . rename_i hg;split at hp
   . rename_i n hn
     cases hle:Nat.ble (off+n) cs.length
     . rw[hle]at hp;cases hp
     . rw[hle]at hp;cases hp;have hle:=Al hle;rw[rb (show Am.isAgg tab t= .ok true from ro hg)];simp only[if_true];rw[rb (show siz tab t= .ok n from ro hn)];have hr:readN a b (base+off) n= .ok ((ca.drop (base+off)).take n):=by
         unfold readN;rw[rb (gx hb)];simp only;rw[rb (rc (by simp only[AW];omega))]
       rw[rb hr];refine⟨_,rfl, .agg (by simp;omega) (fun i s u hs hu=>?_)⟩;rw[Be]at hs hu;split at hs
       . rename_i hi;rw[if_pos hi]at hu;rw[BN]at hs hu;obtain⟨w,hw,hsim⟩:=hc _ s hs;rw[<-BZ]at hw;rw[hw]at hu
         cases hu;exact hsim
       . cases hs
   . cases hp
 . rename_i hg;obtain⟨u,hu,hsim⟩:=hc off sv hp;rw[rb (show Am.isAgg tab t= .ok false from ro hg)];simp only[Ak,Aw];rw[rb (gx hb)];exact⟨u,ro hu,hsim⟩
 . cases hp
theorem xR (H:HS tab C h a) {p:SV} {v:AV} (hv:aB C p v) {t:TypeId} {K:SV->Prop} (hl:wx tab h t p K):∃b off u sv,v= .ptr b off/\Am.loadVar tab a t b off= .ok u/\aB C sv u/\K sv:=by
 unfold wx at hl;split at hl
 . rename_i b off;split at hl
   . rename_i cs e hb;obtain⟨sv,hp,hk⟩:=de hl
     cases hv with
     |pure h=>cases h
     |ptr hI=>
      obtain⟨_,ca,sz,h2,h3,_⟩:=H.at_ hb hI;obtain⟨u,h4,h5⟩:=yG h2 (base:=0) (cs:=cs) (by rw[h3.1];omega) (fun j s hs=>by rw[Ay];exact h3.get hs) hp;rw[Ay]at h4;exact⟨_,_,u,sv,rfl,h4,h5,hk⟩
   . exact hl.elim
 . rename_i b i off;split at hl
   . rename_i X L enc e hb;obtain⟨x,hx,hl⟩:=de hl;obtain⟨sv,hp,hk⟩:=de hl
     cases hv with
     |pure h=>cases h
     | bR hI hc=>
      rename_i I;obtain⟨g1,g2,g3,g4,g5⟩:=H.at_ hb hI;obtain⟨c,hc'⟩:=By.1 hc;rw[hc']at g5;obtain⟨ca,ext,bk,k1,k2,k3,k4,k5⟩:=g5;have hlt:=(Ad.1 hx).1;obtain⟨u,h4,h5⟩:=yG k1 (base:=i*I.sz) (cs:=enc x) (by
       rw[k3,g4 i x hx,<-Nat.succ_mul];exact Bp _ hlt) (fun j s hs=>by
       obtain⟨u,q1,q2⟩:=k5 i x j s hx hs;exact⟨u,q1, .pure q2⟩) hp
      exact⟨_,_,u,sv,rfl,h4,h5,hk⟩
   . exact hl.elim
 . rename_i cs off;obtain⟨sv,hp,hk⟩:=de hl
   cases hv with
   | pure h=>
     cases h with
     |cB b base ca e sz ext bk u hb hl h1 h2=>
      obtain⟨w,h4,h5⟩:=yG (H.fz _ _ hb) (base:=base) (cs:=cs) hl (fun j s hs=>⟨_,h1 j s hs, .pure (h2 j s hs)⟩) hp;exact⟨_,_,w,sv,rfl,h4,h5,hk⟩
 . exact hl.elim
theorem kf {s:SV} {v:AV} (h:aB C s v) (hp:lz s=true):aI C.Fz s v:=by
 cases h with
 |pure h=>exact h
 |_=>cases hp
theorem K9 {t:TypeId} {b off n:Nat} {v:AV} {l ca:List AV} {e:TypeId} {sz:Nat} {ext:Bool} {bk:BK} (hn:tab.siz.get t=some n) (hv:v.cells= .ok l) (hl:l.length=n) (hn0:n≠0)
  (hb:a.get b=some (.cells ca e sz ext bk)) (hbk:(bk≠ .ro/\bk≠ .cold)) (hr:off+n<=ca.length) (h1:l.all kH=true):Am.storeVar tab a t b off v= .ok (a.set b (.cells (mh ca off l) e sz ext bk)):=by
 unfold Am.storeVar;rw[rb (show siz tab t= .ok n from ro hn),rb hv,rb (rc (by simp[hl]))];unfold writeN
 cases l with
 |nil=>exact absurd hl.symm hn0
 |cons x l=>
  simp only;rw[rb (gx hb)];simp only;rw[rb (rc (by simpa using hbk)),rb (rc (by rw[hl];simp only[AW];exact hr)),rb (rc h1)]
theorem MW (H:HS tab C h a) {p s:SV} {v w:AV} (hv:aB C p v) (hw:aB C s w) {t:TypeId} {K:SH->Prop} (hl:yU tab h t p s K):
   ∃b off a' h',v= .ptr b off/\Am.storeVar tab a t b off w= .ok a'/\HS tab C h' a'/\K h'/\Grow a a'/\cN C h a (wy p) C h' a':=by
 unfold yU at hl;split at hl
 . rename_i n hn;obtain⟨hck,hl⟩:=cH hl;simp only[Ab,AI]at hck;obtain⟨⟨⟨hn0,hkn⟩,hlen⟩,hsc⟩:=hck;have hn0:n≠0:=fun e=>by subst e;simp at hn0
   have hlen:=Af hlen;obtain⟨l,hl1,hl2⟩:=ub hw hkn;have hone:=C7 hl2 hsc;have hll:l.length=n:=by rw[<-hl2.1,hlen]
   split at hl
   . rename_i b off _;split at hl
     . rename_i cs e hb;obtain⟨hr,hk⟩:=cH hl;have hr:=Al hr
       cases hv with
       |pure h=>cases h
       |ptr hI=>
        rename_i I;obtain⟨hc,ca,sz,h2,h3,h3s⟩:=H.at_ hb hI;refine⟨_,_,_,_,rfl,K9 hn hl1 hll hn0 h2 (by simp) (by rw[<-h3.1];exact hr) hone,H.mod hb hI hc (o:= .cells (sb cs off s.cells) e) ⟨hc,_,sz,by rw[AH.aS,if_pos rfl],CU h3 hl2 off,h3s⟩,hk,⟨by simp,fun i o hi=>?_⟩,?_⟩
        . rw[AH.aS]at hi;split at hi
          . rename_i e';exact .inl ⟨_,e'▸h2⟩
          . exact .inl ⟨_,hi⟩
        . intro q o J hq hJ hcJ hn;have hqb:q≠b:=fun e'=>hn (by simp[wy,jH,e'])
          refine⟨?_, .inl ⟨o,by rw[SH.aS,if_neg hqb];exact hq,hJ⟩⟩;rw[AH.aS,if_neg];intro e';exact hqb (H.inj q _ o _ J I hq hb hJ hI hcJ hc e')
     . exact hl.elim
   . exact hl.elim
 . exact hl.elim
end
end
section
universe u v
variable [Inhabited aF]
section
variable {tab:aZ} {C:Cx} {h:SH} {a:AH}
theorem O1 :∀(d:Nat) (t:TypeId) (x y:SV) (u w:AV) (p:Bool),fJ tab d t x y=some p->aB C x u->aB C y w->eqT tab d t u w= .ok p:=by
 intro d;induction d with
 |zero=>intro t x y u w p h;simp only[fJ]at h;cases h
 | succ d ih=>
  have hgo :∀(fs:List Field) (xs ys:List SV) (us ws:List AV) (p:Bool),j9 tab (fJ tab d) fs xs ys=some p->aN C xs us->aN C ys ws->eqFields tab (eqT tab d) us ws fs= .ok p:=by
   intro fs;induction fs with
   |nil=>intro xs ys us ws p h _ _;simp only[j9,AL]at h;subst h;rfl
   | cons f fs ihf=>
     intro xs ys us ws p h hx hy;simp only[j9]at h;simp only[eqFields];by_cases hn:f.name= "_"
     . simp only[hn,decide_true,A8]at h;simp only[hn,ne_eq,Dt,Aw];exact ihf xs ys us ws p h hx hy
     . simp only[hn,Fc,AJ]at h;simp only[ne_eq,hn,Bf,if_true];split at h
       . rename_i s1 s2 h1 h2;split at h
         . rename_i p1 q1 h3 h4
           cases h;obtain⟨v1,g1,k1⟩:=qv hx h1;obtain⟨v2,g2,k2⟩:=qv hy h2;rw[rb g1,rb g2,rb (ih _ _ _ _ _ _ h3 k1 k2)]
           cases p1 with
           |true=>simp only[if_true,Bn];exact ihf xs ys us ws q1 h4 hx hy
           |false=>simp only[Ak,Aw,Bc]
         . cases h
       . cases h
  intro t x y u w p h hx hy;unfold fJ at h;split at h
  all_goals first
   |(cases h;done)
   |skip
  all_goals (rename_i hg)
  case h_1=> 
   cases h;cases hx with
   | pure hx=>cases hx with
     | bool=>cases hy with
       | pure hy=>cases hy with
         |bool=>simp only[eqT];rw[rb (show und tab t=_ from ro hg)]
  case h_2 =>
   rename_i k1 a1 k2 a2
   cases hk:decide (k1=k2)
   . rw[hk]at h;cases h
   . rw[hk]at h;cases h;have hk:=BC hk
     cases hx with
     | pure hx=>cases hx with
       | int=>cases hy with
         | pure hy=>cases hy with
           |int=>simp only[eqT];rw[rb (show und tab t=_ from ro hg)];simp only[hk,if_true]
  case h_3=>
   cases h;cases hx with
   | pure hx=>cases hx with
     | str=>cases hy with
       | pure hy=>cases hy with
         |str=>simp only[eqT];rw[rb (show und tab t=_ from ro hg)]
  case h_4=>
   cases h;cases hx with
   | pure hx=>cases hx with
     | aW=>cases hy with
       | pure hy=>cases hy with
         |aW=>simp only[eqT];rw[rb (show und tab t=_ from ro hg)]
  case h_5=>
   cases h;cases hx with
   | pure hx=>cases hx with
     | aW=>cases hy with
       |pure hy=>cases hy
       |ptr hI=>simp only[eqT];rw[rb (show und tab t=_ from ro hg)]
  case h_6=>
   cases h;cases hx with
   |pure hx=>cases hx
   | ptr hI=>cases hy with
     | pure hy=>cases hy with
       |aW=>simp only[eqT];rw[rb (show und tab t=_ from ro hg)]
  case h_7=>
   cases h;cases hx with
   | pure hx=>cases hx with
     | wp=>cases hy with
       | pure hy=>cases hy with
         |aW=>simp only[eqT];rw[rb (show und tab t=_ from ro hg)]
  case h_8=>
   cases h;cases hx with
   | pure hx=>cases hx with
     | aW=>cases hy with
       | pure hy=>cases hy with
         |wp=>simp only[eqT];rw[rb (show und tab t=_ from ro hg)]
  case h_9=>
   cases h;cases hx with
   | pure hx=>cases hx with
     | nils=>cases hy with
       | pure hy=>cases hy with
         |nils=>simp only[eqT];rw[rb (show und tab t=_ from ro hg)]
  case h_10=>
   cases h;cases hx with
   | pure hx=>cases hx with
     | bh=>cases hy with
       | pure hy=>cases hy with
         |bh=>simp only[eqT];rw[rb (show und tab t=_ from ro hg)]
  case h_11=>cases hy with
   |pure hy=>cases hy
  case h_12=>cases hx with
   |pure hx=>cases hx
  case h_13=>
   cases h;cases hx with
   | pure hx=>cases hx with
     | bB=>cases hy with
       | pure hy=>cases hy with
         |bB=>simp only[eqT];rw[rb (show und tab t=_ from ro hg)]
  case h_14=>
   cases h;cases hx with
   | pure hx=>cases hx with
     | bB=>cases hy with
       | pure hy=>cases hy with
         |fn=>simp only[eqT];rw[rb (show und tab t=_ from ro hg)]
       |fn=>simp only[eqT];rw[rb (show und tab t=_ from ro hg)]
  case h_15=>
   cases h;cases hy with
   | pure hy=>cases hy with
     | bB=>cases hx with
       | pure hx=>cases hx with
         |fn=>simp only[eqT];rw[rb (show und tab t=_ from ro hg)]
       |fn=>simp only[eqT];rw[rb (show und tab t=_ from ro hg)]
  case h_16=>
   split at h
   . rename_i hh;have hA:∀{cs:List SV} {v:AV},aB C (.agg cs) v->∃us,v= .agg us/\aN C cs us:=by
       intro cs v hv
       cases hv with
       | pure hv=>cases hv with
         |agg h1 h2=>exact⟨_,rfl,h1,fun i s v hs hv=> .pure (h2 i s v hs hv)⟩
       |agg h1 h2=>exact⟨_,rfl,h1,h2⟩
     obtain⟨us,e1,h1⟩:=hA hx;obtain⟨ws,e2,h2⟩:=hA hy;subst e1;subst e2;simp only[eqT];rw[rb (show und tab t=_ from ro hg)];simp only[hh];exact hgo _ _ _ _ _ _ h h1 h2
   . cases h
theorem lx {cs:List SV} {v:AV} (hv:aB C (.agg cs) v):∃us,v= .agg us/\aN C cs us:=by
 cases hv with
 |pure hv=>cases hv with
  |agg h1 h2=>exact⟨_,rfl,h1,fun i s v hs hv=> .pure (h2 i s v hs hv)⟩
 |agg h1 h2=>exact⟨_,rfl,h1,h2⟩
theorem vA {cs:List SV} {v:AV} (hv:aB C (.bj cs) v):∃us,v= .bj us/\aN C cs us:=by
 cases hv with
 |pure hv=>cases hv with
  |bj h1 h2=>exact⟨_,rfl,h1,fun i s v hs hv=> .pure (h2 i s v hs hv)⟩
 |bj h1 h2=>exact⟨_,rfl,h1,h2⟩
theorem iI {k:IntKind} {n:Int} {v:AV} (hv:aB C (.int k n) v):v= .int k n:=by
 cases hv with
 |pure hv=>cases hv;rfl
theorem gH {s:List UInt8} {v:AV} (hv:aB C (.str s) v):v= .str s:=by
 cases hv with
 |pure hv=>cases hv;rfl
theorem lv {b:Bool} {v:AV} (hv:aB C (.bool b) v):v= .bool b:=by
 cases hv with
 |pure hv=>cases hv;rfl
theorem mX {v:AV} (hv:aB C .nils v):v= .nils:=by
 cases hv with
 |pure hv=>cases hv;rfl
theorem cm (x y:Int):bV x y=decide (x<y):=by
 rw[A4,Ae];unfold bV
 cases x with
 |ofNat a=>cases y with
  |ofNat b=>simp
  |negSucc b=>simp;omega
 |negSucc a=>cases y with
  |ofNat b=>simp;omega
  |negSucc b=>simp;omega
theorem fg (x y:Int):bG x y=decide (x<=y):=by
 rw[A4,Ae];unfold bG
 cases x with
 |ofNat a=>cases y with
  |ofNat b=>simp
  |negSucc b=>simp;omega
 |negSucc a=>cases y with
  |ofNat b=>simp;omega
  |negSucc b=>simp;omega
theorem HW {k:IntKind} {n:Int} (h:bC k n=true):k.wrap n=n:=by
 unfold bC at h;rw[fg,fg]at h;simp only[Ab,Ae]at h;obtain⟨h1,h2⟩:=h
 cases k<;>simp only[wN,wL,IntKind.wrap,IntKind.signed,IntKind.bits]at* <;>simp at* <;>omega
theorem vF {r:R AV} {s:SV} (h:ti r=some s):∃v,r= .ok v/\aB C s v:=by
 cases r with
 |no w=>cases h
 |ok v=>exact⟨v,rfl,Ie h⟩
theorem OZ {t:TypeId} {x y:SV} {u w:AV} {p:Bool} (h:fJ tab 8 t x y=some p) (hx:aB C x u) (hy:aB C y w) (hg:∀a b,x= .agg a->y= .agg b->tab.ka.get t=some false):eqOp tab a t u w= .ok p:=by
 have hh:=O1 8 t x y u w p h hx hy;have e:∀(u w:AV),(∀b i c j,u= .ptr b i->w= .ptr c j->False)->(∀a b,u= .agg a->w= .agg b->False)->(u= .fS->w= .fS->False)->eqOp tab a t u w=eqT tab 8 t u w:=by
  intro u w h1 h2 h3;unfold eqOp;split
  . exact(h1 _ _ _ _ rfl rfl).elim
  . exact(h2 _ _ rfl rfl).elim
  . exact(h3 rfl rfl).elim
  . rfl
 have h0:=h;unfold fJ at h;split at h
 case h_17=>cases h
 case h_16=>
  obtain⟨us,rfl,_⟩:=lx hx;obtain⟨ws,rfl,_⟩:=lx hy;unfold eqOp;simp only[hg _ _ rfl rfl];exact hh
 all_goals
  rw[e u w ?_ ?_ ?_]
  . exact hh
  all_goals (intros;subst_vars)
  all_goals first
    | (cases hx with
     |pure hx=>cases hx
     |_=>(cases hy with
      |pure hy=>cases hy))
    |(cases hx with
     |pure hx=>cases hx)
    |(cases hy with
     |pure hy=>cases hy)
    |skip
end
end
section
universe u v
variable [Inhabited aF]
section
variable {tab:aZ} {C:Cx} {h:SH} {a:AH}
def fB (C:Cx) (K:SV->Prop) (r:R AV):Prop:=∃s v,r= .ok v/\aB C s v/\K s
theorem fB.pure {K:SV->Prop} {s:SV} {v:AV} (h:aI C.Fz s v) (hk:K s):fB C K (.ok v):=⟨s,v,rfl, .pure h,hk⟩
theorem MQ {op:BinOp} {k:IntKind} {x y:Int} {K:SV->Prop} (h:yT op k x y K):fB C K (intOp op k x y):=by
 have fit:∀n:Int,(bif k.signed then ck (bC k n) (K (.int k n))else K (.int k (k.wrap n)))->fB C K (.ok (.int k (k.wrap n))):=by
  intro n hn
  cases hs:k.signed
  . rw[hs]at hn;exact fB.pure (.int k _) hn
  . rw[hs]at hn;obtain⟨h1,h2⟩:=cH hn;rw[HW h1];exact fB.pure (.int k _) h2
 unfold yT at h
 cases op
 case add=>exact fit _ h
 case sub=>exact fit _ h
 case mul=>exact fit _ h
 case quo=>
  obtain⟨h1,h2⟩:=cH h;have hy:¬y=0:=by simpa using h1
  simp only[intOp,if_neg hy];exact fit _ h2
 case rem=>
  obtain⟨h1,h2⟩:=cH h;have hy:¬y=0:=by simpa using h1
  simp only[intOp,if_neg hy];exact fB.pure (.int k _) h2
 case eql=>exact fB.pure (.bool _) h
 case neq=>exact fB.pure (.bool _) h
 case lss=>have h:K (.bool (bV x y)):=h;rw[cm]at h;exact fB.pure (.bool _) h
 case leq=>have h:K (.bool (bG x y)):=h;rw[fg]at h;exact fB.pure (.bool _) h
 case gtr=>have h:K (.bool (bV y x)):=h;rw[cm]at h;exact fB.pure (.bool _) h
 case geq=>have h:K (.bool (bG y x)):=h;rw[fg]at h;exact fB.pure (.bool _) h
 all_goals
  obtain⟨s,h1,h2⟩:=de h;obtain⟨v,h3,h4⟩:=vF h1;exact⟨s,v,h3,h4,h2⟩
theorem Hn {t:TypeId} {x y:SV} {p:Bool} {u w:AV} (h:fJ tab 8 t x y=some p) (hx:aB C x u) (hy:aB C y w):
  (∃k m j n,x= .int k m/\y= .int j n)\/(∃s s',x= .str s/\y= .str s')\/
   (Am.binOp tab a .eql t u w=(do .ok (.bool (<-eqOp tab a t u w)):R AV)/\Am.binOp tab a .neq t u w=(do .ok (.bool (!(<-eqOp tab a t u w))):R AV)):=by
 have key:(∀k m j n,u= .int k m->w= .int j n->False)->(∀s s',u= .str s->w= .str s'->False)->
   (Am.binOp tab a .eql t u w=(do .ok (.bool (<-eqOp tab a t u w)):R AV)/\Am.binOp tab a .neq t u w=(do .ok (.bool (!(<-eqOp tab a t u w))):R AV)):=by
  intro h1 h2;constructor<;>(unfold Am.binOp;split<;>first|contradiction|(exact(h1 _ _ _ _ rfl rfl).elim)|(exact(h2 _ _ rfl rfl).elim)|rfl|(rename_i hh _;cases hh)|skip)
 unfold fJ at h;split at h
 case h_2=>exact .inl ⟨_,_,_,_,rfl,rfl⟩
 case h_3=>exact .inr (.inl ⟨_,_,rfl,rfl⟩)
 case h_17=>cases h
 all_goals
  refine .inr (.inr (key ?_ ?_))
  all_goals (intros;subst_vars)
  all_goals first
   |(cases hx with
    |pure hx=>cases hx)
   |(cases hy with
    |pure hy=>cases hy)
   |(cases hx)
   |skip
theorem H3 {op:BinOp} {t:TypeId} {x y:SV} {K:SV->Prop} {u w:AV} (h:pe tab op t x y K) (hx:aB C x u) (hy:aB C y w):fB C K (Am.binOp tab a op t u w):=by
 have eqK:∀{p:Bool},fJ tab 8 t x y=some p->(∀a b,x= .agg a->y= .agg b->tab.ka.get t=some false)->eqOp tab a t u w= .ok p:=fun h1 h2=>OZ h1 hx hy h2
 unfold pe at h;split at h
 ·
   rw[iI hx,iI hy];rename_i k a1 j b1;obtain⟨h1,h2⟩:=cH h;obtain⟨s,h3,h4⟩:=de h2
   cases b1 with
   |negSucc m=>cases h1
   | ofNat m=>
     obtain⟨v,h5,h6⟩:=vF (C:=C) h3
     cases h5;refine⟨s,_,?_,h6,h4⟩;simp only[Am.binOp,shiftOp];rw[if_neg (by simp)]
 ·
   rw[iI hx,iI hy];rename_i k a1 j b1;obtain⟨h1,h2⟩:=cH h;obtain⟨s,h3,h4⟩:=de h2
   cases b1 with
   |negSucc m=>cases h1
   | ofNat m=>
     obtain⟨v,h5,h6⟩:=vF (C:=C) h3
     cases h5;refine⟨s,_,?_,h6,h4⟩;simp only[Am.binOp,shiftOp];rw[if_neg (by simp)]
 ·
   rename_i k a1 j b1 hn1 hn2;rw[iI hx,iI hy];obtain⟨h1,h2⟩:=cH h;have hk:k=j:=BC h1;subst hk;have:=MQ (C:=C) h2
   cases op<;>simp only[Am.binOp,if_true]<;>first|exact this|exact(hn1 rfl).elim|exact(hn2 rfl).elim
 . obtain⟨h1,h2⟩:=cH h;rw[gH hx,gH hy];simp only[Am.binOp,strOp];rw[if_pos (Al h1)];exact fB.pure (.str _) h2
 . rw[gH hx,gH hy];exact fB.pure (.bool _) h
 . rw[gH hx,gH hy];exact fB.pure (.bool _) h
 . rw[gH hx,gH hy];exact fB.pure (.bool _) h
 . rw[gH hx,gH hy];exact fB.pure (.bool _) h
 . rw[gH hx,gH hy];exact fB.pure (.bool _) h
 . rw[gH hx,gH hy];exact fB.pure (.bool _) h
 . split at h
   . rename_i hg;obtain⟨p,h1,h2⟩:=de h;have he:=eqK h1 (fun _ _ _ _=>hg);obtain⟨us,rfl,_⟩:=lx hx;obtain⟨ws,rfl,_⟩:=lx hy;simp only[Am.binOp];rw[rb he];exact fB.pure (.bool _) h2
   . exact h.elim
 . split at h
   . rename_i hg;obtain⟨p,h1,h2⟩:=de h;have he:=eqK h1 (fun _ _ _ _=>hg);obtain⟨us,rfl,_⟩:=lx hx;obtain⟨ws,rfl,_⟩:=lx hy;simp only[Am.binOp];rw[rb he];exact fB.pure (.bool _) h2
   . exact h.elim
 . rename_i n1 n2 n3;obtain⟨p,h1,h2⟩:=de h;have he:=eqK h1 (fun a b e1 e2=>(n3 a b e1 e2).elim);have hb:Am.binOp tab a .eql t u w=(do .ok (.bool (<-eqOp tab a t u w)):R AV):=by
     rcases Hn h1 hx hy with⟨k,m,j,n,rfl,rfl⟩|⟨s1,s2,rfl,rfl⟩|hne
     . exact(n1 _ _ _ _ rfl rfl).elim
     . exact(n2 _ _ rfl rfl).elim
     . exact hne.1
   rw[hb,rb he];exact fB.pure (.bool _) h2
 . rename_i n1 n2 n3;obtain⟨p,h1,h2⟩:=de h;have he:=eqK h1 (fun a b e1 e2=>(n3 a b e1 e2).elim);have hb:Am.binOp tab a .neq t u w=(do .ok (.bool (!(<-eqOp tab a t u w))):R AV):=by
     rcases Hn h1 hx hy with⟨k,m,j,n,rfl,rfl⟩|⟨s1,s2,rfl,rfl⟩|hne
     . exact(n1 _ _ _ _ rfl rfl).elim
     . exact(n2 _ _ rfl rfl).elim
     . exact hne.2
   rw[hb,rb he];exact fB.pure (.bool _) h2
 . exact h.elim
end
end
section
universe u v
variable [Inhabited aF]
section
variable {tab:aZ} {C:Cx} {h:SH} {a:AH}
theorem IM {op:UnOp} {x:SV} {K:SV->Prop} {u:AV} (h:zu op x K) (hx:aB C x u):fB C K (Am.unOp op u):=by
 unfold zu at h;split at h
 . rename_i k n;rw[iI hx];simp only[Am.unOp]
   cases hs:k.signed
   . rw[hs]at h;exact fB.pure (.int k _) h
   . rw[hs]at h;obtain⟨h1,h2⟩:=cH h;rw[HW h1];exact fB.pure (.int k _) h2
 . rw[iI hx];obtain⟨s,h1,h2⟩:=de h;obtain⟨v,h3,h4⟩:=vF h1;exact⟨s,v,h3,h4,h2⟩
 . rw[lv hx];exact fB.pure (.bool _) h
 . exact h.elim
theorem sx {x:SV} {K:Nat->Prop} {u:AV} (h:ll x K) (hx:aB C x u):∃n,asNat u= .ok n/\K n:=by
 unfold ll at h;split at h
 . rename_i k n;obtain⟨h1,h2⟩:=cH h;rw[iI hx]
   cases n with
   |negSucc m=>cases h1
   |ofNat m=>exact⟨m,rfl,h2⟩
 . exact h.elim
theorem uq {ts:Fr} {ta:T AV} (hF:FS C ts ta):∀{l:List (Nat×Operand)} {m:List (Nat×SV)},qK ts l=some m->∃vs,kF ta l= .ok vs/\vs.map (·.1)=m.map (·.1)/\aN C (m.map (·.2)) (vs.map (·.2)):=by
 intro l;induction l with
 |nil=>intro m h;simp only[qK,AL]at h;subst h;exact⟨[],rfl,rfl,aN.nil⟩
 |cons x l ih=>
  obtain⟨i,x⟩:=x;intro m h;simp only[qK]at h;split at h
  . rename_i s r h1 h2
    cases h;obtain⟨v,hv,g1⟩:=jV hF h1;obtain⟨vs,hvs,g2,g3⟩:=ih h2;refine⟨(i,v)::vs,?_,by simp[g2],aN.cons g1 g3⟩;simp only[kF];rw[rb hv,rb hvs]
  . cases h
theorem uI:∀{ps:List (Nat×Nat×SV)} {qs:List (Nat×Nat×AV)} {cs:List SV} {ca:List AV} {r:List SV},aN C cs ca->qs.map (fun x=>(x.1,x.2.1))=ps.map (fun x=>(x.1,x.2.1))->aN C (ps.map (·.2.2)) (qs.map (·.2.2))->o8 cs ps=some r->
  ∃ra,fill ca qs= .ok ra/\aN C r ra:=by
 intro ps;induction ps with
 |nil=>
  intro qs cs ca r hc hq _ h;simp only[o8,AL]at h;subst h
  cases qs with
  |nil=>exact⟨ca,rfl,hc⟩
  |cons q qs=>simp at hq
 | cons x ps ih=>
  intro qs cs ca r hc hq hs h
  cases qs with
  |nil=>simp at hq
  |cons q qs=>
   obtain⟨off,n,s⟩:=x;obtain⟨off',n',v⟩:=q;simp only[AP,BG,BR]at hq;obtain⟨⟨rfl,rfl⟩,hq⟩:=hq;simp only[AP]at hs;obtain⟨hv,hs⟩:=hs.head;simp only[o8]at h
   cases hb:(s.known&&Nat.beq s.cells.length n'&&Nat.ble (off'+n') cs.length)
   . rw[hb]at h;cases h
   . rw[hb]at h;simp only[A8]at h;simp only[Ab]at hb;obtain⟨⟨hk,hl⟩,hr⟩:=hb;obtain⟨l,h1,h2⟩:=ub hv hk;obtain⟨ra,h3,h4⟩:=ih (CU hc h2 off') hq hs h;refine⟨ra,?_,h4⟩;simp only[fill];rw[rb h1,rb (rc (by rw[<-h2.1,hl,<-hc.1,hr];rfl))];exact h3
theorem LP (fs:Array Field):∀{ps:List (Nat×SV)} {vs:List (Nat×AV)} {r:List (Nat×Nat×SV)},vs.map (·.1)=ps.map (·.1)->aN C (ps.map (·.2)) (vs.map (·.2))->sA tab fs ps=some r->
  ∃ra,oG tab fs vs= .ok ra/\ra.map (fun x=>(x.1,x.2.1))=r.map (fun x=>(x.1,x.2.1))/\aN C (r.map (·.2.2)) (ra.map (·.2.2)):=by
 intro ps;induction ps with
 |nil=>
  intro vs r hv _ h;simp only[sA,AL]at h;subst h
  cases vs with
  |nil=>exact⟨[],rfl,rfl,aN.nil⟩
  |cons q qs=>simp at hv
 | cons x ps ih=>
  intro vs r hv hs h
  cases vs with
  |nil=>simp at hv
  |cons q vs=>
   obtain⟨i,s⟩:=x;obtain⟨i',v⟩:=q;simp only[AP,BG]at hv;obtain⟨rfl,hv⟩:=hv;simp only[AP]at hs;obtain⟨hsv,hs⟩:=hs.head;simp only[sA]at h;split at h
   . rename_i f hf;split at h
     . rename_i n r' hn hr
       cases h;obtain⟨ra,h1,h2,h3⟩:=ih hv hs hr;refine⟨(f.offset,n,v)::ra,?_,by simp[h2],aN.cons hsv h3⟩;simp only[oG];rw[rb (show R.of "field" _= .ok f from ro hf),rb (show siz tab f.type= .ok n from ro hn),rb h1]
     . cases h
   . cases h
theorem FY {t:TypeId} {ps:List (Nat×SV)} {vs:List (Nat×AV)} {s:SV} (hv:vs.map (·.1)=ps.map (·.1)) (hs:aN C (ps.map (·.2)) (vs.map (·.2))) (h:yP tab t ps=some s):∃v,Am.build tab t vs= .ok v/\aB C s v:=by
 unfold yP at h;unfold Am.build;split at h
 . rename_i z fs hz hu;obtain⟨zv,zc,g1,g2,g3⟩:=oK (C:=C) hz;rw[rb g1,rb g2,rb (show und tab t=_ from ro hu)]
   cases hb:fs.toList.all (fun f=>(tab.siz.get f.type).isSome)
   . rw[hb]at h;cases h
   . rw[hb]at h;simp only[A8]at h;split at h
     . rename_i q hq;obtain⟨r,hr,rfl⟩:=Ap.1 h;obtain⟨ra,h1,h2,h3⟩:=LP fs hv hs hq;obtain⟨rb',h4,h5⟩:=uI g3 h2 h3 hr;simp only;rw[rb (rc hb),rb h1,rb h4];exact⟨_,rfl, .agg h5.1 h5.2⟩
     . cases h
 . rename_i z n e hz hu;split at h
   . rename_i m hm;obtain⟨r,hr,rfl⟩:=Ap.1 h;obtain⟨zv,zc,g1,g2,g3⟩:=oK (C:=C) hz;rw[rb g1,rb g2,rb (show und tab t=_ from ro hu)];simp only;rw[rb (show siz tab e=_ from ro hm)];obtain⟨rb',h4,h5⟩:=uI (qs:=vs.map fun x=>(x.1*m,m,x.2)) g3 (by
       simp only[Bw];have:=Ax (List.map (fun i=>(i*m,m))) hv;simpa [Bw,B7]using this) (by simpa [Bw,B7]using hs) hr
     rw[rb h4];exact⟨_,rfl, .agg h5.1 h5.2⟩
   . cases h
 . cases h
def jC (o:Option Nat) (d:R Nat):R Nat:=match o with|none=>d|some n=> .ok n
theorem uY {ts:Fr} {ta:T AV} (hF:FS C ts ta) {x:Option Operand} {K:Option Nat->Prop} (h:mP ts x K):∃o,K o/\ ∀d:R Nat,fh ta d x=jC o d/\(x=none↔o=none):=by
 unfold mP at h;split at h
 . exact⟨none,h,fun d=>⟨rfl,by simp⟩⟩
 . obtain⟨v,h1,h2⟩:=de h;obtain⟨u,h3,h4⟩:=jV hF h1;obtain⟨n,h5,h6⟩:=sx h2 h4;refine⟨some n,h6,fun d=>⟨?_,by simp⟩⟩;simp only[fh];rw[rb h3];exact h5
end
end
end Go.Sy
namespace Go.Sy
open Go.Am Go.RowKit
universe u v
variable [Inhabited aF]
section
variable {tab:aZ} {C:Cx} {h:SH} {a:AH}
theorem qD {α:Type u} {l:List α} {lo hi:Option Nat} {K:List α->Prop} (h:lg l lo hi K):lo.getD 0<=hi.getD l.length/\hi.getD l.length<=l.length/\K ((l.drop (lo.getD 0)).take (hi.getD l.length - lo.getD 0)):=by
 unfold lg at h;split at h
 . simpa using h
 . rename_i a;obtain⟨h1,h2⟩:=cH h;have h1:=Al h1;refine⟨by simpa using h1,by simp,?_⟩;simp only[AK,Option.getD_none];rw[As (by simp)];exact h2
 . rename_i b;obtain⟨h1,h2⟩:=cH h;have h1:=Al h1;refine⟨by simp,by simpa using h1,by simpa using h2⟩
 . rename_i a b;obtain⟨h1,h2⟩:=cH h;simp only[Ab]at h1;exact⟨by simpa using Al h1.1,by simpa using Al h1.2,h2⟩
theorem vD {X:Type} {L:List X} {enc:X->List SV} {v:AV} {Fz:Nat->Option AO} (hv:aI Fz (.aJ X L enc) v) (hL:L≠[]):∃b off cap cs e sz ext bk,v= .sl b off L.length cap/\eG Fz b cs e sz ext bk/\0<sz/\off+L.length*sz<=cs.length/\
  (∀(i:Nat) x,L[i]? =some x->(enc x).length=sz)/\nY cap off L.length sz ext/\ ∀(i:Nat) x (j:Nat) v,L[i]? =some x->(enc x)[j]? =some v->∃u,cs[off+i*sz+j]? =some u/\aI Fz v u:=by
 cases hv with
 |bL h0 _=>exact absurd (AG h0) hL
 |aJ b off cap cs e sz ext bk u hb hs hl hn hc h1 h2=>exact⟨b,off,cap,cs,e,sz,ext,bk,rfl,hb,hs,hl,hn,hc,fun i x j v hx hv=>⟨_,h1 i x j v hx hv,h2 i x j v hx hv⟩⟩
theorem vB {X:Type} {L:List X} {enc:X->List SV} {Fz:Nat->Option AO} (b off:Nat) (cap:fD) (cs:List AV) (e:TypeId) (sz:Nat) (ext:Bool) (bk:BK) (n:Nat) (hn':n=L.length)
   (hb:eG Fz b cs e sz ext bk) (hs:0<sz) (hl:off+L.length*sz<=cs.length) (hn:∀(i:Nat) x,L[i]? =some x->(enc x).length=sz) (hc:nY cap off L.length sz ext)
   (h1:∀(i:Nat) x (j:Nat) v,L[i]? =some x->(enc x)[j]? =some v->∃u,cs[off+i*sz+j]? =some u/\aI Fz v u):aI Fz (.aJ X L enc) (.sl b off n cap):=by
 subst hn';refine .aJ b off cap cs e sz ext bk (fun i j=>(cs[off+i*sz+j]?).getD (.bj [])) hb hs hl hn hc ?_ ?_
 . intro i x j v hx hv;obtain⟨u,h2,_⟩:=h1 i x j v hx hv;rw[h2];rfl
 . intro i x j v hx hv;obtain⟨u,h2,h3⟩:=h1 i x j v hx hv;rw[h2];exact h3
theorem ux {ta:T AV} {t e n:Nat} (hu:tab.und.get t=some (.slice e)) (hn:tab.siz.get e=some n) {X:Type} {L:List X} {enc:X->List SV} {v:AV} {Fz:Nat->Option AO} (hfz:∀i o,Fz i=some o->a.get i=some o) (hv:aI Fz (.aJ X L enc) v)
  (hlen:∀x:X,(enc x).length=n) {lo hi:Option Operand} {l u:Option Nat} (h1:∀d:R Nat,fh ta d lo=jC l d) (h2:∀d:R Nat,fh ta d hi=jC u d)
  (hle:l.getD 0<=u.getD L.length) (hle2:u.getD L.length<=L.length):∃w,iU tab ta a t v lo hi none= .ok (w,a)/\aI Fz (.aJ X ((L.drop (l.getD 0)).take (u.getD L.length - l.getD 0)) enc) w:=by
 by_cases hL:0<L.length
 case neg=>
  have hL0:L.length=0:=by omega
  have o1:fh ta (.ok 0) lo= .ok (l.getD 0):=by rw[h1];cases l<;>rfl
  have o2:∀d,fh ta (.ok d) hi= .ok (u.getD d):=by intro d;rw[h2];cases u<;>rfl
  rw[hL0]at hle hle2;have hu0:u.getD 0=0:=by omega
  have hl0:l.getD 0=0:=by omega
  have hr:((L.drop (l.getD 0)).take (u.getD L.length - l.getD 0)).length=0:=by simp;omega
  rw[hl0]at o1;unfold iU;rw[rb (show und tab t=_ from ro hu)]
  cases hv with
  |bL h0 hv=>
   rcases hv with rfl|⟨b,off,l1,n1,k,rfl⟩|⟨a',c,rfl⟩
   . refine⟨.nils,?_, .bL hr (.inl rfl)⟩;simp only;rw[rb (show siz tab e= .ok n from ro hn),rb o1,rb (o2 0),hu0];rfl
   . refine⟨.emp b off l1 n1 k,?_, .bL hr (.inr (.inl ⟨_,_,_,_,_,rfl⟩))⟩;simp only;rw[rb (show siz tab e= .ok n from ro hn),rb o1,rb (o2 0),hu0];rfl
   . refine⟨.raw (.slice a' 0 c),?_, .bL hr (.inr (.inr ⟨_,_,rfl⟩))⟩;simp only;rw[rb (show siz tab e= .ok n from ro hn),rb o1,rb (o2 0),hu0];rfl
  | aJ b off cap cs e' sz ext bk w hb hs hl hn' hc h1' h2'=>
   obtain⟨sz0,ext0,hb0,hx0⟩:=id hb;have hcl:=gx (hfz _ _ hb0);rw[hL0]at hc⊢;simp only
   cases cap with
   | lit m=>
     rw[rb (show capLow a b (.lit m)= .ok m from rfl),rb (show siz tab e= .ok n from ro hn),rb o1,rb (o2 0),hu0];simp only;rw[rb (rc (by simp))];refine⟨_,rfl,?_⟩;have:(aI Fz (.aJ X ((L.drop (l.getD 0)).take (0 - l.getD 0)) enc) (.sl b off ((L.drop (l.getD 0)).take (0 - l.getD 0)).length (.lit m))):=by
       refine .aJ b off (.lit m) cs e' sz ext bk w hb hs (by simp[hL0]at*;omega) (fun i x hx=>?_) (by simp[nY]) (fun i x j v hx=>?_) (fun i x j v hx=>?_)
       all_goals (simp at hx)
     simp at this⊢;exact this
   | tail k=>
     obtain⟨hext,hoff⟩:=hc;subst hext;obtain⟨hz1,hz2⟩:=hx0 rfl;have hz1:=hz1.symm;subst hz1;subst hz2;have hcap:capLow a b (.tail k)= .ok (cs.length / sz - k):=by
       simp only[capLow];rw[rb hcl];simp only;rw[rb (rc (by simp only[Bn,AI];exact fF (by omega)))];rfl
     rw[rb hcap,rb (show siz tab e= .ok n from ro hn),rb o1,rb (o2 0),hu0];simp only;rw[rb (rc (by simp))];refine⟨_,rfl,?_⟩;have:(aI Fz (.aJ X ((L.drop (l.getD 0)).take (0 - l.getD 0)) enc) (.sl b off ((L.drop (l.getD 0)).take (0 - l.getD 0)).length (.tail k))):=by
       refine .aJ b off (.tail k) cs e' sz true bk w hb hs (by simp[hL0]at*;omega) (fun i x hx=>?_) ⟨rfl,hoff⟩ (fun i x j v hx=>?_) (fun i x j v hx=>?_)
       all_goals (simp at hx)
     simp at this⊢;exact this
 case pos=>
  obtain⟨b,off,cap,cs,e',sz,ext,bk,rfl,hb,hs,hl,hsz,hc,hcell⟩:=vD hv (by rintro rfl;simp at hL);have hszn:sz=n:=by
   rw[<-hsz 0 _ (Ag hL),hlen]
  subst hszn;have o1:fh ta (.ok 0) lo= .ok (l.getD 0):=by rw[h1];cases l<;>rfl
  have o2:∀d,fh ta (.ok d) hi= .ok (u.getD d):=by intro d;rw[h2];cases u<;>rfl
  obtain⟨sz0,ext0,hb0,hx0⟩:=id hb;have hcl:=gx (hfz _ _ hb0);generalize l.getD 0=i at*
  generalize hj:u.getD L.length=j at*
  have hLl:((L.drop i).take (j - i)).length=j - i:=by simp;omega
  have hget:∀(q:Nat) x,((L.drop i).take (j - i))[q]? =some x->L[i+q]? =some x/\q<j - i:=by
   intro q x hx;rw[Be]at hx;split at hx
   . rename_i hq;rw[BN]at hx;exact⟨hx,hq⟩
   . cases hx
  have hmul:∀q,off+i*sz+q*sz=off+(i+q)*sz:=by intro q;rw[Bq];omega
  have hbound:off+i*sz+(j - i)*sz<=cs.length:=by
   rw[hmul];have:(i+(j - i))*sz<=L.length*sz:=Bp _ (by omega);omega
  have mk:∀cap',nY cap' (off+i*sz) (j - i) sz ext->aI Fz (.aJ X ((L.drop i).take (j - i)) enc) (.sl b (off+i*sz) (j - i) cap'):=by
   intro cap' hcap;refine vB b (off+i*sz) cap' cs e' sz ext bk _ hLl.symm hb hs (by rw[hLl];exact hbound) (fun q x hx=>hsz _ x (hget q x hx).1) (by rw[hLl];exact hcap) ?_;intro q x k s hx hs';obtain⟨w,g1,g2⟩:=hcell _ x k s (hget q x hx).1 hs';exact⟨w,by rw[hmul];exact g1,g2⟩
  have empty:j - i=0->∀w,(w= .nils\/(∃b off l n k,w= .emp b off l n k)\/ ∃a c,w= .raw (.slice a 0 c))->aI Fz (.aJ X ((L.drop i).take (j - i)) enc) w:=fun h0 w hw=> .bL (by rw[hLl,h0]) hw
  unfold iU;rw[rb (show und tab t=_ from ro hu)];simp only
  cases cap with
  |lit m=>
   have hcm:L.length<=m:=hc;rw[rb (show capLow a b (.lit m)= .ok m from rfl),rb (show siz tab e= .ok sz from ro hn),rb o1,rb (o2 _),hj];simp only;rw[rb (rc (by simp only[Ab,AW];omega))];refine⟨_,rfl,?_⟩;by_cases hm:m=i
   . subst hm;simp only[BS,A8];have h0:j - m=0:=by omega
     rw[h0];refine vB b off _ cs e' sz ext bk 0 (by simp) hb hs (by simp;omega) (fun q x hx=>by simp at hx) (by simp[nY]) (fun q x k s hx=>by simp at hx)
   . rw[fF hm];simp only[AJ];exact mk _ (by simp only[nY];omega)
  |tail k=>
   obtain⟨hext,hoff⟩:=hc;subst hext;obtain⟨hz1,hz2⟩:=hx0 rfl;have hz1:=hz1.symm;subst hz1;subst hz2;have hcap:capLow a b (.tail k)= .ok (cs.length / sz - k):=by
     simp only[capLow];rw[rb hcl];simp only;rw[rb (rc (by simp only[Bn,AI];exact fF (by omega)))];rfl
   have hge:L.length<=cs.length / sz - k:=by
     have:(k+L.length)*sz<=cs.length:=by rw[Bq,<-hoff];exact hl
     have:=(Fi hs).2 this;omega
   rw[rb hcap,rb (show siz tab e= .ok sz from ro hn),rb o1,rb (o2 _),hj];simp only;rw[rb (rc (by simp only[Ab,AW];omega))];by_cases hi0:i=0
   . subst hi0;simp only[BS,A8];have:=mk (.tail k) ⟨rfl,by simpa using hoff⟩;simp only[D2,Bk,Dd]at this;exact⟨_,rfl,by simpa using this⟩
   . rw[fF hi0];simp only[AJ];by_cases hlt:i<cs.length / sz - k
     . rw[show Nat.blt i (cs.length / sz - k)=true from by simpa using hlt];simp only[A8];exact⟨_,rfl,mk _ ⟨rfl,by rw[Bq,hoff]⟩⟩
     . rw[show Nat.blt i (cs.length / sz - k)=false from AN.2 fun e=>hlt (by simpa using e)];simp only[AJ];exact⟨_,rfl,empty (by omega) _ (.inr (.inl ⟨_,_,_,_,_,rfl⟩))⟩
 end
 end Go.Sy
namespace Go.Sy
open Go.Am Go.RowKit
section
universe u v
variable [Inhabited aF]
section
variable {tab:aZ} {view:TypeId->Option View} {C:Cx} {s:St} {ta:T AV} {a:AH}
def aD (tab:aZ) (C:Cx) (s:St) (ta:T AV) (a:AH) (K:SV->St->Prop) (r:R (AV×AH)):Prop:=∃sv s' v a',K sv s'/\r= .ok (v,a')/\nJ tab C s ta a sv s' v a'
theorem aD.same {K:SV->St->Prop} (hF:FS C s.ts ta) (H:HS tab C s.h a) {sv:SV} {v:AV} (hv:aB C sv v) (hk:K sv s):aD tab C s ta a K (.ok (v,a)):=⟨sv,s,v,a,hk,rfl,nJ.same hF H hv⟩
theorem aD.val {K:SV->St->Prop} (hF:FS C s.ts ta) (H:HS tab C s.h a) {r:R AV} (h:fB C (fun v=>K v s) r):aD tab C s ta a K (do .ok (<-r,a)):=by
 obtain⟨sv,v,h1,h2,h3⟩:=h;rw[rb h1];exact aD.same hF H h2 h3
theorem MT (hF:FS C s.ts ta) (H:HS tab C s.h a) {t:TypeId} {x:SV} {v:AV} (hv:aB C x v) {lo hi:Option Operand} {K:SV->St->Prop} (h:sL tab s t x lo hi K):aD tab C s ta a K (iU tab ta a t v lo hi none):=by
 unfold sL at h;obtain⟨l,h1,hl⟩:=uY hF h;obtain⟨u,h2,hu⟩:=uY hF h1;clear h h1;have h:=h2;clear h2;have o1:∀d:R Nat,fh ta d lo=jC l d:=fun d=>(hl d).1
 have o2:∀d:R Nat,fh ta d hi=jC u d:=fun d=>(hu d).1
 clear hl hu;split at h
 . rename_i c hg;rw[gH hv];obtain⟨h1,h2,h3⟩:=qD h;unfold iU;rw[rb (show und tab t=_ from ro hg)];simp only;rw[rb (show R.check "slice: max" (none:Option Operand).isNone= .ok ()from rfl),rb (show fh ta (.ok 0) lo= .ok (l.getD 0)from by rw[o1];cases l<;>rfl),rb (show fh ta (.ok c.length) hi= .ok (u.getD c.length)from by rw[o2];cases u<;>rfl),
     rb (rc (by simp only[Ab,AW];omega))]
   exact aD.same hF H (.pure (.str _)) h3
 . rename_i e X L enc hg;split at h
   . rename_i n hn;obtain⟨hlen,h⟩:=h;obtain⟨h1,h2,h3⟩:=qD h;obtain⟨w,h4,h5⟩:=ux hg hn H.fz (kf hv rfl) hlen o1 o2 h1 h2;rw[h4];exact aD.same hF H (.pure h5) h3
   . exact h.elim
 . rename_i e b hg;split at h
   . rename_i X L enc t' n hb hn;obtain⟨hlen,h⟩:=h;obtain⟨h1,h2,h3⟩:=qD h;obtain⟨C',e1,e2,e3,e4,e5,e6⟩:=kx hF H hb;obtain⟨w,h4,h5⟩:=ux hg hn e3.fz (e5 v hv) hlen o1 o2 h1 h2;exact⟨_,_,w,a,h3,h4,⟨C',_,e1,e2, .pure h5,e3,e4,e6.aU _⟩,Grow.refl a⟩
   . exact h.elim
 . rename_i e b off len cap hg;split at h
   . rename_i n hn;obtain⟨h1,h2⟩:=cH h;simp only[Ab]at h1
     cases hv with
     |pure hv=>cases hv
     | sl hI=>
      unfold iU;rw[rb (show und tab t=_ from ro hg)];simp only;rw[rb (show capLow a _ (.lit cap)= .ok cap from rfl),rb (show siz tab e= .ok n from ro hn),rb (show fh ta (.ok 0) lo= .ok (l.getD 0)from by rw[o1];cases l<;>rfl),
       rb (show fh ta (.ok len) hi= .ok (u.getD len)from by rw[o2];cases u<;>rfl),
       rb (rc (by simp only[Ab];exact h1))]
      exact aD.same hF H (.sl hI) h2
   . exact h.elim
 . exact h.elim
theorem HS.fresh (H:HS tab C s.h a) (ca:List AV) (e:TypeId) (sz:Nat) (ext:Bool) (bk:BK):∃C':Cx,C.le C'/\C'.Fz a.next=some (.cells ca e sz ext bk)/\HS tab C' s.h (a.new (.cells ca e sz ext bk)):=by
 classical
 let C':Cx:={C with Fz:=fun i=>if i=a.next then some (.cells ca e sz ext bk)else C.Fz i}
 have hfz:∀i o,C.Fz i=some o->C'.Fz i=some o:=by
   intro i o hi;have:=H.wf _ _ (H.fz i o hi);simp only[C'];rw[if_neg (by omega)];exact hi
 have hle:C.le C':=⟨fun _ _ h=>h,hfz⟩;have hblk:∀p o I,s.h.get p=some o->C.ρ p=some I->I.cap.isSome->I.β≠a.next:=by
   intro p o I hp hI hc;obtain⟨b,hb⟩:=(H.at_ hp hI).live hc;have:=H.wf _ _ hb;omega
 refine⟨C',hle,by simp[C'],⟨?_,H.inj,?_,?_,H.lt,?_⟩⟩
 . intro p o hp;obtain⟨I,hI,ho⟩:=H.obj p o hp;refine⟨I,hI,?_⟩;have ho':=ho.le hle;by_cases hc:I.cap.isSome
   . exact ho'.congr (by rw[AH.aL,if_neg (hblk p o I hp hI hc)])
   . cases o with
     |cells cs t=>exact absurd ho.1 hc
     |arr X L enc t=>
      obtain⟨g1,g2,g3,g4,g5⟩:=ho';refine⟨g1,g2,g3,g4,?_⟩
      cases hcap:I.cap with
      |none=>rw[hcap]at g5;exact g5
      |some c=>rw[hcap]at hc;simp at hc
 . intro i o hi;simp only[C']at hi;rw[AH.aL];split at hi
   . rename_i e;rw[if_pos e];exact hi
   . rename_i e;rw[if_neg e];exact H.fz i o hi
 . intro p o I hp hI hc;simp only[C'];rw[if_neg (hblk p o I hp hI hc)];exact H.dj p o I hp hI hc
 . intro i o hi;rw[AH.aL]at hi;simp only[AH.cR];split at hi
   . omega
   . have:=H.wf i o hi;omega
theorem gP {e n:Nat} (hn:tab.siz.get e=some n) (cs:List AV) (ext:Bool) (bk:BK):Am.newRow tab a e cs ext bk= .ok (a.new (.cells cs e n ext bk),a.next):=by
 unfold Am.newRow;rw[rb (show siz tab e= .ok n from ro hn)]
theorem NG {c:List UInt8} {i:Nat} {x:UInt8} (hx:c[i]? =some x) {j:Nat} {v:SV} (hv:(cG x)[j]? =some v):j=0/\v= .int .u8 (.ofNat x.toNat):=by
 cases j with
 |zero=>simp[cG]at hv;exact⟨rfl,hv.symm⟩
 |succ j=>simp[cG]at hv
theorem rE:∀{c:List UInt8},bytesOf (c.map fun b=>AV.int .u8 (.ofNat b.toNat))= .ok c:=by
 intro c;induction c with
 |nil=>rfl
 |cons x c ih=>
  simp only[AP,bytesOf];rw[rb ih];simp
theorem CM {Fz:Nat->Option AO} (hfz:∀i o,Fz i=some o->a.get i=some o) {c:List UInt8} {v:AV} (hv:aI Fz (.aJ UInt8 c cG) v):
  v= .nils/\c=[]\/((∃b off l n k,v= .emp b off l n k)\/ ∃a c,v= .raw (.slice a 0 c))/\c=[]\/ ∃b off cap,v= .sl b off c.length cap/\readN a b off c.length= .ok (c.map fun b=>AV.int .u8 (.ofNat b.toNat)):=by
 cases hv with
 |bL h0 hv=>
  have:=AG h0;rcases hv with rfl|hv
  . exact .inl ⟨rfl,this⟩
  . exact .inr (.inl ⟨hv,this⟩)
 | aJ b off cap cs e sz ext bk u hb hs hl hn hc h1 h2=>
  refine .inr (.inr ⟨b,off,cap,rfl,?_⟩);obtain⟨sz0,ext0,hb,hx0⟩:=hb;have hsz:c≠[]->sz=1:=by
    intro hc0
    cases c with
    |nil=>exact absurd rfl hc0
    |cons x c=>rw[<-hn 0 x rfl];rfl
  unfold readN;rw[rb (gx (hfz _ _ hb))];simp only;have hle:off+c.length<=cs.length:=by
    by_cases h0:c=[]
    . subst h0;simp at hl⊢;exact hl
    . rw[hsz h0]at hl;omega
  rw[rb (rc (by simp only[AW];exact hle))];congr 1
  apply B5
  intro i;rw[Be,Au];by_cases hi:i<c.length
  . rw[if_pos hi,BN];have hx:=Ag hi;have h0:c≠[]:=by rintro rfl;simp at hi
    have g1:=h1 i _ 0 _ hx rfl;have g2:=h2 i _ 0 _ hx rfl;rw[hsz h0]at g1;simp only[Nat.mul_one,Bk]at g1;rw[g1,hx]
    cases g2h:u i 0 with
    | int k n=>
      rw[g2h]at g2
      cases g2;rfl
    |_=>rw[g2h]at g2;cases g2
  . rw[if_neg hi,Bl (by omega)];rfl
theorem NA (hF:FS C s.ts ta) (H:HS tab C s.h a) {src dst:TypeId} {x:SV} {v:AV} (hv:aB C x v) {K:SV->St->Prop} (h:vU tab s src dst x K):aD tab C s ta a K (l9 tab a src dst v):=by
 have hnu:∀{d:TypeDesc},tab.und.get dst=some d->(d≠ .unsafePointer)->(∀u,d≠ .pointer u)->l9 tab a src dst v=Am.convert tab a src dst v:=by
   intro d hd h1 h2;unfold l9;rw[rb (show und tab dst=_ from ro hd)]
   cases d<;>first|rfl|exact absurd rfl h1|exact absurd rfl (h2 _)
 unfold vU at h;split at h
 . rename_i d k j n hs hd;rw[hnu hd (by simp) (by simp),iI hv];unfold Am.convert;rw[rb (show und tab src=_ from ro hs),rb (show und tab dst=_ from ro hd)];exact aD.same hF H (.pure (.int _ _)) h
 . rename_i d c hs hd;rw[hnu hd (by simp) (by simp),gH hv];unfold Am.convert;rw[rb (show und tab src=_ from ro hs),rb (show und tab dst=_ from ro hd)];exact aD.same hF H (.pure (.str _)) h
 . rename_i d e c hs hd;split at h
   . rename_i he hz;rw[hnu hd (by simp) (by simp),gH hv];unfold Am.convert;rw[rb (show und tab src=_ from ro hs),rb (show und tab dst=_ from ro hd)];obtain⟨C',g1,g2,g3⟩:=H.fresh (kG c) e 1 true .mark;have hsim:aI C'.Fz (.aJ UInt8 c cG) (.sl a.next 0 c.length (.tail 0)):=by
       refine vB a.next 0 _ (kG c) e 1 true .mark _ rfl (.of g2) (by omega) (by simp[kG]) (fun i x _=>rfl) ⟨rfl,rfl⟩ ?_;intro i x j w hx hw;obtain⟨rfl,rfl⟩:=NG hx hw;refine⟨_,?_, .int _ _⟩;simp[kG,hx]
     have hr:Am.newRow tab a e (kG c) true .mark= .ok (a.new (.cells (kG c) e 1 true .mark),a.next):=gP hz _ _ _;have:aD tab C s ta a K (.ok (.sl a.next 0 c.length (.tail 0),a.new (.cells (kG c) e 1 true .mark))):=
       ⟨_,s,_,_,h,rfl,⟨C',[],by simp,g1.tr, .pure hsim,g3,hF.le g1,cN.new H _ _ g1 (fun p o h=>⟨o,h⟩)⟩,Grow.new a _⟩
     cases d<;>simp only<;>(rw[rb (show und tab e=_ from ro he)];simp only;rw[rb (show siz tab e= .ok 1 from ro hz),rb (show R.check "convert: size" (Nat.beq 1 1)= .ok ()from rfl),rb hr];exact this)
   . exact h.elim
 . rename_i e hs hd;split at h
   . rename_i he;rw[hnu hd (by simp) (by simp),mX hv];unfold Am.convert;rw[rb (show und tab src=_ from ro hs),rb (show und tab dst=_ from ro hd)];simp only;rw[rb (show und tab e=_ from ro he)];exact aD.same hF H (.pure (.str _)) h
   . exact h.elim
 . rename_i e X L enc hs hd;split at h
   . rename_i he;obtain⟨c,h1,h2⟩:=h;rw[h1]at hv;rw[hnu hd (by simp) (by simp)];unfold Am.convert;rw[rb (show und tab src=_ from ro hs),rb (show und tab dst=_ from ro hd)];rcases CM H.fz (kf hv rfl)with⟨rfl,rfl⟩|⟨⟨b,off,l,n,k,rfl⟩|⟨a1,c1,rfl⟩,rfl⟩|⟨b,off,cap,rfl,hr⟩
     . simp only;rw[rb (show und tab e=_ from ro he)];exact aD.same hF H (.pure (.str _)) h2
     . simp only;rw[rb (show und tab e=_ from ro he)];exact aD.same hF H (.pure (.str _)) h2
     . simp only;rw[rb (show und tab e=_ from ro he)];exact aD.same hF H (.pure (.str _)) h2
     . simp only;rw[rb (show und tab e=_ from ro he)];simp only;rw[rb hr,rb rE];exact aD.same hF H (.pure (.str _)) h2
   . exact h.elim
 . rename_i e b hs hd;split at h
   . rename_i X L enc t' he hb;obtain⟨c,h1,h2⟩:=h;obtain⟨C',e1,e2,e3,e4,e5,_⟩:=kx hF H hb;have hv':=e5 v hv;rw[h1]at hv';rw[hnu hd (by simp) (by simp)];unfold Am.convert;rw[rb (show und tab src=_ from ro hs),rb (show und tab dst=_ from ro hd)];rcases CM e3.fz hv' with⟨rfl,rfl⟩|⟨⟨b,off,l,n,k,rfl⟩|⟨a1,c1,rfl⟩,rfl⟩|⟨b,off,cap,rfl,hr⟩
     . simp only;rw[rb (show und tab e=_ from ro he)];exact aD.same hF H (.pure (.str _)) h2
     . simp only;rw[rb (show und tab e=_ from ro he)];exact aD.same hF H (.pure (.str _)) h2
     . simp only;rw[rb (show und tab e=_ from ro he)];exact aD.same hF H (.pure (.str _)) h2
     . simp only;rw[rb (show und tab e=_ from ro he)];simp only;rw[rb hr,rb rE];exact aD.same hF H (.pure (.str _)) h2
   . exact h.elim
 . rename_i e b off len cap hs hd;split at h
   . rename_i cs t' he hb;obtain⟨hle,c,h1,h2⟩:=cH h;have hle:=Al hle;rw[hnu hd (by simp) (by simp)]
     cases hv with
     |pure hv=>cases hv
     | @sl _ _ _ _ I hI=>
       obtain⟨_,ca,sz,g1,g2,_⟩:=H.at_ hb hI;have hcl:=g2.1;have hr:readN a I.β off len= .ok (c.map fun b=>AV.int .u8 (.ofNat b.toNat)):=by
        unfold readN;rw[rb (gx g1)];simp only;rw[rb (rc (by simp only[AW];omega))];congr 1
        apply B5
        intro i;have hS:=(g2.drop off).take len;rw[h1]at hS
        cases hq:(o6 c)[i]? with
        |none=>
         have hn:=Ec.1 hq;rw[Bl (by rw[<-hS.1];exact hn),Bl (by simpa [o6]using hn)]
        |some v=>
         have hlt:=(Ad.1 hq).1;have hlt2:i<(List.take len (List.drop off ca)).length:=by rw[<-hS.1];exact hlt
         have hsv:=hS.2 i v _ hq (Ag hlt2);unfold o6 at hq;rw[Au]at hq⊢;obtain⟨b',hb',rfl⟩:=Ap.1 hq;rw[Ag hlt2,iI hsv,hb'];rfl
       unfold Am.convert;rw[rb (show und tab src=_ from ro hs),rb (show und tab dst=_ from ro hd)];simp only;rw[rb (show und tab e=_ from ro he)];simp only;rw[rb hr,rb rE];exact aD.same hF H (.pure (.str _)) h2
   . exact h.elim
 . exact h.elim
end
end
section
universe u v
variable [Inhabited aF]
section
variable {tab:aZ} {view:TypeId->Option View} {C:Cx} {s:St} {ta:T AV} {a:AH} {h:SH}
structure Told (Fz:Nat->Option AO) (X:Type) (l:List X) (enc:X->List SV) (n:Nat) (news:List AV):Prop where
 len:news.length=l.length*n
 each:∀(i:Nat) x,l[i]? =some x->(enc x).length=n
 cell:∀(i:Nat) x (j:Nat) v,l[i]? =some x->(enc x)[j]? =some v->∃u,news[i*n+j]? =some u/\aI Fz v u
 one:news.all kH=true
theorem zI {s:SV} (h:lz s=true):uL s=true:=by cases s<;>first|rfl|cases h
theorem Nf {Fz:Nat->Option AO} {s:SV} {v:AV} (h:aI Fz s v) (hp:lz s=true):kH v=true:=Gj (C:=⟨fun _=>none,Fz⟩) (.pure h) (zI hp)
theorem MF {news:List AV} {n:Nat} (hn:n≠0) {m:Nat} (hl:news.length=m*n) (h:∀i j,i<m->j<n->∀u,news[i*n+j]? =some u->kH u=true):news.all kH=true:=by
 rw[AE];intro v hv;obtain⟨q,hq⟩:=Bt.1 hv;have hlt:q<m*n:=by rw[<-hl];exact(Ad.1 hq).1
 have h1:q / n<m:=by
  apply (Nat.div_lt_iff_lt_mul (by omega)).2;exact hlt
 have h2:q % n<n:=Nat.mod_lt _ (by omega);refine h (q / n) (q % n) h1 h2 v ?_;rw[Nat.mul_comm,Nat.div_add_mod];exact hq
theorem C9 {X:Type} {L:List X} {enc:X->List SV} {v:AV} {Fz:Nat->Option AO} {n:Nat} (hfz:∀i o,Fz i=some o->a.get i=some o) (hv:aI Fz (.aJ X L enc) v) (hn:n≠0) (he:∀x:X,(enc x).length=n/\(enc x).all lz=true):
   ∃news,source a n v= .ok (L.length,news)/\Told Fz X L enc n news:=by
 by_cases hL:L=[]
 . subst hL;have ht:Told Fz X [] enc n []:=⟨by simp,fun i x hx=>by simp at hx,fun i x j v hx=>by simp at hx,rfl⟩
   cases hv with
   | bL h0 hv=>
     rcases hv with rfl|⟨b,off,l,k,c,rfl⟩|⟨a,c,rfl⟩
     . exact⟨[],rfl,ht⟩
     . exact⟨[],rfl,ht⟩
     . exact⟨[],rfl,ht⟩
   | aJ b off cap cs e sz ext bk u hb hs hl hsz hc h1 h2=>
     obtain⟨sz0,ext0,hb,hx0⟩:=hb;refine⟨[],?_,ht⟩;simp only[source,Bb,D2];unfold readN;rw[rb (gx (hfz _ _ hb))];simp only;rw[rb (rc (by simp only[AW];simpa using hl))];simp;rfl
 . obtain⟨b,off,cap,cs,e',sz,ext,bk,rfl,hb,hs,hl,hsz,hc,hcell⟩:=vD hv hL;obtain⟨sz0,ext0,hb,hx0⟩:=hb;have hszn:sz=n:=by
     obtain⟨x,hx⟩:∃x,L[0]? =some x:=⟨L[0]'(by cases L with|nil=>exact absurd rfl hL|cons=>simp),by simp⟩;rw[<-hsz 0 x hx,(he x).1]
   subst hszn;have hr:readN a b off (L.length*sz)= .ok ((cs.drop off).take (L.length*sz)):=by
     unfold readN;rw[rb (gx (hfz _ _ hb))];simp only;rw[rb (rc (by simp only[AW];exact hl))]
   have hlen:((cs.drop off).take (L.length*sz)).length=L.length*sz:=by simp;omega
   have hget:∀(i j:Nat),i<L.length->j<sz->((cs.drop off).take (L.length*sz))[i*sz+j]? =cs[off+i*sz+j]? :=by
     intro i j hi hj;rw[Be,if_pos,BN,BZ]
     calc i*sz+j<i*sz+sz:=by omega
       _=(i+1)*sz:=by rw[Bq,DD]
       _<=L.length*sz:=Bp _ hi
   have hcell':∀(i:Nat) x (j:Nat) v,L[i]? =some x->(enc x)[j]? =some v->∃u,((cs.drop off).take (L.length*sz))[i*sz+j]? =some u/\aI Fz v u:=by
     intro i x j v hx hv;obtain⟨u,h1,h2⟩:=hcell i x j v hx hv;refine⟨u,?_,h2⟩;rw[hget i j (Ad.1 hx).1 (by rw[<-(he x).1];exact(Ad.1 hv).1)];exact h1
   refine⟨_,?_,hlen,hsz,hcell',MF (by omega) hlen ?_⟩
   . simp only[source];rw[rb hr]
   . intro i j hi hj u hu;have hx:=Ag hi;have hjl:j<(enc L[i]).length:=by rw[(he _).1];exact hj
     have hv:=Ag hjl;obtain⟨w,h1,h2⟩:=hcell' i _ j _ hx hv;rw[hu]at h1;cases h1;exact Nf h2 (AE.1 (he L[i]).2 _ (AF hjl))
theorem FC (n:Nat):∀(m:Nat) (l:List SV) (i:Nat),i<m->(fv n m l)[i]? =some ((l.drop (i*n)).take n):=by
 intro m;induction m with
 |zero=>intro l i h;omega
 | succ m ih=>
  intro l i h
  cases i with
  |zero=>simp[fv]
  |succ i=>
   simp only[fv,AY];rw[ih _ _ (by omega),Et,Bq,DD,Nat.add_comm]
theorem xB (n:Nat):∀(m:Nat) (l:List SV),(fv n m l).length=m:=by
 intro m;induction m with
 |zero=>intro l;rfl
 |succ m ih=>intro l;simp[fv,ih]
theorem Iy {X:Type} {enc:X->List SV}:∀{c:List (List SV)} {K:List X->Prop},tB enc c K->∃l,l.length=c.length/\(∀(i:Nat) x q,l[i]? =some x->c[i]? =some q->enc x=q)/\K l:=by
 intro c;induction c with
 |nil=>intro K h;exact⟨[],rfl,fun i x q h=>by simp at h,h⟩
 |cons q c ih=>
  intro K h;obtain⟨x,hx,h⟩:=h;obtain⟨l,h1,h2,h3⟩:=ih h;refine⟨x::l,by simp[h1],fun i y r hy hr=>?_,h3⟩
  cases i with
  |zero=>simp at hy hr;subst hy;subst hr;exact hx
  |succ i=>exact h2 i y r (by simpa using hy) (by simpa using hr)
theorem xc {X:Type} {enc:X->List SV} {n m:Nat} (hn:n≠0) {cs:List SV} {ca:List AV} (hc:aN C cs ca) (hl:cs.length=m*n) (hp:cs.all lz=true) {l:List X} (hll:l.length=m)
   (he:∀(i:Nat) x q,l[i]? =some x->(fv n m cs)[i]? =some q->enc x=q):Told C.Fz X l enc n ca:=by
 have hsub:∀i,i<m->i*n+n<=m*n:=by
   intro i hi
   calc i*n+n=(i+1)*n:=by rw[Bq,DD]
     _<=m*n:=Bp _ hi
 refine⟨by rw[<-hc.1,hl,hll],?_,?_,?_⟩
 . intro i x hx;have hi:i<m:=by rw[<-hll];exact(Ad.1 hx).1
   rw[he i x _ hx (FC n m cs i hi)];have:=hsub i hi;simp;omega
 . intro i x j v hx hv;have hi:i<m:=by rw[<-hll];exact(Ad.1 hx).1
   rw[he i x _ hx (FC n m cs i hi),Be]at hv;split at hv
   . rename_i hj;rw[BN]at hv;obtain⟨u,h1,h2⟩:=hc.get hv;exact⟨u,h1,kf h2 (AE.1 hp _ (BP hv))⟩
   . cases hv
 . refine C7 hc ?_;rw[AE]at hp⊢;exact fun x hx=>zI (hp x hx)
theorem On {X:Type} {L M:List X} {enc:X->List SV} {n:Nat} {ca news:List AV} {Fz:Nat->Option AO} (hl:ca.length=L.length*n) (hL:∀(i:Nat) x,L[i]? =some x->(enc x).length=n)
   (hc:∀(i:Nat) x (j:Nat) v,L[i]? =some x->(enc x)[j]? =some v->∃u,ca[i*n+j]? =some u/\aI Fz v u) (hM:Told Fz X M enc n news):
   (ca++news).length=(L++M).length*n/\(∀(i:Nat) x,(L++M)[i]? =some x->(enc x).length=n)/\
     ∀(i:Nat) x (j:Nat) v,(L++M)[i]? =some x->(enc x)[j]? =some v->∃u,(ca++news)[i*n+j]? =some u/\aI Fz v u:=by
 have hlt:∀i j,i<L.length->j<n->i*n+j<L.length*n:=by
   intro i j hi hj
   calc i*n+j<(i+1)*n:=by rw[Bq,DD];omega
     _<=L.length*n:=Bp _ hi
 refine⟨by rw[Bj,Bj,hl,hM.len,Bq],?_,?_⟩
 . intro i x hx;by_cases hi:i<L.length
   . rw[AX hi]at hx;exact hL i x hx
   . rw[A3 (by omega)]at hx;exact hM.each _ x hx
 . intro i x j v hx hv;by_cases hi:i<L.length
   . rw[AX hi]at hx;have hj:j<n:=by rw[<-hL i x hx];exact(Ad.1 hv).1
     obtain⟨u,h1,h2⟩:=hc i x j v hx hv;exact⟨u,by rw[AX (by rw[hl];exact hlt i j hi hj)];exact h1,h2⟩
   . rw[A3 (by omega)]at hx;obtain⟨u,h1,h2⟩:=hM.cell _ x j v hx hv;refine⟨u,?_,h2⟩;have hge:L.length*n<=i*n:=Bp _ (by omega);rw[A3 (by rw[hl];omega),hl];rw[Nat.sub_mul]at h1;rw[<-h1];congr 1;omega
def qM (by_ m:Nat):Prop:=(Nat.ble (m*by_) 16777216&&Nat.ble m 16777216)=true
theorem KA (H:HS tab C h a) {d:Nat} {X:Type} {L M:List X} {enc:X->List SV} {e n by_:Nat} {u:AV} {news:List AV} (hd:h.get d=some (.arr X L enc e)) (hv:aB C (.own d) u) (hn:tab.siz.get e=some n) (hn0:n≠0)
   (hz:kM tab e n= .ok ()) (hroom:qM by_ (L.length+M.length)) (hM:Told C.Fz X M enc n news):
   ∃I v a',Am.bo tab a e n by_ u M.length news= .ok (v,a')/\dd C (.kill d) (C.put d I)/\HS tab (C.put d I) ⟨h.next,(d,some (.arr X (L++M) enc e))::ir (.kill d) h.os⟩ a'/\aB (C.put d I) (.own d) v/\Grow a a'/\cN C h a [.kill d, .mod d] (C.put d I) ⟨h.next,(d,some (.arr X (L++M) enc e))::ir (.kill d) h.os⟩ a':=by
 have hpk:∀(I:BI) (o2:SO) p o J,h.get p=some o->C.ρ p=some J->p≠d->∃o',(SH.mk h.next ((d,some o2)::ir (.kill d) h.os)).get p=some o'/\(C.put d I).ρ p=some J:=by
   intro I o2 p o J hp hJ hpd;refine⟨o.on (.kill d),?_,by rw[iX _ _ hpd];exact hJ⟩;have h1:=qy (.kill d) h.next h.os p;simp only[SH.get,jv,if_neg hpd]at h1 hp⊢;rw[h1,hp];rfl
 obtain⟨I0,hI0,ho⟩:=H.obj d _ hd;have ho':=ho;obtain⟨g1,g2,g3,g4,g5⟩:=ho;have hsz:I0.sz=n:=by rw[hn]at g1;exact(B8 g1).symm
 have hlt:∀b i,C.Fz i=some b->i<a.next:=fun b i hi=>H.wf _ _ (H.fz _ _ hi)
 by_cases hm:M.length=0
 . have hM0:=AG hm;subst hM0;have hnews:news=[]:=AG (by rw[hM.len];simp);subst hnews;rw[BW];obtain⟨hT,H'⟩:=H.renew hd hI0 I0 (o:= .arr X L enc e) (a':=a) (fun i b _ h=>h) H.wf (fun hc=> .inr ⟨hc,rfl⟩) (Ah _) (fun hT=>by
     have:=ho'.turns hT;exact this)
   refine⟨I0,u,a,?_,hT,H',?_,Grow.refl a,fun p o J hp hJ hc hnd=>⟨rfl, .inl (hpk I0 _ p o J hp hJ (fun e=>hnd (by simp[jH,e])))⟩⟩
   . cases hv with
     |pure hv=>cases hv
     |ew hI hc=>simp[Am.bo]
     | own hI hc=>
       rw[hI0]at hI;cases hI;rw[hc]at g5;obtain⟨ca,ext,bk,k1,k2,k3,k4,k5⟩:=g5;rename_i c';have hlow:capLow a I0.β c'= .ok (I0.len):=by
         rcases k4 with⟨rfl,rfl⟩|⟨rfl,h0⟩
         . simp only[capLow];rw[rb (gx k1)];simp only;rw[rb (rc (by simp only[Bn,AI];exact fF (by omega)))];simp only[Dd];rw[k3,g3];congr 1
           exact Nat.mul_div_cancel _ (by omega)
         . rw[show capLow a I0.β (.lit 0)= .ok 0 from rfl,g3,h0]
       simp only[Am.bo];rw[rb hlow,rb (gx k1)];simp only;rw[rb (rc (by simp[hsz])),rb (rc (by rw[g3];exact hroom)),Bb,Bk,show Nat.ble I0.len I0.len=true from by simp];simp only[A8];rfl
   . cases hv with
     |pure hv=>cases hv
     |ew hI hc=>exact .ew (il _ _ _) (by rw[hI0]at hI;cases hI;exact hc)
     |own hI hc=>rw[hI0]at hI;cases hI;exact .own (il _ _ _) hc
 . have hbm:Nat.beq M.length 0=false:=fF hm;have hpos:0<n:=by omega
   have newrow:∀(ca:List AV) (a1:AH) (bk:BK),a1.next=a.next->(∀i o,a1.get i=some o->a.get i=some o)->(∀i b,(I0.cap.isSome->i≠I0.β)->a.get i=some b->a1.get i=some b)->(bk≠ .ro/\bk≠ .cold)->ca.length=L.length*n->
       (∀(i:Nat) x (j:Nat) v,L[i]? =some x->(enc x)[j]? =some v->∃u,ca[i*n+j]? =some u/\aI C.Fz v u)->
       ∃I,dd C (.kill d) (C.put d I)/\HS tab (C.put d I) ⟨h.next,(d,some (.arr X (L++M) enc e))::ir (.kill d) h.os⟩ (a1.new (.cells (ca++news) e n true bk))/\aB (C.put d I) (.own d) (.sl a.next 0 (L.length+M.length) (.tail 0))/\Grow a (a1.new (.cells (ca++news) e n true bk))/\cN C h a [.kill d, .mod d] (C.put d I) ⟨h.next,(d,some (.arr X (L++M) enc e))::ir (.kill d) h.os⟩ (a1.new (.cells (ca++news) e n true bk)):=by
     intro ca a1 bk hn1 hold1 hkeep hbk hcl hcc;let I:BI:=⟨a.next,L.length+M.length,n,some (.tail 0)⟩
     obtain⟨r1,r2,r3⟩:=On hcl (fun i x hx=>by rw[<-hsz];exact g4 i x hx) hcc hM;obtain⟨hT,H'⟩:=H.renew hd hI0 I (o:= .arr X (L++M) enc e) (a':=a1.new (.cells (ca++news) e n true bk)) (fun i b hi hb=>by
         rw[AH.aL,if_neg (by have:=H.wf _ _ hb;omega)];exact hkeep i b hi hb)
       (fun i b hi=>by
         rw[AH.aL]at hi;simp only[AH.cR];split at hi
         . omega
         . have:=H.wf _ _ (hold1 i b hi);omega)
       (fun _=> .inl (Ah _)) (by simp only[AH.cR];omega)
       (fun hT=>by
         refine⟨hn,hpos,by simp[I],r2,?_⟩;refine⟨ca++news,true,bk,by rw[AH.aL,if_pos (by rw[hn1])],hbk,r1, .inl ⟨rfl,rfl⟩,fun i x j v hx hv=>?_⟩;obtain⟨w,w1,w2⟩:=r3 i x j v hx hv;exact⟨w,w1,w2.mono hT.1⟩)
     refine⟨I,hT,H', .own (I:=I) (il _ _ _) rfl,⟨by simp only[AH.cR];omega,fun i o hi=>?_⟩,?_⟩
     . rw[AH.aL]at hi;split at hi
       . right;omega
       . exact .inl ⟨o,hold1 i o hi⟩
     . intro p o J hp hJ hc hnd;have hpd:p≠d:=fun e=>hnd (by simp[jH,e])
       obtain⟨b,hb⟩:=(H.at_ hp hJ).live hc;have hlt:=H.wf _ _ hb;refine⟨?_, .inl (hpk I _ p o J hp hJ hpd)⟩;rw[AH.aL,if_neg (by omega),hkeep J.β b (fun hc0 e=>hpd (H.inj p d o _ J I0 hp hd hJ hI0 hc hc0 e)) hb,hb]
   cases hv with
   |pure hv=>cases hv
   | ew hI hc=>
     rw[hI0]at hI;cases hI;rw[hc]at g5;have hL0:=AG g5;subst hL0;obtain⟨I,q1,q2,q3,q4,q5⟩:=newrow [] a .rw rfl (fun i o h=>h) (fun i b _ h=>h) (by simp) (by simp) (fun i x j v hx=>by simp at hx);simp only[BE,Bb,Ay]at q2 q3 q4;refine⟨I,_,_,?_,q1,q2,q3,q4,q5⟩;simp only[Am.bo,hbm,AJ];have hr:(Nat.ble (M.length*by_) 16777216&&Nat.ble M.length 16777216)=true:=by
       have:=hroom;unfold qM at this;simpa using this
     rw[rb (rc hr),rb hz,rb (gP hn _ _ _)]
   | own hI hc=>
     rw[hI0]at hI;cases hI;rw[hc]at g5;obtain⟨ca,ext,bk,k1,k2,k3,k4,k5⟩:=g5;rw[hsz]at k1 k3 k5;rcases k4 with⟨rfl,rfl⟩|⟨rfl,h0⟩
     . obtain⟨I,q1,q2,q3,q4,q5⟩:=newrow ca (a.kill I0.β) bk.grown rfl (fun i o hi=>by
           rw[lY]at hi;split at hi
           . cases hi
           . exact hi) (fun i b hi hb=>by rw[lY,if_neg (hi (by simp[hc]))];exact hb) (by cases bk<;>simp[BK.grown]) k3 k5
       refine⟨I,_,_,?_,q1,q2,q3,q4,q5⟩;have hlow:capLow a I0.β (.tail 0)= .ok L.length:=by
         simp only[capLow];rw[rb (gx k1)];simp only;rw[rb (rc (by simp only[Bn,AI];exact fF hn0))];simp only[Dd];rw[k3];congr 1
         exact Nat.mul_div_cancel _ hpos
       simp only[Am.bo];rw[rb hlow,rb (gx k1)];simp only;rw[rb (rc (by simp)),g3,rb (rc hroom),show Nat.ble (L.length+M.length) L.length=false from AN.2 fun e=>by have:=Al e;omega];simp only[AJ];rw[rb (rc (by simp only[Ay,AW];omega)),rb hz,rb (rc (by
         simp only[BS,Bn,Ab];exact⟨by simpa using k2,hM.one⟩)),show ca.take (L.length*n)=ca from As (by omega)]
       rw[rb (gP hn _ _ _)];rfl
     . have hL0:=AG h0;subst hL0;obtain⟨I,q1,q2,q3,q4,q5⟩:=newrow [] a .rw rfl (fun i o h=>h) (fun i b _ h=>h) (by simp) (by simp) (fun i x j v hx=>by simp at hx);simp only[BE,Bb,Ay]at q2 q3 q4;refine⟨I,_,_,?_,q1,q2,q3,q4,q5⟩;have hlen0:I0.len=0:=by rw[g3];rfl
       simp only[Am.bo];rw[rb (show capLow a I0.β (.lit 0)= .ok 0 from rfl),rb (gx k1)];simp only;rw[rb (rc (by simp)),hlen0,rb (rc (by have:=hroom;unfold qM at this;simpa using this)),show Nat.ble (0+M.length) 0=false from AN.2 fun e=>by have:=Al e;omega];simp only[AJ];rw[rb (rc (by simp)),rb hz];simp only[D2,En,BE,Ay];rw[rb (gP hn _ _ _)]
theorem Kz (H:HS tab C h a) {X:Type} {M:List X} {enc:X->List SV} {e n by_:Nat} {news:List AV} (hn:tab.siz.get e=some n) (hn0:n≠0)
   (hz:kM tab e n= .ok ()) (hroom:qM by_ M.length) (hM:Told C.Fz X M enc n news):
   ∃I v a',Am.bo tab a e n by_ .nils M.length news= .ok (v,a')/\C.le (C.put h.next I)/\HS tab (C.put h.next I) (h.new (.arr X M enc e)) a'/\aB (C.put h.next I) (.own h.next) v/\Grow a a'/\cN C h a [] (C.put h.next I) (h.new (.arr X M enc e)) a':=by
 by_cases hm:M.length=0
 . let I:BI:=⟨0,0,n,none⟩
   obtain⟨h1,h2⟩:=H.wQ (o:= .arr X M enc e) I rfl (fun hle=>⟨hn,by simp only[I];omega,by simp[I,hm],hM.each,hm⟩);exact⟨I, .nils,a,by simp[Am.bo,hm],h1,h2, .ew (I:=I) (il _ _ _) rfl,Grow.refl a,fun p o J hp hJ hc _=>⟨rfl, .inl (by obtain⟨o2,g2⟩:=rQ H (.arr X M enc e) p o hp;exact⟨o2,g2,h1.1 _ _ hJ⟩)⟩⟩
 . let I:BI:=⟨a.next,M.length,n,some (.tail 0)⟩
   obtain⟨h1,h2⟩:=H.new (ao:= .cells news e n true .rw) (o:= .arr X M enc e) I rfl (fun hle=>⟨hn,by simp only[I];omega,rfl,hM.each,news,true, .rw,by rw[AH.aL,if_pos rfl],by simp,hM.len, .inl ⟨rfl,rfl⟩,fun i x j v hx hv=>by
    obtain⟨u,g1,g2⟩:=hM.cell i x j v hx hv;exact⟨u,g1,g2.mono hle.2⟩⟩)
   refine⟨I, .sl a.next 0 M.length (.tail 0),a.new (.cells news e n true .rw),?_,h1,h2, .own (I:=I) (il _ _ _) rfl,Grow.new a _,cN.new H _ _ h1 (rQ H _)⟩;simp only[Am.bo,fF hm,AJ];rw[rb (rc hroom),rb hz,rb (gP hn _ _ _)]
end
end
section
universe u v
variable [Inhabited aF]
section
variable {tab:aZ} {view:TypeId->Option View} {C:Cx} {s:St} {ta:T AV} {a:AH} {h:SH}
theorem yy (s:St) (b p:Nat) (X:Type) (L:List X) (enc:X->List SV):((s.ev (.eW b X L enc)).del b).h.get p=if p=b then none else(s.h.get p).map (SO.on (.eW b X L enc)):=by
 obtain⟨ts,⟨n,os⟩,log⟩:=s;simp only[St.ev,St.del,SH.aS];by_cases e:p=b
 . simp[e]
 . simp only[if_neg e];exact qy _ _ _ _
theorem KH:∀(l:List SV) (s:St) (p:Nat),s.h.get p=none->(gz l s).h.get p=none:=by
 intro l;induction l with
 |nil=>intro s p h;exact h
 | cons x l ih=>
  intro s p h
  cases x with
  |own b=>
   simp only[gz];split
   . refine ih _ p ?_;rw[yy];split
     . rfl
     . rw[h];rfl
   . exact ih s p h
  |_=>exact ih s p h
theorem FT:∀(l:List SV) (s:St) (C:Cx),FS C s.ts ta->HS tab C s.h a->∃C' new,(gz l s).log=s.log++new/\Tr C new C'/\HS tab C' (gz l s).h a/\FS C' (gz l s).ts ta/\
  dA C s.h a C' (gz l s).h/\gW new .nils= .nils/\ ∀d o,(gz l s).h.get d=some o->gW new (.own d)= .own d/\ ∀off n c,gW new (.sl d off n c)= .sl d off n c:=by
 intro l;induction l with
 |nil=>intro s C hF H;exact⟨C,[],by simp[gz],Tr.refl C,H,hF,dA.refl _ _ _,rfl,fun d o _=>⟨rfl,fun _ _ _=>rfl⟩⟩
 | cons x l ih=>
  intro s C hF H;have skip:gz (x::l) s=gz l s->∃C' new,(gz (x::l) s).log=s.log++new/\Tr C new C'/\HS tab C' (gz (x::l) s).h a/\FS C' (gz (x::l) s).ts ta/\
     dA C s.h a C' (gz (x::l) s).h/\gW new .nils= .nils/\ ∀d o,(gz (x::l) s).h.get d=some o->gW new (.own d)= .own d/\ ∀off n c,gW new (.sl d off n c)= .sl d off n c:=by
   intro e;rw[e];exact ih s C hF H
  cases x with
  |own b=>
   simp only[gz]at skip⊢;split
   . rename_i X L enc t hb;obtain⟨C1,e1,e2,e3,e4,_,e6⟩:=kx hF H hb;obtain⟨C2,new,f1,f2,f3,f4,f7,f5,f6⟩:=ih _ C1 e4 e3;refine⟨C2,_,by rw[f1,e1,B6],e2.trans f2,f3,f4,e6.trans f7 f2.fz,?_,fun d o hd=>?_⟩
     . rw[tH];simp only[gW,SV.on];exact f5
     . have hne:d≠b:=by
         intro e;subst e;rw[KH l _ d (by rw[yy,if_pos rfl])]at hd;cases hd
       obtain⟨g1,g2⟩:=f6 d o hd;constructor
       . rw[tH];simp only[gW,SV.on,fF hne,AJ];exact g1
       . intro off n c;rw[tH];simp only[gW,SV.on,fF hne,AJ];exact g2 off n c
   . exact ih s C hF H
  |_=>exact skip rfl
theorem MR (s:St) (d:Nat) (o:SO):(((s.ev (.kill d)).aM d o).note (.mod d)).log=s.log++[.kill d, .mod d]/\(((s.ev (.kill d)).aM d o).note (.mod d)).h=⟨s.h.next,(d,some o)::ir (.kill d) s.h.os⟩/\
  (((s.ev (.kill d)).aM d o).note (.mod d)).ts=oD (.kill d) s.ts:=by
 obtain⟨ts,⟨n,os⟩,log⟩:=s;exact⟨by simp[St.ev,St.aM,St.note],rfl,rfl⟩
theorem St.ln (s:St) (o:SO):(s.new o).h=s.h.new o/\(s.new o).ts=s.ts/\(s.new o).log=s.log:=by
 obtain⟨ts,h,log⟩:=s;exact⟨rfl,rfl,rfl⟩
theorem dd.mM {C C':Cx} {d:Nat} (h:dd C (.kill d) C'):Tr C [.kill d, .mod d] C':=
 h.tr.trans (l:=[.kill d]) (dd.tr (e:= .mod d) ⟨fun _ _ h=>h,fun _ _ h=>h⟩)
theorem Gz (hF:FS C s.ts ta) (H:HS tab C s.h a) {d:Nat} {X:Type} {L M:List X} {enc:X->List SV} {e n by_:Nat} {u:AV} {news:List AV} {K:SV->St->Prop} (hd:s.h.get d=some (.arr X L enc e)) (hv:aB C (.own d) u) (hn:tab.siz.get e=some n) (hn0:n≠0)
  (hz:kM tab e n= .ok ()) (hroom:qM by_ (L.length+M.length)) (hM:Told C.Fz X M enc n news) (hk:K (.own d) (((s.ev (.kill d)).aM d (.arr X (L++M) enc e)).note (.mod d))):
  aD tab C s ta a K (Am.bo tab a e n by_ u M.length news):=by
 obtain⟨I,v,a',h1,h2,h3,h4,h5,h6⟩:=KA H hd hv hn hn0 hz hroom hM;obtain⟨e1,e2,e3⟩:=MR s d (.arr X (L++M) enc e);exact⟨_,_,v,a',hk,h1,⟨C.put d I,_,e1,h2.mM,h4,by rw[e2];exact h3,by rw[e3];exact hF.turns h2,by rw[e2];exact h6⟩,h5⟩
theorem Cw (hF:FS C s.ts ta) (H:HS tab C s.h a) {X:Type} {M:List X} {enc:X->List SV} {e n by_:Nat} {news:List AV} {K:SV->St->Prop} (hn:tab.siz.get e=some n) (hn0:n≠0)
  (hz:kM tab e n= .ok ()) (hroom:qM by_ M.length) (hM:Told C.Fz X M enc n news) (hk:K (.own s.h.next) (s.new (.arr X M enc e))):aD tab C s ta a K (Am.bo tab a e n by_ .nils M.length news):=by
 obtain⟨I,v,a',h1,h2,h3,h4,h5,h6⟩:=Kz H hn hn0 hz hroom hM;obtain⟨e1,e2,e3⟩:=s.ln (.arr X M enc e);exact⟨_,_,v,a',hk,h1,⟨_,[],by rw[e3];simp,h2.tr,h4,by rw[e1];exact h3,by rw[e2];exact hF.le h2,by rw[e1];exact h6⟩,h5⟩
theorem zK (l m:List Ev):jH (l++m)=jH l++jH m:=by
 induction l with
 |nil=>rfl
 |cons e l ih=>cases e<;>simp[jH,ih]
theorem aD.later {C1:Cx} {s1:St} {new:List Ev} {K:SV->St->Prop} {r:R (AV×AH)} (hl:s1.log=s.log++new) (ht:Tr C new C1) (hk:dA C s.h a C1 s1.h) (h:aD tab C1 s1 ta a K r):aD tab C s ta a K r:=by
 obtain⟨sv,s',v,a',h1,h2,⟨C',new',g1,g2,g3,g4,g5,g6⟩,h4⟩:=h;refine⟨sv,s',v,a',h1,h2,⟨C',new++new',by rw[g1,hl,B6],ht.trans g2,g3,g4,g5,?_⟩,h4⟩;intro p o I hp hI hc hn;rw[zK]at hn;rcases hk p o I hp hI hc with⟨o',q1,q2⟩|⟨b,q1,q2⟩
 . exact g6 p o' I q1 q2 hc (fun e=>hn (DN _ e))
 . exact⟨by rw[q1];exact g4.fz _ _ (g2.fz _ _ q2), .inr ⟨b,g2.fz _ _ q2⟩⟩
theorem CI (hF:FS C s.ts ta) (H:HS tab C s.h a) {e n by_:Nat} (hn:tab.siz.get e=some n) (hn0:n≠0) (hz:kM tab e n= .ok ()) {x:SV} {u w:AV} (hx:x= .nils->aB C x u) (hx':∀d o,x= .own d->s.h.get d=some o->aB C x u) {Y:Type} {M:List Y} {enc':Y->List SV} (hy:aI C.Fz (.aJ Y M enc') w)
   {K:SV->St->Prop} (h:mH s e n by_ x Y M enc' K):∃m news,source a n w= .ok (m,news)/\aD tab C s ta a K (Am.bo tab a e n by_ u m news):=by
 unfold mH at h;split at h
 . obtain⟨he,h1⟩:=h;obtain⟨hr,hk⟩:=cH h1;obtain⟨news,g1,g2⟩:=C9 H.fz hy hn0 he;rw[mX (hx rfl)];exact⟨_,_,g1,Cw hF H hn hn0 hz hr g2 hk⟩
 . rename_i d;split at h
   . rename_i X L enc e' hd;obtain⟨hee,h1⟩:=cH h;clear h;have hee:=Af hee;subst hee;obtain⟨he,M',hM',h2⟩:=h1;obtain⟨hr,hk⟩:=cH h2;obtain⟨news,g1,g2⟩:=C9 H.fz hy hn0 he
     cases hM';exact⟨_,_,g1,Gz hF H hd (hx' d _ rfl hd) hn hn0 hz hr g2 hk⟩
   . exact h.elim
 . exact h.elim
theorem Lv (hF:FS C s.ts ta) (H:HS tab C s.h a) {e n by_ m:Nat} (hn:tab.siz.get e=some n) (hn0:n≠0) (hz:kM tab e n= .ok ()) {x:SV} {u:AV} (hx:x= .nils->aB C x u) (hx':∀d o,x= .own d->s.h.get d=some o->aB C x u) {cs:List SV} {ca:List AV} (hc:aN C cs ca)
   (hl:cs.length=m*n) (hp:cs.all lz=true) {K:SV->St->Prop} (h:om view s e n by_ m x cs K):aD tab C s ta a K (Am.bo tab a e n by_ u m ca):=by
 unfold om at h;split at h
 . split at h
   . rename_i V hV;obtain⟨l,h1,h2,h3⟩:=Iy h;obtain⟨hr,hk⟩:=cH h3;rw[xB]at h1;have:=Cw hF H hn hn0 hz hr (xc hn0 hc hl hp h1 h2) hk;rw[h1]at this;rw[mX (hx rfl)];exact this
   . exact h.elim
 . rename_i d;split at h
   . rename_i X L enc e' hd;obtain⟨hee,h1⟩:=cH h;clear h;have hee:=Af hee;subst hee;obtain⟨l,h1,h2,h3⟩:=Iy h1;obtain⟨hr,hk⟩:=cH h3;rw[xB]at h1;have:=Gz hF H hd (hx' d _ rfl hd) hn hn0 hz hr (xc hn0 hc hl hp h1 h2) hk;rw[h1]at this;exact this
   . exact h.elim
 . exact h.elim
theorem Lw (hF:FS C s.ts ta) (H:HS tab C s.h a) {e:TypeId} {x y:SV} {u w:AV} (hx:aB C x u) (hy:aB C y w) {K:SV->St->Prop} (h:yr tab view s e x y K):
   ∃n by_,tab.siz.get e=some n/\tab.byt.get e=some by_/\n≠0/\ ∃m news,source a n w= .ok (m,news)/\aD tab C s ta a K (Am.bo tab a e n by_ u m news):=by
 unfold yr at h;split at h
 . rename_i n by_ hn hby;refine⟨n,by_,hn,hby,?_⟩;obtain⟨hck,hh⟩:=cH h;clear h;simp only[Ab,AI]at hck;obtain⟨hn0,hzz⟩:=hck;have hn0:n≠0:=fun e=>by subst e;simp at hn0
   refine⟨hn0,?_⟩;have hz:kM tab e n= .ok ():=by
     split at hzz
     . rename_i z hz;obtain⟨zv,zc,g1,g2,g3⟩:=oK (C:=C) hz;unfold kM;rw[rb g1,rb g2];exact rc (by rw[<-g3.1];exact hzz)
     . cases hzz
   clear hzz;split at hh
   ·
     rename_i b off m cap;split at hh
     . rename_i cs0 t0 hb0;obtain⟨C1,new,f1,f2,f3,f4,f7,f5,f6⟩:=FT ((cs0.drop off).take (m*n)) s C hF H;have hx1:=f2.val _ _ hx;have hy1:=f2.val _ _ hy;generalize gz ((cs0.drop off).take (m*n)) s=s1 at*
       split at hh
       . rename_i cs t1 hb1;obtain⟨hck,hh⟩:=cH hh;simp only[Ab]at hck;have hle:=Al hck.1;rw[(f6 b _ hb1).2]at hy1
         cases hy1 with
         |pure hy1=>cases hy1
         |sl hI=>
          rename_i I;obtain⟨hcap,ca,sz,k1,k2,_⟩:=f3.at_ hb1 hI;have hsub:=(k2.drop off).take (m*n);have hsrc:source a n (.sl I.β off m (.lit cap))= .ok (m,(ca.drop off).take (m*n)):=by
            have hr:readN a I.β off (m*n)= .ok ((ca.drop off).take (m*n)):=by
             unfold readN;rw[rb (gx k1)];simp only;rw[rb (rc (by simp only[AW];rw[<-k2.1];exact hle))]
            simp only[source];rw[rb hr]
          refine⟨m,_,hsrc,aD.later f1 f2 f7 (Lv f4 f3 hn hn0 hz (fun e=>?_) (fun d o e hd=>?_) hsub (by simp;omega) hck.2 hh)⟩
          . subst e;rw[f5]at hx1;exact hx1
          . subst e;rw[(f6 d o hd).1]at hx1;exact hx1
       . exact hh.elim
     . exact hh.elim
   . exact CI hF H hn hn0 hz (fun _=>hx) (fun _ _ _ _=>hx) (kf hy rfl) hh
   ·
     rename_i b;split at hh
     . rename_i Y M enc' t' hb;obtain⟨C1,e1,e2,e3,e4,e5,e6⟩:=kx hF H hb;have hx1:=e2.val _ _ hx;obtain⟨m,news,g1,g2⟩:=CI (u:=u) e4 e3 hn hn0 hz (fun e=>by subst e;exact hx1) (fun d o e hd=>by
         subst e;have hne:d≠b:=by
          intro e;subst e;rw[yy,if_pos rfl]at hd;cases hd
         simp only[gW,SV.on,fF hne,AJ]at hx1;exact hx1) (e5 w hy) hh
       exact⟨m,news,g1,g2.later e1 e2 e6⟩
     . exact hh.elim
   . split at hh
     . rw[mX hy,mX hx];exact⟨0,[],rfl,by simpa [Am.bo]using aD.same hF H (.pure .nils) hh⟩
     . exact hh.elim
   . exact hh.elim
 . exact h.elim
end
end
section
universe u v
variable [Inhabited aF]
section
variable {tab:aZ} {view:TypeId->Option View} {C:Cx} {s:St} {ta:T AV} {a:AH} {h:SH}
theorem H9 {k:IntKind}:∀{l:List SV} {m:List AV} {x:Int} {sv:SV},aN C l m->mO k x l=some sv->∃v,o5 k x m= .ok v/\aB C sv v:=by
 intro l;induction l with
 |nil=>intro m x sv hs h;cases m with
  |nil=>cases h;exact⟨_,rfl, .pure (.int _ _)⟩
  |cons=>have:=hs.1;simp at this
 | cons y l ih=>intro m x sv hs h;cases m with
  |nil=>have:=hs.1;simp at this
  |cons w m=>
   cases y<;>simp only[mO]at h<;>first|(cases h;done)|skip
   obtain⟨h1,h2⟩:=hs.head;rw[iI h1];simp only[o5];exact ih h2 h
theorem H7 {k:IntKind}:∀{l:List SV} {m:List AV} {x:Int} {sv:SV},aN C l m->mN k x l=some sv->∃v,oY k x m= .ok v/\aB C sv v:=by
 intro l;induction l with
 |nil=>intro m x sv hs h;cases m with
  |nil=>cases h;exact⟨_,rfl, .pure (.int _ _)⟩
  |cons=>have:=hs.1;simp at this
 | cons y l ih=>intro m x sv hs h;cases m with
  |nil=>have:=hs.1;simp at this
  |cons w m=>
   cases y<;>simp only[mN]at h<;>first|(cases h;done)|skip
   obtain⟨h1,h2⟩:=hs.head;rw[iI h1];simp only[oY];exact ih h2 h
theorem HB (H:HS tab C s.h a) {e:TypeId} {x:SV} {v:AV} (hx:aB C x v) {n:Nat} (hn:oB s x=some n):lenOf a (.slice e) v= .ok n:=by
 unfold oB at hn;split at hn
 . cases hn;rw[mX hx];rfl
 . cases hn
   cases hx with
   | pure hx=>cases hx with
     |bL h0 hv=>
      rw[h0];rcases hv with rfl|⟨b,off,l,n,k,rfl⟩|⟨a,c,rfl⟩<;>rfl
     |aJ b off cap cs e sz ext bk u hb hs hl hn hc h1 h2=>rfl
 . cases hn
   cases hx with
   |pure hx=>cases hx
   |sl hI=>rfl
 . rename_i b;split at hn
   . rename_i X L enc t hb
     cases hn
     cases hx with
     |pure hx=>cases hx
     |ew hI hc=>
      obtain⟨_,_,g3,_,g5⟩:=H.at_ hb hI;rw[hc]at g5;rw[g5];rfl
     |own hI hc=>
      obtain⟨_,_,g3,_,g5⟩:=H.at_ hb hI;simp only[lenOf];rw[g3]
   . cases hn
 . cases hn
theorem KR (hF:FS C s.ts ta) (H:HS tab C s.h a) {b:Builtin} {ats:Array TypeId} {l:List SV} {vs:List AV} (hl:aN C l vs) {K:SV->St->Prop} (h:qn tab view s b ats l K):aD tab C s ta a K (Am.builtin tab b ats vs a):=by
 unfold qn at h;split at h
 ·
   rename_i x;have hv:∃v,vs=[v]/\aB C x v:=by
    cases vs with
    |nil=>have:=hl.1;simp at this
    | cons v vs=>cases vs with
      |nil=>exact⟨v,rfl,hl.head.1⟩
      |cons=>have:=hl.1;simp at this
   obtain⟨v,rfl,hx⟩:=hv;unfold Am.builtin;simp only
   cases ht:ats[0]? with
   |none=>rw[ht]at h;simp at h
   |some t=>
    rw[ht]at h;simp only[BO]at h;rw[rb (ro rfl)];split at h
    . rename_i hg;split at h
      . rw[gH hx,rb (show und tab t=_ from ro hg)];exact aD.same hF H (.pure (.int _ _)) h
      . exact h.elim
    . rename_i e hg;obtain⟨n,h1,h2⟩:=de h;rw[rb (show und tab t=_ from ro hg)];simp only;rw[rb (HB H hx h1)];exact aD.same hF H (.pure (.int _ _)) h2
    . exact h.elim
 ·
   rename_i x y;have hv:∃u w,vs=[u,w]/\aB C x u/\aB C y w:=by
    cases vs with
    |nil=>have:=hl.1;simp at this
    | cons v vs=>cases vs with
      |nil=>have:=hl.1;simp at this
      | cons w vs=>cases vs with
        |nil=>exact⟨v,w,rfl,hl.head.1,hl.head.2.head.1⟩
        |cons=>have:=hl.1;simp at this
   obtain⟨u,w,rfl,hx,hy⟩:=hv
   cases ht:ats[0]? with
   |none=>rw[ht]at h;simp at h
   |some t=>
    cases ht1:ats[1]? with
    |none=>rw[ht,ht1]at h;simp at h
    | some t1=>
      rw[ht,ht1]at h;simp only[BO]at h;split at h
      . rename_i e e' hg hg';obtain⟨n,by_,hn,hby,hn0,m,news,h1,h2⟩:=Lw hF H hx hy h;unfold Am.builtin;simp only;rw[ht,ht1,rb (show R.of "append" (some t)= .ok t from rfl),rb (show R.of "append" (some t1)= .ok t1 from rfl),rb (show und tab t1=_ from ro hg')];simp only;rw[rb (show und tab t=_ from ro hg)];simp only;rw[rb (show siz tab e=_ from ro hn),rb (show R.of "byt" (tab.byt.get e)= .ok by_ from ro hby),rb (rc (by simp only[AI];exact fF hn0)),rb h1];exact h2
      . exact h.elim
 ·
   rename_i k x l
   cases vs with
   |nil=>have:=hl.1;simp at this
   |cons v vs=>
    obtain⟨h1,h2⟩:=hl.head;rw[iI h1];obtain⟨sv,h3,h4⟩:=de h;obtain⟨v,h5,h6⟩:=H9 h2 h3;unfold Am.builtin;simp only;rw[rb h5];exact aD.same hF H h6 h4
 ·
   rename_i k x l
   cases vs with
   |nil=>have:=hl.1;simp at this
   |cons v vs=>
    obtain⟨h1,h2⟩:=hl.head;rw[iI h1];obtain⟨sv,h3,h4⟩:=de h;obtain⟨v,h5,h6⟩:=H7 h2 h3;unfold Am.builtin;simp only;rw[rb h5];exact aD.same hF H h6 h4
 . exact h.elim
theorem xT (hF:FS C s.ts ta) (H:HS tab C s.h a) {cs:List SV} {ca:List AV} (hc:aN C cs ca) (e n:Nat) (hn:tab.siz.get e=some n) {K:SV->St->Prop} {sv:SV} {v:AV} (hv:∀C':Cx,∀I,C'.ρ s.h.next=some I->I.β=a.next->aB C' sv v) (hk:K sv (s.new (.cells cs e))):
  aD tab C s ta a K (.ok (v,a.new (.cells ca e n false .rw))):=by
 let I:BI:=⟨a.next,0,n,some (.lit 0)⟩
 obtain⟨h1,h2⟩:=H.new (ao:= .cells ca e n false .rw) (o:= .cells cs e) I rfl (fun hle=>⟨rfl,ca,n,by rw[AH.aL,if_pos rfl],hc.le hle,hn⟩);obtain⟨e1,e2,e3⟩:=s.ln (.cells cs e);exact⟨sv,_,v,_,hk,rfl,⟨C.put s.h.next I,[],by rw[e3];simp,h1.tr,hv _ I (il _ _ _) rfl,by rw[e1];exact h2,by rw[e2];exact hF.le h1,by rw[e1];exact cN.new H _ _ h1 (rQ H _)⟩,Grow.new a _⟩
theorem HX {l:List SV} {m:List AV} (h:aN C l m):∀n,aN C (o9 n l) (rep n m):=by
 intro n;induction n with
 |zero=>exact aN.nil
 |succ n ih=>exact h.append ih
theorem J9 (hF:FS C s.ts ta) (H:HS tab C s.h a) {t:TypeId} {len:Nat} {ps:List (Nat×SV)} {vs:List (Nat×AV)} (hv:vs.map (·.1)=ps.map (·.1)) (hs:aN C (ps.map (·.2)) (vs.map (·.2))) {K:SV->St->Prop} (h:tN tab view s t len ps K):
   aD tab C s ta a K (Am.buildSlice tab a t len vs):=by
 unfold tN at h;split at h
 . rename_i e hg;split at h
   . rename_i n z hn hz;obtain⟨hck,h1⟩:=cH h;clear h;simp only[Ab]at hck;obtain⟨zv,zc,g1,g2,g3⟩:=oK (C:=C) hz;have hzl:(Nat.beq zc.length n)=true:=by rw[<-g3.1];exact hck.2
     unfold Am.buildSlice;rw[rb (show und tab t=_ from ro hg)];simp only;rw[rb (show siz tab e=_ from ro hn),rb (rc hck.1),rb g1,rb g2,rb (rc hzl)];by_cases hl0:len=0
     . subst hl0;simp only[BS,A8]at h1;obtain⟨hck2,h2⟩:=cH h1;clear h1;simp only[Ab,List.isEmpty_iff,AI]at hck2;obtain⟨rfl,hn0⟩:=hck2;have hn0:n≠0:=fun e=>by subst e;simp at hn0
       cases vs with
       |cons=>simp at hv
       |nil=>
        split at h2
        . rename_i V hV;simp only[D4,rep,fill];rw[rb (show(R.ok ([]:List AV))= .ok []from rfl),rb (gP hn _ _ _)];let I:BI:=⟨a.next,0,n,some (.lit 0)⟩
          obtain⟨q1,q2⟩:=H.new (ao:= .cells [] e n false .rw) (o:= .arr V.X [] V.enc e) I rfl (fun hle=>⟨hn,by simp only[I];omega,rfl,fun i x hx=>by simp at hx,[],false, .rw,by rw[AH.aL,if_pos rfl],by simp,by simp, .inr ⟨rfl,rfl⟩,fun i x j v hx=>by simp at hx⟩);obtain⟨e1,e2,e3⟩:=s.ln (.arr V.X [] V.enc e);exact⟨_,_,_,_,h2,rfl,⟨C.put s.h.next I,[],by rw[e3];simp,q1.tr, .own (I:=I) (il _ _ _) rfl,by rw[e1];exact q2,by rw[e2];exact hF.le q1,by rw[e1];exact cN.new H _ _ q1 (rQ H _)⟩,Grow.new a _⟩
        . exact h2.elim
     . rw[fF hl0]at h1;simp only[AJ]at h1;obtain⟨cs,h2,hk⟩:=de h1;obtain⟨ca,h3,h4⟩:=uI (qs:=vs.map fun x=>(x.1*n,n,x.2)) (HX g3 len) (by
        simp only[Bw];have:=Ax (List.map (fun i=>(i*n,n))) hv;simpa [Bw,B7]using this) (by simpa [Bw,B7]using hs) h2
       rw[rb h3,rb (gP hn _ _ _)];exact xT hF H h4 e n hn (fun C' I hI hb=>by rw[<-hb];exact .sl hI) hk
   . exact h.elim
 . exact h.elim
theorem dF {ts:T AV} {x:Operand} {v:AV} (h:ev ts x= .ok v) {β:Type} (f:AV->R β):(ev ts x>>=f)=f v:=rb h f
theorem RW (b:Nat) (C:Cx):Tr C [.mod b] C:=dd.tr (e:= .mod b) ⟨fun _ _ h=>h,fun _ _ h=>h⟩
theorem tV {t:TypeId} {f:Nat} {fd:Field} (h:vH tab t f=some fd):qx tab t f= .ok fd:=by
 unfold vH at h;unfold qx;split at h
 . rename_i fs hg;rw[rb (show und tab t=_ from ro hg)];exact ro h
 . cases h
theorem QW (hF:FS C s.ts ta) (H:HS tab C s.h a) {o:Oper} {K:SV->St->Prop} (h:kU tab view s o K):aD tab C s ta a K (eM tab ta a o):=by
 obtain⟨dst,op,type,pos,after,guard⟩:=o;unfold kU at h;unfold eM;have same1:∀{x:Operand} {K':SV->Prop},so (fk s.ts x) K'->∃sv v,ev ta x= .ok v/\aB C sv v/\K' sv:=by
  intro x K' h;obtain⟨sv,h1,h2⟩:=de h;obtain⟨v,h3,h4⟩:=jV hF h1;exact⟨sv,v,h3,h4,h2⟩
 cases op<;>simp only at h⊢
 case move x=>
  obtain⟨sv,v,h3,h4,h2⟩:=same1 h;rw[dF h3];exact aD.same hF H h4 h2
 case assign x=>
  obtain⟨sv,v,h3,h4,h2⟩:=same1 h;rw[dF h3];exact aD.same hF H h4 h2
 case pick c x y=>
  split at h
  . rename_i p hc;obtain⟨v,h3,h4⟩:=jV hF hc;rw[lv h4]at h3;rw[dF h3];split at h
    . rename_i p1 p2 hx hy;obtain⟨u,g1,g2⟩:=jV hF hx;obtain⟨w,g3,g4⟩:=jV hF hy;rw[lv g2]at g1;rw[lv g4]at g3
      cases p
      . simp only;rw[dF g3];exact aD.same hF H (.pure (.bool _)) h
      . simp only;rw[dF g1];exact aD.same hF H (.pure (.bool _)) h
    . rcases vY h with⟨rfl,h⟩|⟨rfl,h⟩
      . obtain⟨sv,v,h3,h4,h2⟩:=same1 h;simp only;rw[dF h3];exact aD.same hF H h4 h2
      . obtain⟨sv,v,h3,h4,h2⟩:=same1 h;simp only;rw[dF h3];exact aD.same hF H h4 h2
  . exact h.elim
 case alloc e=>
  obtain⟨n,hn,h⟩:=de h;obtain⟨cs,h1,h2⟩:=de h;obtain⟨zv,zc,g1,g2,g3⟩:=oK (C:=C) h1;rw[rb g1,rb g2,rb (gP hn _ _ _)];exact xT hF H g3 e n hn (fun C' I hI hb=>by rw[<-hb];exact .ptr hI) h2
 case box e x=>
  obtain⟨n,hn,h⟩:=de h;obtain⟨sv,v,h3,h4,h2⟩:=same1 h;obtain⟨hk,h2⟩:=cH h2;obtain⟨l,g1,g2⟩:=ub h4 hk;rw[dF h3,rb g1,rb (gP hn _ _ _)];exact xT hF H g2 e n hn (fun C' I hI hb=>by rw[<-hb];exact .ptr hI) h2
 case build t ps=>
  obtain⟨l,h1,h2⟩:=de h;obtain⟨sv,h3,h4⟩:=de h2;obtain⟨vs,g1,g2,g3⟩:=uq hF h1;obtain⟨v,g4,g5⟩:=FY g2 g3 h3;rw[rb g1,rb g4];exact aD.same hF H g5 h4
 case buildSlice t n ps=>
  obtain⟨l,h1,h2⟩:=de h;obtain⟨vs,g1,g2,g3⟩:=uq hF h1;rw[rb g1];exact J9 hF H g2 g3 h2
 case load t x=>
  obtain⟨sv,v,h3,h4,h2⟩:=same1 h;obtain⟨b,off,u,su,rfl,g1,g2,g3⟩:=xR H h4 h2;rw[dF h3];simp only;rw[rb g1];exact aD.same hF H g2 g3
 case store t x y=>
  obtain⟨sv,v,h3,h4,h2⟩:=same1 h;obtain⟨sw,w,g3,g4,g2⟩:=same1 h2;obtain⟨b,off,a',h',rfl,k1,k2,k3,k4,k5⟩:=MW H h4 g4 g2;rw[dF h3];simp only;rw[dF g3,rb k1];obtain⟨ts,hh,log⟩:=s;refine⟨_,_,_,_,k3,rfl,⟨C,wy sv,rfl,?_, .pure (.bj rfl (fun i c v hc=>by simp at hc)),k2,hF,k5⟩,k4⟩
  cases sv<;>first|exact RW _ C|exact Tr.refl C
 case nilCheck x=>
  obtain⟨sv,v,h3,h4,h2⟩:=same1 h;rw[dF h3];split at h2
  . cases h4 with
    |pure h=>cases h
    |ptr hI=>exact aD.same hF H (.ptr hI) h2
  . cases h4 with
    |pure h=>cases h
    |bR hI hc=>exact aD.same hF H (.bR hI hc) h2
  . cases h4 with
    | pure h=>cases h with
      |cB b base ca e sz ext bk u hb hl h1 h2'=>exact aD.same hF H (.pure (.cB b base ca e sz ext bk u hb hl h1 h2')) h2
  . cases h4 with
    | pure h=>cases h with
      |fn h1 h2' h3' h4'=>exact aD.same hF H (.pure (.fn h1 h2' h3' h4')) h2
    |fn h1 h2' h3' h4'=>exact aD.same hF H (.fn h1 h2' h3' h4') h2
  . exact h2.elim
 case binOp op t x y _=>
  obtain⟨sv,v,h3,h4,h2⟩:=same1 h;obtain⟨sw,w,g3,g4,g2⟩:=same1 h2;rw[dF h3,dF g3];exact aD.val hF H (H3 g2 h4 g4)
 case unOp op _ x=>
  obtain⟨sv,v,h3,h4,h2⟩:=same1 h;rw[dF h3];exact aD.val hF H (IM h2 h4)
 case convert x y z=>
  obtain⟨sv,v,h3,h4,h2⟩:=same1 h;rw[dF h3];exact NA hF H h4 h2
 case makeFunc fn first captured=>
  split at h
  . obtain⟨xs,h1,h2⟩:=de h;obtain⟨ys,h3,h4⟩:=de h2;obtain⟨us,g1,g2⟩:=oS hF h1;obtain⟨vs,g3,g4⟩:=oS hF h3;simp only;rw[rb g1,rb g3];exact aD.same hF H (.fn g2.1 g4.1 g2.2 g4.2) h4
  . exact h.elim
 case slice t x lo hi mx=>
  cases mx with
  |some m=>exact h.elim
  | none=>
    obtain⟨sv,v,h3,h4,h2⟩:=same1 h;rw[dF h3];exact MT hF H h4 h2
 case fieldAddr st x f=>
  obtain⟨fd,h1,h2⟩:=de h;obtain⟨hck,h3⟩:=cH h2;obtain⟨sv,v,h4,h5,h6⟩:=same1 h3;rw[rb (tV h1)];split at hck
  . rename_i n hn;rw[rb (show siz tab fd.type=_ from ro hn),rb (rc hck),dF h4];split at h6
    . cases h5 with
      |pure h=>cases h
      |ptr hI=>exact aD.same hF H (.ptr hI) h6
    . cases h5 with
      |pure h=>cases h
      |bR hI hc=>simp only[BZ];exact aD.same hF H (.bR hI hc) h6
    . cases h5 with
      | pure h=>cases h with
        |cB b base ca e sz ext bk u hb hl h1 h2'=>simp only[BZ];exact aD.same hF H (.pure (.cB b base ca e sz ext bk u hb hl h1 h2')) h6
    . exact h6.elim
  . cases hck
 case field t x f=>
  obtain⟨fd,h1,h2⟩:=de h;obtain⟨sv,v,h4,h5,h6⟩:=same1 h2;rw[rb (tV h1),dF h4];split at h6
  . obtain⟨us,rfl,g1⟩:=lx h5;obtain⟨su,g2,g3⟩:=de h6;obtain⟨u,g4,g5⟩:=qv g1 g2;simp only;rw[rb g4];exact aD.same hF H g5 g3
  . exact h6.elim
 case indexAddr t x ix=>
  obtain⟨sj,vj,h1,h2,h3⟩:=same1 h;obtain⟨i,h4,h5⟩:=sx h3 h2;obtain⟨sv,v,h6,h7,h8⟩:=same1 h5;rw[dF h1,rb h4];split at h8
  . rename_i len e b off hg;split at h8
    . rename_i n hn;obtain⟨g1,g2⟩:=cH h8;rw[rb (show und tab t=_ from ro hg),dF h6]
      cases h7 with
      |pure h=>cases h
      |ptr hI=>simp only;rw[rb (rc g1),rb (show siz tab e=_ from ro hn)];exact aD.same hF H (.ptr hI) g2
    . exact h8.elim
  . rename_i e b off len cap hg;split at h8
    . rename_i n hn;obtain⟨g1,g2⟩:=cH h8;rw[rb (show und tab t=_ from ro hg),dF h6]
      cases h7 with
      |pure h=>cases h
      |sl hI=>simp only;rw[rb (rc g1),rb (show siz tab e=_ from ro hn)];exact aD.same hF H (.ptr hI) g2
    . exact h8.elim
  . rename_i e X L enc hg;split at h8
    . rename_i n hn;obtain⟨x,g1,g2⟩:=de h8;obtain⟨g2,g3⟩:=cH g2;have g2:=Af g2;have hi:=(Ad.1 g1).1;obtain⟨b,off,cap,cs,e',sz,ext,bk,rfl,hb,hs,hl,hsz,hc,hcell⟩:=vD (kf h7 rfl) (by rintro rfl;simp at hi);obtain⟨sz0,ext0,hb,hx0⟩:=hb;have hszn:sz=n:=by rw[<-hsz i x g1];exact g2
      subst hszn;rw[rb (show und tab t=_ from ro hg),dF h6];simp only;rw[rb (rc (by simpa using hi)),rb (show siz tab e=_ from ro hn)];refine aD.same hF H (.pure ?_) g3;refine .cB b (off+i*sz) cs e' sz0 ext0 bk (fun j=>(cs[off+i*sz+j]?).getD (.bj [])) hb ?_ ?_ ?_
      . rw[g2];have:i*sz+sz<=L.length*sz:=by
         calc i*sz+sz=(i+1)*sz:=by rw[Bq,DD]
          _<=L.length*sz:=Bp _ hi
        omega
      . intro j v hv;obtain⟨u,q1,_⟩:=hcell i x j v g1 hv;rw[q1];rfl
      . intro j v hv;obtain⟨u,q1,q2⟩:=hcell i x j v g1 hv;rw[q1];exact q2
    . exact h8.elim
  . rename_i e b hg;split at h8
    . rename_i n X L enc e' hn hb;obtain⟨g1,g2⟩:=cH h8;simp only[Ab]at g1;have hee:=Af g1.1;subst hee;have hi:i<L.length:=by simpa using g1.2
      rw[rb (show und tab t=_ from ro hg),dF h6]
      cases h7 with
      |pure h=>cases h
      | ew hI hc=>
        obtain⟨_,_,_,_,k5⟩:=H.at_ hb hI;rw[hc]at k5;omega
      | own hI hc=>
        rename_i I c;obtain⟨k1,k2,k3,_,k5⟩:=H.at_ hb hI;have hsz:I.sz=n:=by rw[hn]at k1;exact(B8 k1).symm
        simp only;rw[rb (rc (by rw[k3];simpa using hi)),rb (show siz tab e=_ from ro hn)];have hh:aB C (.bR b i 0) (.ptr I.β (i*I.sz+0)):= .bR hI (by simp[hc]);rw[hsz,Bk]at hh;rw[Ay];exact aD.same hF H hh g2
    . exact h8.elim
  . exact h8.elim
 case index t x ix=>
  obtain⟨sj,vj,h1,h2,h3⟩:=same1 h;obtain⟨i,h4,h5⟩:=sx h3 h2;obtain⟨sv,v,h6,h7,h8⟩:=same1 h5;rw[dF h1,rb h4];split at h8
  . rename_i len e cs hg;split at h8
    . rename_i n hn;obtain⟨g1,g2⟩:=cH h8;obtain⟨su,g3,g4⟩:=de g2;obtain⟨us,rfl,g5⟩:=lx h7;obtain⟨u,g6,g7⟩:=qv g5 g3;rw[rb (show und tab t=_ from ro hg),dF h6];simp only;rw[rb (rc g1),rb (show siz tab e=_ from ro hn),rb g6];exact aD.same hF H g7 g4
    . exact h8.elim
  . rename_i c hg;obtain⟨b,g1,g2⟩:=de h8;rw[rb (show und tab t=_ from ro hg),dF h6,gH h7];simp only;rw[rb (ro g1)];exact aD.same hF H (.pure (.int _ _)) g2
  . exact h8.elim
 case extract t i=>
  obtain⟨sv,v,h6,h7,h8⟩:=same1 h;rw[dF h6];split at h8
  . obtain⟨us,rfl,g5⟩:=vA h7;obtain⟨su,g3,g4⟩:=de h8;obtain⟨u,g6,g7⟩:=g5.get g3;simp only;rw[rb (ro g6)];exact aD.same hF H g7 g4
  . exact h8.elim
 case call c=>
  split at h
  . rename_i b hb;obtain⟨l,h1,h2⟩:=de h;obtain⟨vs,g1,g2⟩:=oS hF h1;rw[hb];simp only;rw[rb g1];exact KR hF H g2 h2
  . exact h.elim
 all_goals exact h.elim
end
end
section
universe u v
variable [Inhabited aF]
def sJ (f:Nat->Option AO):Nat->T AO
 |0=> .e
 |n+1=>(sJ f n).set n (f n)
theorem LU (f:Nat->Option AO):∀n i,(sJ f n).get i=if i<n then f i else none:=by
 intro n;induction n with
 |zero=>intro i;simp[sJ,iQ]
 |succ n ih=>
  intro i;simp only[sJ,T.aS,ih];by_cases h:i=n
  . subst h;simp
  . rw[if_neg h];by_cases h2:i<n
    . rw[if_pos h2,if_pos (by omega)]
    . rw[if_neg h2,if_neg (by omega)]
def ofFn (next:Nat) (f:Nat->Option AO):AH:={t:=sJ f next,next}
theorem oP (next:Nat) (f:Nat->Option AO) (i:Nat):(ofFn next f).get i=if i<next then f i else none:=LU f next i
section
variable {P:Program} {tab:aZ}
theorem eC.frame {fr:af} {h h0:AH} {Θ:AV->AH->Prop} (hgo:eC P {fr,cs:=[],h:=h0} Θ) (hs:∀i o,h0.get i=some o->h.get i=some o) (hn:h0.next=h.next):
   eC P {fr,cs:=[],h} fun v h2=>∃h1,Θ v h1/\h2.next=h1.next/\h.next<=h1.next/\(∀i o,h1.get i=some o->i<h1.next)/\ ∀i o,h2.get i=some o↔(h1.get i=some o\/(h.get i=some o/\h0.get i=none/\h1.get i=none)):=by
 classical
 intro D E K base frC csC w hR hB;have hdom:∀i o,h.get i=some o->i<h.next:=(hR.all E (ak.refl _ _)).1.eo;have hd0:∀i o,h0.get i=some o->i<h0.next:=fun i o hi=>by rw[hn];exact hdom i o (hs i o hi)
 have hRc:Rel D E (Am.Rest E h h0 K) {fr,cs:=[],h:=h0} base frC csC w:=by
   refine⟨fun E' he=>?_,fun i hi=>by simp only;rw[hn];exact hR.eo i hi,hR.wf⟩;obtain⟨g1,g2,g3⟩:=hR.all E' he;refine⟨?_,g2,g3⟩;rw[<-hR.eY he];exact g1.part hs hd0
 obtain⟨v,h1,hΘ,fr1,w',vC,E',D',s1,s2,s3,s4,s5,s6,s7,s8,s9,s10⟩:=hgo D E _ base frC csC w hRc hB.rest;simp only at s9;have hdom1:=(s4 E' (ak.refl _ _)).1.eo;let h2:AH:=ofFn h1.next fun i=>match h1.get i with
   |some o=>some o
   |none=>if(h0.get i).isNone then h.get i else none
 have hg2:∀i o,h2.get i=some o↔(h1.get i=some o\/(h.get i=some o/\h0.get i=none/\h1.get i=none)):=by
   intro i o;simp only[h2,oP];constructor
   . intro hh;split at hh
     . split at hh
       . rename_i o' ho';cases hh;exact .inl ho'
       . rename_i ho';split at hh
         . rename_i hz;exact .inr ⟨hh,by simpa using hz,ho'⟩
         . cases hh
     . cases hh
   . rintro(hh|⟨h3,h4,h5⟩)
     . rw[if_pos (hdom1 i o hh),hh]
     . have:=hdom i o h3;rw[if_pos (by omega),h5];simp[h4,h3]
 refine⟨v,h2,⟨h1,hΘ,rfl,by omega,hdom1,hg2⟩,fr1,w',vC,E',D',s1,s2,s3,?_,s5,s6,s7,s8.part,by simp only;rw[<-hn];exact s9,fun i hi=>by simp only;rw[<-hn];exact s10 i hi⟩;intro E'' he';obtain⟨g1,g2⟩:=s4 E'' he';have hag:=s5.trans he' s6;obtain⟨k1,k2,k3⟩:=hR.all E'' hag;refine⟨k1.join (by rw[hR.eY hag];exact g1) (by rw[hR.eY hag];exact s8) (fun i o hi=>((hg2 i o).1 hi).imp id (fun x=>⟨x.1,x.2.1⟩)) (fun i o hi=>?_),g2⟩;rcases(hg2 i o).1 hi with g|⟨g,_,_⟩
 . exact g1.eo i o g
 . have:=hdom i o g;show i<h1.next
   omega
def hU (tab:aZ) (C0:Cx) (h0:SH) (a0:AH) (Q:SV->St->Prop) (v:AV) (a':AH):Prop:=
 ∃sv s' C',Q sv s'/\aB C' sv v/\HS tab C' s'.h a'/\Tr C0 s'.log C'/\Grow a0 a'/\cN C0 h0 a0 s'.log C' s'.h a'
def cf (P:Program) (tab:aZ) (g:FuncId) (C:aP):Prop:=
 ∀ fn body,tab.fns.get g=some fn->fn.body=some body->∀y,C.pre y->∀(Fz:Nat->Option AO) (a:AH) (avs:List AV),(∀i o,Fz i=some o->a.get i=some o)->(∀i o,a.get i=some o->i<a.next)->
  (C.args y).length=avs.length->(∀(i:Nat) s v,(C.args y)[i]? =some s->avs[i]? =some v->aI Fz s v)->
  eC P {fr:=af.enter fn g body avs .normal,cs:=[],h:=a} fun v a'=>∃Fz':Nat->Option AO,(∀i o,Fz i=some o->Fz' i=some o)/\(∀i o,Fz' i=some o->a'.get i=some o)/\aI Fz' (C.res y) v/\Grow a a'/\
   (∀i o,a.get i=some o->a'.get i=some o)/\(∀i o,a'.get i=some o->i<a'.next)/\ ∀i o,Fz' i=some o->Fz i=some o\/a.next<=i
theorem cf.of {g:FuncId} {C:aP} (h:∀fn body,tab.fns.get g=some fn->fn.body=some body->∀y,C.pre y->∀(C0:Cx) (a:AH) (avs:List AV),C0.ρ=(fun _=>none)->HS tab C0 ⟨0,[]⟩ a->
     (C.args y).length=avs.length->(∀(i:Nat) s v,(C.args y)[i]? =some s->avs[i]? =some v->aI C0.Fz s v)->eC P {fr:=af.enter fn g body avs .normal,cs:=[],h:=a} (hU tab C0 ⟨0,[]⟩ a fun v s=>
       (∀(C':Cx) (a':AH) (av:AV),HS tab C' s.h a'->aB C' v av->∃Fz':Nat->Option AO,(∀i o,C'.Fz i=some o->Fz' i=some o)/\(∀i o,Fz' i=some o->a'.get i=some o)/\aI Fz' (C.res y) av))):cf P tab g C:=by
 intro fn body hfn hb y hy Fz a avs hfz hwf hlen hav;let h0:AH:=ofFn a.next Fz
 have hg0:∀i,h0.get i=Fz i:=by
   intro i;simp only[h0,oP];split
   . rfl
   . rename_i hi
     cases hz:Fz i with
     |none=>rfl
     |some o=>exact absurd (hwf i o (hfz i o hz)) hi
 let C0:Cx:=⟨fun _=>none,Fz⟩
 have H0:HS tab C0 ⟨0,[]⟩ h0:=by
   refine⟨fun p o hp=>by simp[SH.get,look]at hp,fun p q o o' I J hp=>by simp[SH.get,look]at hp,fun i o hi=>by rw[hg0];exact hi,fun p o I hp=>by simp[SH.get,look]at hp,fun p I hp=>by simp[C0]at hp,fun i o hi=>?_⟩;rw[hg0]at hi;exact hwf i o (hfz i o hi)
 have:=h fn body hfn hb y hy C0 h0 avs rfl H0 hlen hav;refine(this.frame (h:=a) (fun i o hi=>by rw[hg0]at hi;exact hfz i o hi) rfl).mono ?_;rintro v a2 ⟨a1,⟨sv,s',C',hQ,hsv,hH,hT,hG,_⟩,hn,hle,hw1,hg2⟩;obtain⟨Fz',f1,f2,f3⟩:=hQ C' a1 v hH hsv;refine⟨Fz',fun i o hi=>f1 i o (hT.fz i o hi),fun i o hi=>(hg2 i o).2 (.inl (f2 i o hi)),f3,⟨by rw[hn];exact hle,fun i o hi=>?_⟩,fun i o hi=>?_,fun i o hi=>?_,fun i o hi=>?_⟩
 . rcases(hg2 i o).1 hi with g|⟨g,_,_⟩
   . rcases hG.old i o g with⟨o0,g1⟩|g1
     . rw[hg0]at g1;exact .inl ⟨o0,hfz i o0 g1⟩
     . exact .inr g1
   . exact .inl ⟨o,g⟩
 . cases hz:Fz i with
   | some o'=>
     have:=hfz i o' hz;rw[hi]at this;cases this;exact(hg2 i o).2 (.inl (f2 i o (f1 i o (hT.fz i o hz))))
   | none=>
     refine(hg2 i o).2 (.inr ⟨hi,by rw[hg0];exact hz,?_⟩)
     cases hz1:a1.get i with
     |none=>rfl
     | some o1=>
       rcases hG.old i o1 hz1 with⟨o0,g1⟩|g1
       . rw[hg0,hz]at g1;cases g1
       . have:=hwf i o hi;have e:h0.next=a.next:=rfl;omega
 . rcases(hg2 i o).1 hi with g|⟨g,_,_⟩
   . rw[hn];exact hw1 i o g
   . have:=hwf i o g;omega
 . have h3:=f2 i o hi;rcases hG.old i o h3 with⟨o0,g1⟩|g1
   . rw[hg0]at g1;have:=f1 i o0 (hT.fz i o0 g1);rw[hi]at this;cases this;exact .inl g1
   . exact .inr g1
end
end
section
universe u v
variable [Inhabited aF]
def PL (Fz:Nat->Option AO) (fs:List SV) (vs:List AV):Prop:=fs.length=vs.length/\ ∀(i:Nat) f v,fs[i]? =some f->vs[i]? =some v->aI Fz f v
theorem PL.nil {Fz:Nat->Option AO}:PL Fz [] []:=⟨rfl,fun i f v h=>by simp at h⟩
theorem PL.cons {Fz:Nat->Option AO} {f:SV} {v:AV} {fs:List SV} {vs:List AV} (h:aI Fz f v) (t:PL Fz fs vs):PL Fz (f::fs) (v::vs):=by
 refine⟨by simp[t.1],fun i a b ha hb=>?_⟩
 cases i with
 |zero=>simp at ha hb;subst ha;subst hb;exact h
 |succ i=>exact t.2 i a b (by simpa using ha) (by simpa using hb)
theorem PL.split {Fz:Nat->Option AO} {xs fs:List SV} {us vs:List AV} (h:PL Fz (xs++fs) (us++vs)) (hl:xs.length=us.length):PL Fz xs us/\PL Fz fs vs:=by
 refine⟨⟨hl,fun i f v hf hv=>h.2 i f v ?_ ?_⟩,⟨?_,fun i f v hf hv=>h.2 (xs.length+i) f v ?_ ?_⟩⟩
 . rw[AX (Ad.1 hf).1];exact hf
 . rw[AX (Ad.1 hv).1];exact hv
 . have:=h.1;simp at this;omega
 . rw[A3 (by omega)];simpa using hf
 . rw[A3 (by omega),hl];simpa using hv
theorem ID {X X':Type} {L:List X} {L':List X'} {enc:X->List SV} {enc':X'->List SV} {Fz:Nat->Option AO} {v:AV} (h:SV.aJ X' L' enc'=SV.aJ X L enc) (hv:aI Fz (.aJ X' L' enc') v):aI Fz (.aJ X L enc) v:=h▸hv
section
variable {P:Program} {tab:aZ} {cfg:iq} {ta:T AV} {a:AH}
theorem Tf {C:Cx} {s:St} (hF:FS C s.ts ta) (H:HS tab C s.h a) {d:Nat} {o0:SO} (hd:s.h.get d=some o0):∃C',((s.ev (.kill d)).del d).log=s.log++[.kill d]/\Tr C [.kill d] C'/\HS tab C' ((s.ev (.kill d)).del d).h a/\FS C' ((s.ev (.kill d)).del d).ts ta/\
   dA C s.h a C' ((s.ev (.kill d)).del d).h/\dd C (.kill d) C'/\ ∀I,C.ρ d=some I->I.cap.isSome->C'.Fz I.β=a.get I.β:=by
 obtain⟨ts,⟨n,os⟩,log⟩:=s;obtain⟨I,hI,ho⟩:=H.obj d _ hd;obtain⟨C',hT,H',hfb,hρ⟩:=H.freeze (e:= .kill d) hd hI (fun C' h1 h2 _=>Mf C' h1 h2);refine⟨C',rfl,hT.tr,H',hF.turns hT,?_,hT,fun J hJ hc=>by rw[hI]at hJ;cases hJ;exact hfb hc⟩;intro p o J hp hJ hc;by_cases e:p=d
 . subst e;rw[hI]at hJ;cases hJ;obtain⟨b,hb⟩:=(H.at_ hp hI).live hc;exact .inr ⟨b,hb,by rw[hfb hc,hb]⟩
 . refine .inl ⟨o.on (.kill d),?_,by rw[hρ];exact hJ⟩;simp only[St.ev,St.del,SH.aS,if_neg e];rw[qy,hp];rfl
theorem yu (htab:cfg.tab=tab):∀(n:Nat) (fs as1:List SV) (vs:List AV) (s:St) (C:Cx) (K:St->Prop),dP cfg n fs as1 s K->aN C as1 vs->FS C s.ts ta->HS tab C s.h a->
  ∃C' new s',s'.log=s.log++new/\Tr C new C'/\HS tab C' s'.h a/\FS C' s'.ts ta/\dA C s.h a C' s'.h/\K s'/\PL C'.Fz fs vs:=by
 intro n;induction n with
 |zero=>intro fs as1 vs s C K h;exact h.elim
 | succ n ih=>
  intro fs as1 vs s C K h hs0 hF H;have lift:∀{f:SV} {fs:List SV} {a0:SV} {as1:List SV} {v:AV} {vs:List AV},dP cfg n fs as1 s K->aN C as1 vs->(∀Fz':Nat->Option AO,(∀i o,C.Fz i=some o->Fz' i=some o)->aI Fz' f v)->
    ∃C' new s',s'.log=s.log++new/\Tr C new C'/\HS tab C' s'.h a/\FS C' s'.ts ta/\dA C s.h a C' s'.h/\K s'/\PL C'.Fz (f::fs) (v::vs):=by
   intro f fs a0 as1 v vs h hs hv;obtain⟨C',new,s',g1,g2,g3,g4,g5,g6,g7⟩:=ih fs as1 vs s C K h hs hF H;exact⟨C',new,s',g1,g2,g3,g4,g5,g6,PL.cons (hv _ g2.fz) g7⟩
  have liftP:∀{f:SV} {fs:List SV} {as1:List SV} {v:AV} {vs:List AV},dP cfg n fs as1 s K->aN C as1 vs->aI C.Fz f v->
    ∃C' new s',s'.log=s.log++new/\Tr C new C'/\HS tab C' s'.h a/\FS C' s'.ts ta/\dA C s.h a C' s'.h/\K s'/\PL C'.Fz (f::fs) (v::vs):=fun h hs hv=>lift (a0:= .any) h hs (fun Fz' hf=>hv.mono hf)
  cases fs with
  | nil=>
   cases as1 with
   |nil=>
    cases vs with
    |nil=>exact⟨C,[],s,by simp,Tr.refl C,H,hF,dA.refl _ _ _,h,PL.nil⟩
    |cons=>have:=hs0.1;simp at this
   |cons=>simp only[dP]at h
  | cons f fs =>
   cases as1 with
   |nil=>simp only[dP]at h
   | cons x as1=>
    cases vs with
    |nil=>have:=hs0.1;simp at this
    | cons v vs=>
     obtain⟨hx,hs⟩:=hs0.head;clear hs0;simp only[dP]at h;split at h
     . exact liftP h hs (.any _)
     . obtain⟨rfl,h⟩:=h;rw[lv hx];exact liftP h hs (.bool _)
     . obtain⟨h1,h2,h3⟩:=cH h;clear h;have h1:=BC h1;subst h1;rw[iI hx,h2];exact liftP h3 hs (.int _ _)
     . obtain⟨rfl,h⟩:=h;rw[gH hx];exact liftP h hs (.str _)
     . exact liftP h hs (kf hx rfl)
     . obtain⟨rfl,h⟩:=h;exact liftP h hs (kf hx rfl)
     . exact liftP h hs (kf hx rfl)
     . exact liftP h hs (kf hx rfl)
     . exact liftP h hs (kf hx rfl)
     . obtain⟨h1,h⟩:=h;exact liftP h hs (ID h1 (kf hx rfl))
     . obtain⟨rfl,h⟩:=h;rw[mX hx];exact liftP h hs (.bL rfl (.inl rfl))
     . rename_i X L enc b;split at h
       . rename_i X' L' enc' t hb;obtain⟨h1,h⟩:=h;obtain⟨C1,e1,e2,e3,e4,e5,e6⟩:=kx hF H hb;have hs1:aN C1 (fo (.eW b X' L' enc') as1) vs:=by
           rw[ni];refine⟨by simp[hs.1],fun i q w hq hw=>?_⟩;rw[Au]at hq;obtain⟨q0,hq0,rfl⟩:=Ap.1 hq;exact e2.val q0 w (hs.2 i q0 w hq0 hw)
         obtain⟨C',new,s',g1,g2,g3,g4,g5,g6,g7⟩:=ih fs _ vs _ C1 K h hs1 e4 e3;exact⟨C',_,s',by rw[g1,e1,B6],e2.trans g2,g3,g4,e6.trans g5 g2.fz,g6,PL.cons ((ID h1 (e5 v hx)).mono g2.fz) g7⟩
       . exact h.elim
     . rename_i X L enc b off m c;split at h
       . rename_i cs e hb;split at h
         . rename_i r hr;rw[htab]at hr;obtain⟨hck,h⟩:=cH h;simp only[Ab,AI]at hck;obtain⟨⟨⟨hr0,hmc⟩,hle⟩,hpu⟩:=hck;have hr0:r≠0:=fun e=>by subst e;simp at hr0
           have hmc:=Al hmc;have hle:=Al hle;obtain⟨h1,h⟩:=h;obtain⟨C1,e1,e2,e3,e4,e5,e6,e7⟩:=Tf hF H hb;have hs1:aN C1 (fo (.kill b) as1) vs:=hs.turns e6;obtain⟨C',new,s',g1,g2,g3,g4,g5,g6,g7⟩:=ih fs _ vs _ C1 K h hs1 e4 e3;refine⟨C',_,s',by rw[g1,e1,B6],e2.trans g2,g3,g4,e5.trans g5 g2.fz,g6,PL.cons ?_ g7⟩
           cases hx with
           |pure hx=>cases hx
           |sl hI=>
            rename_i I;obtain⟨hcap,ca,sz,k1,k2,k3⟩:=H.at_ hb hI;have hszr:r=sz:=by rw[hr]at k3;exact B8 k3
            subst hszr;have hfz:=e7 I hI hcap;rw[k1]at hfz;have hLm:L.length=m:=by
              have:=Ax List.length h1;rw[xB]at this;simpa using this.symm
            have hsub:=(k2.drop off).take (m*r);have hT:Told C.Fz X L enc r ((ca.drop off).take (m*r)):=xc hr0 hsub (by simp;omega) hpu hLm (fun i x q hx hq=>by
              rw[h1,Au,hx]at hq;simpa using hq)
            subst hLm;refine aI.mono g2.fz (vB I.β off _ ca e _ false .rw _ rfl (.of hfz) (by omega) (by rw[<-k2.1];exact hle) hT.each hmc ?_);intro i x j w hx hw;obtain⟨u,q1,q2⟩:=hT.cell i x j w hx hw;refine⟨u,?_,q2.mono e2.fz⟩;rw[Be]at q1;split at q1
            . rw[BN,<-BZ]at q1;exact q1
            . cases q1
         . exact h.elim
       . exact h.elim
     . rename_i xs ys;obtain⟨h1,h⟩:=cH h;have h1:=Af h1;obtain⟨us,rfl,hu⟩:=lx hx;obtain⟨C',new,s',g1,g2,g3,g4,g5,g6,g7⟩:=ih _ _ (us++vs) s C K h (hu.append hs) hF H;obtain⟨q1,q2⟩:=g7.split (h1.trans hu.1);exact⟨C',new,s',g1,g2,g3,g4,g5,g6,PL.cons (.agg q1.1 q1.2) q2⟩
     . rename_i f xs us g ys ws;obtain⟨h1,h'⟩:=cH h;clear h;have h:=h';clear h';simp only[Ab]at h1;obtain⟨⟨h0,h1⟩,h2⟩:=h1;have h0:=Af h0;have h1:=Af h1;have h2:=Af h2;subst h0;have hfn:∃y' w',v= .fn (.func f) y' w'/\aN C ys y'/\aN C ws w':=by
         cases hx with
         | pure hx=>cases hx with
           |fn k1 k2 k3 k4=>exact⟨_,_,rfl,⟨k1,fun i q r a b=> .pure (k3 i q r a b)⟩,⟨k2,fun i q r a b=> .pure (k4 i q r a b)⟩⟩
         |fn k1 k2 k3 k4=>exact⟨_,_,rfl,⟨k1,k3⟩,⟨k2,k4⟩⟩
       obtain⟨y',w',rfl,k1,k2⟩:=hfn;obtain⟨C',new,s',g1,g2,g3,g4,g5,g6,g7⟩:=ih _ _ (y'++(w'++vs)) s C K h (k1.append (k2.append hs)) hF H;obtain⟨q1,q2⟩:=g7.split (h1.trans k1.1);obtain⟨q2,q3⟩:=q2.split (h2.trans k2.1);exact⟨C',new,s',g1,g2,g3,g4,g5,g6,PL.cons (.fn q1.1 q2.1 q1.2 q2.2) q3⟩
     . exact h.elim
end
end
section
universe u v
variable [Inhabited aF]
theorem lr {α:Type u}:∀{l:List α} {K:List α->Prop},jm l K->K l:=by
 intro l;induction l with
 |nil=>intro K h;exact h
 |cons x l ih=>intro K h;exact ih (K:=fun l'=>K (x::l')) h
theorem Mv {v:SV} {K:SV->Prop} (h:yO v K):K v:=by
 cases v<;>simp only[yO]at h<;>first|exact h|exact lr h|exact lr (lr h)
theorem Mu {o:SO} {K:SO->Prop} (h:IA o K):K o:=by
 cases o with
 |cells cs t=>exact lr (K:=fun cs=>K (.cells cs t)) h
 |arr X L enc t=>exact h
theorem FQ {h:SH} {K:SH->Prop} (hh:sE h K):K h:=by
 obtain⟨n,os⟩:=h;simp only[sE]at hh;split at hh
 . exact Mu (K:=fun o=>K ⟨n,(_,some o)::_⟩) hh
 . exact hh
theorem tW {α:Type}:∀{t:T α} {K:T α->Prop},nc t K->K t:=by
 intro t;induction t with
 |e=>intro K h;exact h
 |n v l r ihl ihr=>
  intro K h;simp only[nc]at h;have h:=ihr (ihl h)
  cases v<;>exact h
section
variable {P:Program} {tab:aZ} {cfg:iq} {rec:SM->(SV->St->Prop)->Prop} {C:Cx} {s:St} {ta:T AV} {a:AH}
def nu (P:Program) (tab:aZ) (rec:SM->(SV->St->Prop)->Prop):Prop:=
 ∀(f:FuncId) (fn:Func) (body:Code) (args:List SV) (h:SH) (a:AH) (C:Cx) (avs:List AV) (Q:SV->St->Prop),tab.fns.get f=some fn->fn.body=some body->
  rec ⟨f,Nat.max fn.ntmps args.length,h.next,[.code body],⟨Fr.of args 0,h,[]⟩⟩ Q->HS tab C h a->aN C args avs->eC P {fr:=af.enter fn f body avs .normal,cs:=[],h:=a} (hU tab C h a Q)
theorem NQ (htab:cfg.tab=tab) (hrec:nu P tab rec) (hcon:∀g C,cfg.gm g=some C->cf P tab g C) {f:FuncId} {args:List SV} {avs:List AV} {K:SV->St->Prop} (h:za cfg rec f args s K) (hF:FS C s.ts ta) (H:HS tab C s.h a) (hs:aN C args avs):
   ∃fn body,tab.fns.get f=some fn/\fn.body=some body/\eC P {fr:=af.enter fn f body avs .normal,cs:=[],h:=a} fun v a'=>a.next<=a'.next/\ ∃sv s',K sv s'/\nJ tab C s ta a sv s' v a':=by
 unfold za at h;rw[htab]at h;split at h
 . rename_i fn hfn;split at h
   . rename_i body hb;refine⟨fn,body,hfn,hb,?_⟩;split at h
     . rename_i Cn hCn;obtain⟨y,h⟩:=h;obtain⟨C1,new,s1,g1,g2,g3,g4,g5,⟨hpre,hk⟩,g7⟩:=yu htab 1000 _ _ _ _ _ _ h hs hF H;refine(hcon f Cn hCn fn body hfn hb y hpre C1.Fz a avs g3.fz g3.wf g7.1 g7.2).mono ?_;rintro v a' ⟨Fz',f1,f2,f3,f4,f5,f6,f7⟩;refine⟨f4.next,_,s1,hk,⟨⟨C1.ρ,Fz'⟩,new,g1,?_, .pure f3,?_,?_,?_⟩,f4⟩
       . have hle:C1.le ⟨C1.ρ,Fz'⟩:=⟨fun _ _ h=>h,f1⟩;have:=g2.trans hle.tr;simpa using this
       . have hle:C1.le ⟨C1.ρ,Fz'⟩:=⟨fun _ _ h=>h,f1⟩;refine⟨fun p o hp=>?_,g3.inj,f2,fun p o I hp hI hc=>?_,g3.lt,f6⟩
         . obtain⟨I,hI,ho⟩:=g3.obj p o hp;refine⟨I,hI,?_⟩;have ho':=ho.le hle;by_cases hc:I.cap.isSome
           . obtain⟨b,hb'⟩:=ho.live hc;exact ho'.congr ((f5 _ _ hb').trans hb'.symm)
           . cases o with
             |cells cs t=>exact absurd ho.1 hc
             | arr X L enc t=>
               obtain⟨q1,q2,q3,q4,q5⟩:=ho';refine⟨q1,q2,q3,q4,?_⟩
               cases hcap:I.cap with
               |none=>rw[hcap]at q5;exact q5
               |some c=>rw[hcap]at hc;simp at hc
         . show Fz' I.β=none
           cases hz:Fz' I.β with
           |none=>rfl
           | some b=>
             rcases f7 _ _ hz with hz1|hz1
             . have:=g3.dj p o I hp hI hc;rw[hz1]at this;cases this
             . obtain⟨b',hb'⟩:=(g3.at_ hp hI).live hc;have:=g3.wf _ _ hb';omega
       . have hle:C1.le ⟨C1.ρ,Fz'⟩:=⟨fun _ _ h=>h,f1⟩;exact FS.le hle g4
       . intro p o I hp hI hc _;obtain⟨b,hb'⟩:=(H.at_ hp hI).live hc;refine⟨by rw[hb'];exact f5 _ _ hb',?_⟩;rcases g5 p o I hp hI hc with h1|⟨b,_,h2⟩
         . exact .inl h1
         . exact .inr ⟨b,f1 _ _ h2⟩
     . obtain⟨ts,hh,log⟩:=s;simp only at h;refine(hrec f fn body args hh a C avs _ hfn hb h H hs).mono ?_;rintro v a' ⟨sv,s',C',hk,q1,q2,q3,q4,q5⟩;obtain⟨ts',h',log'⟩:=s';exact⟨q4.next,sv,_,hk,⟨C',log',rfl,q3,q1,q2,hF.log q3,q5⟩,q4⟩
   . exact h.elim
 . exact h.elim
theorem Ho (htab:cfg.tab=tab) (hrec:nu P tab rec) (hcon:∀g C,cfg.gm g=some C->cf P tab g C) {o:Oper} {K:SV->St->Prop} (h:vV cfg rec s o K) (hF:FS C s.ts ta) (H:HS tab C s.h a):
   gD P tab ta a o fun v a'=>∃sv s',K sv s'/\nJ tab C s ta a sv s' v a':=by
 have hsop:kU cfg.tab cfg.view s o K->gD P tab ta a o fun v a'=>∃sv s',K sv s'/\nJ tab C s ta a sv s' v a':=by
   intro h;rw[htab]at h;obtain⟨sv,s',v,a',h1,h2,h3⟩:=QW hF H h;exact .inl ⟨v,a',h2,h3.grow.next,sv,s',h1,h3⟩
 unfold vV at h;split at h
 . rename_i c hc;split at h
   . rename_i f hf;obtain⟨args,h1,h2⟩:=de h;obtain⟨sf,h3,h4⟩:=de h2;obtain⟨avs,g1,g2⟩:=oS hF h1;obtain⟨vf,g3,g4⟩:=jV hF h3;split at h4
     . rename_i g first captured;have hfn:∃us ws,vf= .fn (.func g) us ws/\aN C first us/\aN C captured ws:=by
        cases g4 with
        |pure hx=>cases hx with
         |fn k1 k2 k3 k4=>exact⟨_,_,rfl,⟨k1,fun i q r a b=> .pure (k3 i q r a b)⟩,⟨k2,fun i q r a b=> .pure (k4 i q r a b)⟩⟩
        |fn k1 k2 k3 k4=>exact⟨_,_,rfl,⟨k1,k3⟩,⟨k2,k4⟩⟩
       obtain⟨us,ws,rfl,k1,k2⟩:=hfn;obtain⟨fn,body,q1,q2,q3⟩:=NQ htab hrec hcon h4 hF H ((k1.append g2).append k2);exact .inr ⟨c,f,g,us,ws,avs,fn,body,hc,hf,g3,g1,q1,q2,q3⟩
     . exact h4.elim
   . exact hsop h
 . exact hsop h
theorem xx {ops:Array Oper} {o:Oper} {K:Bool->St->Prop} (h:sG ops o s K) (hF:FS C s.ts ta):∃b s',K b s'/\wanted ops o ta= .ok b/\FS C s'.ts ta/\s'.h=s.h/\s'.log=s.log:=by
 unfold sG at h;unfold wanted;split at h
 . rename_i hg;rw[hg];exact⟨true,s,h,rfl,hF,rfl,rfl⟩
 . rename_i j w hg;rw[hg];simp only;obtain⟨ts,hh,log⟩:=s;split at h
   . rename_i d hd;simp only at h;rw[hd];simp only[BO];have lit:∀p:Bool,look ts d=some (.bool p)->ta.get d=some (.bool p):=by
       intro p hp;have h1:=hF d _ hp;have h2:=lv h1
       cases hg:ta.get d with
       |none=>rw[hg]at h2;simp at h2
       |some v=>rw[hg]at h2;simp at h2;rw[h2]
     have putb:∀p:Bool,ta.get d=some (.bool p)->FS C ((d, .bool p)::ts) ta:=by
       intro p hp t q hq;rw[jv]at hq;split at hq
       . rename_i e
         cases hq;rw[e,hp];exact .pure (.bool p)
       . exact hF t q hq
     split at h
     . rename_i p hp;have hta:=lit p hp;rw[hta];simp only;rcases vY h with⟨rfl,h⟩|⟨rfl,h⟩
       . exact⟨w,_,h,by cases w<;>rfl,putb true hta,rfl,rfl⟩
       . exact⟨!w,_,h,by cases w<;>rfl,putb false hta,rfl,rfl⟩
     . rename_i cs hp;have h1:=hF d _ hp;obtain⟨us,h2,_⟩:=vA h1
       cases hg:ta.get d with
       |none=>exact⟨false,_,h,rfl,hF,rfl,rfl⟩
       | some v=>
         rw[hg]at h2;simp at h2;rw[h2];exact⟨false,_,h,rfl,hF,rfl,rfl⟩
     . exact h.elim
   . rename_i hd;rw[hd];exact⟨false,_,h,rfl,hF,rfl,rfl⟩
def fU (nt:Nat) (ta:T AV) (d:Option Tmp) (v:AV):T AV:=match d with|some d=>bif Nat.blt d nt then ta.set d (some v)else ta|none=>ta
theorem qz {nt:Nat} {d:Option Tmp} {sv:SV} {v:AV} {K:St->Prop} (h:iF nt s d sv K) (hF:FS C s.ts ta) (hv:aB C sv v):
  ∃s',K s'/\FS C s'.ts (fU nt ta d v)/\s'.h=s.h/\s'.log=s.log:=by
 obtain⟨ts,hh,log⟩:=s;unfold iF at h
 cases d with
 |none=>exact⟨_,FQ (K:=fun h=>K ⟨ts,h,log⟩) h,hF,rfl,rfl⟩
 |some d=>
  simp only[fU]at h⊢
  cases hb:Nat.blt d nt
  . rw[hb]at h;exact⟨_,h,hF,rfl,rfl⟩
  . rw[hb]at h;have h:=FQ (K:=fun h=>K ⟨(d,sv)::ts,h,log⟩) (Mv (K:=fun v=>sE hh fun h=>K ⟨(d,v)::ts,h,log⟩) h);exact⟨_,h,hF.put hv,rfl,rfl⟩
end
end
section
universe u v
variable [Inhabited aF]
mutual
theorem Jv (e:Ev):∀(s:SV) (n:Nat),s.lt n=true->n<=e.id->s.on e=s
 | .bool b,n,_,_=>by simp[SV.on]
 | .int k m,n,_,_=>by simp[SV.on]
 | .str s,n,_,_=>by simp[SV.on]
 | .aW,n,_,_=>by simp[SV.on]
 | .wp _,n,_,_=>by simp[SV.on]
 | .ptr b off,n,h,he=>by
  simp only[SV.lt,B9]at h
  cases e<;>simp only[SV.on,Ev.id]at* <;>first|rfl|(rw[fF (by omega)];rfl)
 | .bR b i off,n,h,he=>by
  simp only[SV.lt,B9]at h
  cases e<;>simp only[SV.on,Ev.id]at* <;>first|rfl|(rw[fF (by omega)];rfl)
 | .cB cs off,n,_,_=>by simp[SV.on]
 | .nils,n,_,_=>by simp[SV.on]
 | .sl b off l c,n,h,he=>by
  simp only[SV.lt,B9]at h
  cases e<;>simp only[SV.on,Ev.id]at* <;>first|rfl|(rw[fF (by omega)];rfl)
 | .own b,n,h,he=>by
  simp only[SV.lt,B9]at h
  cases e<;>simp only[SV.on,Ev.id]at* <;>first|rfl|(rw[fF (by omega)];rfl)
 | .aJ X L enc,n,_,_=>by simp[SV.on]
 | .bh,n,_,_=>by simp[SV.on]
 | .map b,n,_,_=>by simp[SV.on]
 | .bB,n,_,_=>by simp[SV.on]
 | .fn f xs ys,n,h,he=>by
  simp only[SV.lt,Ab]at h;simp only[SV.on,l6 e xs n h.1 he,l6 e ys n h.2 he]
 | .agg cs,n,h,he=>by
  simp only[SV.lt]at h;simp only[SV.on,l6 e cs n h he]
 | .bj cs,n,h,he=>by
  simp only[SV.lt]at h;simp only[SV.on,l6 e cs n h he]
 | .any,n,_,_=>by simp[SV.on]
theorem l6 (e:Ev):∀(l:List SV) (n:Nat),gq n l=true->n<=e.id->fo e l=l
 |[],n,_,_=>by simp[fo]
 |v::l,n,h,he=>by
  simp only[gq,Ab]at h;simp only[fo,Jv e v n h.1 he,l6 e l n h.2 he]
end
theorem GV:∀(log:List Ev) (s:SV) (n:Nat),s.lt n=true->(∀e∈log,n<=e.id)->gW log s=s:=by
 intro log;induction log with
 |nil=>intro s n _ _;rfl
 |cons e l ih=>
  intro s n h he;simp only[gW];rw[Jv e s n h (he e Ao)];exact ih s n h (fun e' h'=>he e' (An _ h'))
theorem dY {n:Nat}:∀{l:List SV},gq n l=true↔∀s∈l,s.lt n=true:=by
 intro l;induction l with
 |nil=>simp[gq]
 |cons v l ih=>simp[gq,ih]
theorem si {n:Nat} {l:List SV} (h:gq n l=true) {i:Nat} {s:SV} (hs:l[i]? =some s):s.lt n=true:=dY.1 h s (BP hs)
open Classical in
noncomputable def Cx.cut (C:Cx) (n:Nat):Cx:={C with ρ:=fun p=>if p<n then C.ρ p else none}
theorem l5 (C:Cx) {n p:Nat} (h:p<n):(C.cut n).ρ p=C.ρ p:=by simp[Cx.cut,h]
theorem aB.cut {C:Cx} {n:Nat} {s:SV} {v:AV} (h:aB C s v) (hl:s.lt n=true):aB (C.cut n) s v:=by
 induction h with
 |pure h=>exact .pure h
 |ptr h=>simp only[SV.lt,B9]at hl;exact .ptr (by rw[l5 C hl];exact h)
 |bR h hc=>simp only[SV.lt,B9]at hl;exact .bR (by rw[l5 C hl];exact h) hc
 |ew h hc=>simp only[SV.lt,B9]at hl;exact .ew (by rw[l5 C hl];exact h) hc
 |own h hc=>simp only[SV.lt,B9]at hl;exact .own (by rw[l5 C hl];exact h) hc
 |sl h=>simp only[SV.lt,B9]at hl;exact .sl (by rw[l5 C hl];exact h)
 |fn h1 h2 _ _ ih3 ih4=>
  simp only[SV.lt,Ab]at hl;exact .fn h1 h2 (fun i x u hx hu=>ih3 i x u hx hu (si hl.1 hx)) (fun i x u hx hu=>ih4 i x u hx hu (si hl.2 hx))
 |agg h1 _ ih=>simp only[SV.lt]at hl;exact .agg h1 (fun i x u hx hu=>ih i x u hx hu (si hl hx))
 |bj h1 _ ih=>simp only[SV.lt]at hl;exact .bj h1 (fun i x u hx hu=>ih i x u hx hu (si hl hx))
theorem aI.low {Fz:Nat->Option AO} {n:Nat} {s:SV} {v:AV} (h:aI Fz s v):s.lt n=true:=by
 induction h with
 |fn h1 h2 _ _ ih3 ih4=>
  simp only[SV.lt,Ab];constructor
  . rw[dY];intro s hs;obtain⟨i,hi⟩:=Bt.1 hs;exact ih3 i s _ hi (Ag (by rw[<-h1];exact(Ad.1 hi).1))
  . rw[dY];intro s hs;obtain⟨i,hi⟩:=Bt.1 hs;exact ih4 i s _ hi (Ag (by rw[<-h2];exact(Ad.1 hi).1))
 |agg h1 _ ih=>
  simp only[SV.lt];rw[dY];intro s hs;obtain⟨i,hi⟩:=Bt.1 hs;exact ih i s _ hi (Ag (by rw[<-h1];exact(Ad.1 hi).1))
 |bj h1 _ ih=>
  simp only[SV.lt];rw[dY];intro s hs;obtain⟨i,hi⟩:=Bt.1 hs;exact ih i s _ hi (Ag (by rw[<-h1];exact(Ad.1 hi).1))
 |_=>rfl
theorem aB.low {C:Cx} {n:Nat} (hC:∀p I,C.ρ p=some I->p<n) {s:SV} {v:AV} (h:aB C s v):s.lt n=true:=by
 induction h with
 |pure h=>exact h.low
 |ptr h=>simpa [SV.lt]using hC _ _ h
 |bR h hc=>simpa [SV.lt]using hC _ _ h
 |ew h hc=>simpa [SV.lt]using hC _ _ h
 |own h hc=>simpa [SV.lt]using hC _ _ h
 |sl h=>simpa [SV.lt]using hC _ _ h
 |fn h1 h2 _ _ ih3 ih4=>
  simp only[SV.lt,Ab];constructor
  . rw[dY];intro s hs;obtain⟨i,hi⟩:=Bt.1 hs;exact ih3 i s _ hi (Ag (by rw[<-h1];exact(Ad.1 hi).1))
  . rw[dY];intro s hs;obtain⟨i,hi⟩:=Bt.1 hs;exact ih4 i s _ hi (Ag (by rw[<-h2];exact(Ad.1 hi).1))
 |agg h1 _ ih=>
  simp only[SV.lt];rw[dY];intro s hs;obtain⟨i,hi⟩:=Bt.1 hs;exact ih i s _ hi (Ag (by rw[<-h1];exact(Ad.1 hi).1))
 |bj h1 _ ih=>
  simp only[SV.lt];rw[dY];intro s hs;obtain⟨i,hi⟩:=Bt.1 hs;exact ih i s _ hi (Ag (by rw[<-h1];exact(Ad.1 hi).1))
section
variable {P:Program} {tab:aZ} {cfg:iq}
structure gZ (fr:af) (fn:FuncId) (nt:Nat):Prop where
 fn:fr.fn=fn
 nt:fr.nt=nt
 mode:fr.mode= .run
 defers:fr.defers=[]
 kind:fr.kind= .normal
 round:fr.round=none
theorem gZ.todo {fr:af} {fn:FuncId} {nt:Nat} (h:gZ fr fn nt) (ts:T AV) (k:List bm):gZ {fr with tmps:=ts,todo:=k} fn nt:=⟨h.fn,h.nt,h.mode,h.defers,h.kind,h.round⟩
def SI (tab:aZ) (C0:Cx) (h0:SH) (a0:AH) (ta:T AV) (a:AH) (s:St):Prop:=∃C,FS C s.ts ta/\HS tab C s.h a/\Tr C0 s.log C/\Grow a0 a/\cN C0 h0 a0 s.log C s.h a
inductive TS (HO:(Fr->SH->List Ev->Prop)->Code->List bm->Prop):List eg->List bm->Prop
 |nil:TS HO [] []
 |code {k:List eg} {k':List bm} (c:Code) (h:TS HO k k'):TS HO (.code c::k) (.code c::k')
 |inBlock {k:List eg} {k':List bm} (id:Nat) (h:TS HO k k'):TS HO (.inBlock id::k) (.inBlock id::k')
 |inLoop {k:List eg} {k':List bm} (b:Code) (h:TS HO k k'):TS HO (.inLoop b::k) (.inLoop b::k')
 |inScope {k:List eg} {k':List bm} (b:Code) (h:TS HO k k'):TS HO (.inScope b::k) (.inScope b::k')
 |inRegion {k:List eg} {k':List bm} (ops:Array Oper) (l:List Nat) (h:TS HO k k'):TS HO (.inRegion ops l::k) (.inRegion ops l::k')
 |head {k:List eg} {k':List bm} (gO:Fr->SH->List Ev->Prop) (b:Code) (h:TS HO k k') (ho:HO gO b k'):TS HO (.head gO::k) (.inLoop b::k')
theorem TS.exit {HO:(Fr->SH->List Ev->Prop)->Code->List bm->Prop} {id:Nat}:∀{k:List eg} {k':List bm} {k1:List eg},TS HO k k'->mw id k=some k1->∃k1',Am.exitTo id k'=some k1'/\TS HO k1 k1':=by
 intro k k' k1 h;induction h with
 |nil=>intro h;cases h
 |inBlock j h ih=>
  intro he;simp only[mw]at he;simp only[Am.exitTo]
  cases hb:Nat.beq j id
  . rw[hb]at he;exact ih he
  . rw[hb]at he;cases he;exact⟨_,rfl,h⟩
 |code c h ih=>intro he;simp only[mw]at he;simp only[Am.exitTo];exact ih he
 |inLoop b h ih=>intro he;simp only[mw]at he;simp only[Am.exitTo];exact ih he
 |inScope b h ih=>intro he;simp only[mw]at he;simp only[Am.exitTo];exact ih he
 |inRegion ops l h ih=>intro he;simp only[mw]at he;simp only[Am.exitTo];exact ih he
 |head gO b h ho ih=>intro he;simp only[mw]at he;simp only[Am.exitTo];exact ih he
theorem PI (htab:cfg.tab=tab) {C:Cx} {s:St} {ta:T AV} {a:AH} (hF:FS C s.ts ta) (H:HS tab C s.h a):∀{l:List ResultVar} {K:List SV->Prop},kr cfg s l K->∃vs svs,Am.results tab a ta l= .ok vs/\aN C svs vs/\K svs:=by
 intro l;induction l with
 |nil=>intro K h;exact⟨[],[],rfl,aN.nil,h⟩
 | cons x l ih=>
  intro K h
  cases x with
  |tmp t=>
   simp only[kr]at h;obtain⟨v,h1,h2⟩:=de h;obtain⟨vs,svs,g1,g2,g3⟩:=ih h2;refine⟨_,_,?_,aN.cons (hF t v h1) g2,g3⟩;simp only[Am.results];rw[rb g1]
  | cell b t=>
   simp only[kr]at h;rw[htab]at h;obtain⟨p,h1,h2⟩:=de h;obtain⟨bb,off,u,sv,h3,h4,h5,h6⟩:=xR H (hF b p h1) h2;obtain⟨vs,svs,g1,g2,g3⟩:=ih h6;refine⟨_,_,?_,aN.cons h5 g2,g3⟩;simp only[Am.results]
   cases hg:ta.get b with
   |none=>rw[hg]at h3;simp at h3
   |some w=>
    rw[hg]at h3;simp only[AK]at h3;rw[h3];simp only;rw[rb h4,rb g1]
theorem II (pr:fI P tab) (htab:cfg.tab=tab) {fn:FuncId} {nt:Nat} {s:St} {Q:SV->St->Prop} {C0:Cx} {h0:SH} {a0 a:AH} {fr:af} (h:nv cfg fn s Q) (hf:gZ fr fn nt) (hS:SI tab C0 h0 a0 fr.tmps a s)
   (ht:fr.todo=[]\/ ∃k,fr.todo= .code .ret::k):eC P {fr,cs:=[],h:=a} (hU tab C0 h0 a0 Q):=by
 obtain⟨C,hF,H,hT,hG,hK⟩:=hS;have hstep:Am.step tab sub0 {fr,cs:=[],h:=a}= .ok (.next {fr:={fr with mode:= .returning},cs:=[],h:=a}):=by
   rcases ht with ht|⟨k,ht⟩
   . simp only[Am.step,hf.mode,ht,Am.leave,hf.round]
   . simp only[Am.step,hf.mode,ht,Am.leave,hf.round]
 refine eC.next pr hstep ?_;unfold nv at h;rw[htab]at h;split at h
 . rename_i func hfn;obtain⟨vs,svs,g1,g2,g3⟩:=PI htab hF H h;have hdone:Am.step tab sub0 {fr:={fr with mode:= .returning},cs:=[],h:=a}= .ok (.done (Am.result vs) a):=by
     simp only[Am.step,Am.unwind,hf.defers,hf.fn,hfn];rw[rb g1];simp only[Am.doReturn,hf.kind]
   refine eC.done pr hdone ⟨_,s,C,g3,?_,H,hT,hG,hK⟩;unfold Am.result
   cases svs with
   | nil=>cases vs with
     |nil=>exact .bj g2.1 g2.2
     |cons=>have:=g2.1;simp at this
   | cons x svs=>cases vs with
     |nil=>have:=g2.1;simp at this
     | cons v vs=>cases svs with
      |nil=>cases vs with
       |nil=>exact g2.head.1
       |cons=>have:=g2.1;simp at this
      |cons y svs=>cases vs with
       |nil=>have:=g2.1;simp at this
       |cons w vs=>exact .bj g2.1 g2.2
 . exact h.elim
end
end
section
universe u v
variable [Inhabited aF]
section
variable {P:Program} {tab:aZ} {cfg:iq}
theorem cN.trans {C0 C C':Cx} {h0 h h':SH} {a0 a a':AH} {l m:List Ev} (k:cN C0 h0 a0 l C h a) (k':cN C h a m C' h' a') (hf:∀i o,C.Fz i=some o->C'.Fz i=some o) (H:∀i o,C.Fz i=some o->a.get i=some o) (H':∀i o,C'.Fz i=some o->a'.get i=some o):
   cN C0 h0 a0 (l++m) C' h' a':=by
 intro p o I hp hI hc hn;rw[zK]at hn;obtain⟨g1,g2⟩:=k p o I hp hI hc (fun e=>hn (Er _ e));rcases g2 with⟨o',h1,h2⟩|⟨b,h1⟩
 . obtain⟨g3,g4⟩:=k' p o' I h1 h2 hc (fun e=>hn (DN _ e));exact⟨g3.trans g1,g4⟩
 . exact⟨by rw[H' _ _ (hf _ _ h1),<-g1,H _ _ h1], .inr ⟨b,hf _ _ h1⟩⟩
theorem SI.res {C0 C:Cx} {h0:SH} {a0 a a':AH} {ta:T AV} {s s':St} {sv:SV} {v:AV} (H:HS tab C s.h a) (hT:Tr C0 s.log C) (hG:Grow a0 a) (hK:cN C0 h0 a0 s.log C s.h a) (hr:nJ tab C s ta a sv s' v a'):
  ∃C',aB C' sv v/\FS C' s'.ts ta/\HS tab C' s'.h a'/\Tr C0 s'.log C'/\Grow a0 a'/\cN C0 h0 a0 s'.log C' s'.h a':=by
 obtain⟨⟨C',new,e1,e2,e3,e4,e5,e6⟩,e7⟩:=hr;exact⟨C',e3,e5,e4,by rw[e1];exact hT.trans e2,hG.trans e7,by rw[e1];exact hK.trans e6 e2.fz H.fz e4.fz⟩
theorem fy.mono {ops:Array Oper} {nt:Nat} {G G':DS->Prop} (hg:∀s,G s->G' s):∀n s,fy P tab ops nt G n s->fy P tab ops nt G' n s:=by
 intro n;induction n with
 |zero=>intro s h;exact h
 |succ n ih=>
  intro s h;obtain⟨s1,h1,h2⟩:=h;refine⟨s1,h1,h2.imp (fun x=>⟨x.1,hg _ x.2⟩) (fun⟨c,o,q1,q2,q3,q4⟩=>⟨c,o,q1,q2,q3,?_⟩)⟩;rcases q4 with⟨v,h1,k1,k2,k3,k4⟩|⟨c',f,g,first,captured,args,fn,body,k1,k2,k3,k4,k5,k6,k7⟩
  . exact .inl ⟨v,h1,k1,k2,k3,ih _ k4⟩
  . exact .inr ⟨c',f,g,first,captured,args,fn,body,k1,k2,k3,k4,k5,k6,k7.mono fun v h1 ⟨a,b,c⟩=>⟨a,b,ih _ c⟩⟩
def yq (P:Program) (tab:aZ) (cfg:iq) (rec:SM->(SV->St->Prop)->Prop):Prop:=
 ∀(ops:Array Oper) (nt n:Nat) (s:St) (K:St->Prop) (ta:T AV) (a:AH) (C:Cx),sR cfg rec ops nt n ⟨s, .e,[],[]⟩ K->FS C s.ts ta->HS tab C s.h a->
  fy P tab ops nt (fun sF=>∃s' C' new,K s'/\s'.log=s.log++new/\Tr C new C'/\HS tab C' s'.h sF.h/\FS C' s'.ts sF.ts/\Grow a sF.h/\cN C s.h a new C' s'.h sF.h) n {ts:=ta,h:=a,aE:= .e,reads:=[],ax:=[]}
theorem HE {C:Cx} {s:St} {ta:T AV} {c:Operand} {p:Bool} (hF:FS C s.ts ta) (hc:fk s.ts c=some (.bool p)):FS C (fixC s c p).ts ta/\(fixC s c p).h=s.h/\(fixC s c p).log=s.log:=by
 obtain⟨ts,h,log⟩:=s
 cases c with
 |tmp t=>
  refine⟨?_,rfl,rfl⟩;intro t' q hq;simp only[fixC]at hq;rw[jv]at hq;split at hq
  . rename_i e
    cases hq;rw[e];exact hF t _ hc
  . exact hF t' q hq
 |const v=>exact⟨hF,rfl,rfl⟩
 |func f=>exact⟨hF,rfl,rfl⟩
 |global g=>exact⟨hF,rfl,rfl⟩
theorem Iv {C:Cx} {v e:SV} {av:AV} (h:tA v e) (hv:aB C v av):aB C e av:=by
 unfold tA at h;split at h
 . rw[<-h];exact hv
 . obtain⟨h1,h2⟩:=cH h;have h1:=BC h1;rw[<-h1,<-h2];exact hv
 . rw[<-h];exact hv
 . obtain⟨h1,_⟩:=cH h;simp only[Ab]at h1;rw[<-Af h1.1,<-Af h1.2];exact hv
 . obtain⟨h1,_⟩:=cH h;rw[<-Af h1];exact hv
 . exact hv
 . exact hv
 . exact hv
 . exact hv
 . rw[mX hv];exact .pure (.bL (by rw[h];rfl) (.inl rfl))
 . exact .pure (.any _)
 . rw[<-h];exact hv
theorem O0 {C:Cx}:∀{l m:List SV} {vs:List AV},ov l m->aN C l vs->aN C m vs:=by
 intro l;induction l with
 |nil=>intro m vs h hs;cases m with
  |nil=>exact hs
  |cons=>exact h.elim
 | cons a l ih=>intro m vs h hs;cases m with
  |nil=>exact h.elim
  |cons b m=>
   cases vs with
   |nil=>have:=hs.1;simp at this
   |cons v vs=>exact aN.cons (Iv h.1 hs.head.1) (ih h.2 hs.head.2)
theorem Nj {ts:Fr} {h eh:SH}:∀{l:Fr},jA ts h eh l->∀{t:Nat} {e:SV},look l t=some e->∃v,look ts t=some v/\oA h eh v e:=by
 intro l;induction l with
 |nil=>intro _ t e h;cases h
 |cons x l ih=>
  obtain⟨k,e0⟩:=x;intro hf t e hl;rw[jv]at hl;split at hl
  . rename_i ek
    cases hl;rw[ek];exact de hf.1
  . exact ih hf.2 hl
theorem Hx {α:Type u}:∀{l:List (Nat×α)} {t:Nat} {v:α},look l t=some v->(t,v)∈l:=by
 intro l;induction l with
 |nil=>intro t v h;cases h
 |cons x l ih=>
  obtain⟨k,w⟩:=x;intro t v h;rw[jv]at h;split at h
  . rename_i e;cases h;rw[e];exact Ao
  . exact An _ (ih h)
theorem Ni {h e:SH}:∀{n:Nat},zm tab h e n->∀p,p<n->rn tab h.next p (h.get p) (e.get p):=by
 intro n;induction n with
 |zero=>intro _ p hp;omega
 |succ n ih=>
  intro hf p hp;by_cases e:p=n
  . subst e;exact hf.1
  . exact ih hf.2 p (by omega)
theorem SI.eW {C0:Cx} {h0:SH} {a0 a:AH} {ta:T AV} {s:St} (hS:SI tab C0 h0 a0 ta a s) (l:List SV):SI tab C0 h0 a0 ta a (gz l s):=by
 obtain⟨C,hF,H,hT,hG,hK⟩:=hS;obtain⟨C',new,e,t,H',F',st,_⟩:=FT l s C hF H;exact⟨C',F',H',by rw[e];exact hT.trans t,hG,by rw[e];exact hK.trans (st.aU new) t.fz H.fz H'.fz⟩
open Classical in
theorem Iz (htab:cfg.tab=tab) {C0 C:Cx} {h0:SH} {a0 a:AH} {ta:T AV} {s:St} {base:Nat} (hC0:∀p I,C0.ρ p=some I->p<base) {log:List Ev} (hnew:(∀e∈s.log,base<=e.id)/\ ∀e∈log,base<=e.id) (hF:FS C s.ts ta) (H:HS tab C s.h a) (hT:Tr C0 s.log C) (hG:Grow a0 a) (hK:cN C0 h0 a0 s.log C s.h a)
   (hb0:∀p o,h0.get p=some o->p<base) {e:Fr×SH} (h1:jA s.ts s.h e.2 e.1) (h2:lh cfg.tab s.h e.2) (hl:low e.1 e.2=true) (hbn:base<=e.2.next) (hst:stay base s.h e.2=true):SI tab C0 h0 a0 ta a ⟨e.1,e.2,log⟩:=by
 obtain⟨ts,eh⟩:=e;simp only at h1 h2 hl hbn hst⊢;unfold low at hl;simp only[Ab,AE]at hl;obtain⟨hl1,hl2⟩:=hl;obtain⟨hnow,hlog⟩:=hnew;rw[htab]at h2;have hfit:=Ni h2;have hlow:∀p o,eh.get p=some o->p<eh.next/\o.lt eh.next=true:=by
   intro p o hp;unfold SH.get at hp;split at hp
   . rename_i o' ho'
     cases hp;have:=hl2 _ (Hx ho');simp only[B9]at this;exact this
   . cases hp
 let szOf (t:TypeId):Nat:=(tab.siz.get t).getD 0
 let Cy:Cx:=⟨fun p=>if p<eh.next then(match C.ρ p with
     |some I=>some I
     | none=>match eh.get p with
       |some (.arr _ _ _ t)=>some ⟨0,0,szOf t,none⟩
       |_=>none)else none,C.Fz⟩
 have hρ:∀p I,p<eh.next->C.ρ p=some I->Cy.ρ p=some I:=by
   intro p I hp hI;simp[Cy,hp,hI]
 have hcut:(C.cut eh.next).le Cy:=by
   refine⟨fun p I hp=>?_,fun _ _ h=>h⟩;simp only[Cx.cut]at hp;split at hp
   . rename_i hlt;exact hρ p I hlt hp
   . cases hp
 have hval:∀{s:SV} {v:AV},aB C s v->s.lt eh.next=true->aB Cy s v:=fun h hl=>(h.cut hl).le hcut
 have hback:∀p I,Cy.ρ p=some I->I.cap.isSome->C.ρ p=some I:=by
   intro p I hp hc;simp only[Cy]at hp;split at hp
   . split at hp
     . rename_i I' hI';rw[hI'];exact hp
     . split at hp
       . cases hp;simp at hc
       . cases hp
   . cases hp
 have hlive:∀p o I,eh.get p=some o->C.ρ p=some I->∃o',s.h.get p=some o':=by
   intro p o I hp hI;obtain⟨hlt,_⟩:=hlow p o hp;have hf:=hfit p hlt;rw[hp]at hf
   cases hs:s.h.get p with
   |some o'=>exact⟨o',rfl⟩
   | none=>
     rw[hs]at hf
     cases o with
     |cells cs t=>exact hf.elim
     | arr X L enc t=>
       have:=Al (cH hf).1;have:=H.lt p I hI;omega
 refine⟨Cy,?_,⟨?_,?_,H.fz,?_,?_,H.wf⟩,⟨?_,hT.fz⟩,hG,?_⟩
 ·
   intro t ev hev;obtain⟨v,hv,hfv⟩:=Nj h1 hev;have hlt:=hl1 _ (Hx hev);have hsv:=hF t v hv;simp only at hlt;unfold oA at hfv;split at hfv
   . rename_i b;split at hfv
     . rename_i X L enc t' hb1 hb2;rw[mX hsv];obtain⟨hbl,_⟩:=hlow _ _ hb2;have hf:=hfit _ hbl;rw[hb1,hb2]at hf;have hge:=Al (cH hf).1;have hnone:C.ρ b=none:=by
         cases hz:C.ρ b with
         |none=>rfl
         |some I=>have:=H.lt _ _ hz;omega
       exact .ew (I:=⟨0,0,szOf t',none⟩) (by simp[Cy,hbl,hnone,hb2]) rfl
     . exact hfv.elim
   . exact hval (Iv hfv hsv) hlt
 ·
   intro p o hp;obtain⟨hlt,hol⟩:=hlow p o hp;have hf:=hfit p hlt;rw[hp]at hf
   cases hs:s.h.get p with
   | none=>
     rw[hs]at hf
     cases o with
     |cells cs t=>exact hf.elim
     | arr X L enc t=>
       obtain⟨hge,hL,hz⟩:=cH hf;obtain⟨n,hn,hz⟩:=de hz;obtain⟨hn0,hz⟩:=cH hz;have hge:=Al hge;have hnone:C.ρ p=none:=by
         cases hz:C.ρ p with
         |none=>rfl
         |some I=>have:=H.lt _ _ hz;omega
       have hsz:szOf t=n:=by simp[szOf,hn]
       refine⟨⟨0,0,szOf t,none⟩,by simp[Cy,hlt,hnone,hp],?_⟩;subst hL;have hn0:n≠0:=fun e=>by subst e;simp at hn0
       exact⟨by simp only[hsz];exact hn,by simp only[hsz];omega,rfl,fun i x hx=>by simp at hx,rfl⟩
   | some o'=>
     rw[hs]at hf;obtain⟨I,hI,ho⟩:=H.obj p o' hs;refine⟨I,hρ p I hlt hI,?_⟩
     cases o with
     | cells cs t=>
       cases o' with
       |arr X L enc t'=>exact hf.elim
       | cells cs' t'=>
         obtain⟨htt,hcs⟩:=cH hf;have htt:=Af htt;subst htt;obtain⟨q1,ca,sz,q2,q3,q4⟩:=ho;have q5:=O0 hcs q3;exact⟨q1,ca,sz,q2,⟨q5.1,fun i x v hx hv=>hval (q5.2 i x v hx hv) (si hol hx)⟩,q4⟩
     | arr X L enc t=>
       cases o' with
       |cells cs' t'=>exact hf.elim
       | arr X' L' enc' t'=>
         obtain⟨htt,hLL⟩:=cH hf;have htt:=Af htt;subst htt
         cases hLL;exact ho.congr (a':=a) rfl|>fun ho=>by
           obtain⟨g1,g2,g3,g4,g5⟩:=ho;exact⟨g1,g2,g3,g4,g5⟩
 . intro p q o o' I J hp hq hI hJ hc hc' e;have hI':=hback p I hI hc;have hJ':=hback q J hJ hc';obtain⟨o1,g1⟩:=hlive p o I hp hI';obtain⟨o2,g2⟩:=hlive q o' J hq hJ';exact H.inj p q o1 o2 I J g1 g2 hI' hJ' hc hc' e
 . intro p o I hp hI hc;have hI':=hback p I hI hc;obtain⟨o1,g1⟩:=hlive p o I hp hI';exact H.dj p o1 I g1 hI' hc
 . intro p I hI;simp only[Cy]at hI;split at hI
   . assumption
   . cases hI
 . intro sv v hsv;have hlt:=hsv.low hC0;have h3:=hT.val _ _ hsv;rw[GV _ _ base hlt hnow]at h3;show aB Cy (gW log sv) v
   rw[GV _ _ base hlt hlog];exact hval h3 (hsv.low (fun p I hI=>AU (hC0 p I hI) hbn))
 . intro p o I hp hI hc hn;have hpb:=hb0 p o hp;have hn':p∉jH s.log:=by
     have:∀(l:List Ev),(∀e∈l,base<=e.id)->p∉jH l:=by
       intro l;induction l with
       |nil=>intro _ h;cases h
       | cons e l ih=>
         intro he hm;have h1:=he e Ao
         cases e<;>simp only[jH,Ev.id]at hm h1
         . rcases Aj.1 hm with rfl|hm
           . omega
           . exact ih (fun e' h'=>he e' (An _ h')) hm
         . rcases Aj.1 hm with rfl|hm
           . omega
           . exact ih (fun e' h'=>he e' (An _ h')) hm
         . exact ih (fun e' h'=>he e' (An _ h')) hm
     exact this _ hnow
   obtain⟨g1,g2⟩:=hK p o I hp hI hc hn';refine⟨g1,?_⟩;rcases g2 with⟨o',q1,q2⟩|g2
   . have:=AE.1 hst p (Ep.2 hpb);rw[q1]at this
     cases hz:eh.get p with
     |none=>rw[hz]at this;cases this
     |some o2=>exact .inl ⟨o2,rfl,hρ p I (by omega) q2⟩
   . exact .inr g2
theorem HV (pr:fI P tab) (htab:cfg.tab=tab) (hcon:∀g C,cfg.gm g=some C->cf P tab g C) (hdraw:∀rec,nu P tab rec->yq P tab cfg rec):∀(n:Nat),nu P tab (wp cfg n)/\ ∀(fn:FuncId) (nt base:Nat) (todo:List eg) (s:St) (Q:SV->St->Prop) (C0:Cx) (h0:SH) (a0:AH),(∀p I,C0.ρ p=some I->p<base)->(∀p o,h0.get p=some o->p<base)->∀(fr:af) (a:AH),
  wp cfg n ⟨fn,nt,base,todo,s⟩ Q->gZ fr fn nt->
  TS (fun gO b k'=>∀(ts:Fr) (h:SH) (log:List Ev) (fr:af) (a:AH),gO ts h log->fr.todo= .inLoop b::k'->gZ fr fn nt->SI tab C0 h0 a0 fr.tmps a ⟨ts,h,log⟩->eC P {fr,cs:=[],h:=a} (hU tab C0 h0 a0 Q)) todo fr.todo->
  SI tab C0 h0 a0 fr.tmps a s->eC P {fr,cs:=[],h:=a} (hU tab C0 h0 a0 Q):=by
 intro n;induction n with
 |zero=>exact⟨fun f fn body args h a C avs Q _ _ h'=>h'.elim,fun fn nt base todo s Q C0 h0 a0 _ _ fr a h=>h.elim⟩
 | succ n ihn=>
  obtain ⟨ihrec,ih⟩:=ihn;have walk:∀(fn:FuncId) (nt base:Nat) (todo:List eg) (s:St) (Q:SV->St->Prop) (C0:Cx) (h0:SH) (a0:AH),(∀p I,C0.ρ p=some I->p<base)->(∀p o,h0.get p=some o->p<base)->∀(fr:af) (a:AH),
     wp cfg (n+1) ⟨fn,nt,base,todo,s⟩ Q->gZ fr fn nt->
     TS (fun gO b k'=>∀(ts:Fr) (h:SH) (log:List Ev) (fr:af) (a:AH),gO ts h log->fr.todo= .inLoop b::k'->gZ fr fn nt->SI tab C0 h0 a0 fr.tmps a ⟨ts,h,log⟩->eC P {fr,cs:=[],h:=a} (hU tab C0 h0 a0 Q)) todo fr.todo->
     SI tab C0 h0 a0 fr.tmps a s->eC P {fr,cs:=[],h:=a} (hU tab C0 h0 a0 Q):=by
    intro fn nt base todo s Q C0 h0 a0 hC0 hh0 fr a h hf hts hS;have jd:∀(k:List eg) (k':List bm) (s':St),wp cfg n ⟨fn,nt,base,k,s'⟩ Q->(Am.step tab sub0 {fr,cs:=[],h:=a}= .ok (.next {fr:={fr with todo:=k'},cs:=[],h:=a}))->
      TS (fun gO b k'=>∀(ts:Fr) (h:SH) (log:List Ev) (fr:af) (a:AH),gO ts h log->fr.todo= .inLoop b::k'->gZ fr fn nt->SI tab C0 h0 a0 fr.tmps a ⟨ts,h,log⟩->eC P {fr,cs:=[],h:=a} (hU tab C0 h0 a0 Q)) k k'->
      SI tab C0 h0 a0 fr.tmps a s'->eC P {fr,cs:=[],h:=a} (hU tab C0 h0 a0 Q):=fun k k' s' hw hstep hk hS'=>eC.next pr hstep (ih fn nt base k s' Q C0 h0 a0 hC0 hh0 _ a hw (hf.todo fr.tmps k') hk hS')
    generalize htodo:fr.todo=todo' at hts
    simp only[wp]at h
    cases hts with
    |nil=>exact II pr htab h hf hS (.inl htodo)
    |inBlock id hk=>exact jd _ _ s h (by simp only[Am.step,hf.mode,htodo]) hk hS
    |inScope b hk=>exact jd _ _ s h (by simp only[Am.step,hf.mode,htodo]) hk hS
    |inLoop b hk=>exact jd _ _ s h (by simp only[Am.step,hf.mode,htodo]) (.code b (.inLoop b hk)) hS
    |head gO b hk ho=>exact ho s.ts s.h s.log fr a h htodo hf hS
    | @inRegion k k' ops l hk=>
     cases l with
     |nil=>exact jd _ _ s h (by simp only[Am.step,hf.mode,htodo]) hk hS
     |cons i rest=>
      simp only at h;split at h
      . rename_i o ho;obtain⟨C,hF,H,hT,hG,hK⟩:=hS;obtain⟨b,s1,h1,hw,hF1,eh,el⟩:=xx h hF;have hfin:∀v,fr.finish v= .ok {fr with tmps:=fr.put o.dst v,todo:= .inRegion ops rest::k'}:=by
          intro v;unfold af.finish;rw[htodo];simp only[ho,BO]
        have hput:∀(v:AV),fr.put o.dst v=fU nt fr.tmps o.dst v:=by
          intro v;unfold af.put fU;rw[hf.nt]
          cases o.dst<;>rfl
        have H1:HS tab C s1.h a:=by rw[eh];exact H
        have hT1:Tr C0 s1.log C:=by rw[el];exact hT
        have hK1:cN C0 h0 a0 s1.log C s1.h a:=by rw[el,eh];exact hK
        cases b with
        | false=>
          simp only[AJ]at h1;obtain⟨s2,k1,k2,k3,k4⟩:=qz (v:= .bj []) h1 hF1 (.pure (.bj rfl (fun i c v hc=>by simp at hc)));refine eC.next pr (m':={fr:={fr with tmps:=fr.put o.dst (.bj []),todo:= .inRegion ops rest::k'},cs:=[],h:=a}) (by
           simp only[Am.step,hf.mode,htodo,ho];rw[rb hw];simp only[Ak,Aw];rw[rb (hfin _),hf.mode]) (ih fn nt base _ s2 Q C0 h0 a0 hC0 hh0 _ a k1 (hf.todo _ _) (.inRegion ops rest hk) ⟨C,?_,by rw[k3];exact H1,by rw[k4];exact hT1,hG,by rw[k3,k4];exact hK1⟩)
          simp only;rw[hput];exact k2
        | true=>
          simp only[A8]at h1;refine R7 pr hf.mode htodo ho hw (Ho htab ihrec hcon h1 hF1 H1) (fun v=>⟨_,hfin v⟩) ?_;rintro v a1 ⟨sv,s2,k1,k2⟩ fr' hfr;rw[hfin v]at hfr
          cases hfr;obtain⟨C',q1,q2,q3,q4,q5,q6⟩:=SI.res H1 hT1 hG hK1 k2;obtain⟨s3,r1,r2,r3,r4⟩:=qz k1 q2 q1;refine ih fn nt base _ s3 Q C0 h0 a0 hC0 hh0 _ a1 r1 (hf.todo _ _) (.inRegion ops rest hk) ⟨C',?_,by rw[r3];exact q3,by rw[r4];exact q4,q5,by rw[r3,r4];exact q6⟩;simp only;rw[hput];exact r2
      . exact h.elim
    | @code k k' c hk=>
     cases c with
     |skip=>exact jd _ _ s h (by simp only[Am.step,hf.mode,htodo]) hk hS
     |label l=>exact jd _ _ s h (by simp only[Am.step,hf.mode,htodo]) hk hS
     |ret=>exact II pr htab h hf hS (.inr ⟨_,htodo⟩)
     |seq x y=>exact jd _ _ s h (by simp only[Am.step,hf.mode,htodo]) (.code x (.code y hk)) hS
     |block id b=>exact jd _ _ s h (by simp only[Am.step,hf.mode,htodo]) (.code b (.inBlock id hk)) hS
     |scope b=>exact jd _ _ s h (by simp only[Am.step,hf.mode,htodo]) (.code b (.inScope b hk)) hS
     |exit id=>
      simp only at h;split at h
      . rename_i k1 hk1;obtain⟨k1',g1,g2⟩:=hk.exit hk1;exact jd _ _ s h (by simp only[Am.step,hf.mode,htodo,g1]) g2 hS
      . exact h.elim
     |cond x y z=>
      simp only at h;split at h
      . rename_i p hp;obtain⟨C,hF,H,hT,hG,hK⟩:=hS;obtain⟨v,g1,g2⟩:=jV hF hp;rw[lv g2]at g1;rcases vY h with⟨rfl,h⟩|⟨rfl,h⟩
        . obtain⟨f1,f2,f3⟩:=HE hF hp;exact jd _ _ _ h (by simp only[Am.step,hf.mode,htodo];rw[rb g1]) (.code y hk) ⟨C,f1,by rw[f2];exact H,by rw[f3];exact hT,hG,by rw[f2,f3];exact hK⟩
        . obtain⟨f1,f2,f3⟩:=HE hF hp;exact jd _ _ _ h (by simp only[Am.step,hf.mode,htodo];rw[rb g1]) (.code z hk) ⟨C,f1,by rw[f2];exact H,by rw[f3];exact hT,hG,by rw[f2,f3];exact hK⟩
      . exact h.elim
     |region id ops d=>
      cases d with
      |false=>exact jd _ _ s h (by simp only[Am.step,hf.mode,htodo]) (.inRegion ops _ hk) hS
      | true=>
        simp only at h;obtain⟨hlt,h⟩:=cH h;obtain⟨C,hF,H,hT,hG,hK⟩:=hS;rw[<-hf.nt]at h;have hd:=hdraw (wp cfg n) ihrec ops fr.nt _ s _ fr.tmps a C h hF H;refine Tx pr hf.mode htodo hlt (n:=ops.size+1) (fy.mono ?_ _ _ hd);rintro sF ⟨s',C',new,k1,k2,k3,k4,k5,k6,k7⟩;rw[hf.nt]at k1;exact ih fn nt base _ s' Q C0 h0 a0 hC0 hh0 _ sF.h k1 (hf.todo _ _) hk ⟨C',k5,k4,by rw[k2];exact hT.trans k3,hG.trans k6,by rw[k2];exact hK.trans k7 k3.fz H.fz k4.fz⟩
     |loop b=>
      simp only at h;split at h
      . exact jd _ _ s h (by simp only[Am.step,hf.mode,htodo]) (.code b (.inLoop b hk)) hS
      . rename_i A0 hA0;obtain⟨A,h⟩:=OD h;have hS:=hS.eW (lj s.ts A.eW);have h:(∃x:A.α,A.ok x/\jA (dE A s).ts (dE A s).h (A.at (dE A s) x).2 (A.at (dE A s) x).1/\lh cfg.tab (dE A s).h (A.at (dE A s) x).2/\ck (stay base (dE A s).h (A.at (dE A s) x).2) True)/\
           ∀x:A.α,A.ok x->ck ((dE A s).log.all (fun e=>Nat.ble base e.id)&&(low (A.at (dE A s) x).1 (A.at (dE A s) x).2&&Nat.ble base (A.at (dE A s) x).2.next)) (wp cfg n ⟨fn,nt,base, .code b:: .head (zn cfg A (dE A s) base x)::k,⟨(A.at (dE A s) x).1,(A.at (dE A s) x).2,(dE A s).log⟩⟩ Q):=h
        have hS:SI tab C0 h0 a0 fr.tmps a (dE A s):=hS;generalize dE A s=s at h hS
        obtain⟨⟨x0,hx0,hf1,hf2,hf3⟩,hall⟩:=h;have hrest:∀x,A.ok x->(∀e∈s.log,base<=e.id)/\low (A.at s x).1 (A.at s x).2=true/\base<=(A.at s x).2.next/\wp cfg n ⟨fn,nt,base, .code b:: .head (zn cfg A s base x)::k,⟨(A.at s x).1,(A.at s x).2,s.log⟩⟩ Q:=by
          intro x hx;obtain⟨g1,g2⟩:=cH (hall x hx);simp only[Ab,AE]at g1;exact⟨fun e he=>Al (g1.1 e he),g1.2.1,Al g1.2.2,g2⟩
        have loop:∀(m:Nat) (x:A.α),A.μ x=m->A.ok x->∀(fr2:af) (a2:AH),fr2.todo= .code b:: .inLoop b::k'->gZ fr2 fn nt->SI tab C0 h0 a0 fr2.tmps a2 ⟨(A.at s x).1,(A.at s x).2,s.log⟩->eC P {fr:=fr2,cs:=[],h:=a2} (hU tab C0 h0 a0 Q):=by
          intro m;induction m using Nat.strongRecOn with
          |_ m ihm=>
           intro x hm hx fr2 a2 ht2 hf2 hS2;obtain⟨_,_,_,hw⟩:=hrest x hx;refine ih fn nt base _ _ Q C0 h0 a0 hC0 hh0 fr2 a2 hw hf2 ?_ hS2;rw[ht2];refine .code b (.head _ b hk ?_);intro ts hh log fr3 a3 hchk ht3 hf3 hS3;have hS3:=hS3.eW (lj ts A.eW);have hchk:ck ((dE A ⟨ts,hh,log⟩).log.all fun e=>Nat.ble base e.id) (∃y:A.α,A.ok y/\A.μ y<A.μ x/\jA (dE A ⟨ts,hh,log⟩).ts (dE A ⟨ts,hh,log⟩).h (A.at s y).2 (A.at s y).1/\lh cfg.tab (dE A ⟨ts,hh,log⟩).h (A.at s y).2/\ck (stay base (dE A ⟨ts,hh,log⟩).h (A.at s y).2) True):=hchk;have hS3:SI tab C0 h0 a0 fr3.tmps a3 (dE A ⟨ts,hh,log⟩):=hS3;generalize dE A ⟨ts,hh,log⟩=s3 at hchk hS3
           obtain⟨hcov,y,hy,hμ,q1,q2,q3⟩:=cH hchk;obtain⟨l0,l1,l2,_⟩:=hrest y hy;obtain⟨C,hF,H,hT,hG,hK⟩:=hS3;have hpre:(∀e∈s3.log,base<=e.id)/\ ∀e∈s.log,base<=e.id:=⟨fun e he=>Al (AE.1 hcov e he),l0⟩;have hSy:=Iz htab hC0 (s:=s3) hpre hF H hT hG hK hh0 q1 q2 l1 l2 (cH q3).1;refine eC.next pr (m':={fr:={fr3 with todo:= .code b:: .inLoop b::k'},cs:=[],h:=a3}) (by simp only[Am.step,hf3.mode,ht3]) ?_;exact ihm (A.μ y) (by omega) y rfl hy _ a3 rfl (hf3.todo fr3.tmps _) hSy
        obtain⟨l0,l1,l2,_⟩:=hrest x0 hx0;obtain⟨C,hF,H,hT,hG,hK⟩:=hS;have hS0:=Iz htab hC0 (log:=s.log) ⟨l0,l0⟩ hF H hT hG hK hh0 hf1 hf2 l1 l2 (cH hf3).1;refine eC.next pr (m':={fr:={fr with todo:= .code b:: .inLoop b::k'},cs:=[],h:=a}) (by simp only[Am.step,hf.mode,htodo]) ?_;exact loop _ x0 rfl hx0 _ a rfl (hf.todo fr.tmps _) hS0
     |_=>exact h.elim
  refine⟨?_,walk⟩;intro f fn body args h a C avs Q hfn hb hw H hs;refine walk f _ h.next _ _ Q C h a H.lt (fun p o hp=>?_) _ a hw ⟨rfl,?_,rfl,rfl,rfl,rfl⟩ (.code body .nil) ⟨C,?_,H,Tr.refl C,Grow.refl a,cN.same _ _ _ _⟩
  . obtain⟨I,hI,_⟩:=H.obj p o hp;exact H.lt p I hI
  . simp only[af.enter];rw[hs.1]
  . have hlook:∀(l:List SV) (k t:Nat),look (Fr.of l k) t=if k<=t then l[t - k]? else none:=by
     intro l;induction l with
     |nil=>intro k t;simp[Fr.of,look]
     |cons v l ih=>
      intro k t;simp only[Fr.of,jv,ih];by_cases h1:t=k
      . subst h1;simp
      . rw[if_neg h1];by_cases h2:k<=t
        . rw[if_pos (by omega),if_pos h2,show t - k=(t - (k+1))+1 from by omega,AY]
        . rw[if_neg (by omega),if_neg h2]
    intro t q hq;rw[hlook]at hq;simp only[Av,if_true,Dd]at hq;obtain⟨v,h1,h2⟩:=hs.get hq;simp only[af.enter];rw[ku,h1];exact h2
theorem N5 (pr:fI P tab) (htab:cfg.tab=tab) (hcon:∀g C,cfg.gm g=some C->cf P tab g C) (hdraw:∀rec,nu P tab rec->yq P tab cfg rec):∀n,nu P tab (wp cfg n):=fun n=>(HV pr htab hcon hdraw n).1
end
end
section
universe u v
variable [Inhabited aF]
section
variable {tab:aZ} {ta:T AV}
def Part (h0 h:AH):Prop:=∀i o,h0.get i=some o->h.get i=some o
theorem wU {h0 h:AH} (hs:Part h0 h) {b:Nat} {r} (hp:iT h0 b= .ok r):iT h b= .ok r:=by
 unfold iT at hp⊢;split at hp
 . rename_i hg;rw[hs _ _ hg];exact hp
 . cases hp
theorem Ko {h0 h:AH} (hs:Part h0 h) {t b off:Nat} {r} (hp:Am.loadVar tab h0 t b off= .ok r):Am.loadVar tab h t b off= .ok r:=by
 unfold Am.loadVar readN at hp⊢;obtain⟨p,h1,hp⟩:=ai.1 hp;rw[rb h1];split at hp
 . rename_i hc;simp only[hc,if_true];obtain⟨n,h2,hp⟩:=ai.1 hp;obtain⟨cs,h3,hp⟩:=ai.1 hp;obtain⟨c,h4,h3⟩:=ai.1 h3;rw[rb h2,rb (show(iT h b>>=_)=_ from by rw[rb (wU hs h4)];exact h3)];exact hp
 . rename_i hc;simp only[hc,Aw];obtain⟨c,h4,hp⟩:=ai.1 hp;rw[rb (wU hs h4)];exact hp
theorem KU {h0 h:AH} (hs:Part h0 h) {b:Nat} {c:fD} {r} (hp:capLow h0 b c= .ok r):capLow h b c= .ok r:=by
 cases c with
 |lit n=>exact hp
 |tail k=>
  simp only[capLow]at hp⊢;obtain⟨x,h1,hp⟩:=ai.1 hp;rw[rb (wU hs h1)];exact hp
theorem K2 {h0 h h1:AH} (hs:Part h0 h) {t:TypeId} {x v:AV} {lo hi:Option Operand} (hp:iU tab ta h0 t x lo hi none= .ok (v,h1)):iU tab ta h t x lo hi none= .ok (v,h):=by
 unfold iU at hp⊢;obtain⟨d,hd,hp⟩:=ai.1 hp;rw[rb hd];split at hp
 . obtain⟨_,h1,hp⟩:=ai.1 hp;obtain⟨l,h2,hp⟩:=ai.1 hp;obtain⟨u,h3,hp⟩:=ai.1 hp;obtain⟨_,h4,hp⟩:=ai.1 hp
   cases hp;rw[rb h1,rb h2,rb h3,rb h4]
 . obtain⟨_,h0,hp⟩:=ai.1 hp;obtain⟨l,h1,hp⟩:=ai.1 hp;obtain⟨u,h2,hp⟩:=ai.1 hp;obtain⟨m,h3,hp⟩:=ai.1 hp;obtain⟨_,h4,hp⟩:=ai.1 hp
   cases hp;rw[rb h0,rb h1,rb h2,rb h3,rb h4]
 . rename_i cap _;obtain⟨c,h0,hp⟩:=ai.1 hp;obtain⟨n,h1,hp⟩:=ai.1 hp;obtain⟨l,h2,hp⟩:=ai.1 hp;obtain⟨u,h3,hp⟩:=ai.1 hp;rw[rb (KU hs h0),rb h1,rb h2,rb h3];simp only at hp⊢
   cases cap with
   |lit m=>
    simp only at hp⊢;obtain⟨_,h4,hp⟩:=ai.1 hp
    cases hp;rw[rb h4]
   |tail k=>
    simp only at hp⊢;obtain⟨_,h4,hp⟩:=ai.1 hp;rw[rb h4]
    cases h5:Nat.beq l 0<;>rw[h5]at hp<;>simp only[A8,AJ]at hp⊢
    . cases h6:Nat.blt l c<;>rw[h6]at hp<;>simp only[A8,AJ]at hp⊢ <;>(cases hp;rfl)
    . cases hp;rfl
 . obtain⟨_,h0,hp⟩:=ai.1 hp;obtain⟨l,h1,hp⟩:=ai.1 hp;obtain⟨u,h2,hp⟩:=ai.1 hp;obtain⟨_,h4,hp⟩:=ai.1 hp
   cases hp;rw[rb h0,rb h1,rb h2,rb h4]
 . obtain⟨_,h0,hp⟩:=ai.1 hp;obtain⟨l,h1,hp⟩:=ai.1 hp;obtain⟨u,h2,hp⟩:=ai.1 hp;obtain⟨_,h4,hp⟩:=ai.1 hp
   cases hp;rw[rb h0,rb h1,rb h2,rb h4]
 . cases hp
theorem FM {h0 h:AH} (hs:Part h0 h) {t:TypeId} {x y:AV} {r} (hp:eqOp tab h0 t x y= .ok r):eqOp tab h t x y= .ok r:=by
 unfold eqOp at hp⊢;split at hp
 . obtain⟨d,hd,hp⟩:=ai.1 hp;rw[rb hd];split at hp
   . obtain⟨n,h1,hp⟩:=ai.1 hp;obtain⟨_,h2,hp⟩:=ai.1 hp;rw[rb h1,rb h2];split at hp
     . rename_i hc;simp only[hc,if_true];exact hp
     . rename_i hc;simp only[hc,Aw];split at hp
       . rename_i g1 g2;rw[hs _ _ g1,hs _ _ g2];exact hp
       . cases hp
   . cases hp
 . exact hp
 . cases hp
 . exact hp
theorem L0 {h0 h:AH} (hs:Part h0 h) {op:BinOp} {t:TypeId} {x y:AV} {r} (hp:Am.binOp tab h0 op t x y= .ok r):Am.binOp tab h op t x y= .ok r:=by
 unfold Am.binOp at hp⊢;split at hp
 . exact hp
 . exact hp
 . exact hp
 . exact hp
 . obtain⟨b,h1,hp⟩:=ai.1 hp;rw[rb (FM hs h1)];exact hp
 . obtain⟨b,h1,hp⟩:=ai.1 hp;rw[rb (FM hs h1)];exact hp
 . cases hp
theorem LC {h0 h:AH} (hs:Part h0 h) {u:TypeDesc} {x:AV} {r} (hp:lenOf h0 u x= .ok r):lenOf h u x= .ok r:=by
 unfold lenOf at hp⊢;split at hp
 . exact hp
 . exact hp
 . exact hp
 . exact hp
 . exact hp
 . exact hp
 . obtain⟨q,h1,hp⟩:=ai.1 hp;unfold qP at h1⊢;split at h1
   . rename_i hg
     cases h1;simp only[hs _ _ hg];exact hp
   . cases h1
 . exact hp
 . cases hp
theorem wT {h0 h h1:AH} (hs:Part h0 h) {ats:Array TypeId} {l:List AV} {b:Builtin} (hb:b= .len\/b= .min\/b= .max) {v:AV} (hp:Am.builtin tab b ats l h0= .ok (v,h1)):Am.builtin tab b ats l h= .ok (v,h):=by
 rcases hb with rfl|rfl|rfl
 . cases l with
   |nil=>cases hp
   | cons x l=>
    cases l with
    |cons y l=>cases hp
    |nil=>
     unfold Am.builtin at hp⊢;simp only at hp⊢;obtain⟨t,h1,hp⟩:=ai.1 hp;obtain⟨u,h2,hp⟩:=ai.1 hp;rw[rb h1,rb h2];split at hp
     . obtain⟨w,h3,hp⟩:=ai.1 hp;rw[rb h3];split at hp
       . cases hp;rfl
       . cases hp
     . obtain⟨n,h3,hp⟩:=ai.1 hp;rw[rb (LC hs h3)]
       cases hp;rfl
 . cases l with
   |nil=>cases hp
   |cons x l=>
    cases x<;>first|(cases hp;done)|skip
    unfold Am.builtin at hp⊢;simp only at hp⊢;obtain⟨t,h1,hp⟩:=ai.1 hp;rw[rb h1];cases hp;rfl
 . cases l with
   |nil=>cases hp
   |cons x l=>
    cases x<;>first|(cases hp;done)|skip
    unfold Am.builtin at hp⊢;simp only at hp⊢;obtain⟨t,h1,hp⟩:=ai.1 hp;rw[rb h1];cases hp;rfl
def rv (op:Op):Bool:=
 match op with
 | .lookup .. | .entry _| .typeAssert .. =>false
 | .slice _ _ _ _ (some _)=>false
 | .call c=>match c.callee with| .builtin .cap=>false|_=>true
 |_=>true
theorem xj {o:Oper} (hc:cls tab o= .pure\/cls tab o= .read) (hlk:rv o.op=true)
  {h0 h h1:AH} (hs:Part h0 h) {v:AV} (hp:eM tab ta h0 o= .ok (v,h1)):eM tab ta h o= .ok (v,h):=by
 obtain⟨dst,op,type,pos,after,guard⟩:=o;unfold eM at hp⊢
 cases op<;>simp only[cls]at hc<;>simp only at hp⊢
 case slice t x lo hi mx=>
  cases mx with
  |some m=>cases hlk
  | none=>
    obtain⟨a,ha,hp⟩:=ai.1 hp;rw[rb ha];exact K2 hs hp
 case load t a=>
  obtain⟨p,h1,hp⟩:=ai.1 hp;rw[rb h1];split at hp
  . obtain⟨u,h2,hp⟩:=ai.1 hp;rw[rb (Ko hs h2)];cases hp;rfl
  . cases hp
 case binOp op t x y e=>
  obtain⟨p,h1,hp⟩:=ai.1 hp;obtain⟨q,h2,hp⟩:=ai.1 hp;obtain⟨u,h3,hp⟩:=ai.1 hp;rw[rb h1,rb h2,rb (L0 hs h3)];cases hp;rfl
 case convert src dst x=>
  obtain⟨k,j,e1,e2⟩:=GI hc;obtain⟨w,h1,hp⟩:=ai.1 hp;obtain⟨i,n,rfl,rfl,_⟩:=HC e1 e2 hp;rw[rb h1];exact Cz e1 e2 i n h
 case lookup=>cases hlk
 case entry=>cases hlk
 case typeAssert=>cases hlk
 case call c=>
  cases hcc:c.callee with
  | builtin b=>
    rw[hcc]at hp hc;simp only at hp hc⊢;obtain⟨l,hl,hp⟩:=ai.1 hp;rw[rb hl]
    cases b<;>first
     |exact wT hs (.inl rfl) hp
     |exact wT hs (.inr (.inl rfl)) hp
     |exact wT hs (.inr (.inr rfl)) hp
     |(simp only[rv,hcc]at hlk;cases hlk;done)
     |(rcases hc with hc|hc<;>cases hc)
  |value f=>rw[hcc]at hp;cases hp
  |invoke r m=>rw[hcc]at hp;cases hp
 all_goals first
  |(rcases hc with hc|hc<;>cases hc;done)
  |skip
 all_goals (repeat' first
  |(cases hp;done)
  |(cases hp;rfl)
  |(obtain⟨_,hx,hp⟩:=ai.1 hp;rw[rb hx];clear hx)
  |split at hp)
end
end
section
universe u v
variable [Inhabited aF]
section
variable {tab:aZ} {view:TypeId->Option View} {C:Cx} {s:St} {ta:T AV} {a:AH} {h:SH}
def bO (C:Cx) (s:St) (a:AH) (K:SV->St->Prop) (r:R (AV×AH)):Prop:=∃sv v,K sv s/\r= .ok (v,a)/\aB C sv v
theorem bO.same {K:SV->St->Prop} {sv:SV} {v:AV} (hv:aB C sv v) (hk:K sv s):bO C s a K (.ok (v,a)):=⟨sv,v,hk,rfl,hv⟩
theorem bO.val {K:SV->St->Prop} {r:R AV} (h:fB C (fun v=>K v s) r):bO C s a K (do .ok (<-r,a)):=by
 obtain⟨sv,v,h1,h2,h3⟩:=h;rw[rb h1];exact bO.same h2 h3
theorem K4 (hF:FS C s.ts ta) (H:HS tab C s.h a) {t:TypeId} {x:SV} {v:AV} (hv:aB C x v) {lo hi:Option Operand} {K:SV->St->Prop} (hK:∀sv s1,K sv s1->s1.log=s.log) (h:sL tab s t x lo hi K):bO C s a K (iU tab ta a t v lo hi none):=by
 unfold sL at h;obtain⟨l,h1,hl⟩:=uY hF h;obtain⟨u,h2,hu⟩:=uY hF h1;clear h h1;have h:=h2;clear h2;have o1:∀d:R Nat,fh ta d lo=jC l d:=fun d=>(hl d).1
 have o2:∀d:R Nat,fh ta d hi=jC u d:=fun d=>(hu d).1
 clear hl hu;split at h
 . rename_i c hg;rw[gH hv];obtain⟨h1,h2,h3⟩:=qD h;unfold iU;rw[rb (show und tab t=_ from ro hg)];simp only;rw[rb (show R.check "slice: max" (none:Option Operand).isNone= .ok ()from rfl),rb (show fh ta (.ok 0) lo= .ok (l.getD 0)from by rw[o1];cases l<;>rfl),rb (show fh ta (.ok c.length) hi= .ok (u.getD c.length)from by rw[o2];cases u<;>rfl),
     rb (rc (by simp only[Ab,AW];omega))]
   exact bO.same (.pure (.str _)) h3
 . rename_i e X L enc hg;split at h
   . rename_i n hn;obtain⟨hlen,h⟩:=h;obtain⟨h1,h2,h3⟩:=qD h;obtain⟨w,h4,h5⟩:=ux hg hn H.fz (kf hv rfl) hlen o1 o2 h1 h2;rw[h4];exact bO.same (.pure h5) h3
   . exact h.elim
 . rename_i e b hg;split at h
   . rename_i X L enc t' n hb hn;obtain⟨hlen,h⟩:=h;obtain⟨h1,h2,h3⟩:=qD h;obtain⟨C',e1,e2,e3,e4,e5,e6⟩:=kx hF H hb;obtain⟨w,h4,h5⟩:=ux hg hn e3.fz (e5 v hv) hlen o1 o2 h1 h2;have:=hK _ _ h3;rw[e1]at this;simp at this
   . exact h.elim
 . rename_i e b off len cap hg;split at h
   . rename_i n hn;obtain⟨h1,h2⟩:=cH h;simp only[Ab]at h1
     cases hv with
     |pure hv=>cases hv
     | sl hI=>
      unfold iU;rw[rb (show und tab t=_ from ro hg)];simp only;rw[rb (show capLow a _ (.lit cap)= .ok cap from rfl),rb (show siz tab e= .ok n from ro hn),rb (show fh ta (.ok 0) lo= .ok (l.getD 0)from by rw[o1];cases l<;>rfl),
       rb (show fh ta (.ok len) hi= .ok (u.getD len)from by rw[o2];cases u<;>rfl),
       rb (rc (by simp only[Ab];exact h1))]
      exact bO.same (.sl hI) h2
   . exact h.elim
 . exact h.elim
theorem wZ (hF:FS C s.ts ta) (H:HS tab C s.h a) {b:Builtin} {ats:Array TypeId} {l:List SV} {vs:List AV} (hl:aN C l vs) (hb:b= .len\/b= .min\/b= .max) {K:SV->St->Prop} (h:qn tab view s b ats l K):bO C s a K (Am.builtin tab b ats vs a):=by
 unfold qn at h;split at h
 ·
   rename_i x;have hv:∃v,vs=[v]/\aB C x v:=by
    cases vs with
    |nil=>have:=hl.1;simp at this
    | cons v vs=>cases vs with
      |nil=>exact⟨v,rfl,hl.head.1⟩
      |cons=>have:=hl.1;simp at this
   obtain⟨v,rfl,hx⟩:=hv;unfold Am.builtin;simp only
   cases ht:ats[0]? with
   |none=>rw[ht]at h;simp at h
   |some t=>
    rw[ht]at h;simp only[BO]at h;rw[rb (ro rfl)];split at h
    . rename_i hg;split at h
      . rw[gH hx,rb (show und tab t=_ from ro hg)];exact bO.same (.pure (.int _ _)) h
      . exact h.elim
    . rename_i e hg;obtain⟨n,h1,h2⟩:=de h;rw[rb (show und tab t=_ from ro hg)];simp only;rw[rb (HB H hx h1)];exact bO.same (.pure (.int _ _)) h2
    . exact h.elim
 . rcases hb with hb|hb|hb<;>cases hb
 ·
   rename_i k x l
   cases vs with
   |nil=>have:=hl.1;simp at this
   |cons v vs=>
    obtain⟨h1,h2⟩:=hl.head;rw[iI h1];obtain⟨sv,h3,h4⟩:=de h;obtain⟨v,h5,h6⟩:=H9 h2 h3;unfold Am.builtin;simp only;rw[rb h5];exact bO.same h6 h4
 ·
   rename_i k x l
   cases vs with
   |nil=>have:=hl.1;simp at this
   |cons v vs=>
    obtain⟨h1,h2⟩:=hl.head;rw[iI h1];obtain⟨sv,h3,h4⟩:=de h;obtain⟨v,h5,h6⟩:=H7 h2 h3;unfold Am.builtin;simp only;rw[rb h5];exact bO.same h6 h4
 . exact h.elim
theorem Ov (hF:FS C s.ts ta) (H:HS tab C s.h a) {o:Oper} (hc:cls tab o= .pure\/cls tab o= .read) {K:SV->St->Prop} (hK:∀sv s1,K sv s1->s1.log=s.log) (h:kU tab view s o K):rv o.op=true/\bO C s a K (eM tab ta a o):=by
 obtain⟨dst,op,type,pos,after,guard⟩:=o;unfold kU at h;unfold eM;have same1:∀{x:Operand} {K':SV->Prop},so (fk s.ts x) K'->∃sv v,ev ta x= .ok v/\aB C sv v/\K' sv:=by
  intro x K' h;obtain⟨sv,h1,h2⟩:=de h;obtain⟨v,h3,h4⟩:=jV hF h1;exact⟨sv,v,h3,h4,h2⟩
 cases op<;>simp only at h⊢ <;>simp only[cls,rv]at hc⊢
 case move x=>
  refine⟨trivial,?_⟩;obtain⟨sv,v,h3,h4,h2⟩:=same1 h;rw[dF h3];exact bO.same h4 h2
 case assign x=>
  refine⟨trivial,?_⟩;obtain⟨sv,v,h3,h4,h2⟩:=same1 h;rw[dF h3];exact bO.same h4 h2
 case pick c x y=>
  refine⟨trivial,?_⟩;split at h
  . rename_i p hc;obtain⟨v,h3,h4⟩:=jV hF hc;rw[lv h4]at h3;rw[dF h3];split at h
    . rename_i p1 p2 hx hy;obtain⟨u,g1,g2⟩:=jV hF hx;obtain⟨w,g3,g4⟩:=jV hF hy;rw[lv g2]at g1;rw[lv g4]at g3
      cases p
      . simp only;rw[dF g3];exact bO.same (.pure (.bool _)) h
      . simp only;rw[dF g1];exact bO.same (.pure (.bool _)) h
    . rcases vY h with⟨rfl,h⟩|⟨rfl,h⟩
      . obtain⟨sv,v,h3,h4,h2⟩:=same1 h;simp only;rw[dF h3];exact bO.same h4 h2
      . obtain⟨sv,v,h3,h4,h2⟩:=same1 h;simp only;rw[dF h3];exact bO.same h4 h2
  . exact h.elim
 case build t ps=>
  refine⟨trivial,?_⟩;obtain⟨l,h1,h2⟩:=de h;obtain⟨sv,h3,h4⟩:=de h2;obtain⟨vs,g1,g2,g3⟩:=uq hF h1;obtain⟨v,g4,g5⟩:=FY g2 g3 h3;rw[rb g1,rb g4];exact bO.same g5 h4
 case load t x=>
  refine⟨trivial,?_⟩;obtain⟨sv,v,h3,h4,h2⟩:=same1 h;obtain⟨b,off,u,su,rfl,g1,g2,g3⟩:=xR H h4 h2;rw[dF h3];simp only;rw[rb g1];exact bO.same g2 g3
 case nilCheck x=>
  refine⟨trivial,?_⟩;obtain⟨sv,v,h3,h4,h2⟩:=same1 h;rw[dF h3];split at h2
  . cases h4 with
    |pure h=>cases h
    |ptr hI=>exact bO.same (.ptr hI) h2
  . cases h4 with
    |pure h=>cases h
    |bR hI hc=>exact bO.same (.bR hI hc) h2
  . cases h4 with
    | pure h=>cases h with
      |cB b base ca e sz ext bk u hb hl h1 h2'=>exact bO.same (.pure (.cB b base ca e sz ext bk u hb hl h1 h2')) h2
  . cases h4 with
    | pure h=>cases h with
      |fn h1 h2' h3' h4'=>exact bO.same (.pure (.fn h1 h2' h3' h4')) h2
    |fn h1 h2' h3' h4'=>exact bO.same (.fn h1 h2' h3' h4') h2
  . exact h2.elim
 case binOp op t x y _=>
  refine⟨trivial,?_⟩;obtain⟨sv,v,h3,h4,h2⟩:=same1 h;obtain⟨sw,w,g3,g4,g2⟩:=same1 h2;rw[dF h3,dF g3];exact bO.val (H3 g2 h4 g4)
 case unOp op _ x=>
  refine⟨trivial,?_⟩;obtain⟨sv,v,h3,h4,h2⟩:=same1 h;rw[dF h3];exact bO.val (IM h2 h4)
 case makeFunc fn first captured=>
  refine⟨trivial,?_⟩;split at h
  . obtain⟨xs,h1,h2⟩:=de h;obtain⟨ys,h3,h4⟩:=de h2;obtain⟨us,g1,g2⟩:=oS hF h1;obtain⟨vs,g3,g4⟩:=oS hF h3;simp only;rw[rb g1,rb g3];exact bO.same (.fn g2.1 g4.1 g2.2 g4.2) h4
  . exact h.elim
 case fieldAddr st x f=>
  refine⟨trivial,?_⟩;obtain⟨fd,h1,h2⟩:=de h;obtain⟨hck,h3⟩:=cH h2;obtain⟨sv,v,h4,h5,h6⟩:=same1 h3;rw[rb (tV h1)];split at hck
  . rename_i n hn;rw[rb (show siz tab fd.type=_ from ro hn),rb (rc hck),dF h4];split at h6
    . cases h5 with
      |pure h=>cases h
      |ptr hI=>exact bO.same (.ptr hI) h6
    . cases h5 with
      |pure h=>cases h
      |bR hI hc=>simp only[BZ];exact bO.same (.bR hI hc) h6
    . cases h5 with
      | pure h=>cases h with
        |cB b base ca e sz ext bk u hb hl h1 h2'=>simp only[BZ];exact bO.same (.pure (.cB b base ca e sz ext bk u hb hl h1 h2')) h6
    . exact h6.elim
  . cases hck
 case field t x f=>
  refine⟨trivial,?_⟩;obtain⟨fd,h1,h2⟩:=de h;obtain⟨sv,v,h4,h5,h6⟩:=same1 h2;rw[rb (tV h1),dF h4];split at h6
  . obtain⟨us,rfl,g1⟩:=lx h5;obtain⟨su,g2,g3⟩:=de h6;obtain⟨u,g4,g5⟩:=qv g1 g2;simp only;rw[rb g4];exact bO.same g5 g3
  . exact h6.elim
 case indexAddr t x ix=>
  refine⟨trivial,?_⟩;obtain⟨sj,vj,h1,h2,h3⟩:=same1 h;obtain⟨i,h4,h5⟩:=sx h3 h2;obtain⟨sv,v,h6,h7,h8⟩:=same1 h5;rw[dF h1,rb h4];split at h8
  . rename_i len e b off hg;split at h8
    . rename_i n hn;obtain⟨g1,g2⟩:=cH h8;rw[rb (show und tab t=_ from ro hg),dF h6]
      cases h7 with
      |pure h=>cases h
      |ptr hI=>simp only;rw[rb (rc g1),rb (show siz tab e=_ from ro hn)];exact bO.same (.ptr hI) g2
    . exact h8.elim
  . rename_i e b off len cap hg;split at h8
    . rename_i n hn;obtain⟨g1,g2⟩:=cH h8;rw[rb (show und tab t=_ from ro hg),dF h6]
      cases h7 with
      |pure h=>cases h
      |sl hI=>simp only;rw[rb (rc g1),rb (show siz tab e=_ from ro hn)];exact bO.same (.ptr hI) g2
    . exact h8.elim
  . rename_i e X L enc hg;split at h8
    . rename_i n hn;obtain⟨x,g1,g2⟩:=de h8;obtain⟨g2,g3⟩:=cH g2;have g2:=Af g2;have hi:=(Ad.1 g1).1;obtain⟨b,off,cap,cs,e',sz,ext,bk,rfl,hb,hs,hl,hsz,hc,hcell⟩:=vD (kf h7 rfl) (by rintro rfl;simp at hi);obtain⟨sz0,ext0,hb,hx0⟩:=hb;have hszn:sz=n:=by rw[<-hsz i x g1];exact g2
      subst hszn;rw[rb (show und tab t=_ from ro hg),dF h6];simp only;rw[rb (rc (by simpa using hi)),rb (show siz tab e=_ from ro hn)];refine bO.same (.pure ?_) g3;refine .cB b (off+i*sz) cs e' sz0 ext0 bk (fun j=>(cs[off+i*sz+j]?).getD (.bj [])) hb ?_ ?_ ?_
      . rw[g2];have:i*sz+sz<=L.length*sz:=by
         calc i*sz+sz=(i+1)*sz:=by rw[Bq,DD]
          _<=L.length*sz:=Bp _ hi
        omega
      . intro j v hv;obtain⟨u,q1,_⟩:=hcell i x j v g1 hv;rw[q1];rfl
      . intro j v hv;obtain⟨u,q1,q2⟩:=hcell i x j v g1 hv;rw[q1];exact q2
    . exact h8.elim
  . rename_i e b hg;split at h8
    . rename_i n X L enc e' hn hb;obtain⟨g1,g2⟩:=cH h8;simp only[Ab]at g1;have hee:=Af g1.1;subst hee;have hi:i<L.length:=by simpa using g1.2
      rw[rb (show und tab t=_ from ro hg),dF h6]
      cases h7 with
      |pure h=>cases h
      | ew hI hc=>
        obtain⟨_,_,_,_,k5⟩:=H.at_ hb hI;rw[hc]at k5;omega
      | own hI hc=>
        rename_i I c;obtain⟨k1,k2,k3,_,k5⟩:=H.at_ hb hI;have hsz:I.sz=n:=by rw[hn]at k1;exact(B8 k1).symm
        simp only;rw[rb (rc (by rw[k3];simpa using hi)),rb (show siz tab e=_ from ro hn)];have hh:aB C (.bR b i 0) (.ptr I.β (i*I.sz+0)):= .bR hI (by simp[hc]);rw[hsz,Bk]at hh;rw[Ay];exact bO.same hh g2
    . exact h8.elim
  . exact h8.elim
 case index t x ix=>
  refine⟨trivial,?_⟩;obtain⟨sj,vj,h1,h2,h3⟩:=same1 h;obtain⟨i,h4,h5⟩:=sx h3 h2;obtain⟨sv,v,h6,h7,h8⟩:=same1 h5;rw[dF h1,rb h4];split at h8
  . rename_i len e cs hg;split at h8
    . rename_i n hn;obtain⟨g1,g2⟩:=cH h8;obtain⟨su,g3,g4⟩:=de g2;obtain⟨us,rfl,g5⟩:=lx h7;obtain⟨u,g6,g7⟩:=qv g5 g3;rw[rb (show und tab t=_ from ro hg),dF h6];simp only;rw[rb (rc g1),rb (show siz tab e=_ from ro hn),rb g6];exact bO.same g7 g4
    . exact h8.elim
  . rename_i c hg;obtain⟨b,g1,g2⟩:=de h8;rw[rb (show und tab t=_ from ro hg),dF h6,gH h7];simp only;rw[rb (ro g1)];exact bO.same (.pure (.int _ _)) g2
  . exact h8.elim
 case extract t i=>
  refine⟨trivial,?_⟩;obtain⟨sv,v,h6,h7,h8⟩:=same1 h;rw[dF h6];split at h8
  . obtain⟨us,rfl,g5⟩:=vA h7;obtain⟨su,g3,g4⟩:=de h8;obtain⟨u,g6,g7⟩:=g5.get g3;simp only;rw[rb (ro g6)];exact bO.same g7 g4
  . exact h8.elim
 case slice t x lo hi mx=>
  cases mx with
  |some m=>exact h.elim
  | none=>
    refine⟨rfl,?_⟩;obtain⟨sv,v,h3,h4,h2⟩:=same1 h;rw[dF h3];exact K4 hF H h4 hK h2
 case call c=>
  split at h
  . rename_i b hb;obtain⟨l,h1,h2⟩:=de h;obtain⟨vs,g1,g2⟩:=oS hF h1;rw[hb]at hc⊢;simp only at hc⊢;rw[rb g1]
    cases b<;>simp only at hc⊢ <;>first|(rcases hc with hc|hc<;>cases hc;done)|skip
    case len=>exact⟨trivial,wZ hF H g2 (.inl rfl) h2⟩
    case min=>exact⟨trivial,wZ hF H g2 (.inr (.inl rfl)) h2⟩
    case max=>exact⟨trivial,wZ hF H g2 (.inr (.inr rfl)) h2⟩
    case cap=>unfold qn at h2;exact h2.elim
  . exact h.elim
 case convert src dst x=>
  refine⟨trivial,?_⟩;obtain⟨k0,j0,e1,e2⟩:=GI hc;obtain⟨sv,v,h3,h4,h2⟩:=same1 h;rw[dF h3];unfold vU at h2;split at h2
  . rename_i d k i n hs hd;rw[e2]at hd
    cases hd;rw[iI h4,Cz e1 e2];exact bO.same (.pure (.int _ _)) h2
  all_goals first
    |exact h2.elim
    |(rename_i hd;rw[e2]at hd;cases hd;done)
 all_goals first|exact h.elim|(rcases hc with hc|hc<;>cases hc)
end
end
section
universe u v
variable [Inhabited aF]
section
variable {tab:aZ} {view:TypeId->Option View} {C:Cx} {s:St} {ta:T AV} {a:AH}
def Made (tab:aZ) (C:Cx) (s:St) (a:AH) (K:SV->St->Prop) (r:AH->R (AV×AH)):Prop:=
 ∃sv v so ao I,K sv (s.new so)/\(∀h':AH,h'.next=a.next->r h'= .ok (v,h'.new ao))/\I.β=a.next/\I.cap.isSome/\(∀C',C.le C'->C'.ρ s.h.next=some I->aB C' sv v)/\ ∀(C':Cx) (a':AH),C.le C'->a'.get a.next=some ao->dV tab C' I so a'
theorem Made.cells {cs:List SV} {ca:List AV} (hc:aN C cs ca) {e n:Nat} (hn:tab.siz.get e=some n) {K:SV->St->Prop} {sv:SV} {f:Nat->AV} (hv:∀C':Cx,∀I:BI,C'.ρ s.h.next=some I->aB C' sv (f I.β)) (hk:K sv (s.new (.cells cs e))) {r:AH->R (AV×AH)}
  (hr:∀h':AH,h'.next=a.next->r h'= .ok (f h'.next,h'.new (.cells ca e n false .rw))):Made tab C s a K r:=by
 refine⟨sv,f a.next, .cells cs e, .cells ca e n false .rw,⟨a.next,0,n,some (.lit 0)⟩,hk,fun h' hh=>by rw[hr h' hh,hh],rfl,rfl,fun C' _ hI=>hv C' _ hI,fun C' a' hle hg=>⟨rfl,ca,n,hg,hc.le hle,hn⟩⟩
theorem Ow (hF:FS C s.ts ta) {o:Oper} (hc:cls tab o= .alloc) {K:SV->St->Prop} (h:kU tab view s o K):Made tab C s a K fun h'=>eM tab ta h' o:=by
 obtain⟨dst,op,type,pos,after,guard⟩:=o;unfold kU at h;unfold eM;have same1:∀{x:Operand} {K':SV->Prop},so (fk s.ts x) K'->∃sv v,ev ta x= .ok v/\aB C sv v/\K' sv:=by
  intro x K' h;obtain⟨sv,h1,h2⟩:=de h;obtain⟨v,h3,h4⟩:=jV hF h1;exact⟨sv,v,h3,h4,h2⟩
 cases op<;>simp only at h⊢ <;>simp only[cls]at hc
 case alloc e=>
  obtain⟨n,hn,h⟩:=de h;obtain⟨cs,h1,h2⟩:=de h;obtain⟨zv,zc,g1,g2,g3⟩:=oK (C:=C) h1;exact Made.cells (f:=fun b=> .ptr b 0) g3 hn (fun C' I hI=> .ptr hI) h2 (fun h' _=>by rw[rb g1,rb g2,rb (gP hn _ _ _)])
 case box e x=>
  obtain⟨n,hn,h⟩:=de h;obtain⟨sv,v,h3,h4,h2⟩:=same1 h;obtain⟨hk,h2⟩:=cH h2;obtain⟨l,g1,g2⟩:=ub h4 hk;exact Made.cells (f:=fun b=> .ptr b 0) g2 hn (fun C' I hI=> .ptr hI) h2 (fun h' _=>by rw[dF h3,rb g1,rb (gP hn _ _ _)])
 case buildSlice t len ps=>
  obtain⟨l,h1,h2⟩:=de h;obtain⟨vs,g1,g2,g3⟩:=uq hF h1;have:(fun h'=>(do let l<-kF ta ps.toList;Am.buildSlice tab h' t len l))=fun h'=>Am.buildSlice tab h' t len vs:=by
    funext h';rw[rb g1]
  rw[this];clear this;clear h h1;have h:=h2;clear h2;unfold tN at h;split at h
  . rename_i e hg;split at h
    . rename_i n z hn hz;obtain⟨hck,h1⟩:=cH h;clear h;simp only[Ab]at hck;obtain⟨zv,zc,q1,q2,q3⟩:=oK (C:=C) hz;have hzl:(Nat.beq zc.length n)=true:=by rw[<-q3.1];exact hck.2
      have hb:∀(h':AH) (ca:List AV),fill (rep len zc) (vs.map fun(i,v)=>(i*n,n,v))= .ok ca->Am.buildSlice tab h' t len vs= .ok (.sl h'.next 0 len (.lit len),h'.new (.cells ca e n false .rw)):=by
        intro h' ca hca;unfold Am.buildSlice;rw[rb (show und tab t=_ from ro hg)];simp only;rw[rb (show siz tab e=_ from ro hn),rb (rc hck.1),rb q1,rb q2,rb (rc hzl),rb hca,rb (gP hn _ _ _)]
      by_cases hl0:len=0
      . subst hl0;simp only[BS,A8]at h1;obtain⟨hck2,h2⟩:=cH h1;clear h1;simp only[Ab,List.isEmpty_iff,AI]at hck2;obtain⟨rfl,hn0⟩:=hck2;have hn0:n≠0:=fun e=>by subst e;simp at hn0
        cases vs with
        |cons=>simp at g2
        |nil=>
         split at h2
         . rename_i V hV;refine⟨_, .sl a.next 0 0 (.lit 0),_, .cells [] e n false .rw,⟨a.next,0,n,some (.lit 0)⟩,h2,fun h' hh=>(hb h' [] rfl).trans (by rw[hh]),rfl,rfl,fun C' _ hI=> .own hI rfl,fun C' a' hle hg=>⟨hn,by simp only;omega,rfl,fun i x hx=>by simp at hx,[],false, .rw,hg,by simp,by simp, .inr ⟨rfl,rfl⟩,fun i x j v hx=>by simp at hx⟩⟩
         . exact h2.elim
      . rw[fF hl0]at h1;simp only[AJ]at h1;obtain⟨cs,h2,hk⟩:=de h1;obtain⟨ca,h3,h4⟩:=uI (qs:=vs.map fun x=>(x.1*n,n,x.2)) (HX q3 len) (by
         simp only[Bw];have:=Ax (List.map (fun i=>(i*n,n))) g2;simpa [Bw,B7]using this) (by simpa [Bw,B7]using g3) h2
        exact Made.cells (f:=fun b=> .sl b 0 len (.lit len)) h4 hn (fun C' I hI=> .sl hI) hk (fun h' _=>hb h' ca h3)
    . exact h.elim
  . exact h.elim
 case call c=>
  cases hcc:c.callee with
  |builtin b=>rw[hcc]at hc;cases b<;>cases hc
  |value f=>rw[hcc]at hc;cases hc
  |invoke r m=>rw[hcc]at hc;cases hc
 case convert src dst x=>exact(NR hc).elim
 all_goals first|exact h.elim|(cases hc;done)
end
end
section
universe u v
variable [Inhabited aF]
theorem tX:∀(l:List (Nat×Nat)) (h:SH) (p:Nat),(nr h l).get p=if ∃x∈l,x.2=p then none else h.get p:=by
 intro l;induction l with
 |nil=>intro h p;simp[nr]
 |cons x l ih=>
  intro h p;obtain⟨i,b⟩:=x;simp only[nr,ih,SH.aS];by_cases h1:∃x∈l,x.2=p
  . rw[if_pos h1,if_pos];obtain⟨x,hx,e⟩:=h1;exact⟨x,An _ hx,e⟩
  . rw[if_neg h1];by_cases h2:p=b
    . rw[if_pos h2,if_pos ⟨(i,b),Ao,h2.symm⟩]
    . rw[if_neg h2,if_neg];rintro⟨x,hx,e⟩;rcases Aj.1 hx with rfl|hx
      . exact h2 e.symm
      . exact h1 ⟨x,hx,e⟩
theorem Md:∀(l:List (Nat×Nat)) (h:SH),(nr h l).next=h.next:=by
 intro l;induction l with
 |nil=>intro h;rfl
 |cons x l ih=>intro h;obtain⟨i,b⟩:=x;simp only[nr,ih,SH.eu]
theorem oH (h0:SH) (log:List Ev):∀(l:List (Nat×Nat)) (h:SH) (p:Nat),(kq h h0 log l).get p=if ∃x∈l,x.2=p then iC (h0.get p) log else h.get p:=by
 intro l;induction l with
 |nil=>intro h p;simp[kq]
 |cons x l ih=>
  intro h p;obtain⟨i,b⟩:=x;simp only[kq,ih,SH.aS];by_cases h1:∃x∈l,x.2=p
  . rw[if_pos h1,if_pos];obtain⟨x,hx,e⟩:=h1;exact⟨x,An _ hx,e⟩
  . rw[if_neg h1];by_cases h2:p=b
    . rw[if_pos h2,if_pos ⟨(i,b),Ao,h2.symm⟩,h2]
    . rw[if_neg h2,if_neg];rintro⟨x,hx,e⟩;rcases Aj.1 hx with rfl|hx
      . exact h2 e.symm
      . exact h1 ⟨x,hx,e⟩
theorem Lx (h0:SH) (log:List Ev):∀(l:List (Nat×Nat)) (h:SH),(kq h h0 log l).next=h.next:=by
 intro l;induction l with
 |nil=>intro h;rfl
 |cons x l ih=>intro h;obtain⟨i,b⟩:=x;simp only[kq,ih,SH.eu]
theorem Gb (h:SH) (n:Nat):∀(l:List Nat) (p:Nat),(SH.mk n (nZ h l)).get p=if p∈l then h.get p else none:=by
 intro l;induction l with
 |nil=>intro p;simp[nZ,SH.get,look]
 |cons b l ih=>
  intro p;have:=ih p;simp only[SH.get,nZ,jv]at this⊢;by_cases e:p=b
  . subst e;simp only[if_true,Aj,true_or]
    cases hg:look h.os p with
    |none=>rfl
    |some o=>cases o<;>rfl
  . simp only[if_neg e,Aj,e,false_or];exact this
open Classical in
theorem wH {a:AH} (hwf:∀i o,a.get i=some o->i<a.next) (P:Nat->Prop):∃a0:AH,a0.next=a.next/\ ∀i,a0.get i=if P i then a.get i else none:=by
 refine⟨gV a (((List.range a.next).filter fun i=>decide (¬P i)).map fun i=>(0,i)),iH _ _,fun i=>?_⟩;rw[gR];by_cases hP:P i
 . rw[if_pos hP,if_neg];rintro⟨x,hx,e⟩;obtain⟨j,hj,rfl⟩:=Ar.1 hx;simp only[AB,Ae]at hj;simp only at e;exact hj.2 (e▸hP)
 . rw[if_neg hP];split
   . rfl
   . rename_i hn
     cases hg:a.get i with
     |none=>rfl
     |some o=>exact absurd ⟨(0,i),Ar.2 ⟨i,by simp only[AB,Ep,Ae];exact⟨hwf i o hg,hP⟩,rfl⟩,rfl⟩ hn
section
variable {tab:aZ} {C C':Cx} {h h0:SH} {a a0:AH}
theorem HS.part (H:HS tab C h a) (hn:h0.next=h.next) (hh:∀p o,h0.get p=some o->h.get p=some o) (hp:Part a0 a) (hn0:a0.next=a.next) (hf:∀i o,C.Fz i=some o->a0.get i=some o)
   (hb:∀p o I,h0.get p=some o->C.ρ p=some I->I.cap.isSome->a0.get I.β=a.get I.β):HS tab C h0 a0:=by
 refine⟨fun p o hp=>?_,fun p q o o' I J hp hq=>H.inj p q o o' I J (hh p o hp) (hh q o' hq),hf,fun p o I hp=>H.dj p o I (hh p o hp),fun p I hI=>by rw[hn];exact H.lt p I hI,fun i o hi=>by rw[hn0];exact H.wf i o (hp i o hi)⟩;obtain⟨I,hI,ho⟩:=H.obj p o (hh p o hp);refine⟨I,hI,?_⟩;by_cases hc:I.cap.isSome
 . exact ho.congr (hb p o I hp hI hc)
 . cases o with
   |cells cs t=>exact absurd ho.1 hc
   |arr X L enc t=>
    obtain⟨g1,g2,g3,g4,g5⟩:=ho;refine⟨g1,g2,g3,g4,?_⟩
    cases hcap:I.cap with
    |none=>rw[hcap]at g5;exact g5
    |some c=>rw[hcap]at hc;simp at hc
end
theorem Pb:∀{l:List AV},(∀(i:Nat) v,l[i]? =some v->AV.beq v v=true)->gp l l=true:=by
 intro l;induction l with
 |nil=>intro _;rfl
 |cons v l ih=>intro h;simp only[gp,Ab];exact⟨h 0 v rfl,ih fun i w hw=>h (i+1) w (by simpa using hw)⟩
theorem Mx:∀{l:List SV},jt l=true->∀(i:Nat) (s:SV),l[i]? =some s->s.full=true:=by
 intro l;induction l with
 |nil=>intro _ i s h;simp at h
 |cons v l ih=>
  intro h i s hs;simp only[jt,Ab]at h
  cases i with
  |zero=>simp at hs;rw[<-hs];exact h.1
  |succ i=>exact ih h.2 i s (by simpa using hs)
theorem nM {l:List SV} {m:List AV} (hl:l.length=m.length) (hf:jt l=true) (h:∀(i:Nat) s v,l[i]? =some s->m[i]? =some v->s.full=true->AV.beq v v=true):gp m m=true:=by
 refine Pb fun i v hv=>?_
 have hi:=(Ad.1 hv).1;have hs:l[i]? =some l[i]:=Ag (by omega);exact h i _ v hs hv (Mx hf i _ hs)
theorem My {Fz:Nat->Option AO} {s:SV} {v:AV} (h:aI Fz s v) (hf:s.full=true):AV.beq v v=true:=by
 induction h with
 |any v=>cases hf
 |bL h0 hv=>rcases hv with rfl|⟨b,off,l,n,k,rfl⟩|⟨a,c,rfl⟩<;>simp[AV.beq]
 |fn h1 h2 _ _ ih3 ih4=>
  simp only[SV.full,Ab]at hf;simp only[AV.beq,Ab];exact⟨⟨by simp,nM h1 hf.1 ih3⟩,nM h2 hf.2 ih4⟩
 |agg h1 _ ih=>simp only[SV.full]at hf;simp only[AV.beq];exact nM h1 hf ih
 |bj h1 _ ih=>simp only[SV.full]at hf;simp only[AV.beq];exact nM h1 hf ih
 |_=>simp[AV.beq]
theorem Nr {C:Cx} {s:SV} {v:AV} (h:aB C s v) (hf:s.full=true):AV.beq v v=true:=by
 induction h with
 |pure h=>exact My h hf
 |fn h1 h2 _ _ ih3 ih4=>
  simp only[SV.full,Ab]at hf;simp only[AV.beq,Ab];exact⟨⟨by simp,nM h1 hf.1 ih3⟩,nM h2 hf.2 ih4⟩
 |agg h1 _ ih=>simp only[SV.full]at hf;simp only[AV.beq];exact nM h1 hf ih
 |bj h1 _ ih=>simp only[SV.full]at hf;simp only[AV.beq];exact nM h1 hf ih
 |_=>simp[AV.beq]
def j4 (C:Cx) (h:SH):List (Nat×Nat)->List (Nat×Nat)->Prop
 |[],[]=>True
 |(i,p)::l,(j,β)::m=>i=j/\(∃o I,h.get p=some o/\C.ρ p=some I/\I.cap.isSome/\I.β=β)/\j4 C h l m
 |_,_=>False
theorem j4.filter {C:Cx} {h:SH} (f:Nat->Bool):∀{l m:List (Nat×Nat)},j4 C h l m->j4 C h (l.filter fun x=>f x.1) (m.filter fun x=>f x.1):=by
 intro l;induction l with
 |nil=>intro m hm;cases m with
  |nil=>exact hm
  |cons=>exact hm.elim
 | cons x l ih=>
  intro m hm;obtain⟨i,p⟩:=x
  cases m with
  |nil=>exact hm.elim
  |cons y m=>
   obtain⟨j,β⟩:=y;obtain⟨rfl,h1,h2⟩:=hm;simp only[BQ]
   cases f i
   . simpa using ih h2
   . simpa using⟨rfl,h1,ih h2⟩
theorem j4.mono {C C':Cx} {h h':SH}:∀{l m:List (Nat×Nat)},j4 C h l m->(∀x∈l,∀o I,h.get x.2=some o->C.ρ x.2=some I->I.cap.isSome->∃o',h'.get x.2=some o'/\C'.ρ x.2=some I)->j4 C' h' l m:=by
 intro l;induction l with
 |nil=>intro m hm _;cases m with
  |nil=>exact hm
  |cons=>exact hm.elim
 | cons x l ih=>
  intro m hm hk;obtain⟨i,p⟩:=x
  cases m with
  |nil=>exact hm.elim
  |cons y m=>
   obtain⟨j,β⟩:=y;obtain⟨rfl,⟨o,I,g1,g2,g3,g4⟩,h2⟩:=hm;obtain⟨o',k1,k2⟩:=hk (i,p) Ao o I g1 g2 g3;exact⟨rfl,⟨o',I,k1,k2,g3,g4⟩,ih h2 (fun x hx=>hk x (An _ hx))⟩
theorem j4.left {C:Cx} {h:SH}:∀{l m:List (Nat×Nat)},j4 C h l m->∀x∈l,∃o I,h.get x.2=some o/\C.ρ x.2=some I/\I.cap.isSome/\ ∃y∈m,y.2=I.β:=by
 intro l;induction l with
 |nil=>intro m _ x hx;cases hx
 | cons x l ih=>
  intro m hm y hy;obtain⟨i,p⟩:=x
  cases m with
  |nil=>exact hm.elim
  |cons z m=>
   obtain⟨j,β⟩:=z;obtain⟨rfl,⟨o,I,g1,g2,g3,g4⟩,h2⟩:=hm;rcases Aj.1 hy with rfl|hy
   . exact⟨o,I,g1,g2,g3,(i,β),Ao,g4.symm⟩
   . obtain⟨o,I,q1,q2,q3,w,hw,q4⟩:=ih h2 y hy;exact⟨o,I,q1,q2,q3,w,An _ hw,q4⟩
theorem j4.right {C:Cx} {h:SH}:∀{l m:List (Nat×Nat)},j4 C h l m->∀y∈m,∃x∈l,∃o I,h.get x.2=some o/\C.ρ x.2=some I/\I.cap.isSome/\I.β=y.2:=by
 intro l;induction l with
 |nil=>intro m hm y hy;cases m with
  |nil=>cases hy
  |cons=>exact hm.elim
 | cons x l ih=>
  intro m hm y hy;obtain⟨i,p⟩:=x
  cases m with
  |nil=>exact hm.elim
  |cons z m=>
   obtain⟨j,β⟩:=z;obtain⟨rfl,⟨o,I,g1,g2,g3,g4⟩,h2⟩:=hm;rcases Aj.1 hy with rfl|hy
   . exact⟨(i,p),Ao,o,I,g1,g2,g3,g4⟩
   . obtain⟨w,hw,q⟩:=ih h2 y hy;exact⟨w,An _ hw,q⟩
def p7 (tab:aZ) (ops:Array Oper) (C:Cx) (h:SH) (a:AH) (x:Nat×T AV×AV) (rs:List Nat):Prop:=
 ∃o a0 h1,ops[x.1]? =some o/\(cls tab o= .pure\/cls tab o= .read)/\rv o.op=true/\AV.beq x.2.2 x.2.2=true/\eM tab x.2.1 a0 o= .ok (x.2.2,h1)/\
  ∀β ob,a0.get β=some ob->C.Fz β=some ob\/(a.get β=some ob/\ ∃p∈rs,∃o' I,h.get p=some o'/\C.ρ p=some I/\I.cap.isSome/\I.β=β)
theorem p7.mono {tab:aZ} {ops:Array Oper} {C C':Cx} {h h':SH} {a a':AH} {x:Nat×T AV×AV} {rs:List Nat} (hx:p7 tab ops C h a x rs) (hf:∀i o,C.Fz i=some o->C'.Fz i=some o)
   (hk:∀p∈rs,∀o I,h.get p=some o->C.ρ p=some I->I.cap.isSome->a'.get I.β=a.get I.β/\ ∃o',h'.get p=some o'/\C'.ρ p=some I):p7 tab ops C' h' a' x rs:=by
 obtain⟨o,a0,h1,g1,g2,g3,gb,g4,g5⟩:=hx;refine⟨o,a0,h1,g1,g2,g3,gb,g4,fun β ob hb=>?_⟩;rcases g5 β ob hb with q|⟨q,p,hp,o',I,q1,q2,q3,rfl⟩
 . exact .inl (hf _ _ q)
 . obtain⟨k1,o2,k2,k3⟩:=hk p hp o' I q1 q2 q3;exact .inr ⟨by rw[k1];exact q,p,hp,o2,I,k2,k3,q3,rfl⟩
structure ja (tab:aZ) (ops:Array Oper) (C:Cx) (d:SD) (e:DS):Prop where
 F:FS C d.s.ts e.ts
 H:HS tab C d.s.h e.h
 aE:d.aE=e.aE
 al:j4 C d.s.h d.ax e.ax
 rd:∀x∈e.reads,∃rs,(x.1,rs)∈d.reads/\p7 tab ops C d.s.h e.h x rs
structure Prog (C:Cx) (d:SD) (e:DS) (new:List Ev) (C':Cx) (d':SD) (e':DS):Prop where
 log:d'.s.log=d.s.log++new
 tr:Tr C new C'
 grow:Grow e.h e'.h
 aU:cN C d.s.h e.h new C' d'.s.h e'.h
end
section
universe u v
variable [Inhabited aF]
section
variable {tab:aZ} {cfg:iq} {ops:Array Oper} {nt:Nat}
theorem tL (ts:T AV) (o:Oper) (v:AV):fX nt ts o v=fU nt ts o.dst v:=by
 unfold fX fU
 cases o.dst<;>rfl
theorem Prog.refl {C C':Cx} {d d':SD} {e e':DS} (hl:d'.s.log=d.s.log) (hh:d'.s.h=d.s.h) (he:e'.h=e.h) (hc:C'=C):Prog C d e [] C' d' e':=by
 subst hc;exact⟨by simp[hl],Tr.refl _,by rw[he];exact Grow.refl _,by rw[hh,he];exact cN.same _ _ _ _⟩
open Classical in
theorem Nn (htab:cfg.tab=tab) {C:Cx} {d:SD} {e:DS} {i:Nat} {o:Oper} {K:SD->Prop} (h:yN cfg ops nt i o d K) (S:ja tab ops C d e) (hi:ops[i]? =some o):
  ∃r d' C',oJ tab ops nt i o e= .ok r/\K d'/\ja tab ops C' d' (r.getD e)/\Prog C d e [] C' d' (r.getD e):=by
 obtain⟨s,aE,reads,ax⟩:=d;obtain⟨hF,H,hanc,hal,hrd⟩:=S;simp only at hF H hanc hal hrd;simp only[yN]at h;rw[htab]at h;obtain⟨hok,h⟩:=cH h;obtain⟨w,s1,h1,hw,hF1,eh,el⟩:=xx h hF;clear h;subst hanc;unfold oJ
 rw[rb (rc hok)];simp only;rw[rb hw]
 cases w with
 |false=>
  simp only[Df,A8]at h1;have h2:=tW (lr h1);obtain⟨s2,k1,k2,k3,k4⟩:=qz (v:= .bj []) h2 hF1 (.pure (.bj rfl (fun i c v hc=>by simp at hc)));refine⟨_,_,C,rfl,k1,⟨?_,?_,rfl,?_,?_⟩,Prog.refl ?_ ?_ rfl rfl⟩
  . simp only[AK];rw[tL];exact k2
  . simp only[AK];rw[k3,eh];exact H
  . simp only[AK];rw[k3,eh];exact hal
  . simp only[AK];rw[k3,eh];exact hrd
  . simp only;rw[k4,el]
  . simp only;rw[k3,eh]
 | true =>
  simp only[BH,AJ]at h1;simp only[BH,Ak,Aw];have Hs:HS tab C s1.h e.h:=by rw[eh];exact H
  have look :∀(hc:cls tab o= .pure\/cls tab o= .read),(jm (dS e.aE o) fun an=>nc (e.aE.set i (some an)) fun aE=>match s1 with
    | ⟨ts,h,log⟩=>jm (yH ts o) fun rs=>ck (rs.all fun b=>ax.all fun x=> !(Nat.beq x.2 b)) (kU tab cfg.view ⟨ts,⟨h.next,nZ h rs⟩,[]⟩ o fun v s'=>ck (s'.log.isEmpty&&v.full) (iF nt ⟨ts,h,log⟩ o.dst v fun s'=>K ⟨s',aE,(i,rs)::reads,ax⟩)))->
      ∃ d' v,K d'/\(∀v' hx',eM tab e.ts {t:= .e,next:=0} o= .ok (v',hx')->v'=v/\hx'.next=0)/\eM tab e.ts (gV e.h e.ax) o= .ok (v,gV e.h e.ax)/\
        ∀rd',(rd'=e.reads\/rd'=(i,e.ts,v)::e.reads)->ja tab ops C d' {e with ts:=fX nt e.ts o v,aE:=e.aE.set i (some (dS e.aE o)),reads:=rd'}/\Prog C ⟨s,e.aE,reads,ax⟩ e [] C d' {e with ts:=fX nt e.ts o v,aE:=e.aE.set i (some (dS e.aE o)),reads:=rd'}:=by
    intro hc h;have h:=tW (lr h);obtain⟨ts,hh,log⟩:=s1;simp only at h eh el hF1 Hs;subst eh;have h:=lr h;generalize yH ts o=rs at h
    obtain⟨hdis,h⟩:=cH h;obtain⟨a0,hn0,hg0⟩:=wH H.wf (fun i=>(∃ob,C.Fz i=some ob)\/ ∃p∈rs,∃o' I,s.h.get p=some o'/\C.ρ p=some I/\I.cap.isSome/\I.β=i);have hpart:Part a0 e.h:=by
      intro j ob hj;rw[hg0]at hj;split at hj
      . exact hj
      . cases hj
    have H0:HS tab C ⟨s.h.next,nZ s.h rs⟩ a0:=by
      refine Hs.part rfl (fun p o' hp=>?_) hpart hn0 (fun j ob hj=>?_) (fun p o' I hp hI hcap=>?_)
      . rw[Gb]at hp;split at hp
        . exact hp
        . cases hp
      . rw[hg0,if_pos (.inl ⟨ob,hj⟩)];exact H.fz j ob hj
      . rw[Gb]at hp;split at hp
        . rename_i hm;rw[hg0,if_pos (.inr ⟨p,hm,o',I,hp,hI,hcap,rfl⟩)]
        . cases hp
    obtain⟨hlk,sv,v,hk,hp,hv⟩:=Ov (s:=⟨ts,⟨s.h.next,nZ s.h rs⟩,[]⟩) hF1 H0 hc (fun sv s1 hk=>by have:=(cH hk).1;simp only[Ab]at this;simpa using this.1) h;obtain⟨hfull,hk⟩:=cH hk;simp only[Ab]at hfull;have hbeq:=Nr hv hfull.2;obtain⟨s2,k1,k2,k3,k4⟩:=qz hk hF1 hv;have hhid:Part a0 (gV e.h e.ax):=by
      intro β ob hβ;rw[gR,if_neg]
      . exact hpart β ob hβ
      . rintro⟨y,hy,rfl⟩;obtain⟨x,hx,ox,Ix,x1,x2,x3,x4⟩:=hal.right y hy;rw[hg0]at hβ;split at hβ
        . rename_i hP;rcases hP with⟨ob',hP⟩|⟨p,hpm,op,Ip,p1,p2,p3,p4⟩
          . have:=H.dj x.2 ox Ix x1 x2 x3;rw[x4,hP]at this;cases this
          . have:=H.inj p x.2 op ox Ip Ix p1 x1 p2 x2 p3 x3 (by rw[p4,x4]);have h5:=AE.1 (AE.1 hdis p hpm) x hx;rw[this]at h5;simp at h5
        . cases hβ
    refine⟨_,v,k1,fun v' hx' hp'=>?_,xj hc hlk hhid hp,fun rd' hrd'=>⟨⟨?_,?_,rfl,?_,?_⟩,Prog.refl ?_ ?_ rfl rfl⟩⟩
    . have h5:=xj hc hlk (h0:={t:= .e,next:=0}) (h:=a0) (fun j ob hj=>by cases hj) hp';have h6:=tS ⟨by rcases hc with e|e<;>rw[e]<;>simp,by rcases hc with e|e<;>rw[e]<;>simp⟩ hp';rw[hp]at h5
      cases h5;exact⟨rfl,by rw[h6]⟩
    . simp only;rw[tL];exact k2
    . simp only;rw[k3];exact H
    . simp only;rw[k3];exact hal
    . simp only;rw[k3];intro x hx;rcases hrd' with rfl|rfl
      . obtain⟨rs',g1,g2⟩:=hrd x hx;exact⟨rs',An _ g1,g2⟩
      . rcases Aj.1 hx with rfl|hx
        . refine⟨rs,Ao,o,a0,_,hi,hc,hlk,hbeq,hp,fun β ob hβ=>?_⟩;have hβ':=hpart β ob hβ;rw[hg0]at hβ;split at hβ
          . rename_i hP;rcases hP with⟨ob',hP⟩|hP
            . have:=H.fz _ _ hP;rw[hβ']at this;cases this;exact .inl hP
            . exact .inr ⟨hβ',hP⟩
          . cases hβ
        . obtain⟨rs',g1,g2⟩:=hrd x hx;exact⟨rs',An _ g1,g2⟩
    . simp only;rw[k4];exact el
    . simp only;rw[k3]
  cases hcl:cls tab o with
  | jf=>
    rw[hcl]at h1;simp only at h1⊢;exact⟨none,_,C,rfl,h1,⟨hF1,Hs,rfl,by simp only;rw[eh];exact hal,by simp only;rw[eh];exact hrd⟩,Prog.refl el eh rfl rfl⟩
  | pure=>
    obtain⟨d',v,g1,g2,g3,g4⟩:=look (.inl hcl) (by rw[hcl]at h1;exact h1);simp only
    cases hp:eM tab e.ts {t:= .e,next:=0} o with
    | ok r=>
      obtain⟨v',hx'⟩:=r;obtain⟨rfl,hn⟩:=g2 v' hx' hp;simp only;rw[rb (rc (by rw[hn];rfl))];obtain⟨q1,q2⟩:=g4 e.reads (.inl rfl);exact⟨_,d',C,rfl,g1,q1,q2⟩
    | no _=>
      simp only;rw[g3];obtain⟨q1,q2⟩:=g4 _ (.inr rfl);exact⟨_,d',C,rfl,g1,q1,q2⟩
  | read=>
    obtain⟨d',v,g1,g2,g3,g4⟩:=look (.inr hcl) (by rw[hcl]at h1;exact h1);simp only;rw[g3];obtain⟨q1,q2⟩:=g4 _ (.inr rfl);exact⟨_,d',C,rfl,g1,q1,q2⟩
  | alloc=>
    rw[hcl]at h1;simp only at h1⊢;have h2:=tW (lr h1);clear h1 look;obtain⟨ts,hh,log⟩:=s1;simp only at h2 eh el hF1 Hs;subst eh;obtain⟨sv,v,so,ao,I,m1,m2,m3,m4,m5,m6⟩:=Ow (s:=⟨ts,s.h,[]⟩) (a:=e.h) hF1 hcl h2;clear h2;simp only[St.new]at m1;obtain⟨_,m1⟩:=cH m1;obtain⟨q1,q2⟩:=H.new (ao:=ao) (o:=so) I m3 (fun hle=>m6 _ _ hle (by rw[AH.aL,if_pos rfl]));obtain⟨s2,k1,k2,k3,k4⟩:=qz (C:=C.put s.h.next I) m1 (FS.le q1 hF1) (m5 _ q1 (il _ _ _));rw[rb (m2 {t:= .e,next:=e.h.next} rfl)];simp only;rw[rb (rc (by simp)),rb (ro (show AH.get _ _=some ao from by rw[AH.aL,if_pos rfl]))];have hnew:∀p o',s.h.get p=some o'->(s.h.new so).get p=some o':=by
      intro p o' hp;obtain⟨J,hJ,_⟩:=H.obj p o' hp;have:=H.lt p J hJ;rw[SH.aL,if_neg (by omega)];exact hp
    have hkeep:∀p o' J,s.h.get p=some o'->C.ρ p=some J->J.cap.isSome->(e.h.new ao).get J.β=e.h.get J.β:=by
      intro p o' J hp hJ hc;obtain⟨b,hb⟩:=(H.at_ hp hJ).live hc;have:=H.wf _ _ hb;rw[AH.aL,if_neg (by omega)]
    refine⟨_,_,C.put s.h.next I,rfl,k1,⟨?_,?_,rfl,?_,?_⟩,⟨?_,q1.tr,?_,?_⟩⟩
    . simp only[AK];rw[tL];exact k2
    . simp only[AK];rw[k3];exact q2
    . simp only[AK];rw[k3];refine⟨rfl,⟨so,I,by rw[SH.aL,if_pos rfl],il _ _ _,m4,m3⟩,hal.mono fun x hx o' J hp hJ hc=>⟨o',hnew _ _ hp,q1.1 _ _ hJ⟩⟩
    . simp only[AK];rw[k3];intro x hx;obtain⟨rs,g1,g2⟩:=hrd x hx;exact⟨rs,g1,g2.mono q1.2 (fun p hp o' J hp hJ hc=>⟨hkeep p o' J hp hJ hc,o',hnew _ _ hp,q1.1 _ _ hJ⟩)⟩
    . simp only[BW];rw[k4];exact el
    . exact Grow.new _ _
    . simp only[AK];rw[k3];exact cN.new H _ _ q1 (rQ H _)
end
end
section
universe u v
variable [Inhabited aF]
section
variable {P:Program} {tab:aZ} {cfg:iq} {ops:Array Oper} {nt:Nat} {rec:SM->(SV->St->Prop)->Prop}
theorem Prog.trans {C C' C'':Cx} {d d' d'':SD} {e e' e'':DS} {l m:List Ev} (p:Prog C d e l C' d' e') (q:Prog C' d' e' m C'' d'' e'') (H:∀i o,C'.Fz i=some o->e'.h.get i=some o) (H':∀i o,C''.Fz i=some o->e''.h.get i=some o):Prog C d e (l++m) C'' d'' e'':=
 ⟨by rw[q.log,p.log,B6],p.tr.trans q.tr,p.grow.trans q.grow,p.aU.trans q.aU q.tr.fz H H'⟩
theorem PD (htab:cfg.tab=tab):∀(l:List Oper) (k:Nat) (d:SD) (e:DS) (C:Cx) (K:SD->Prop),(∀j o,l[j]? =some o->ops[k+j]? =some o)->th cfg ops nt k l d K->ja tab ops C d e->
  ∃e' d' C',jT tab ops nt k l e= .ok e'/\K d'/\ja tab ops C' d' e'/\Prog C d e [] C' d' e':=by
 intro l;induction l with
 |nil=>
  intro k d e C K _ h S;exact⟨e,d,C,rfl,h,S,Prog.refl rfl rfl rfl rfl⟩
 |cons o l ih=>
  intro k d e C K hl h S;have hi:=hl 0 o rfl;have hl':∀j o,l[j]? =some o->ops[k+1+j]? =some o:=fun j o' hj=>by
    have:=hl (j+1) o' (by simpa using hj);rwa [show k+1+j=k+(j+1)from by omega]
  simp only[th,S.aE]at h;simp only[jT]
  cases hr:gv e.aE k o
  . rw[hr]at h;exact ih (k+1) d e C K hl' h S
  . rw[hr]at h;simp only[A8]at h⊢;obtain⟨r,d1,C1,g1,g2,g3,g4⟩:=Nn htab h S (by simpa using hi);rw[rb g1];obtain⟨e',d',C',q1,q2,q3,q4⟩:=ih (k+1) d1 _ C1 K hl' g2 g3;refine⟨e',d',C',?_,q2,q3,?_⟩
    . cases r<;>exact q1
    . have:=g4.trans q4 g3.H.fz q3.H.fz;simpa using this
theorem gD.mono {ts:T AV} {h0:AH} {o:Oper} {Θ Θ':AV->AH->Prop} (h:gD P tab ts h0 o Θ) (hi:∀v h1,h0.next<=h1.next->Θ v h1->Θ' v h1):gD P tab ts h0 o Θ':=by
 rcases h with⟨v,h1,k1,k2,k3⟩|⟨c',f,g,first,captured,args,fn,body,k1,k2,k3,k4,k5,k6,k7⟩
 . exact .inl ⟨v,h1,k1,k2,hi _ _ k2 k3⟩
 . exact .inr ⟨c',f,g,first,captured,args,fn,body,k1,k2,k3,k4,k5,k6,k7.mono fun v h1 ⟨a,b⟩=>⟨a,hi _ _ a b⟩⟩
theorem MM {h:AH}:∀{l:List (Nat×T AV×AV)},(∀x∈l,∃o h1,ops[x.1]? =some o/\eM tab x.2.1 h o= .ok (x.2.2,h1)/\AV.beq x.2.2 x.2.2=true)->reread tab ops h l= .ok ():=by
 intro l;induction l with
 |nil=>intro _;rfl
 |cons x l ih=>
  intro hx;obtain⟨i,ts,v⟩:=x;obtain⟨o,h1,g1,g2,g3⟩:=hx _ Ao;simp only at g1 g2 g3;simp only[reread];rw[rb (ro g1),rb g2];simp only;rw[rb (rc g3)];exact ih fun y hy=>hx y (An _ hy)
theorem CZ:∀(log:List Ev) (s:SV) (b:Nat),(∀e∈log,e.id≠b)->(s= .own b\/s= .bR b 1 0\/s= .ptr b 0)->gW log s=s:=by
 intro log;induction log with
 |nil=>intro s b _ _;rfl
 | cons e l ih=>
  intro s b hb hs;have h1:=hb e Ao;have:s.on e=s:=by
   rcases hs with rfl|rfl|rfl<;>cases e<;>simp only[Ev.id]at h1<;>simp only[SV.on]<;>first|rfl|(rw[fF (fun h=>h1 h.symm)];rfl)
  simp only[gW,this];exact ih s b (fun e' he=>hb e' (An _ he)) hs
theorem Tr.same {C C':Cx} {log:List Ev} (hT:Tr C log C') {p:Nat} {I:BI} (hI:C.ρ p=some I) (hc:I.cap.isSome) (hm:∀e∈log,e.id≠p):C'.ρ p=some I:=by
 obtain⟨c,hc'⟩:=By.1 hc;have h1:=hT.val _ _ (.own hI hc');rw[CZ log _ p hm (.inl rfl)]at h1;have h2:=hT.val _ _ (.bR (i:=1) (off:=0) hI hc);rw[CZ log _ p hm (.inr (.inl rfl))]at h2;obtain⟨β,len,sz,cap⟩:=I;simp only at h1 h2 hc';subst hc';generalize hv1:AV.sl β 0 len c=v1 at h1
 generalize hv2:AV.ptr β (1*sz+0)=v2 at h2
 cases h1 with
 |pure h=>cases h
 |ew hJ hc=>cases hv1
 | own hJ hc=>
  rename_i J c2
  cases h2 with
  |pure h=>cases h
  |bR hJ' hc2=>
   rw[hJ]at hJ'
   cases hJ'
   cases hv1;simp only[AV.ptr.injEq]at hv2;rw[hJ];obtain⟨β',len',sz',cap'⟩:=J;simp only at hc hv2⊢;subst hc;have:sz=sz':=by omega
   rw[this]
theorem M3 (o:SO):∀(log:List Ev),∃o',iC (some o) log=some o'/\ ∀{C C':Cx} {I:BI} {a a':AH},Tr C log C'->a'.get I.β=a.get I.β->dV tab C I o a->dV tab C' I o' a':=by
 intro log
 cases o with
 | cells cs t=>
  have:∀(log:List Ev) (cs:List SV),iC (some (.cells cs t)) log=some (.cells (cs.map (gW log)) t):=by
   intro log;induction log with
   |nil=>intro cs;simp[iC];exact(List.map_id'' (fun _=>rfl) cs).symm
   |cons e l ih=>intro cs;simp only[iC,A2,SO.on,ih,ni,Bw];rfl
  refine⟨_,this log cs,fun hT hg ho=>?_⟩;obtain⟨g1,ca,sz,g2,g3,g4⟩:=ho;refine⟨g1,ca,sz,by rw[hg];exact g2,⟨by simpa using g3.1,fun i s v hs hv=>?_⟩,g4⟩;rw[Au]at hs;obtain⟨s0,h0,rfl⟩:=Ap.1 hs;exact hT.val _ _ (g3.2 i s0 v h0 hv)
 | arr X L enc t=>
  have:∀(log:List Ev),iC (some (.arr X L enc t)) log=some (.arr X L enc t):=by
   intro log;induction log with
   |nil=>rfl
   |cons e l ih=>simp only[iC,A2,SO.on,ih]
  refine⟨_,this log,fun{C C' I a a'} hT hg ho=>?_⟩;obtain⟨h1,h2,h3,h4,h5⟩:=ho;refine⟨h1,h2,h3,h4,?_⟩
  cases hcap:I.cap with
  |none=>rw[hcap]at h5;exact h5
  |some c=>
   rw[hcap]at h5;obtain⟨ca,ext,bk,g1,g2,g3,g4,g5⟩:=h5;refine⟨ca,ext,bk,by rw[hg];exact g1,g2,g3,g4,fun i x j v hx hv=>?_⟩;obtain⟨u,k1,k2⟩:=g5 i x j v hx hv;exact⟨u,k1,k2.mono hT.fz⟩
end
end
end Go.Sy
namespace Go.Proofs
open Go Go.Am Go.RowKit
section
variable [Inhabited aF]
theorem Tryz.rp:Tryz.tab.fns.get 136=some Tryz.f136:=by kernel_rfl
theorem Tu:Extern.findNext Tryz.f136=none:=by kernel_rfl
theorem Tl:Extern.find Tryz.f136=some (nq 4 Tryz.f136):=by kernel_rfl
theorem Tryz.rq:Tryz.tab.fns.get 244=some Tryz.f244:=by kernel_rfl
theorem Tv:Extern.findNext Tryz.f244=none:=by kernel_rfl
theorem Tm:Extern.find Tryz.f244=some (nq 1 Tryz.f244):=by kernel_rfl
theorem Sx:fP Tryz.prog Tryz.tab:=Td [(136,4),(244,1)] rfl (by
 intro x hx;simp only[Aj,BX,DT]at hx;rcases hx with rfl|rfl
 . exact⟨_,Tryz.rp,Tu,Tl⟩
 . exact⟨_,Tryz.rq,Tv,Tm⟩)
theorem Tryz.mix:Tryz.prog.follows .mixedOrders=true:=by kernel_rfl
theorem bH:Go.Sy.fI Tryz.prog Tryz.tab:=⟨Tryz.jr,Qf Tryz.jr Sx,Tryz.mix⟩
end
end Go.Proofs
