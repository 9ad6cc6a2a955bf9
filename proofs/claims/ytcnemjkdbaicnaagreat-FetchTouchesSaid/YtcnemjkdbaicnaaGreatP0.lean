/- Part 0: an evaluator, proved sound, and its use at this seat; no condition. -/
import GoSem.Step
import Derived.WalkKit
import Derived.Laws.MakeOwn
import Derived.Laws.Sem
import Derived.Calls
import Derived.Orders
set_option linter.unusedSimpArgs false
set_option linter.unusedVariables false
set_option linter.unusedSectionVars false
set_option linter.deprecated false
abbrev Aa:=@decide_eq_true_eq
abbrev Ab:=@Array.getElem?_eq_some_iff
abbrev Ac:=@Bool.and_eq_true
abbrev Ad:=@Nat.le_refl
abbrev Ae:=@List.getElem?_eq_some_iff
abbrev Af:=@Nat.eq_of_beq_eq_true
abbrev Ag:=@List.getElem?_eq_getElem
abbrev Ah:=@Int.ofNat_eq_natCast
abbrev Ai:=@decide_eq_false_iff_not
abbrev Aj:=@congrArg
abbrev Ak:=@Nat.le_of_ble_eq_true
abbrev Al:=@if_pos
abbrev An:=@if_neg
abbrev Ao:=@Bool.eq_false_iff
abbrev Ap:=@List.mem_cons
abbrev Aq:=@List.mem_cons_self
abbrev Ar:=@Nat.le_trans
abbrev As:=@List.mem_filter
abbrev Au:=@Nat.zero_le
abbrev Av:=@List.take_succ_eq_append_getElem
abbrev Aw:=@List.mem_map
abbrev Ax:=@Nat.zero_add
abbrev Ay:=@List.take_of_length_le
abbrev Az:=@Bool.false_eq_true
abbrev AA:=@Bool.eq_iff_iff
abbrev AB:=@List.all_eq_true
abbrev AE:=@List.getElem?_map
abbrev AF:=@Nat.ble_eq
abbrev AG:=@List.getElem_of_mem
abbrev AI:=@List.filter_sublist
abbrev AJ:=@List.getElem?_toArray
abbrev AK:=@List.pairwise_iff_getElem
abbrev AL:=@List.eq_nil_of_length_eq_zero
abbrev AN:=@List.getElem_mem
abbrev AP:=@List.length_eq_zero_iff
abbrev AQ:=@List.getElem?_cons_zero
abbrev AR:=@Nat.lt_of_lt_of_le
abbrev AS:=@List.mem_cons_of_mem
abbrev AU:=@Option.map_eq_some_iff
abbrev AW:=@List.map_cons
abbrev AX:=@List.getElem?_append_left
abbrev AY:=@Array.getElem?_eq_getElem
abbrev AZ:=@List.getElem?_cons_succ
abbrev A0:=@Bool.not_eq_true'
abbrev A1:=@List.length_map
abbrev A2:=@List.length_filter_le
abbrev A3:=@Nat.not_lt_zero
abbrev A4:=@List.getElem?_take
abbrev A5:=@decide_eq_false
abbrev A6:=@Array.getElem?_toList
abbrev A7:=@List.length_pos_iff
abbrev A8:=@List.take_length
abbrev A9:=@Nat.mul_le_mul_right
abbrev Ba:=@List.mem_iff_getElem?
abbrev Bb:=@List.foldl_cons
abbrev Bc:=@List.length_cons
abbrev Bd:=@List.getElem?_append_right
abbrev Be:=@Nat.add_mul
abbrev Bf:=@cond_false
abbrev Bg:=@List.pairwise_cons
abbrev Bh:=@if_false
abbrev Bi:=@Option.getD_some
abbrev Bj:=@List.size_toArray
abbrev Bk:=@Classical.byContradiction
abbrev Bl:=@List.takeWhile_cons
abbrev Bn:=@List.filter_eq_self
abbrev Bo:=@Option.some.injEq
abbrev Bp:=@Option.isSome_iff_exists
abbrev Bq:=@Bool.true_and
abbrev Br:=@List.map_append
abbrev Bt:=@List.length_nil
abbrev Bu:=@List.length_append
abbrev Bv:=@List.mem_of_getElem?
abbrev Bw:=@of_decide_eq_true
abbrev Bx:=@Nat.add_zero
abbrev By:=@List.map_congr_left
abbrev Bz:=@Option.map_some
abbrev BA:=@List.nil_append
abbrev BB:=@if_true
abbrev BC:=@List.getElem?_eq_none
abbrev BD:=@beq_iff_eq
abbrev BE:=@List.not_mem_nil
abbrev BF:=@getElem!_pos
abbrev BG:=@List.ext_getElem?
abbrev BH:=@List.append_assoc
abbrev BJ:=@Bool.or_eq_true
abbrev BL:=@Array.getD_eq_getD_getElem?
abbrev BM:=@List.length_drop
abbrev BN:=@List.take_append_drop
abbrev BO:=@List.drop_eq_getElem_cons
abbrev BP:=@Option.map_none
abbrev BQ:=@List.append_nil
abbrev BR:=@List.getElem_drop
abbrev BS:=@Function.comp_def
abbrev BT:=@Nat.blt_eq
abbrev BU:=@List.filter_cons
abbrev BV:=@List.cons_append
abbrev BW:=@List.head?_eq_getElem?
abbrev BX:=@Array.ext_getElem?
abbrev BZ:=@cond_true
abbrev B0:=@List.Pairwise.sublist
abbrev B5:=@List.filter_congr
abbrev B6:=@Int.toNat_natCast
abbrev B7:=@decide_eq_true
abbrev B8:=@List.nodup_iff_pairwise_ne
abbrev B9:=@List.exists_cons_of_ne_nil
abbrev Da:=@Array.replicate_zero
abbrev Db:=@Array.replicate_succ
abbrev Dc:=@Nat.beq_refl
abbrev Dd:=@List.map_map
abbrev De:=@beq_eq_false_iff_ne
abbrev Df:=@List.dropWhile_cons
abbrev Dg:=@List.append_toArray
abbrev Dh:=@Nat.add_assoc
abbrev Di:=@List.mem_append
abbrev Dj:=@List.cons.injEq
abbrev Dk:=@List.getElem?_drop
abbrev Dl:=@List.push_toArray
abbrev Dm:=@List.pairwise_map
abbrev Dn:=@Bool.false_and
abbrev Dp:=@Bool.not_true
abbrev Dq:=@or_false
abbrev Dr:=@Nat.one_mul
abbrev Ds:=@List.pairwise_append
abbrev Dt:=@List.getElem?_modify
abbrev Du:=@List.nodup_cons
abbrev Dv:=@List.getElem?_range
abbrev Dw:=@Array.toList_modify
abbrev Dx:=@List.mem_singleton
abbrev Dy:=@List.filter_append
abbrev Dz:=@List.Sublist.nodup
abbrev DA:=@Bool.and_false
abbrev DB:=@List.getLast?_eq_getElem?
abbrev DC:=@List.getElem?_eq_none_iff
abbrev DD:=@Option.bind_some
abbrev DE:=@Option.bind_eq_some_iff
abbrev DG:=@Nat.le_of_not_lt
abbrev DH:=@List.length_take
abbrev DI:=@List.filter_eq_nil_iff
abbrev DJ:=@List.filter_map
abbrev DK:=@Nat.ble_eq_true_of_le
abbrev DM:=@List.takeWhile_prefix
abbrev DN:=@List.singleton_append
abbrev DO:=@List.mem_append_right
abbrev DP:=@and_true
abbrev DQ:=@List.take_zero
abbrev DR:=@Bool.not_false
abbrev DT:=@Function.comp_apply
abbrev DU:=@ne_eq
abbrev DV:=@Prod.mk.injEq
abbrev DW:=@Nat.lt_irrefl
abbrev DX:=@List.map_take
abbrev DY:=@Bool.false_or
abbrev DZ:=@Option.isSome_none
abbrev D2:=@Nat.add_sub_cancel
abbrev D3:=@List.ne_nil_of_mem
abbrev D4:=@List.findIdx?_eq_some_iff_getElem
abbrev D5:=@not_true_eq_false
abbrev D6:=@List.map_nil
abbrev D7:=@List.getElem_take
abbrev D8:=@List.getElem?_set
abbrev D9:=@Bool.true_or
abbrev Ea:=@List.takeWhile_append_dropWhile
abbrev Eb:=@List.eraseIdx_eq_take_drop_succ
abbrev Ec:=@beq_self_eq_true
abbrev Ed:=@Bool.not_eq_true
abbrev Ee:=@Nat.le_succ
abbrev Ef:=@List.take_append_of_le_length
abbrev Eg:=@Int.le_refl
abbrev Eh:=@Option.some.inj
abbrev Ei:=@List.countP_eq_length_filter
abbrev Ej:=@Array.getElem?_setIfInBounds
abbrev Ek:=@Nat.le_of_mul_le_mul_right
abbrev El:=@List.take_succ
abbrev Em:=@List.drop_drop
abbrev En:=@List.Perm.refl
abbrev Eo:=@Array.toList_setIfInBounds
abbrev Ep:=@Option.isSome_iff_ne_none
abbrev Er:=@List.mem_of_find?_eq_some
abbrev Es:=@List.exists_mem_of_ne_nil
abbrev Et:=@List.map_drop
abbrev Eu:=@Bool.or_false
abbrev Ew:=@Bool.and_true
abbrev Ex:=@Array.getElem?_replicate
abbrev Ey:=@Classical.axiomOfChoice
abbrev Ez:=@List.reverse_singleton
abbrev EA:=@List.drop_eq_nil_of_le
abbrev EB:=@Array.getElem?_eq_none
abbrev EC:=@List.concat_eq_append
abbrev ED:=@List.Perm.append_left
abbrev EE:=@List.mem_of_mem_take
abbrev EG:=@List.mem_append_left
abbrev EH:=@List.map_id
abbrev EI:=@List.length_dropLast
abbrev EJ:=@Array.getElem_toList
abbrev EK:=@Nat.pred_eq_sub_one
abbrev EL:=@Array.toList_filter
namespace Go.Am
inductive R (α:Type) where
 |ok (a:α)
 |no (why:String)
namespace R
def bind {α β:Type}:R α->(α->R β)->R β
 | .ok a,f=>f a
 | .no w,_=> .no w
instance:Monad R where
 pure:=R.ok
 bind:=R.bind
def of {α:Type} (why:String):Option α->R α
 |some a=> .ok a
 |none=> .no why
def check (why:String):Bool->R Unit
 |true=> .ok ()
 |false=> .no why
end R
inductive T (α:Type) where
 |e
 |n (v:Option α) (l r:T α)
namespace T
def get {α:Type}:T α->Nat->Option α
 | .e,_=>none
 | .n v l r,k=>bif Nat.beq k 0 then v else bif Nat.beq (Nat.mod k 2) 1 then l.get (Nat.div k 2)else r.get (Nat.pred (Nat.div k 2))
def cz {α:Type}:Nat->T α->Nat->Option α->T α
 |0,t,_,_=>t
 |f+1, .e,k,x=>
  bif Nat.beq k 0 then .n x .e .e else bif Nat.beq (Nat.mod k 2) 1 then .n none (cz f .e (Nat.div k 2) x) .e else .n none .e (cz f .e (Nat.pred (Nat.div k 2)) x)
 |f+1, .n v l r,k,x=>
  bif Nat.beq k 0 then .n x l r else bif Nat.beq (Nat.mod k 2) 1 then .n v (cz f l (Nat.div k 2) x) r else .n v l (cz f r (Nat.pred (Nat.div k 2)) x)
def set {α:Type} (t:T α) (k:Nat) (x:Option α):T α:=cz (k+1) t k x
def gx {α:Type}:List α->Nat->T α->T α
 |[],_,t=>t
 |x::l,k,t=>gx l (k+1) (t.set k (some x))
def ofList {α:Type} (l:List α):T α:=gx l 0 .e
end T
inductive gB where
 |lit (n:Nat)
 |tail (k:Nat)
deriving DecidableEq
inductive AV where
 |bool (b:Bool)
 |int (k:IntKind) (n:Int)
 |str (s:List UInt8)
 |bj
 |ptr (b off:Nat)
 |nils
 |sl (b off len:Nat) (cap:gB)
 |emp (b off l n k:Nat)
 |bw
 |map (b:Nat)
 |bB
 |fn (f:Fn) (first captured:List AV)
 |ml (l:Nat)
 |gN
 |iface (t:TypeId) (v:AV)
 |agg (cs:List AV)
 |bA (vs:List AV)
 |raw (v:Value)
inductive BK where
 |rw|mark|any|ro|cold
deriving DecidableEq
def BK.grown:BK->BK
 | .rw=> .rw
 |_=> .any
inductive AT where
 |fn (f:Fn) (captured:List AV)
 |ml (l:Nat)
 |collected (r:Nat)
structure AD where
 target:AT
 args:List AV
inductive AO where
 |cells (cs:List AV) (elem:TypeId) (sz:Nat) (ext:Bool) (bk:BK)
 |mp (es:List (AV×AV×Nat)) (clock:Nat)
 |tY (m:Option Nat) (since:Nat) (seen:List Nat) (stepped:Nat)
 |vN (s:List UInt8) (pos:Nat)
 |loop (st:LoopState) (pending:Option Code) (fn:FuncId) (tmps:T AV) (nt:Nat) (params:Array Tmp) (assign body:Code) (defers:Nat)
 |qo (calls:Option (List AD))
structure AH where
 t:T AO
 next:Nat
namespace AH
def get (h:AH) (b:Nat):Option AO:=h.t.get b
def set (h:AH) (b:Nat) (o:AO):AH:={h with t:=h.t.set b (some o)}
def new (h:AH) (o:AO):AH:={t:=h.t.set h.next (some o),next:=h.next+1}
def kill (h:AH) (b:Nat):AH:={h with t:=h.t.set b none}
end AH
inductive bF where
 |code (c:Code)
 |inBlock (id:Nat)
 |inLoop (body:Code)
 |inScope (body:Code)
 |inRegion (ops:Array Oper) (l:List Nat)
 |eW (l:Nat)
 |endRange (l:Nat)
 |beginRound
structure wh where
 v:AV
 recovered:Bool
inductive pF where
 |run
 |returning
 |panicking (chain:List wh)
structure ag where
 fn:FuncId
 nt:Nat
 tmps:T AV
 todo:List bF
 defers:List AD
 mode:pF
 kind:CallKind
 round:Option Nat
structure AM where
 fr:ag
 cs:List ag
 h:AH
structure bm where
 und:T TypeDesc
 siz:T Nat
 byt:T Nat
 lV:T AV
 agg:T Bool
 cmp:T Bool
 held:T Bool
 lJ:T Bool
 fns:T Func
 ext:T Nat
 merge:FuncId->Bool
def pT:Value->AV
 | .bool b=> .bool b
 | .int k n=> .int k n
 | .string s=> .str s.data.toList
 | .pointer none=> .bj
 | .slice none 0 0=> .nils
 | .map none=> .bw
 | .nilFunc=> .bB
 | .nilIface=> .gN
 |v=> .raw v
def ofConst:Value->AV
 | .agg cs=> .agg (cs.toList.map pT)
 | .tuple vs=> .bA (vs.toList.map pT)
 |v=>pT v
def ev (ts:T AV):Operand->R AV
 | .tmp t=> .ok ((ts.get t).getD (.bA []))
 | .const v=> .ok (ofConst v)
 | .func f=> .ok (.fn (.func f) [] [])
 | .global _=> .no "global"
def kt (ts:T AV):List Operand->R (List AV)
 |[]=> .ok []
 |x::l=>do
  let v<-ev ts x
  let vs<-kt ts l
  .ok (v::vs)
def AV.cells:AV->R (List AV)
 | .agg cs=> .ok cs
 | .raw (.agg _)=> .no "cells of a raw value"
 | .raw (.tuple _)=> .no "cells of a raw value"
 | .raw v=> .ok [.raw v]
 |v=> .ok [v]
mutual
def AV.beq:AV->AV->Bool
 | .bool a, .bool b=>a==b
 | .int k a, .int j b=>k==j&&a==b
 | .str a, .str b=>a==b
 | .bj, .bj=>true
 | .ptr a i, .ptr b j=>Nat.beq a b&&Nat.beq i j
 | .nils, .nils=>true
 | .sl a i n c, .sl b j m d=>Nat.beq a b&&Nat.beq i j&&Nat.beq n m&&c==d
 | .emp a i n c e, .emp b j m d f=>Nat.beq a b&&Nat.beq i j&&Nat.beq n m&&Nat.beq c d&&Nat.beq e f
 | .bw, .bw=>true
 | .map a, .map b=>Nat.beq a b
 | .bB, .bB=>true
 | .fn f a b, .fn g c d=>f==g&&ia a c&&ia b d
 | .ml a, .ml b=>Nat.beq a b
 | .gN, .gN=>true
 | .iface t v, .iface u w=>Nat.beq t u&&AV.beq v w
 | .agg a, .agg b=>ia a b
 | .bA a, .bA b=>ia a b
 | .raw (.slice a n c), .raw (.slice b m d)=>decide (a=b)&&Nat.beq n m&&Nat.beq c d
 | .raw (.pointer (some a)), .raw (.pointer (some b))=>decide (a=b)
 |_,_=>false
def ia:List AV->List AV->Bool
 |[],[]=>true
 |a::l,b::m=>AV.beq a b&&ia l m
 |_,_=>false
end
section
variable (tab:bm)
def und (t:TypeId):R TypeDesc:=R.of "und" (tab.und.get t)
def siz (t:TypeId):R Nat:=R.of "siz" (tab.siz.get t)
def zero (t:TypeId):R AV:=R.of "zero" (tab.lV.get t)
def isAgg (t:TypeId):R Bool:=R.of "isAgg" (tab.agg.get t)
def part (t:TypeId) (cs:List AV) (off:Nat):R AV:=do
 if<-isAgg tab t then
  let n<-siz tab t
  .ok (.agg ((cs.drop off).take n))
 else R.of "part" cs[off]?
def lr (h:AH) (b:Nat):R (List AV×TypeId×Nat×Bool×BK):=
 match h.get b with
 |some (.cells cs e sz ext bk)=> .ok (cs,e,sz,ext,bk)
 |_=> .no "cells"
def readN (h:AH) (b off n:Nat):R (List AV):=do
 let (cs,_)<-lr h b
 R.check "readN" (Nat.ble (off+n) cs.length)
 .ok ((cs.drop off).take n)
def nN (cs:List AV) (off:Nat) (vs:List AV):List AV:=cs.take off++(vs++cs.drop (off+vs.length))
def mc:AV->Bool
 | .raw (.slice _ _ _)=>true
 | .raw (.int _ _)=>true
 | .raw (.string _)=>true
 | .raw (.bool _)=>true
 | .raw (.pointer (some _))=>true
 | .agg _| .bA _| .raw _=>false
 |_=>true
def writeN (h:AH) (b off:Nat) (vs:List AV):R AH:=
 match vs with
 |[]=> .ok h
 |_=>do
  let (cs,e,sz,ext,bk)<-lr h b
  R.check "writeN: ro" (bk != .ro&&bk != .cold)
  R.check "writeN: range" (Nat.ble (off+vs.length) cs.length)
  R.check "writeN: cell" (vs.all mc)
  .ok (h.set b (.cells (nN cs off vs) e sz ext bk))
def loadVar (h:AH) (t:TypeId) (b off:Nat):R AV:=do
 if<-isAgg tab t then
  let n<-siz tab t
  let cs<-readN h b off n
  .ok (.agg cs)
 else
  let (cs,_)<-lr h b
  R.of "load" cs[off]?
def storeVar (h:AH) (t:TypeId) (b off:Nat) (v:AV):R AH:=do
 let n<-siz tab t
 let l<-v.cells
 R.check "store: size" (Nat.beq l.length n)
 writeN h b off l
def newRow (h:AH) (elem:TypeId) (cs:List AV) (ext:Bool:=false) (bk:BK:= .rw):R (AH×Nat):=do
 let n<-siz tab elem
 .ok (h.new (.cells cs elem n ext bk),h.next)
def asInt:AV->R (IntKind×Int)
 | .int k n=> .ok (k,n)
 |_=> .no "asInt"
def asNat (v:AV):R Nat:=do
 let (_,n)<-asInt v
 match n with
 | .ofNat k=> .ok k
 | .negSucc _=> .no "asNat"
def goInt (n:Nat):AV:= .int .i64 (.ofNat n)
def intOp (op:BinOp) (k:IntKind) (x y:Int):R AV:=
 match op with
 | .add=> .ok (.int k (k.wrap (x+y)))
 | .sub=> .ok (.int k (k.wrap (x - y)))
 | .mul=> .ok (.int k (k.wrap (x*y)))
 | .quo=>if y=0 then .no "div" else .ok (.int k (k.wrap (x.tdiv y)))
 | .rem=>if y=0 then .no "div" else .ok (.int k (x.tmod y))
 | .and=> .ok (.int k (k.wrap (BitVec.ofInt k.bits x&&&BitVec.ofInt k.bits y).toNat))
 | .or=> .ok (.int k (k.wrap (BitVec.ofInt k.bits x|||BitVec.ofInt k.bits y).toNat))
 | .xor=> .ok (.int k (k.wrap (BitVec.ofInt k.bits x ^^^ BitVec.ofInt k.bits y).toNat))
 | .andNot=> .ok (.int k (k.wrap (BitVec.ofInt k.bits x&&& ~~~ BitVec.ofInt k.bits y).toNat))
 | .eql=> .ok (.bool (x==y))
 | .neq=> .ok (.bool (x !=y))
 | .lss=> .ok (.bool (decide (x<y)))
 | .leq=> .ok (.bool (decide (x<=y)))
 | .gtr=> .ok (.bool (decide (x>y)))
 | .geq=> .ok (.bool (decide (x>=y)))
 |_=> .no "intOp"
def shiftOp (op:BinOp) (k:IntKind) (x y:Int):R AV:=
 if y<0 then .no "shift" else
 match op with
 | .shl=> .ok (.int k (k.wrap (x*2 ^ (min y.toNat k.bits))))
 | .shr=> .ok (.int k (x.fdiv (2 ^ (min y.toNat k.bits))))
 |_=> .no "shiftOp"
def strOp (op:BinOp) (x y:List UInt8):R AV:=
 match op with
 | .add=>if x.length+y.length<=1048576 then .ok (.str (x++y))else .no "string too long"
 | .eql=> .ok (.bool (x==y))
 | .neq=> .ok (.bool (!(x==y)))
 | .lss=> .ok (.bool (Op.bytesLess x y))
 | .leq=> .ok (.bool (Op.bytesLess x y||x==y))
 | .gtr=> .ok (.bool (!(Op.bytesLess x y||x==y)))
 | .geq=> .ok (.bool (!Op.bytesLess x y))
 |_=> .no "strOp"
def eqFields (eq:TypeId->AV->AV->R Bool) (xs ys:List AV):List Field->R Bool
 |[]=> .ok true
 | f::fs=>
  if f.name≠ "_" then do
   let a<-part tab f.type xs f.offset
   let b<-part tab f.type ys f.offset
   if<-eq f.type a b then eqFields eq xs ys fs else .ok false
  else eqFields eq xs ys fs
def eqT:Nat->TypeId->AV->AV->R Bool
 |0,_,_,_=> .no "eqT"
 | d+1,t,x,y=>do
  match<-und tab t,x,y with
  | .bool, .bool a, .bool b=> .ok (a==b)
  | .int _, .int k a, .int j b=>if k=j then .ok (a==b)else .no "eqT kinds"
  | .string, .str a, .str b=> .ok (a==b)
  | .pointer _, .bj, .bj=> .ok true
  | .pointer _, .bj, .ptr _ _=> .ok false
  | .pointer _, .ptr _ _, .bj=> .ok false
  | .pointer _, .raw (.pointer (some _)), .bj=> .ok false
  | .pointer _, .bj, .raw (.pointer (some _))=> .ok false
  | .slice _, .nils, .nils=> .ok true
  | .slice _, .nils, .sl .. => .ok false
  | .slice _, .sl .., .nils=> .ok false
  | .slice _, .nils, .emp .. => .ok false
  | .slice _, .emp .., .nils=> .ok false
  | .map _ _, .bw, .bw=> .ok true
  | .map _ _, .bw, .map _=> .ok false
  | .map _ _, .map _, .bw=> .ok false
  | .func _ _ _, .bB, .bB=> .ok true
  | .func _ _ _, .bB, .fn .. => .ok false
  | .func _ _ _, .fn .., .bB=> .ok false
  | .interface _, .gN, .iface _ _=> .ok false
  | .interface _, .iface _ _, .gN=> .ok false
  | .struct fs, .agg xs, .agg ys=>do
   match tab.held.get t with
   |some false=>eqFields tab (eqT d) xs ys fs.toList
   |_=> .no "eqT held"
  |_,_,_=> .no "eqT"
def eqOp (h:AH) (t:TypeId) (x y:AV):R Bool:=do
 match x,y with
 | .ptr a i, .ptr b j=>
  match<-und tab t with
  | .pointer e=>do
   let n<-siz tab e
   R.check "eqOp: size 0" (!(Nat.beq n 0))
   if Nat.beq a b then .ok (Nat.beq i j)else
    match h.get a,h.get b with
    |some (.cells _ _ _ _ .rw),some (.cells _ _ _ _ .rw)=> .ok false
    |_,_=> .no "eqOp: blocks"
  |_=> .no "eqOp"
 | .agg _, .agg _=>
  match tab.lJ.get t with
  |some false=>eqT tab 8 t x y
  |_=> .no "eqOp: guard"
 | .gN, .gN=> .no "eqOp: nil, nil"
 |_,_=>eqT tab 8 t x y
def binOp (h:AH) (op:BinOp) (t:TypeId) (x y:AV):R AV:=
 match op,x,y with
 | .shl, .int k a, .int _ b=>shiftOp .shl k a b
 | .shr, .int k a, .int _ b=>shiftOp .shr k a b
 |_, .int k a, .int j b=>if k=j then intOp op k a b else .no "binOp kinds"
 |_, .str a, .str b=>strOp op a b
 | .eql,x,y=>do .ok (.bool (<-eqOp tab h t x y))
 | .neq,x,y=>do .ok (.bool (!(<-eqOp tab h t x y)))
 |_,_,_=> .no "binOp"
def unOp (op:UnOp) (x:AV):R AV:=
 match op,x with
 | .neg, .int k n=> .ok (.int k (k.wrap (0 - n)))
 | .xor, .int k n=> .ok (.int k (k.wrap (BitVec.ofInt k.bits (if k.signed then -1 else k.max) ^^^ BitVec.ofInt k.bits n).toNat))
 | .not, .bool b=> .ok (.bool (!b))
 |_,_=> .no "unOp"
def bytesOf:List AV->R (List UInt8)
 |[]=> .ok []
 | .int .u8 (.ofNat n)::l=>do
  let r<-bytesOf l
  .ok (UInt8.ofNat n::r)
 |_=> .no "bytesOf"
def ofBytes (s:List UInt8):List AV:=s.map fun b=> .int .u8 (.ofNat b.toNat)
def convert (h:AH) (src dst:TypeId) (x:AV):R (AV×AH):=do
 match<-und tab src,<-und tab dst,x with
 |_, .int k, .int _ n=> .ok (.int k (k.wrap n),h)
 |_, .string, .str s=> .ok (.str s,h)
 | _, .slice e, .str s=>do
  match<-und tab e with
  | .int .u8=>do
   let n<-siz tab e
   R.check "convert: size" (Nat.beq n 1)
   let (h',b)<-newRow tab h e (ofBytes s) true .mark
   .ok (.sl b 0 s.length (.tail 0),h')
  |_=> .no "convert to a slice"
 | .slice e, .string,x=>do
  match<-und tab e,x with
  | .int .u8, .nils=> .ok (.str [],h)
  | .int .u8, .sl b off n _=>do
   let s<-bytesOf (<-readN h b off n)
   .ok (.str s,h)
  | .int .u8, .emp .. => .ok (.str [],h)
  | .int .u8, .raw (.slice _ 0 _)=> .ok (.str [],h)
  |_,_=> .no "convert of a slice"
 | .slice _, .slice e, .sl b off n c=>do
  match Nat.beq src dst,<-und tab e with
  |true, .int .u8=>do
   let (cs,e',sz,ext,bk)<-lr h b
   R.check "convert: ro" (bk != .ro&&bk != .cold)
   .ok (.sl b off n c,h.set b (.cells cs e' sz ext .mark))
  |_,_=> .no "convert slices"
 |_,_,_=> .no "convert"
def convertTo (h:AH) (t:TypeId) (x:AV):R (AV×AH):=(fun(_:bm)=> .no "convertTo") tab
def convertFrom (h:AH) (u:TypeId) (x:AV):R (AV×AH):=(fun(_:bm)=> .no "convertFrom") tab
def oK (h:AH) (src dst:TypeId) (x:AV):R (AV×AH):=do
 match<-und tab dst with
 | .unsafePointer=>do
  match<-und tab src with
  | .pointer t=>convertTo tab h t x
  |_=> .no "convert to unsafe.Pointer"
 | .pointer u=>do
  match<-und tab src with
  | .unsafePointer=>convertFrom tab h u x
  |_=> .no "convert to a pointer"
 |_=>convert tab h src dst x
def fill (cs:List AV):List (Nat×Nat×AV)->R (List AV)
 |[]=> .ok cs
 |(off,n,v)::rest=>do
  let l<-v.cells
  R.check "fill" (Nat.beq l.length n&&Nat.ble (off+n) cs.length)
  fill (nN cs off l) rest
def sA (fs:Array Field):List (Nat×AV)->R (List (Nat×Nat×AV))
 |[]=> .ok []
 |(i,v)::rest=>do
  let f<-R.of "field" fs[i]?
  let n<-siz tab f.type
  let r<-sA fs rest
  .ok ((f.offset,n,v)::r)
def build (t:TypeId) (parts:List (Nat×AV)):R AV:=do
 let z<-zero tab t
 let zc<-z.cells
 match<-und tab t with
 | .struct fs=>do
  R.check "build: sizes" (fs.toList.all fun f=>(tab.siz.get f.type).isSome)
  let ps<-sA tab fs parts
  let cs<-fill zc ps
  .ok (.agg cs)
 | .array _ e=>do
  let n<-siz tab e
  let cs<-fill zc (parts.map fun(i,v)=>(i*n,n,v))
  .ok (.agg cs)
 |_=> .no "build"
def rep (n:Nat) (l:List AV):List AV:=
 match n with
 |0=>[]
 |n+1=>l++rep n l
def buildSlice (h:AH) (t:TypeId) (len:Nat) (parts:List (Nat×AV)):R (AV×AH):=do
 match<-und tab t with
 | .slice e=>do
  let n<-siz tab e
  R.check "buildSlice" (Nat.ble (len*n) 16777216)
  let z<-zero tab e
  let zc<-z.cells
  R.check "buildSlice: zero" (Nat.beq zc.length n)
  let cs<-fill (rep len zc) (parts.map fun(i,v)=>(i*n,n,v))
  let (h',b)<-newRow tab h e cs
  .ok (.sl b 0 len (.lit len),h')
 |_=> .no "buildSlice"
def l9 (ts:T AV):List (Nat×Operand)->R (List (Nat×AV))
 |[]=> .ok []
 |(i,x)::l=>do
  let v<-ev ts x
  let r<-l9 ts l
  .ok ((i,v)::r)
def makeSlice (h:AH) (t:TypeId) (len cap:AV):R (AV×AH):=(fun(_:bm)=> .no "makeSlice") tab
def capLow (h:AH) (b:Nat):gB->R Nat
 | .lit n=> .ok n
 | .tail k=>do
  let (cs,_,sz,ext,_)<-lr h b
  R.check "capLow" (ext&& !(Nat.beq sz 0))
  .ok (Nat.div cs.length sz - k)
def fH (ts:T AV) (d:R Nat):Option Operand->R Nat
 |none=>d
 |some x=>do asNat (<-ev ts x)
def jU (ts:T AV) (h:AH) (t:TypeId) (x:AV) (lo hi mx:Option Operand):R (AV×AH):=do
 match<-und tab t,x with
 | .string, .str s=>do
  R.check "slice: max" mx.isNone
  let l<-fH ts (.ok 0) lo
  let u<-fH ts (.ok s.length) hi
  R.check "slice: bounds" (Nat.ble l u&&Nat.ble u s.length)
  .ok (.str ((s.drop l).take (u - l)),h)
 | .slice e, .nils=>do
  let _<-siz tab e
  let l<-fH ts (.ok 0) lo
  let u<-fH ts (.ok 0) hi
  let m<-fH ts (.ok 0) mx
  R.check "slice: nil" (Nat.beq l 0&&Nat.beq u 0&&Nat.beq m 0&&(mx.isNone||hi.isSome))
  .ok (.nils,h)
 | .slice e, .sl b off len cap=>do
  let c<-capLow h b cap
  let n<-siz tab e
  let l<-fH ts (.ok 0) lo
  let u<-fH ts (.ok len) hi
  match mx with
  |some _=>do
   let m<-fH ts (.ok 0) mx
   R.check "slice: bounds" (Nat.ble l u&&Nat.ble u m&&Nat.ble m c&&hi.isSome)
   .ok (.sl b (bif Nat.beq m l then off else off+l*n) (u - l) (.lit (m - l)),h)
  | none=>
   match cap with
   | .lit m=>do
    R.check "slice: bounds" (Nat.ble l u&&Nat.ble u m)
    .ok (.sl b (bif Nat.beq m l then off else off+l*n) (u - l) (.lit (m - l)),h)
   | .tail k=>do
    R.check "slice: bounds" (Nat.ble l u&&Nat.ble u c)
    bif Nat.beq l 0 then .ok (.sl b off u (.tail k),h)
    else bif Nat.blt l c then .ok (.sl b (off+l*n) (u - l) (.tail (k+l)),h)
    else .ok (.emp b off l n k,h)
 | .slice e, .raw (.slice a 0 c)=>do
  let _<-siz tab e
  let l<-fH ts (.ok 0) lo
  let u<-fH ts (.ok 0) hi
  R.check "slice: raw" (Nat.beq l 0&&Nat.beq u 0&&mx.isNone)
  .ok (.raw (.slice a 0 c),h)
 | .slice e, .emp b off l0 n0 k=>do
  let _<-siz tab e
  let l<-fH ts (.ok 0) lo
  let u<-fH ts (.ok 0) hi
  R.check "slice: emp" (Nat.beq l 0&&Nat.beq u 0&&mx.isNone)
  .ok (.emp b off l0 n0 k,h)
 |_,_=> .no "slice"
def mN (e:TypeId) (n:Nat):R Unit:=do
 let z<-zero tab e
 let zc<-z.cells
 R.check "append: zero" (Nat.beq zc.length n)
def bI (h:AH) (e:TypeId) (n by_:Nat) (x:AV) (m:Nat) (news:List AV):R (AV×AH):=do
 match x with
 | .nils=>
  bif Nat.beq m 0 then .ok (.nils,h)
  else do
   R.check "append: size" (Nat.ble (m*by_) 16777216&&Nat.ble m 16777216)
   mN tab e n
   let (h',b)<-newRow tab h e news true
   .ok (.sl b 0 m (.tail 0),h')
 | .sl b off len cap=>do
  let c<-capLow h b cap
  let (cs,e',sz,ext,bk)<-lr h b
  R.check "append: type" (Nat.beq e e'&&Nat.beq sz n)
  let need:=len+m
  R.check "append: size" (Nat.ble (need*by_) 16777216&&Nat.ble need 16777216)
  bif Nat.ble need c then do
   let h'<-writeN h b (off+len*n) news
   .ok (.sl b off need cap,h')
  else
   R.check "append: old" (Nat.ble (off+len*n) cs.length)>>=fun _=>
   mN tab e n>>=fun _=>
   match cap with
   | .lit _=>do
    let (h',b')<-newRow tab h e ((cs.drop off).take (len*n)++news) true
    .ok (.sl b' 0 need (.tail 0),h')
   | .tail k=>do
    R.check "append: tail" (Nat.beq k 0&&Nat.beq off 0&&ext&&bk != .ro&&bk != .cold&&news.all mc)
    let (h',b')<-newRow tab (h.kill b) e (cs.take (len*n)++news) true bk.grown
    .ok (.sl b' 0 need (.tail 0),h')
 |_=> .no "append"
def source (h:AH) (n:Nat):AV->R (Nat×List AV)
 | .nils=> .ok (0,[])
 | .emp .. => .ok (0,[])
 | .sl b off len _=>do
  let cs<-readN h b off (len*n)
  .ok (len,cs)
 | .str s=>do
  R.check "source: size" (Nat.beq n 1)
  .ok (s.length,ofBytes s)
 | .raw (.slice _ 0 _)=> .ok (0,[])
 |_=> .no "source"
def findKey (t:TypeId) (k:AV):List (AV×AV×Nat)->Nat->R (Option (Nat×AV×AV×Nat))
 |[],_=> .ok none
 |(a,v,n)::es,i=>do
  if<-eqT tab 8 t k a then .ok (some (i,a,v,n))else findKey t k es (i+1)
def vE (h:AH) (b:Nat):R (List (AV×AV×Nat)×Nat):=
 match h.get b with
 |some (.mp es c)=> .ok (es,c)
 |_=> .no "map"
def lookup (h:AH) (t:TypeId) (m k:AV) (ok:Bool):R AV:=(fun(_:bm)=> .no "lookup") tab
def mapUpdate (h:AH) (t:TypeId) (m k x:AV):R AH:=(fun(_:bm)=> .no "mapUpdate") tab
def mapEntry (h:AH) (t:TypeId) (m k:AV):R (AV×AH):=(fun(_:bm)=> .no "mapEntry") tab
def entryStore (h:AH) (m s x:AV):R AH:= .no "entryStore"
def delete (h:AH) (t:TypeId) (m k:AV):R AH:=(fun(_:bm)=> .no "delete") tab
def rangeOp (h:AH) (t:TypeId) (x:AV):R (AV×AH):=(fun(_:bm)=> .no "rangeOp") tab
def nextOp (h:AH) (it:AV) (isString:Bool):R (List (AV×AH)):= .no "nextOp"
def entryOp (h:AH) (it:AV):R AV:= .no "entryOp"
def u6 (t:TypeId) (f:Nat):R Field:=do
 match<-und tab t with
 | .struct fs=>R.of "field" fs[f]?
 |_=> .no "struct"
def te (k:IntKind):Int->List AV->R AV
 |x,[]=> .ok (.int k x)
 |x, .int _ y::l=>te k (if y<x then y else x) l
 |_,_=> .no "min"
def tb (k:IntKind):Int->List AV->R AV
 |x,[]=> .ok (.int k x)
 |x, .int _ y::l=>tb k (if y>x then y else x) l
 |_,_=> .no "max"
def lenOf (h:AH):TypeDesc->AV->R Nat
 | .string, .str s=> .ok s.length
 | .slice _, .nils=> .ok 0
 | .slice _, .emp .. => .ok 0
 | .slice _, .sl _ _ n _=> .ok n
 | .slice _, .raw (.slice _ n _)=> .ok n
 | .map _ _, .bw=> .ok 0
 | .map _ _, .map b=>do
  let (es,_)<-vE h b
  .ok es.length
 | .array n _,_=> .ok n
 |_,_=> .no "len"
def Jy (h:AH) (e:TypeId) (x y:AV):R (AV×AH):=do
 let n<-siz tab e
 let by_<-R.of "byt" (tab.byt.get e)
 R.check "append: cells" (!(Nat.beq n 0))
 let m<-asNat y
 R.check "append of make: size" (Nat.ble m 1048576&&Nat.ble (m*by_) 16777216)
 let z<-zero tab e
 let zc<-z.cells
 R.check "append of make: zero" (Nat.beq zc.length n)
 bI tab h e n by_ x m (rep m zc)
def sliceData (h:AH) (x:AV):R (AV×AH):= .no "sliceData"
def unsafeString (h:AH) (t:TypeId) (x y:AV):R (AV×AH):=(fun(_:bm)=> .no "unsafeString") tab
def builtin (b:Builtin) (argTypes:Array TypeId) (args:List AV) (h:AH):R (AV×AH):=do
 match b,args with
 | .len,[x]=>do
  let t<-R.of "len" argTypes[0]?
  let u<-und tab t
  match u with
  | .pointer e=>do
   match<-und tab e with
   | .array n _=> .ok (goInt n,h)
   |_=> .no "len"
  |u=>do
   let n<-lenOf h u x
   .ok (goInt n,h)
 | .cap,[x]=>do
  let t<-R.of "cap" argTypes[0]?
  match<-und tab t,x with
  | .slice _, .nils=> .ok (goInt 0,h)
  | .slice _, .sl _ _ _ (.lit n)=> .ok (goInt n,h)
  |_,_=> .no "cap"
 | .append,[x,y]=>do
  let t<-R.of "append" argTypes[0]?
  let u<-R.of "append" argTypes[1]?
  match<-und tab u with
  | .int _=>do
   match<-und tab t with
   | .slice e=>Jy tab h e x y
   |_=> .no "append"
  | _=>do
   match<-und tab t with
   | .slice e=>do
    let n<-siz tab e
    let by_<-R.of "byt" (tab.byt.get e)
    R.check "append: cells" (!(Nat.beq n 0))
    let (m,news)<-source h n y
    bI tab h e n by_ x m news
   |_=> .no "append"
 | .copy,[x,y]=>do
  let t<-R.of "copy" argTypes[0]?
  match<-und tab t with
  | .slice e=>do
   let n<-siz tab e
   let (m,cs)<-source h n y
   match x with
   | .nils=> .ok (goInt 0,h)
   | .emp .. => .ok (goInt 0,h)
   | .sl b off len _=>do
    let k:=Nat.min m len
    let h'<-writeN h b off (cs.take (k*n))
    .ok (goInt k,h')
   |_=> .no "copy"
  |_=> .no "copy"
 | .clear,[x]=>do
  let t<-R.of "clear" argTypes[0]?
  match<-und tab t,x with
  |_, .bw=> .ok (.bA [],h)
  |_, .nils=> .ok (.bA [],h)
  |_, .emp .. => .ok (.bA [],h)
  |_, .map b=>do
   let (_,c)<-vE h b
   .ok (.bA [],h.set b (.mp [] c))
  | .slice e, .sl b off len _=>do
   let z<-zero tab e
   let zc<-z.cells
   let h'<-writeN h b off (rep len zc)
   .ok (.bA [],h')
  |_,_=> .no "clear"
 | .delete,[m,k]=>do
  let t<-R.of "delete" argTypes[0]?
  let h'<-delete tab h t m k
  .ok (.bA [],h')
 | .unsafeSliceData,[x]=>sliceData h x
 | .unsafeString,[x,y]=>do
  let t<-R.of "unsafe.String" argTypes[0]?
  unsafeString tab h t x y
 | .min, .int k x::l=>do
  let v<-te k x l
  .ok (v,h)
 | .max, .int k x::l=>do
  let v<-tb k x l
  .ok (v,h)
 |_,_=> .no "builtin"
def fb (ts:T AV) (h:AH) (o:Oper):R (AV×AH):=do
 match o.op with
 | .move x=>do .ok (<-ev ts x,h)
 | .assign x=>do .ok (<-ev ts x,h)
 | .pick c a b=>do
  match<-ev ts c with
  | .bool true=>do .ok (<-ev ts a,h)
  | .bool false=>do .ok (<-ev ts b,h)
  |_=> .no "pick"
 | .alloc e=>do
  let z<-zero tab e
  let zc<-z.cells
  let (h',b)<-newRow tab h e zc
  .ok (.ptr b 0,h')
 | .box e x=>do
  let v<-ev ts x
  let vc<-v.cells
  let (h',b)<-newRow tab h e vc
  .ok (.ptr b 0,h')
 | .build t ps=>do
  let l<-l9 ts ps.toList
  .ok (<-build tab t l,h)
 | .buildSlice t n ps=>do
  let l<-l9 ts ps.toList
  buildSlice tab h t n l
 | .load t a=>do
  match<-ev ts a with
  | .ptr b off=>do .ok (<-loadVar tab h t b off,h)
  |_=> .no "load"
 | .store t a x=>do
  match<-ev ts a with
  | .ptr b off=>do
   let h'<-storeVar tab h t b off (<-ev ts x)
   .ok (.bA [],h')
  |_=> .no "store"
 | .nilCheck x=>do
  match<-ev ts x with
  | .ptr b off=> .ok (.ptr b off,h)
  | .fn (.func f) a b=> .ok (.fn (.func f) a b,h)
  |_=> .no "nilCheck"
 | .binOp op t x y _=>do .ok (<-binOp tab h op t (<-ev ts x) (<-ev ts y),h)
 | .unOp op _ x=>do .ok (<-unOp op (<-ev ts x),h)
 | .convert s d x=>do oK tab h s d (<-ev ts x)
 | .makeInterface t x=>do
  match<-und tab t with
  | .interface _=> .no "makeInterface"
  |_=>do .ok (.iface t (<-ev ts x),h)
 | .makeFunc fn first captured=>do
  match fn with
  | .func _=>do .ok (.fn fn (<-kt ts first.toList) (<-kt ts captured.toList),h)
  |_=> .no "makeFunc"
 | .makeMap _ none=> .ok (.map h.next,h.new (.mp [] 0))
 | .makeSlice t l c=>do makeSlice tab h t (<-ev ts l) (<-ev ts c)
 | .slice t x lo hi mx=>do jU tab ts h t (<-ev ts x) lo hi mx
 | .fieldAddr s x f=>do
  let fd<-u6 tab s f
  let n<-siz tab fd.type
  R.check "fieldAddr: size 0" (!(Nat.beq n 0))
  match<-ev ts x with
  | .ptr b off=> .ok (.ptr b (off+fd.offset),h)
  |_=> .no "fieldAddr"
 | .field t x f=>do
  let fd<-u6 tab t f
  match<-ev ts x with
  | .agg cs=>do .ok (<-part tab fd.type cs fd.offset,h)
  |_=> .no "field"
 | .indexAddr t x ix=>do
  let i<-asNat (<-ev ts ix)
  match<-und tab t,<-ev ts x with
  | .array len e, .ptr b off=>do
   R.check "indexAddr" (Nat.blt i len)
   let n<-siz tab e
   .ok (.ptr b (off+i*n),h)
  | .slice e, .sl b off len _=>do
   R.check "indexAddr" (Nat.blt i len)
   let n<-siz tab e
   .ok (.ptr b (off+i*n),h)
  |_,_=> .no "indexAddr"
 | .index t x ix=>do
  let i<-asNat (<-ev ts ix)
  match<-und tab t,<-ev ts x with
  | .array len e, .agg cs=>do
   R.check "index" (Nat.blt i len)
   let n<-siz tab e
   .ok (<-part tab e cs (i*n),h)
  | .string, .str s=>do
   let b<-R.of "index" s[i]?
   .ok (.int .u8 (.ofNat b.toNat),h)
  |_,_=> .no "index"
 | .lookup t m k ok=>do .ok (<-lookup tab h t (<-ev ts m) (<-ev ts k) ok,h)
 | .mapUpdate t m k x| .insert t m k x=>do
  let h'<-mapUpdate tab h t (<-ev ts m) (<-ev ts k) (<-ev ts x)
  .ok (.bA [],h')
 | .mapEntry t m k=>do mapEntry tab h t (<-ev ts m) (<-ev ts k)
 | .entryStore _ m s x=>do
  let h'<-entryStore h (<-ev ts m) (<-ev ts s) (<-ev ts x)
  .ok (.bA [],h')
 | .range t x=>do rangeOp tab h t (<-ev ts x)
 | .entry it=>do .ok (<-entryOp h (<-ev ts it),h)
 | .typeAssert x xt t ok=>do
  let _:=xt
  match<-und tab t,<-ev ts x with
  | .interface _,_=> .no "typeAssert"
  | _, .iface u v=>if u=t then .ok ((if ok then .bA [v, .bool true]else v),h)else do
    R.check "typeAssert" ok
    let z<-zero tab t
    .ok (.bA [z, .bool false],h)
  | _, .gN=>do
    R.check "typeAssert" ok
    let z<-zero tab t
    .ok (.bA [z, .bool false],h)
  |_,_=> .no "typeAssert"
 | .extract t i=>do
  match<-ev ts t with
  | .bA vs=>do .ok (<-R.of "extract" vs[i]?,h)
  |_=> .no "extract"
 | .call c=>do
  match c.callee with
  | .builtin b=>do
   let l<-kt ts c.args.toList
   builtin tab b c.argTypes l h
  |_=> .no "call"
 |_=> .no "op"
end
end Go.Am
namespace Go.Am
open Go.RowKit
section
theorem au {α β:Type} {x:R α} {f:α->R β} {b:β}:(x>>=f)= .ok b↔∃a,x= .ok a/\f a= .ok b:=by
 cases x with
 |ok a=>exact⟨fun h=>⟨a,rfl,h⟩,fun⟨_,h1,h2⟩=>by cases h1;exact h2⟩
 |no w=>exact⟨fun h=>(nomatch h),fun⟨_,h1,_⟩=>(nomatch h1)⟩
theorem de {α:Type} {s:String} {x:Option α} {a:α}:R.of s x= .ok a↔x=some a:=by
 cases x<;>simp[R.of]
theorem eD {s:String} {b:Bool} {u:Unit}:R.check s b= .ok u↔b=true:=by
 cases b<;>simp[R.check]
theorem vK {α:Type} (k:Nat):(T.e:T α).get k=none:=rfl
theorem y5 {α:Type} (v:Option α) (l r:T α) (k:Nat):
  (T.n v l r).get k=if k=0 then v else if k % 2=1 then l.get (k / 2)else r.get (k / 2 - 1):=by
 have h1:(Nat.beq k 0)=decide (k=0):=by
  by_cases h:k=0<;>simp[h]
  cases k<;>simp_all[Nat.beq]
 have h2:(Nat.beq (Nat.mod k 2) 1)=decide (k % 2=1):=by
  by_cases h:k % 2=1
  . simp[h];exact h
  . simp only[h,decide_false];exact Ao.2 fun e=>h (Af e)
 conv=>lhs;unfold T.get
 rw[h1,h2];simp only[cond_eq_ite,Aa];rfl
theorem PF {α:Type} (f:Nat):∀(t:T α) (k j:Nat) (x:Option α),k<f->(T.cz f t k x).get j=if j=k then x else t.get j:=by
 induction f with
 |zero=>omega
 | succ f ih=>
  intro t k j x h;have h1:(Nat.beq k 0)=decide (k=0):=by
   by_cases h:k=0<;>simp[h]
   cases k<;>simp_all[Nat.beq]
  have h2:(Nat.beq (Nat.mod k 2) 1)=decide (k % 2=1):=by
   by_cases h:k % 2=1
   . simp[h];exact h
   . simp only[h,decide_false];exact Ao.2 fun e=>h (Af e)
  have e1:Nat.div k 2=k / 2:=rfl
  cases t with
  |e=>
   grind [T.cz,Nat.pred_eq_sub_one,y5,vK]
  |n v l r=>
   grind [T.cz,Nat.pred_eq_sub_one,y5]
theorem T.aZ {α:Type} (t:T α) (k j:Nat) (x:Option α):(t.set k x).get j=if j=k then x else t.get j:=
 PF (k+1) t k j x (Nat.lt_succ_self k)
structure Env where
 aA:Nat->Nat
 cap:Nat->Nat
def gB.val (c:gB) (n:Nat):Nat:=
 match c with
 | .lit m=>m
 | .tail k=>n - k
mutual
def af (E:Env):AV->Value
 | .bool b=> .bool b
 | .int k n=> .int k n
 | .str s=> .string ⟨s.toArray⟩
 | .bj=> .pointer none
 | .ptr b off=> .pointer (some ⟨E.aA b,off,none⟩)
 | .nils=> .slice none 0 0
 | .sl b off len cap=> .slice (some ⟨E.aA b,off,none⟩) len (cap.val (E.cap b))
 | .emp b off l n k=> .slice (some ⟨E.aA b,if E.cap b - k=l then off else off+l*n,none⟩) 0 (E.cap b - k - l)
 | .bw=> .map none
 | .map b=> .map (some (E.aA b))
 | .bB=> .nilFunc
 | .fn f xs ys=> .func f (bp E xs).toArray (bp E ys).toArray
 | .ml l=> .func (.yield (E.aA l)) #[] #[]
 | .gN=> .nilIface
 | .iface t v=> .iface t (af E v)
 | .agg cs=> .agg (bp E cs).toArray
 | .bA vs=> .tuple (bp E vs).toArray
 | .raw v=>v
def bp (E:Env):List AV->List Value
 |[]=>[]
 |v::l=>af E v::bp E l
end
theorem pP (E:Env) (l:List AV):bp E l=l.map (af E):=by
 induction l with
 |nil=>rfl
 |cons v l ih=>grind [bp]
@[simp] theorem dv (E:Env):bp E []=[]:=rfl
@[simp] theorem bX (E:Env) (v:AV) (l:List AV):bp E (v::l)=af E v::bp E l:=rfl
@[simp] theorem ee (E:Env) (l m:List AV):bp E (l++m)=bp E l++bp E m:=by simp[pP]
@[simp] theorem ct (E:Env) (l:List AV):(bp E l).length=l.length:=by simp[pP]
theorem ux (E:Env) (l:List AV) (n:Nat):bp E (l.take n)=(bp E l).take n:=by simp[pP,DX]
theorem zN (E:Env) (l:List AV) (n:Nat):bp E (l.drop n)=(bp E l).drop n:=by simp[pP,Et]
theorem kI (E:Env) (l:List AV) (i:Nat):(bp E l)[i]? =(l[i]?).map (af E):=by simp[pP]
theorem IY (E:Env) (v:Value):af E (pT v)=v:=by
 unfold pT;split<;>simp[af]
theorem Rs (E:Env) (l:List Value):bp E (l.map pT)=l:=by
 induction l with
 |nil=>rfl
 |cons v l ih=>simp[IY,ih]
theorem IF (E:Env) (v:Value):af E (ofConst v)=v:=by
 unfold ofConst;split
 all_goals simp_all[af,Rs,IY]
theorem oN {E:Env} {v:AV} {l:List AV} (h:v.cells= .ok l):(af E v).cells=(bp E l).toArray:=by
 cases v
 case raw u=>cases u<;>simp only[AV.cells]at h<;>(try cases h)<;>simp[af,Value.cells]
 all_goals simp only[AV.cells]at h<;>(try cases h)<;>simp[af,Value.cells]
theorem Iy {E:Env} {v:AV} (h:mc v=true):(af E v).oneCell'=true:=by
 cases v
 case raw u=>cases u<;>simp_all[mc,af,Value.oneCell']
 all_goals grind [mc,af,Value.oneCell']
mutual
theorem Gs:∀(a b:AV),AV.beq a b=true->a=b
 | .bool a,b,h=>by cases b<;>simp_all[AV.beq]
 | .int k a,b,h=>by cases b<;>simp_all[AV.beq]
 | .str a,b,h=>by cases b<;>simp_all[AV.beq]
 | .bj,b,h=>by cases b<;>simp_all[AV.beq]
 | .ptr x i,b,h=>by
  cases b<;>simp only[AV.beq,Ac]at h<;>(try cases h)
  rename_i h1 h2;rw[Af h1,Af h2]
 | .nils,b,h=>by cases b<;>simp_all[AV.beq]
 | .sl x i n c,b,h=>by
  cases b<;>simp only[AV.beq,Ac]at h<;>(try cases h)
  rename_i h1 h2;obtain⟨⟨h3,h4⟩,h5⟩:=h1;rw[Af h3,Af h4,Af h5,eq_of_beq h2]
 | .emp x i n c e,b,h=>by
  cases b<;>simp only[AV.beq,Ac]at h<;>(try cases h)
  rename_i h1 h2;obtain⟨⟨⟨h3,h4⟩,h5⟩,h6⟩:=h1;rw[Af h3,Af h4,Af h5,Af h6,Af h2]
 | .bw,b,h=>by cases b<;>simp_all[AV.beq]
 | .map x,b,h=>by
  cases b<;>simp only[AV.beq]at h<;>(try cases h)
  rw[Af h]
 | .bB,b,h=>by cases b<;>simp_all[AV.beq]
 | .fn f x y,b,h=>by
  cases b<;>simp only[AV.beq,Ac]at h<;>(try cases h)
  rename_i h1 h2;rw[eq_of_beq h1.1,nD _ _ h1.2,nD _ _ h2]
 | .ml x,b,h=>by
  cases b<;>simp only[AV.beq]at h<;>(try cases h)
  rw[Af h]
 | .gN,b,h=>by cases b<;>simp_all[AV.beq]
 | .iface t v,b,h=>by
  cases b<;>simp only[AV.beq,Ac]at h<;>(try cases h)
  rename_i h1 h2;rw[Af h1,Gs _ _ h2]
 | .agg x,b,h=>by
  cases b<;>simp only[AV.beq]at h<;>(try cases h)
  rw[nD _ _ h]
 | .bA x,b,h=>by
  cases b<;>simp only[AV.beq]at h<;>(try cases h)
  rw[nD _ _ h]
 | .raw v,b,h=>by
  cases b
  case raw u=>
   unfold AV.beq at h;split at h<;>first|(cases h;done)|skip
   all_goals (rename_i e1 e2;cases e1<;>cases e2)
   . simp only[Ac,Aa]at h;obtain⟨⟨h3,h4⟩,h2⟩:=h;rw[h3,Af h4,Af h2]
   . rw[Bw h]
  all_goals (exfalso;revert h;simp[AV.beq])
theorem nD:∀(a b:List AV),ia a b=true->a=b
 |[],b,h=>by cases b<;>simp_all[ia]
 | x::l,b,h=>by
  cases b with
  |nil=>simp[ia]at h
  |cons y m=>
   simp only[ia,Ac]at h;rw[Gs _ _ h.1,nD _ _ h.2]
end
def FQ:TypeDesc->Bool
 | .struct _| .array _ _=>true
 |_=>false
structure bN (P:Program) (tab:bm):Prop where
 und:∀t d,tab.und.get t=some d->P.underlying t=some d
 siz:∀t n,tab.siz.get t=some n->∃i,P.info? t=some i/\i.size=n
 byt:∀t n,tab.byt.get t=some n->∃i,P.info? t=some i/\i.bytes=n
 lV:∀t z,tab.lV.get t=some z->∃i,P.info? t=some i/\ ∀E,i.zero=some (af E z)
 agg:∀t b,tab.agg.get t=some b->∃d,P.underlying t=some d/\FQ d=b
 held:∀t b,tab.held.get t=some b->P.stoodInHeld t=b
 lJ:∀t b,tab.lJ.get t=some b->P.eqGuardType P.depth t=b
 fns:∀f fn,tab.fns.get f=some fn->P.funcs[f]? =some fn
 wk:∀f fn,tab.fns.get f=some fn->(fn.name== "runtime.NumGoroutine")=false
section
variable {P:Program} {tab:bm} (ok:bN P tab)
include ok
theorem kH {t:TypeId} {n:Nat} (h:siz tab t= .ok n) (w:World):(sizeOf t).run P w= .ok n w:=by
 obtain⟨i,hi,rfl⟩:=ok.siz t n (de.1 h);simp[sizeOf,typeInfo,hi]
theorem uD {t:TypeId} {z:AV} (h:zero tab t= .ok z) (E:Env) (w:World):(zeroValue t).run P w= .ok (af E z) w:=by
 obtain⟨i,hi,hz⟩:=ok.lV t z (de.1 h);simp[zeroValue,typeInfo,hi,hz E]
theorem JW {t:TypeId} {b:Bool} (h:isAgg tab t= .ok b) (w:World):(Go.isAgg t).run P w= .ok b w:=by
 obtain⟨d,hd,rfl⟩:=ok.agg t b (de.1 h);simp only[Go.isAgg,underlying,Sem.run_bind,run_program,Result.andThen_ok,hd,Sem.run_pure]
 cases d<;>rfl
theorem xm {t:TypeId} {cs:List AV} {off:Nat} {v:AV} (h:part tab t cs off= .ok v) (E:Env) (w:World):
  (Go.part t (bp E cs).toArray off).run P w= .ok (af E v) w:=by
 obtain⟨b,hb,h⟩:=au.1 h;unfold Go.part;rw[Sem.run_bind,JW ok hb,Result.andThen_ok]
 cases b with
 |true=>
  simp only[BB]at h⊢;obtain⟨n,hn,h⟩:=au.1 h
  cases h;rw[Sem.run_bind,kH ok hn];simp[af,ux,zN,List.extract_eq_take_drop]
 |false=>
  simp_all[de,kI]
end
end
section
structure aF where
 dr:Prop
 old:Array Obj
variable [Inhabited aF]
def AO.ro:AO->Prop
 | .cells _ _ _ _ .ro=>True
 |_=>False
structure KS where
 p:Nat->Prop
 b:Nat
instance:CoeFun KS (fun _=>Nat->Prop):=⟨KS.p⟩
abbrev KS.old (n:Nat):KS:=⟨fun b=>b<n,n⟩
def nZ (E:Env):AT->Target
 | .fn f captured=> .fn f (bp E captured).toArray
 | .ml l=> .fn (.yield (E.aA l)) #[]
 | .collected r=> .collected (E.aA r)
def eu (E:Env) (d:AD):Deferred:={target:=nZ E d.target,args:=(bp E d.args).toArray}
def vF (E:Env) (ts:T AV) (i:Nat):Value:=af E ((ts.get i).getD (.bA []))
def iD (E:Env) (ts:T AV) (nt:Nat):Array Value:=((List.range nt).map (vF E ts)).toArray
def pZ (E:Env) (x:AV×AV×Nat):MapEntry:={key:=af E x.1,val:=af E x.2.1,born:=x.2.2}
def marks:BK->(Nat×Nat)->Nat->Prop
 | .rw,fz,_=>fz=(0,0)
 | .mark,fz,n=>fz=(n,n+1)
 | .any,fz,n=>fz=(0,0)\/fz=(n,n+1)
 | .ro,_,_=>True
 | .cold,_,_=>True
def pG (E:Env) (i:Nat):AO->Obj->Prop
 | .cells cs e sz ext bk,o=>∃arr fz,o= .cells arr e fz/\(∃rest,arr.toList=bp E cs++rest)/\
  (if ext then arr.size=E.cap i*sz else arr.size=cs.length)/\marks bk fz arr.size
 | .mp es c,o=>o= .map (es.map (pZ E)).toArray c
 | .tY m since seen st,o=>o= .mapIter (m.map E.aA) since seen.toArray st
 | .vN s pos,o=>o= .stringIter ⟨s.toArray⟩ pos
 | .loop st pending fn ts nt ps a b d,o=>o= .loop {state:=st,pending,fn,tmps:=iD E ts nt,params:=ps,assign:=a,body:=b,defers:=E.aA d}/\ ∀t,nt<=t->ts.get t=none
 | .qo calls,o=>o= .deferred (calls.map (List.map (eu E)))
structure bH (E:Env) (h:AH) (K:KS) (w:World):Prop where
 obj:∀i o,h.get i=some o->∃c,w.heap[E.aA i]? =some c/\pG E i o c
 nk:∀i o,h.get i=some o->¬o.ro->¬K (E.aA i)
 inj:∀i j oi oj,h.get i=some oi->h.get j=some oj->¬oi.ro->E.aA i=E.aA j->i=j
 ey:∀i o,h.get i=some o->i<h.next
 kb:∀b,K b->b<w.heap.size
 im:∀i o,h.get i=some o->o.ro->E.aA i<K.b
 k0:∀b,b<K.b->K b
structure Kept (K:KS) (w w':World):Prop where
 os:w'.os=w.os
 tape:w'.tape=w.tape
 output:w'.output=w.output
 size:w.heap.size<=w'.heap.size
 block:∀b,K b->w'.heap[b]? =w.heap[b]?
 drawn:(default:aF).dr->w.drawn<=w'.drawn
theorem Kept.refl (K:KS) (w:World):Kept K w w:=⟨rfl,rfl,rfl,Ad _,fun _ _=>rfl,fun _=>Ad _⟩
theorem Kept.trans {K:KS} {a b c:World} (h:Kept K a b) (k:Kept K b c):Kept K a c:=
 ⟨k.os.trans h.os,k.tape.trans h.tape,k.output.trans h.output,Ar h.size k.size,fun i hi=>(k.block i hi).trans (h.block i hi),fun hd=>Ar (h.drawn hd) (k.drawn hd)⟩
def eS (K:KS) (w:World):Prop:=∀b,b<(default:aF).old.size->K b/\w.heap[b]? =(default:aF).old[b]?
theorem eS.kept {K:KS} {w w':World} (h:eS K w) (k:Kept K w w'):eS K w':=fun b hb=>⟨(h b hb).1,(k.block b (h b hb).1).trans (h b hb).2⟩
theorem AH.aZ (h:AH) (b i:Nat) (o:AO):(h.set b o).get i=if i=b then some o else h.get i:=T.aZ _ _ _ _
theorem AH.aT (h:AH) (i:Nat) (o:AO):(h.new o).get i=if i=h.next then some o else h.get i:=T.aZ _ _ _ _
theorem nz (h:AH) (b i:Nat):(h.kill b).get i=if i=b then none else h.get i:=T.aZ _ _ _ _
@[simp] theorem AH.eN (h:AH) (b:Nat) (o:AO):(h.set b o).next=h.next:=rfl
@[simp] theorem AH.cE (h:AH) (o:AO):(h.new o).next=h.next+1:=rfl
@[simp] theorem AH.gM (h:AH) (b:Nat):(h.kill b).next=h.next:=rfl
theorem alloc_old (w:World) (o:Obj) {i:Nat} (h:i<w.heap.size):(w.alloc o).heap[i]? =w.heap[i]? :=by
 grind [World.alloc]
def _root_.Go.World.put (w:World) (g:Nat) (o:Obj):World:={w with heap:=w.heap.setIfInBounds g o}
theorem sP (w:World) (g i:Nat) (o:Obj):(w.put g o).heap[i]? =if i=g then(if g<w.heap.size then some o else none)else w.heap[i]? :=by
 grind [World.put]
section
variable {E:Env} {h:AH} {K:KS} {w:World}
theorem bH.lt (H:bH E h K w) {i:Nat} {o:AO} (hi:h.get i=some o):E.aA i<w.heap.size:=by
 obtain⟨c,hc,_⟩:=H.obj i o hi;grind
theorem bH.drew (H:bH E h K w):bH E h K w.drew:=⟨H.obj,H.nk,H.inj,H.ey,H.kb,H.im,H.k0⟩
theorem Kept.drew (K:KS) (w:World):Kept K w w.drew:=⟨rfl,rfl,rfl,Ad _,fun _ _=>rfl,fun _=>Ee _⟩
theorem bH.new (H:bH E h K w) {o:AO} {c:Obj} (hE:E.aA h.next=w.heap.size) (ho:pG E h.next o c) (hno:¬o.ro:=by simp[AO.ro]):bH E (h.new o) K (w.alloc c):=by
 have hnew:∀i o',(h.new o).get i=some o'->i≠h.next->h.get i=some o':=by
   grind [AH.aT]
 have hne:∀i o',h.get i=some o'->E.aA i≠E.aA h.next:=by
   intro i o' hi e;have:=H.lt hi;omega
 refine⟨?_,?_,?_,?_,?_,?_,H.k0⟩
 . intro i o' hi;by_cases e:i=h.next
   . grind [AH.aT,heap_alloc_new]
   . obtain⟨c',hc',hk⟩:=H.obj i o' (hnew i o' hi e);grind [alloc_old]
 . intro i o' hi hr hK;by_cases e:i=h.next
   . subst e;have:=H.kb _ hK;omega
   . exact H.nk i o' (hnew i o' hi e) hr hK
 . intro i j oi oj hi hj hr e;by_cases ei:i=h.next
   . grind
   . by_cases ej:j=h.next
     . grind
     . exact H.inj i j oi oj (hnew i oi hi ei) (hnew j oj hj ej) hr e
 . intro i o' hi;by_cases e:i=h.next
   . simp_all
   . have:=H.ey i o' (hnew i o' hi e);simp;omega
 . intro b hb;have:=H.kb b hb;simp;omega
 . intro i o' hi hr;by_cases e:i=h.next
   . grind [AH.aT]
   . exact H.im i o' (hnew i o' hi e) hr
theorem Kept.alloc (hkb:∀b,K b->b<w.heap.size) (c:Obj):Kept K w (w.alloc c):=
 ⟨rfl,rfl,rfl,by simp,fun b hb=>alloc_old w c (hkb b hb),fun _=>Ad _⟩
theorem bH.put (H:bH E h K w) {b:Nat} {o o':AO} {c:Obj} (hb:h.get b=some o) (hr:¬o.ro) (ho:pG E b o' c) (hno:¬o'.ro:=by simp[AO.ro]):bH E (h.set b o') K (w.put (E.aA b) c):=by
 have hold:∀i o1,(h.set b o').get i=some o1->i≠b->h.get i=some o1:=by
   grind [AH.aZ]
 refine⟨?_,?_,?_,?_,?_,?_,H.k0⟩
 . intro i o1 hi;by_cases e:i=b
   . subst e;rw[AH.aZ,Al rfl]at hi
     cases hi;exact⟨c,by rw[sP,Al rfl,Al (H.lt hb)],ho⟩
   . obtain⟨c',hc',hk⟩:=H.obj i o1 (hold i o1 hi e);refine⟨c',?_,hk⟩;rw[sP,An (fun e'=>e (H.inj b i o o1 hb (hold i o1 hi e) hr e'.symm).symm)];omega
 . intro i o1 hi hr1;by_cases e:i=b
   . subst e;exact H.nk i o hb hr
   . exact H.nk i o1 (hold i o1 hi e) hr1
 . intro i j oi oj hi hj hri e;by_cases ei:i=b
   . subst ei;by_cases ej:j=i
     . omega
     . exact H.inj i j o oj hb (hold j oj hj ej) hr e
   . by_cases ej:j=b
     . subst ej;exact H.inj i j oi o (hold i oi hi ei) hb hri e
     . exact H.inj i j oi oj (hold i oi hi ei) (hold j oj hj ej) hri e
 . intro i o1 hi;by_cases e:i=b
   . subst e;exact H.ey i o hb
   . exact H.ey i o1 (hold i o1 hi e)
 . intro g hg;have:=H.kb g hg;grind [World.put]
 . intro i o1 hi hr1;by_cases e:i=b
   . grind [AH.aZ]
   . exact H.im i o1 (hold i o1 hi e) hr1
theorem bH.dT (H:bH E h K w) {b:Nat} {o:AO} (hb:h.get b=some o) (hr:¬o.ro) (c:Obj):Kept K w (w.put (E.aA b) c):=
 ⟨rfl,rfl,rfl,by simp[World.put],fun g hg=>by rw[sP];exact An (fun e=>H.nk b o hb hr (by rw[<-e];exact hg)),fun _=>Ad _⟩
theorem bH.kill (H:bH E h K w) (b:Nat):bH E (h.kill b) K w:=by
 have hold:∀i o1,(h.kill b).get i=some o1->h.get i=some o1:=by
  grind [nz]
 exact⟨fun i o hi=>H.obj i o (hold i o hi),fun i o hi=>H.nk i o (hold i o hi),fun i j oi oj hi hj=>H.inj i j oi oj (hold i oi hi) (hold j oj hj),
  fun i o hi=>H.ey i o (hold i o hi),H.kb,fun i o hi=>H.im i o (hold i o hi),H.k0⟩
theorem bH.rename (H:bH E h K w) {b:Nat} {o o':AO} {c:Obj} (hb:h.get b=some o) (hr:¬o.ro) (hE:E.aA h.next=E.aA b) (ho:pG E h.next o' c) (hno:¬o'.ro:=by simp[AO.ro]):
   bH E ((h.kill b).new o') K (w.put (E.aA b) c):=by
 have hold:∀i o1,((h.kill b).new o').get i=some o1->i≠h.next->i≠b/\h.get i=some o1:=by
   grind [AH.aT,AH.gM,nz]
 have hnx:∀o1,((h.kill b).new o').get h.next=some o1->o1=o':=by
   grind [AH.aT,AH.gM]
 have hne:∀i o1,h.get i=some o1->i≠b->E.aA i≠E.aA b:=fun i o1 hi hib e=>hib (H.inj b i o o1 hb hi hr e.symm).symm
 refine⟨?_,?_,?_,?_,?_,?_,H.k0⟩
 . intro i o1 hi;by_cases e:i=h.next
   . subst e;rw[hnx o1 hi];exact⟨c,by rw[sP,Al hE,Al (H.lt hb)],ho⟩
   . obtain⟨h1,h2⟩:=hold i o1 hi e;obtain⟨c',hc',hk⟩:=H.obj i o1 h2;grind [sP]
 . intro i o1 hi hr1;by_cases e:i=h.next
   . subst e;rw[hE];exact H.nk b o hb hr
   . exact H.nk i o1 (hold i o1 hi e).2 hr1
 . intro i j oi oj hi hj hri e;by_cases ei:i=h.next
   . grind
   . obtain⟨h1,h2⟩:=hold i oi hi ei;by_cases ej:j=h.next
     . rw[ej,hE]at e;grind
     . exact H.inj i j oi oj h2 (hold j oj hj ej).2 hri e
 . intro i o1 hi;by_cases e:i=h.next
   . subst e;simp
   . have:=H.ey i o1 (hold i o1 hi e).2;simp;omega
 . intro g hg;have:=H.kb g hg;grind [World.put]
 . intro i o1 hi hr1;by_cases e:i=h.next
   . grind
   . exact H.im i o1 (hold i o1 hi e).2 hr1
theorem iT {b:Nat} {cs:List AV} {e:TypeId} {sz:Nat} {ext:Bool} {bk:BK} (hc:lr h b= .ok (cs,e,sz,ext,bk)):h.get b=some (.cells cs e sz ext bk):=by
 grind [lr]
theorem bH.cells (H:bH E h K w) {b:Nat} {cs:List AV} {e:TypeId} {sz:Nat} {ext:Bool} {bk:BK} (hc:h.get b=some (.cells cs e sz ext bk)):
  ∃arr fz,w.heap[E.aA b]? =some (.cells arr e fz)/\(∃rest,arr.toList=bp E cs++rest)/\(if ext then arr.size=E.cap b*sz else arr.size=cs.length)/\marks bk fz arr.size:=by
 obtain⟨c,h1,arr,fz,rfl,h2⟩:=H.obj b _ hc;grind
theorem bH.cell (H:bH E h K w) {b:Nat} {cs:List AV} {e:TypeId} {sz:Nat} {ext:Bool} {bk:BK} (hc:h.get b=some (.cells cs e sz ext bk)) {i:Nat} {v:AV} (hv:cs[i]? =some v):
  w.cell? ⟨E.aA b,i,none⟩=some (af E v):=by
 obtain⟨arr,fz,h1,⟨rest,h2⟩,_⟩:=H.cells hc;rw[cell_of_row w _ i arr e fz h1];rw[<-A6,h2,AX (by rw[ct];grind),kI,hv];rfl
theorem add_lit (b o j:Nat):(⟨b,o,none⟩:Addr).add j=⟨b,o+j,none⟩:=by
 grind [Addr.add]
theorem Lz {b off n:Nat} {cs:List AV} (hr:readN h b off n= .ok cs):
  ∃cs0 e sz ext bk,h.get b=some (.cells cs0 e sz ext bk)/\off+n<=cs0.length/\cs=(cs0.drop off).take n:=by
 obtain⟨⟨cs0,e,sz,ext,bk⟩,h1,hr⟩:=au.1 hr;obtain⟨_,h2,hr⟩:=au.1 hr
 cases hr;exact⟨cs0,e,sz,ext,bk,iT h1,Ak (eD.1 h2),rfl⟩
theorem bH.kB (H:bH E h K w) {b off n:Nat} {cs:List AV} (hr:readN h b off n= .ok cs):
   (bp E cs).length=n/\ ∀j v,(bp E cs)[j]? =some v->w.cell? ((⟨E.aA b,off,none⟩:Addr).add j)=some v:=by
 obtain⟨cs0,e,sz,ext,bk,hc,hl,rfl⟩:=Lz hr;refine⟨by simp;omega,fun j v hv=>?_⟩;rw[kI,A4]at hv;split at hv
 . rw[Dk]at hv
   cases hx:cs0[off+j]? with
   |none=>rw[hx]at hv;cases hv
   |some u=>
    rw[hx]at hv
    cases hv;rw[add_lit];exact H.cell hc hx
 grind
theorem bH.fJ (H:bH E h K w) {P:Program} {b off n:Nat} {cs:List AV} (hr:readN h b off n= .ok cs):
  (loadCells ⟨E.aA b,off,none⟩ n).run P w= .ok (bp E cs).toArray w:=by
 obtain⟨hl,hc⟩:=H.kB hr;have:=run_loadCells_list (P:=P) w ⟨E.aA b,off,none⟩ (bp E cs) hc;rw[hl]at this;omega
theorem zx {P:Program} (g o:Nat) (t:TypeId) (fz:Nat×Nat):∀(vs:List Value) (i:Nat) (cur:Array Value) (w:World),w.heap[g]? =some (.cells cur t fz)->
  (∀j,j<cur.size->¬(fz.1<=j/\j<fz.2))->o+i+vs.length<=cur.size->(∀v∈vs,v.oneCell'=true)->
  (storeCells ⟨g,o,none⟩ vs i).run P w= .ok () (w.put g (.cells (cur.toList.take (o+i)++vs++cur.toList.drop (o+i+vs.length)).toArray t fz))
 | [],i,cur,w,hg,_,_,_=>by
  simp only[storeCells,BQ,Bt,Bx,BN,Array.toArray_toList];have:w.put g (.cells cur t fz)=w:=by
   unfold World.put;have hlt:=(Ab.1 hg).1;have he:=(Ab.1 hg).2;have:w.heap.setIfInBounds g (.cells cur t fz)=w.heap:=by
    grind
   rw[this]
  rw[this];rfl
 | v::rest,i,cur,w,hg,hf,hl,h1=>by
  have hi:o+i<cur.size:=by grind
  have hlt:=(Ab.1 hg).1;have hcell:w.cell? ⟨g,o+i,none⟩=some cur[o+i]:=by grind [World.cell?]
  have hfro:w.frozen? ⟨g,o+i,none⟩=false:=by
   have:=hf (o+i) hi;grind [World.frozen?]
  have hset:w.setCell ⟨g,o+i,none⟩ v=w.put g (.cells (cur.setIfInBounds (o+i) v) t fz):=by
   unfold World.setCell World.put;congr 1
   grind
  have hst:(store ((⟨g,o,none⟩:Addr).add i) v).run P w= .ok () (w.put g (.cells (cur.setIfInBounds (o+i) v) t fz)):=by
   rw[add_lit,run_store P w _ v _ (h1 v (by simp)),hcell];grind
  have hg':(w.put g (.cells (cur.setIfInBounds (o+i) v) t fz)).heap[g]? =some (.cells (cur.setIfInBounds (o+i) v) t fz):=by
   rw[sP,Al rfl,Al hlt]
  simp only[storeCells,Sem.run_bind];rw[hst,Result.andThen_ok,zx g o t fz rest (i+1) _ _ hg' (by simpa using hf) (by simp at hl⊢;omega) (fun v hv=>h1 v (by simp[hv]))];have hL:(cur.setIfInBounds (o+i) v).toList.take (o+(i+1))++rest++(cur.setIfInBounds (o+i) v).toList.drop (o+(i+1)+rest.length)=cur.toList.take (o+i)++(v::rest)++cur.toList.drop (o+i+(v::rest).length):=by
   have:=list_seg_step cur.toList (o+i) v rest (by omega);simp only[Eo,Bc];rw[show o+(i+1)=o+i+1 from by omega];exact this
  rw[hL];unfold World.put;simp only[Array.setIfInBounds_setIfInBounds]
end
end
section
variable [Inhabited aF]
def Yields (r:Next) (x:Value):Prop:=r= .value x\/(r= .skip/\x=undef)
section
variable {P:Program} {tab:bm} (ok:bN P tab) {E:Env} {h:AH} {K:KS} {w:World}
include ok
theorem IL (H:bH E h K w) {t:TypeId} {b off:Nat} {v:AV} (hl:loadVar tab h t b off= .ok v):
  (Go.loadVar t ⟨E.aA b,off,none⟩).run P w= .ok (af E v) w:=by
 obtain⟨g,hg,hl⟩:=au.1 hl;unfold Go.loadVar;rw[Sem.run_bind,JW ok hg,Result.andThen_ok]
 cases g with
 |true=>
  simp only[BB]at hl⊢;obtain⟨n,hn,hl⟩:=au.1 hl;obtain⟨cs,hc,hl⟩:=au.1 hl
  cases hl;rw[Sem.run_bind,kH ok hn,Result.andThen_ok,Sem.run_bind,H.fJ hc];simp[af]
 |false=>
  simp only[Az,Bh]at hl⊢;obtain⟨⟨cs,e,sz,ext,bk⟩,hc,hl⟩:=au.1 hl;have hl:=de.1 hl;rw[run_load,H.cell (iT hc) hl]
omit ok in
theorem wB {b off:Nat} {vs:List AV} {h':AH} (hw:writeN h b off vs= .ok h'):h'.next=h.next:=by
 unfold writeN at hw;split at hw
 . grind
 . obtain⟨⟨cs,e,sz,ext,bk⟩,hc,hw⟩:=au.1 hw;obtain⟨_,_,hw⟩:=au.1 hw;obtain⟨_,_,hw⟩:=au.1 hw;obtain⟨_,_,hw⟩:=au.1 hw
   cases hw;rfl
omit ok in
theorem Jo {bk:BK} {fz:Nat×Nat} {n:Nat} (hm:marks bk fz n) (hr:bk≠ .ro/\bk≠ .cold):∀j,j<n->¬(fz.1<=j/\j<fz.2):=by
 intro j hj
 cases bk with
 |rw=>grind [marks]
 |mark=>grind [marks]
 |any=>
  grind [marks]
 |ro=>grind
 |cold=>grind
omit ok in
theorem wK (H:bH E h K w) {b off:Nat} {vs:List AV} {h':AH} (hw:writeN h b off vs= .ok h'):
   ∃w',(storeCells ⟨E.aA b,off,none⟩ (bp E vs)).run P w= .ok () w'/\bH E h' K w'/\Kept K w w':=by
 unfold writeN at hw;split at hw
 . cases hw;exact⟨w,rfl,H,Kept.refl K w⟩
 . obtain⟨⟨cs,e,sz,ext,bk⟩,hc,hw⟩:=au.1 hw;obtain⟨_,h1,hw⟩:=au.1 hw;obtain⟨_,h2,hw⟩:=au.1 hw;obtain⟨_,h3,hw⟩:=au.1 hw
   cases hw;have hc:=iT hc;have hro:bk≠ .ro/\bk≠ .cold:=by grind [eD]
   have hlen:off+vs.length<=cs.length:=Ak (eD.1 h2);have hone:=eD.1 h3;obtain⟨arr,fz,hh,⟨rest,harr⟩,hsz,hm⟩:=H.cells hc;have hasz:cs.length<=arr.size:=by
     have:=Aj List.length harr;simp at this;omega
   have hrun:=zx (P:=P) (E.aA b) off e fz (bp E vs) 0 arr w hh (Jo hm hro) (by simp;omega)
     (by
      intro v hv;rw[pP]at hv;obtain⟨u,hu,rfl⟩:=Aw.1 hv;exact Iy (AB.1 hone u hu))
   refine⟨_,hrun,H.put hc (by cases bk<;>simp_all[AO.ro]) ?_ (by cases bk<;>simp_all[AO.ro]),H.dT hc (by cases bk<;>simp_all[AO.ro]) _⟩;refine⟨_,fz,rfl,⟨rest,?_⟩,?_,?_⟩
   . simp only[nN,Bx,ee,ux,zN,ct,harr];rw[Ef (by simp;omega),List.drop_append_of_le_length (by simp;omega)];simp
   . have e1:(arr.toList.take (off+0)++bp E vs++arr.toList.drop (off+0+(bp E vs).length)).length=arr.size:=by
      simp;omega
     cases ext with
     |true=>rw[Bj,e1];exact hsz
     |false=>
      rw[Bj,e1,hsz];simp[nN];omega
   . have e1:(arr.toList.take (off+0)++bp E vs++arr.toList.drop (off+0+(bp E vs).length)).length=arr.size:=by
      simp;omega
     rw[Bj,e1];exact hm
theorem RM (H:bH E h K w) {t:TypeId} {b off:Nat} {v:AV} {h':AH} (hs:storeVar tab h t b off v= .ok h'):
  ∃w',(Go.storeVar t ⟨E.aA b,off,none⟩ (af E v)).run P w= .ok () w'/\bH E h' K w'/\Kept K w w':=by
 obtain⟨n,hn,hs⟩:=au.1 hs;obtain⟨l,hl,hs⟩:=au.1 hs;obtain⟨_,hc,hs⟩:=au.1 hs;have hc:=Af (eD.1 hc);obtain⟨w',hw,H',hk⟩:=wK (P:=P) H hs;refine⟨w',?_,H',hk⟩;unfold Go.storeVar;rw[Sem.run_bind,kH ok hn,Result.andThen_ok,oN hl];simp_all
omit ok in
theorem Rg {t:TypeId} {b off:Nat} {v:AV} {h':AH} (hs:storeVar tab h t b off v= .ok h'):h'.next=h.next:=by
 grind [storeVar,au,wB]
omit ok in
theorem jm {e:TypeId} {cs:List AV} {ext:Bool} {bk:BK} {h':AH} {b:Nat} (hn:newRow tab h e cs ext bk= .ok (h',b)):
  ∃n,siz tab e= .ok n/\h'=h.new (.cells cs e n ext bk)/\b=h.next:=by
 grind [newRow,au]
omit ok in
theorem Kc (H:bH E h K w) (hE:E.aA h.next=w.heap.size) (cs:List AV) (e:TypeId) (n:Nat):
  bH E (h.new (.cells cs e n false .rw)) K (w.alloc (.cells (bp E cs).toArray e))/\Kept K w (w.alloc (.cells (bp E cs).toArray e)):=
 ⟨H.new hE ⟨_,_,rfl,⟨[],by simp⟩,by simp,rfl⟩,Kept.alloc H.kb _⟩
omit ok in
theorem qF (e:TypeId) (cs:Array Value):(Go.newRow e cs).run P w= .ok ⟨w.heap.size,0,none⟩ (w.alloc (.cells cs e)):=by
 simp_all[Go.newRow]
omit ok in
theorem Vw {v:AV} {k:IntKind} {n:Int} (ha:asInt v= .ok (k,n)):v= .int k n:=by
 cases v<;>simp only[asInt]at ha<;>cases ha
 rfl
omit ok in
theorem uM {v:AV} {n:Nat} (ha:asNat v= .ok n):∃k,v= .int k (n:Int):=by
 obtain⟨⟨k,m⟩,h1,ha⟩:=au.1 ha
 cases m with
 |ofNat m=>cases ha;exact⟨k,Vw h1⟩
 |negSucc m=>cases ha
omit ok in
theorem toList_mk (l:List UInt8):(⟨l.toArray⟩:ByteArray).toList=l:=by
 simp
omit ok in
theorem size_mk (l:List UInt8):(⟨l.toArray⟩:ByteArray).size=l.length:=rfl
omit ok in
theorem Vj (l m:List UInt8):(⟨l.toArray⟩:ByteArray)++⟨m.toArray⟩=⟨(l++m).toArray⟩:=by
 apply ByteArray.ext;simp
omit ok in
theorem Uj {op:BinOp} {k:IntKind} {x y:Int} {v:AV} (hi:intOp op k x y= .ok v) (t:TypeId) (hs:op≠ .shl/\op≠ .shr):
  (Go.binOp op t (.int k x) (.int k y)).run P w= .ok (af E v) w:=by
 cases op<;>simp only[intOp]at hi<;>(try (split at hi<;>try cases hi))<;>(try cases hi)<;>
  simp_all[Go.binOp,Op.intArith,Op.intDiv,Op.intBits,Op.intCmp,af]
omit ok in
theorem II {op:BinOp} {k yk:IntKind} {x y:Int} {v:AV} (hi:shiftOp op k x y= .ok v):
   (Op.shift op k x yk y).run P w= .ok (af E v) w:=by
 unfold shiftOp at hi;split at hi
 . cases hi
 . rename_i hy
   cases op<;>simp only at hi<;>cases hi<;>simp[Op.shift,hy,af]
omit ok in
theorem VE {op:BinOp} {x y:List UInt8} {v:AV} (hi:strOp op x y= .ok v):
   (Op.stringOp op ⟨x.toArray⟩ ⟨y.toArray⟩).run P w= .ok (af E v) w:=by
 cases op<;>simp only[strOp]at hi<;>(try cases hi)<;>(try simp only[Op.stringOp,toList_mk,Sem.run_pure,af])
 split at hi
 . cases hi;have:¬((((⟨x.toArray⟩:ByteArray).size+(⟨y.toArray⟩:ByteArray).size:Nat):Int)>IntKind.i64.max):=by
    rw[size_mk,size_mk];have:IntKind.i64.max=9223372036854775807:=by decide
    rw[this];omega
   grind [Sem.run_pure,Vj,af]
 grind
omit ok in
theorem Xh {op:UnOp} {x v:AV} (hu:unOp op x= .ok v):(Op.unary op (af E x)).run P w= .ok (af E v) w:=by
 cases op<;>cases x<;>simp only[unOp]at hu<;>cases hu<;>simp[Op.unary,af,Op.intArith,Op.intBits]
end
end
section
variable [Inhabited aF]
section
variable {P:Program} {tab:bm} (ok:bN P tab) {E:Env} {h:AH} {K:KS} {w:World}
include ok
theorem Rt (d:Nat) (eq:TypeId->AV->AV->R Bool)
  (heq:∀t x y b,eq t x y= .ok b->∀w,(Op.equalIn d t (af E x) (af E y)).run P w= .ok b w) (xs ys:List AV):
  ∀(fs:List Field) (b:Bool),eqFields tab eq xs ys fs= .ok b->∀w,(Op.eqFields d (bp E xs).toArray (bp E ys).toArray fs).run P w= .ok b w:=by
 intro fs;induction fs with
 |nil=>intro b hb w;cases hb;rfl
 |cons f fs ih=>
  intro b hb w;simp only[eqFields]at hb;by_cases hn:f.name≠ "_"
  . rw[Al hn]at hb;obtain⟨a,ha,hb⟩:=au.1 hb;obtain⟨c,hc,hb⟩:=au.1 hb;obtain⟨r,hr,hb⟩:=au.1 hb;simp only[Op.eqFields,Al hn,Sem.run_bind,xm ok ha,xm ok hc,heq _ _ _ _ hr,Result.andThen_ok]
    cases r with
    |true=>grind
    |false=>simp_all
  grind [Op.eqFields]
theorem qN:∀(d:Nat) (t:TypeId) (x y:AV) (b:Bool),eqT tab d t x y= .ok b->∀(k:Nat) (w:World),
    (Op.equalIn (d+k) t (af E x) (af E y)).run P w= .ok b w:=by
  intro d;induction d with
  |zero=>intro t x y b hb;cases hb
  | succ d ih=>
    intro t x y b hb k w;simp only[eqT]at hb;obtain⟨u,hu,hb⟩:=au.1 hb;have hP:=ok.und t u (de.1 hu);rw[show d+1+k=(d+k)+1 from by omega];have hagg:∀xs ys fs,x= .agg xs->y= .agg ys->u= .struct fs->tab.held.get t=some false->eqFields tab (eqT tab d) xs ys fs.toList= .ok b->
        (Op.equalIn (d+k+1) t (af E x) (af E y)).run P w= .ok b w:=by
      intro xs ys fs hx hy hu' hheld hb2;subst hx hy hu';have hf:P.fieldsOf t=fs:=by grind [Program.fieldsOf]
      simp only[af];rw[run_equalIn_struct w (d+k) t _ _ (by rw[hf];exact hP) (ok.held t false hheld),hf];exact Rt ok (d+k) (eqT tab d) (fun t x y b h w=>ih t x y b h k w) xs ys fs.toList b hb2 w
    split at hb
    case h_22=>
      split at hb
      . exact hagg _ _ _ rfl rfl rfl (by assumption) hb
      . cases hb
    all_goals
      clear hagg ih;simp only[Op.equalIn,underlying,Sem.run_bind,run_program,Result.andThen_ok,hP,Sem.run_pure,af]
    all_goals
      first
      |(cases hb;done)
      |(cases hb;rfl)
      | (split at hb
         all_goals simp_all)
      |grind [beq_toListBytes,toList_mk]
omit ok in
theorem KJ {d:Nat} (t:TypeId) (v:Value) (y:AV) (b:Bool) (hb:eqT tab (d+1) t (.raw v) y= .ok b):(∃a,v= .pointer (some a))/\y= .bj:=by
 grind [eqT,au]
omit ok in
theorem KK {d:Nat} (t:TypeId) (v:Value) (x:AV) (b:Bool) (hb:eqT tab (d+1) t x (.raw v)= .ok b):(∃a,v= .pointer (some a))/\x= .bj:=by
 obtain⟨u,hu,hb⟩:=au.1 hb;split at hb<;>first|(cases hb;done)|simp_all
omit ok in
theorem xc (H:bH E h K w) {b:Nat} {cs:List AV} {e:TypeId} {sz:Nat} {ext:Bool} (hc:h.get b=some (.cells cs e sz ext .rw)) (i:Nat):
  w.frozen? ⟨E.aA b,i,none⟩=false:=by
 obtain⟨arr,fz,h1,_,_,hm⟩:=H.cells hc;grind [marks,World.frozen?]
omit ok in
theorem xq (H:bH E h K w) {b:Nat} {cs:List AV} {e:TypeId} {sz:Nat} {ext:Bool} {bk:BK} (hc:h.get b=some (.cells cs e sz ext bk)):
  ∃n,w.shape? (E.aA b)=some (e,n):=by
 obtain⟨arr,fz,h1,_⟩:=H.cells hc;simp_all[World.shape?]
omit ok in
theorem wH (H:bH E h K w) {b:Nat} {cs:List AV} {e:TypeId} {sz:Nat} {ext:Bool} {bk:BK} (hc:h.get b=some (.cells cs e sz ext bk)) (i:Nat):
  (noView ⟨E.aA b,i,none⟩).run P w= .ok () w:=by
 obtain⟨n,hn⟩:=xq H hc;simp[noView,viewAt,hn]
omit ok in
theorem Ij (H:bH E h K w) {b:Nat} {cs:List AV} {e:TypeId} {sz:Nat} {ext:Bool} (hc:h.get b=some (.cells cs e sz ext .rw)) (i:Nat):
  (stringish ⟨E.aA b,i,none⟩).run P w= .ok false w:=by
 obtain⟨n,hn⟩:=xq H hc;simp[stringish,hn,xc H hc]
omit ok in
theorem Iw (H:bH E h K w) {b b':Nat} {cs cs':List AV} {e e':TypeId} {sz sz':Nat} {ext ext':Bool}
  (hc:h.get b=some (.cells cs e sz ext .rw)) (hc':h.get b'=some (.cells cs' e' sz' ext' .rw)) (i i':Nat):
  (mayBeOne ⟨E.aA b,i,none⟩ ⟨E.aA b',i',none⟩).run P w= .ok false w:=by
 obtain⟨n,hn⟩:=xq H hc;obtain⟨n',hn'⟩:=xq H hc';simp[mayBeOne,Ij H hc,Ij H hc',hn']
theorem KI (H:bH E h K w) {t:TypeId} {x y:AV} {b:Bool} (hb:eqOp tab h t x y= .ok b):
   (Op.equal t (af E x) (af E y)).run P w= .ok b w/\
   (∀op ox oy,(op= .eql\/op= .neq)->(eqGuard op t ox oy (af E x) (af E y)).run P w= .ok () w):=by
 unfold eqOp at hb;split at hb
 . rename_i a i c j;obtain⟨u,hu,hb⟩:=au.1 hb;have hP:=ok.und t u (de.1 hu);split at hb
   . obtain⟨n,hn,hb⟩:=au.1 hb;obtain⟨_,hz,hb⟩:=au.1 hb;have hz:=eD.1 hz;have hn0:n≠0:=by
       rintro rfl;simp at hz
     refine⟨?_,fun op ox oy ho=>by rcases ho with rfl|rfl<;>simp[eqGuard,af]⟩;have hstep:(Op.equal t (af E (.ptr a i)) (af E (.ptr c j))).run P w=(sameAddr ⟨E.aA a,i,none⟩ ⟨E.aA c,j,none⟩).run P w:=by
       have key:∀n,(Op.equalIn (n+1) t (af E (.ptr a i)) (af E (.ptr c j))).run P w=(sameAddr ⟨E.aA a,i,none⟩ ⟨E.aA c,j,none⟩).run P w:=by
         intro n;simp only[Op.equalIn,underlying,Sem.run_bind,run_program,Result.andThen_ok,hP,Sem.run_pure,af,kH ok hn,DU,hn0,not_false_eq_true,BB]
       exact key 9999
     rw[hstep];by_cases hac:Nat.beq a c=true
     . rw[Al hac]at hb
       cases hb;have:=Af hac;subst this;simp only[sameAddr,Ec,BB,Sem.run_pure];congr 1
       rw[AA];simp_all
     . rw[An hac]at hb;split at hb
       . rename_i h1 h2
         cases hb;have hne:E.aA a≠E.aA c:=fun e'=>hac (by rw[H.inj a c _ _ h1 h2 (by simp[AO.ro]) e'];simp_all)
         simp[sameAddr,hne,xc H h1,wH H h1,wH H h2,Iw H h1 h2]
       grind
   grind
 . split at hb
   . rename_i hg;refine⟨?_,fun op ox oy ho=>?_⟩
     . have:=qN ok (E:=E) 8 t _ _ b hb 9992 w;exact this
     . exact run_eqGuard_agg w op t ox oy _ _ (ok.lJ t false hg)
   grind
 . cases hb
 . refine⟨qN ok (E:=E) 8 t _ _ b hb 9992 w,fun op ox oy ho=>?_⟩;have hrx:∀v,x= .raw v->∃a,v= .pointer (some a):=by
     grind [KJ]
   have hry:∀v,y= .raw v->∃a,v= .pointer (some a):=by
     grind [KK]
   have hne:∀cs,af E x= .agg cs->∀ds,af E y= .agg ds->False:=by
     intro cs hx ds hy
     cases x<;>simp only[af]at hx<;>(try cases hx)
     . cases y<;>simp only[af]at hy<;>(try cases hy)
       all_goals grind
     grind
   have hni:af E x= .nilIface->af E y= .nilIface->False:=by
     intro hx hy
     cases x<;>simp only[af]at hx<;>(try cases hx)
     . cases y<;>simp only[af]at hy<;>(try cases hy)
       all_goals grind
     grind
   rcases ho with rfl|rfl<;>(unfold eqGuard;split)
   all_goals simp_all
omit ok in
theorem Cp (op:BinOp) (t:TypeId) (ox oy:Operand) (k j:IntKind) (a b:Int):(eqGuard op t ox oy (.int k a) (.int j b)).run P w= .ok () w:=by
 cases op<;>simp[eqGuard]
omit ok in
theorem UG (op:BinOp) (t:TypeId) (ox oy:Operand) (a b:ByteArray):(eqGuard op t ox oy (.string a) (.string b)).run P w= .ok () w:=by
 cases op<;>simp[eqGuard]
omit ok in
theorem xB {t:TypeId} {x y:AV} {b:Bool} (hb:eqOp tab h t x y= .ok b):(∀v,x= .raw v->∃a,v= .pointer (some a))/\(∀v,y= .raw v->∃a,v= .pointer (some a)):=by
 grind [eqOp,KJ,KK]
omit ok in
theorem Je {x:AV} (hx:∀v,x= .raw v->∃a,v= .pointer (some a)):(∀k b,af E x≠ .float k b)/\(∀k a b,af E x≠ .complex k a b)/\
  (∀k a,af E x= .int k a->x= .int k a)/\(∀s,af E x= .string s->∃l,x= .str l):=by
 cases x
 all_goals grind [af]
omit ok in
theorem IU (t:TypeId) (x y:AV) (hi:∀k j a b,x= .int k a->y= .int j b->False) (hs:∀a b,x= .str a->y= .str b->False)
   (hx:∀v,x= .raw v->∃a,v= .pointer (some a)) (hy:∀v,y= .raw v->∃a,v= .pointer (some a)):
   Go.binOp .eql t (af E x) (af E y)=(do pure (.bool (<-Op.equal t (af E x) (af E y))))/\
   Go.binOp .neq t (af E x) (af E y)=(do pure (.bool (!(<-Op.equal t (af E x) (af E y))))):=by
 obtain⟨x1,x2,x3,x4⟩:=Je (E:=E) hx;obtain⟨y1,y2,y3,y4⟩:=Je (E:=E) hy;generalize af E x=X at*
 generalize af E y=Y at*
 constructor
 . unfold Go.binOp;split<;>simp_all
   all_goals grind
 . unfold Go.binOp;split<;>simp_all
   all_goals grind
theorem Ts (H:bH E h K w) {op:BinOp} {t:TypeId} {x y v:AV} (hb:binOp tab h op t x y= .ok v) (ox oy:Operand):
   (do eqGuard op t ox oy (af E x) (af E y);Go.binOp op t (af E x) (af E y)).run P w= .ok (af E v) w:=by
 unfold binOp at hb;split at hb
 . simp only[af];rw[Sem.run_bind,Cp];exact II (yk:= .i64) hb
 . simp only[af];rw[Sem.run_bind,Cp];exact II (yk:= .i64) hb
 . rename_i hs1 hs2;split at hb
   . rename_i e;subst e;simp only[af];rw[Sem.run_bind,Cp];exact Uj hb t ⟨fun e=>hs1 e,fun e=>hs2 e⟩
   grind
 . simp only[af];rw[Sem.run_bind,UG]
   cases op<;>exact VE (P:=P) hb
 . obtain⟨b,hb',hb⟩:=au.1 hb
   cases hb;obtain⟨h1,h2⟩:=KI ok H hb';rw[Sem.run_bind,h2 .eql ox oy (.inl rfl),Result.andThen_ok];rw[(IU (E:=E) t x y (fun k j a b e1 e2=>by grind) (fun a b e1 e2=>by grind) (xB hb').1 (xB hb').2).1,Sem.run_bind,h1];simp[af]
 . obtain⟨b,hb',hb⟩:=au.1 hb
   cases hb;obtain⟨h1,h2⟩:=KI ok H hb';rw[Sem.run_bind,h2 .neq ox oy (.inr rfl),Result.andThen_ok];rw[(IU (E:=E) t x y (fun k j a b e1 e2=>by grind) (fun a b e1 e2=>by grind) (xB hb').1 (xB hb').2).2,Sem.run_bind,h1];simp[af]
 grind
end
end
section
variable [Inhabited aF]
def iM (n:Nat) (l:List Value):List Value:=
 match n with
 |0=>[]
 |n+1=>l++iM n l
theorem xh (E:Env) (n:Nat) (l:List AV):bp E (rep n l)=iM n (bp E l):=by
 induction n with
 |zero=>rfl
 |succ n ih=>simp[rep,iM,ih]
theorem zH (n:Nat) (l:List Value):(iM n l).length=n*l.length:=by
 induction n with
 |zero=>simp[iM]
 |succ n ih=>grind [iM]
theorem Mb (c:Nat) (l:List Value) (k:Nat) (hk:l.length=k) (h0:0<k):
  (List.range (c*k)).map (fun i=>l.toArray[i % k]!)=iM c l:=by
 induction c with
 |zero=>simp[iM]
 |succ c ih=>
  rw[show(c+1)*k=k+c*k from by rw[Be];omega,List.range_add,Br,Dd];congr 1
  . grind [List.ext_getElem,List.length_map,Nat.mod_eq_of_lt]
  simp_all[By]
theorem IB (n:Nat) (l:List Value) (h0:0<l.length):Builtin.zeroCells l.toArray n=(iM n l).toArray:=by
 grind [Builtin.zeroCells,Array.toList_range,Mb]
theorem Rp (n:Nat) (l:List Value) (h0:0<l.length):madeCells l.toArray (n*l.length)=(iM n l).toArray:=by
 unfold madeCells;apply Array.ext';rw[Array.toList_map,Array.toList_range];exact Mb n l l.length rfl h0
def uH (cs:List Value) (off:Nat) (vs:List Value):List Value:=cs.take off++(vs++cs.drop (off+vs.length))
theorem Rm (E:Env) (cs:List AV) (off:Nat) (vs:List AV):bp E (nN cs off vs)=uH (bp E cs) off (bp E vs):=by
 simp[nN,uH,ux,zN]
theorem V4 (off:Nat):∀(vs:List Value) (j:Nat) (cs:Array Value),off+j+vs.length<=cs.size->
  ((vs.zipIdx j).foldl (fun cs (x:Value×Nat)=>cs.setIfInBounds (off+x.2) x.1) cs)=(uH cs.toList (off+j) vs).toArray:=by
 intro vs;induction vs with
 |nil=>simp_all[uH]
 |cons v vs ih=>
  intro j cs h;simp only[List.zipIdx_cons,Bb];rw[ih (j+1) _ (by grind)];have:=list_seg_step cs.toList (off+j) v vs (by omega);simp only[uH,Eo,Bc];rw[show off+(j+1)=off+j+1 from by omega];rw[<-BH,this];simp
section
variable {P:Program} {tab:bm} (ok:bN P tab) {E:Env} {h:AH} {K:KS} {w:World}
theorem CP {place:Nat->Option (Nat×Nat)}:∀(ps:List (Nat×AV)) (qs:List (Nat×Nat×AV)) (cs out:List AV),
  (ps.length=qs.length/\ ∀i,i<ps.length->∀p q,ps[i]? =some p->qs[i]? =some q->place p.1=some (q.1,q.2.1)/\p.2=q.2.2)->
  fill cs qs= .ok out->Instr.fill place (bp E cs).toArray (ps.map fun p=>(p.1,af E p.2))=some (bp E out).toArray:=by
 intro ps;induction ps with
 |nil=>
  intro qs cs out hq hf;have:qs=[]:=AL hq.1.symm;subst this
  cases hf;rfl
 | cons p ps ih=>
  intro qs cs out hq hf
  cases qs with
  |nil=>grind
  | cons q qs=>
   obtain⟨off,n,v⟩:=q;obtain⟨l,hl,hf⟩:=au.1 hf;obtain⟨_,hc,hf⟩:=au.1 hf;have hc:=eD.1 hc;rw[Ac]at hc;have hc1:=Af hc.1;have hc2:=Ak hc.2;obtain⟨h1,h2⟩:=hq.2 0 (by simp) p (off,n,v) rfl rfl;simp only[AW,Instr.fill,h1,h2,oN hl];rw[An (by simp[hc1];omega)];have hz:(bp E l).toArray.zipIdx.foldl (fun cs (x:Value×Nat)=>cs.setIfInBounds (off+x.2) x.1) (bp E cs).toArray=(bp E (nN cs off l)).toArray:=by
    have:=V4 off (bp E l) 0 (bp E cs).toArray (by simp_all);rw[Rm,<-Array.foldl_toList];grind
   rw[hz];refine ih qs _ out ⟨by simpa using hq.1,fun i hi p' q' hp' hq'=>?_⟩ hf;exact hq.2 (i+1) (by simpa using hi) p' q' (by simpa using hp') (by grind)
include ok
theorem Rc {fs:Array Field}:∀(ps:List (Nat×AV)) (qs:List (Nat×Nat×AV)),sA tab fs ps= .ok qs->
  (ps.length=qs.length/\ ∀i,i<ps.length->∀p q,ps[i]? =some p->qs[i]? =some q->
   (∃f i,fs[p.1]? =some f/\P.info? f.type=some i/\q.1=f.offset/\q.2.1=i.size)/\p.2=q.2.2):=by
 intro ps;induction ps with
 |nil=>grind [sA]
 | cons p ps ih=>
  intro qs hq;obtain⟨i,v⟩:=p;obtain⟨f,hf,hq⟩:=au.1 hq;obtain⟨n,hn,hq⟩:=au.1 hq;obtain⟨r,hr,hq⟩:=au.1 hq
  cases hq;obtain⟨h1,h2⟩:=ih r hr;refine⟨by grind,fun j hj p q hp hq=>?_⟩
  cases j with
  |zero=>
   obtain⟨x,hx,rfl⟩:=ok.siz _ _ (de.1 hn);grind [de]
  |succ j=>exact h2 j (by simpa using hj) p q (by simpa using hp) (by simpa using hq)
theorem R9:∀(l:List Field),(∀f∈l,(tab.siz.get f.type).isSome=true)->
  ∃ps:List (Nat×Nat),l.mapM (fun(f:Field)=>(P.info? f.type).map fun i=>(f.offset,i.size))=some ps/\
   ∀(i:Nat) (f:Field) (x:TypeInfo),l[i]? =some f->P.info? f.type=some x->ps[i]? =some (f.offset,x.size):=by
 intro l;induction l with
 |nil=>simp_all
 |cons f l ih=>
  intro hl;obtain⟨ps,h1,h2⟩:=ih (fun f hf=>hl f (by grind));obtain⟨n,hn⟩:=Bp.1 (hl f (by simp));obtain⟨x,hx,rfl⟩:=ok.siz _ _ hn;refine⟨(f.offset,x.size)::ps,?_,?_⟩
  all_goals grind
theorem Tt {t:TypeId} {ps:List (Nat×AV)} {v:AV} (hb:build tab t ps= .ok v):
   (Instr.build t (ps.map fun p=>(p.1,af E p.2)).toArray).run P w= .ok (af E v) w:=by
 obtain⟨z,hz,hb⟩:=au.1 hb;obtain⟨zc,hzc,hb⟩:=au.1 hb;obtain⟨u,hu,hb⟩:=au.1 hb;have hP:=ok.und t u (de.1 hu);obtain⟨it,hit,hiz⟩:=ok.lV t z (de.1 hz);split at hb
 . rename_i fs;obtain⟨_,hs,hb⟩:=au.1 hb;obtain⟨qs,hq,hb⟩:=au.1 hb;obtain⟨cs,hc,hb⟩:=au.1 hb
   cases hb;have hs:=eD.1 hs;obtain⟨pl,hp1,hp2⟩:=R9 ok fs.toList (fun f hf=>AB.1 hs f hf);obtain⟨hl,hq⟩:=Rc ok ps qs hq;have hfill:=CP (E:=E) (place:=fun i=>pl[i]?) ps qs zc cs ⟨hl,fun i hi p q hp hq'=>by
    grind⟩ hc
   have hbuilt:P.built t (ps.map fun p=>(p.1,af E p.2))=some (bp E cs).toArray:=by
    unfold Program.built;simp only[hit,hP,hiz E,hp1,oN hzc];grind
   exact run_build w t _ _ (by omega)
 . obtain⟨n,hn,hb⟩:=au.1 hb;obtain⟨cs,hc,hb⟩:=au.1 hb
   cases hb;obtain⟨ie,hie,rfl⟩:=ok.siz _ _ (de.1 hn);have hfill:=CP (E:=E) (place:=fun i=>some (i*ie.size,ie.size)) ps _ zc cs ⟨by simp,fun i hi p q hp hq=>by
    rw[AE,hp]at hq;grind⟩ hc
   have hbuilt:P.built t (ps.map fun p=>(p.1,af E p.2))=some (bp E cs).toArray:=by
    unfold Program.built;simp only[hit,hP,hiz E,hie,oN hzc];omega
   exact run_build w t _ _ (by omega)
 grind
theorem Q9 (H:bH E h K w) {t:TypeId} {len:Nat} {ps:List (Nat×AV)} {v:AV} {h':AH} (hb:buildSlice tab h t len ps= .ok (v,h'))
   (hE:E.aA h.next=w.heap.size):
   h'.next=h.next+1/\ ∃w',(Instr.buildSlice t len (ps.map fun p=>(p.1,af E p.2)).toArray).run P w= .ok (af E v) w'/\bH E h' K w'/\Kept K w w':=by
 obtain⟨u,hu,hb⟩:=au.1 hb;have hP:=ok.und t u (de.1 hu);split at hb
 . rename_i e;obtain⟨n,hn,hb⟩:=au.1 hb;obtain⟨_,hc,hb⟩:=au.1 hb;obtain⟨z,hz,hb⟩:=au.1 hb;obtain⟨zc,hzc,hb⟩:=au.1 hb;obtain⟨_,hzl,hb⟩:=au.1 hb;obtain⟨cs,hf,hb⟩:=au.1 hb;obtain⟨⟨h1,b⟩,hr,hb⟩:=au.1 hb
   cases hb;have hc:=Ak (eD.1 hc);have hzl:=Af (eD.1 hzl);obtain⟨n',_,rfl,rfl⟩:=jm hr;have hfill:=CP (E:=E) (place:=fun i=>some (i*n,n)) ps _ (rep len zc) cs ⟨by simp,fun i hi p q hp hq=>by
     rw[AE,hp]at hq;grind⟩ hf
   have hmade:((Array.range (len*n)).map fun i=>(if len*n=0 then #[]else(bp E zc).toArray)[i % (if len*n=0 then #[]else(bp E zc).toArray).size]!)=(bp E (rep len zc)).toArray:=by
     rw[xh];by_cases h0:len*n=0
     . rw[h0];have:iM len (bp E zc)=[]:=AL (by rw[zH,ct,hzl];exact h0);grind
     . simp only[An h0];have hn0:0<n:=Nat.pos_of_ne_zero (fun e=>h0 (by rw[e];simp));have:=Rp len (bp E zc) (by rw[ct,hzl];omega);rw[ct,hzl]at this;exact this
   obtain⟨H',hk⟩:=Kc H hE cs e n';refine⟨rfl,_,?_,H',hk⟩;unfold Instr.buildSlice;simp only[Sem.run_bind,underlying,run_program,Result.andThen_ok,hP,Sem.run_pure,kH ok hn];rw[An (by omega)];by_cases h0:len*n=0
   . grind [Sem.run_bind,Sem.run_pure,Result.andThen_ok,qF,af,gB.val]
   . simp only[An h0]at hmade⊢;simp only[Sem.run_bind,uD ok hz E,Sem.run_pure,Result.andThen_ok,oN hzc];rw[hmade,hfill];grind [Sem.run_bind,qF,Result.andThen_ok,Sem.run_pure,af,gB.val]
 grind
theorem Rk (H:bH E h K w) {t:TypeId} {len cap v:AV} {h':AH} (hb:makeSlice tab h t len cap= .ok (v,h')) (hE:E.aA h.next=w.heap.size):
  h'.next=h.next+1/\ ∃w',(Instr.makeSlice t (af E len) (af E cap)).run P w= .ok (af E v) w'/\bH E h' K w'/\Kept K w w':=by
 simp[makeSlice]at hb
end
end
section
variable [Inhabited aF]
section
variable {P:Program} {tab:bm} (ok:bN P tab) {E:Env} {h:AH} {K:KS} {w:World}
def gq (o:Option Value) (d n:Nat):Prop:=
 match o with
 |none=>n=d
 |some v=>∃k,v= .int k (n:Int)
theorem uf (k:IntKind) (n y:Nat) (code:BoundsCode) (hn:n<=y):(Instr.sliceBound (.int k (n:Int)) y code).run P w= .ok n w:=by
 have:=run_sliceBound (P:=P) w k (n:Int) y code (by omega) (by omega);grind
theorem ue {isSlice:Bool} {len cap l u m:Nat} {lo hi mx:Option Value} (hl:gq lo 0 l) (hu:gq hi len u) (hm:gq mx cap m)
  (hs:mx=none\/ ∃v,hi=some v) (h1:l<=u) (h2:u<=m) (h3:m<=cap):(Instr.sliceBounds isSlice len cap lo hi mx).run P w= .ok (l,u,m) w:=by
 unfold Instr.sliceBounds
 cases mx with
 | none=>
  simp only[gq]at hm
  cases hi with
  |none=>
   simp only[gq]at hu
   cases lo with
   |none=>simp_all[gq]
   |some v=>obtain⟨k,rfl⟩:=hl;simp_all[uf]
  |some v=>
   obtain⟨k,rfl⟩:=hu
   cases lo with
   |none=>simp_all[gq,uf]
   |some v=>obtain⟨k',rfl⟩:=hl;simp_all[uf]
 |some v=>
  obtain⟨km,rfl⟩:=hm;obtain⟨v',rfl⟩:=hs.resolve_left (by simp);obtain⟨k,rfl⟩:=hu
  cases lo with
  |none=>simp_all[gq,uf]
  |some v=>obtain⟨k',rfl⟩:=hl;simp_all[uf]
theorem l8 {ts:T AV} {ρ:Operand->Value} (hρ:∀x v,ev ts x= .ok v->ρ x=af E v) {d:R Nat} {dn:Nat} (hd:d= .ok dn) {o:Option Operand} {n:Nat}
  (hn:fH ts d o= .ok n):gq (o.map ρ) dn n:=by
 cases o with
 |none=>rw[hd]at hn;cases hn;exact rfl
 |some x=>
  obtain⟨v,hv,hn⟩:=au.1 hn;obtain⟨k,rfl⟩:=uM hn;exact⟨k,by rw[hρ x _ hv];rfl⟩
theorem extract_mk (s:List UInt8) (l u:Nat):(⟨s.toArray⟩:ByteArray).extract l u=⟨((s.drop l).take (u - l)).toArray⟩:=by
 apply ByteArray.ext;simp_all
theorem JH (H:bH E h K w) {b c:Nat} {cap:gB} (hc:capLow h b cap= .ok c):c<=cap.val (E.cap b):=by
 cases cap with
 |lit n=>cases hc;exact Ad _
 | tail k=>
  obtain⟨⟨cs,e,sz,ext,bk⟩,h1,hc⟩:=au.1 hc;obtain⟨_,h2,hc⟩:=au.1 hc
  cases hc;have h2:=eD.1 h2;simp only[Ac]at h2;obtain⟨hx,hz⟩:=h2;have hz0:0<sz:=Nat.pos_of_ne_zero (by rintro rfl;simp_all);obtain⟨arr,fz,_,⟨rest,harr⟩,hsz,_⟩:=H.cells (iT h1);rw[Al hx]at hsz;have hl:=Aj List.length harr;simp at hl;have:cs.length / sz<=E.cap b:=by
   rw[Nat.div_le_iff_le_mul_add_pred hz0];have:cs.length<=E.cap b*sz:=by omega
   rw[Nat.mul_comm]at this;omega
  show cs.length / sz - k<=E.cap b - k
  omega
include ok
theorem Sk (H:bH E h K w) {ts:T AV} {ρ:Operand->Value} (hρ:∀x v,ev ts x= .ok v->ρ x=af E v) {t:TypeId} {x v:AV} {h':AH} {lo hi mx:Option Operand}
   (hs:jU tab ts h t x lo hi mx= .ok (v,h')):
   h'=h/\(Instr.sliceAt t (af E x) (lo.map ρ) (hi.map ρ) (mx.map ρ)).run P w= .ok (af E v) w:=by
 unfold jU at hs;obtain⟨d,hd,hs⟩:=au.1 hs;have hP:=ok.und t d (de.1 hd);split at hs
 . rename_i s _;obtain⟨_,hm,hs⟩:=au.1 hs;obtain⟨l,hl,hs⟩:=au.1 hs;obtain⟨u,hu,hs⟩:=au.1 hs;obtain⟨_,hb,hs⟩:=au.1 hs
   cases hs;have hm:=eD.1 hm
   cases mx with
   |some x=>grind
   | none=>
     have hb:=eD.1 hb;rw[Ac]at hb;have hb1:=Ak hb.1;have hb2:=Ak hb.2;refine⟨rfl,?_⟩;rw[run_sliceAt_string (P:=P) w t _ _ _ _ hP];unfold Instr.slice;simp only[Sem.run_bind,underlying,run_program,Result.andThen_ok,hP,Sem.run_pure,af,BP,DZ,Az,Bh,size_mk];rw[ue (l8 hρ rfl hl) (l8 hρ rfl hu) (show gq none s.length s.length from rfl) (.inl rfl) hb1 hb2 (Ad _)];simp[extract_mk]
 . rename_i e _;have hel:P.elem t=e:=by grind [Program.elem]
   obtain⟨n,hn,hs⟩:=au.1 hs;obtain⟨l,hl,hs⟩:=au.1 hs;obtain⟨u,hu,hs⟩:=au.1 hs;obtain⟨m,hm,hs⟩:=au.1 hs;obtain⟨_,hb,hs⟩:=au.1 hs
   cases hs;have hb:=eD.1 hb;simp only[Ac,BJ]at hb;have hb1:=Af hb.1.1.1;have hb2:=Af hb.1.1.2;have hb3:=Af hb.1.2;subst hb1 hb2 hb3;refine⟨rfl,?_⟩;have hmx:mx.map ρ=none\/ ∃v,hi.map ρ=some v:=by
     rcases hb.2 with h|h
     . simp_all
     . right;cases hi<;>simp_all
   rw[run_sliceAt_slice (P:=P) w t _ _ _ _ (by rw[hel];exact hP)];simp only[af];rw[run_slice_any (P:=P) w t none 0 0 (by rw[hel];exact hP),hel,
     ue (l8 hρ rfl hl) (l8 hρ rfl hu) (l8 hρ rfl hm) hmx (Ad _) (Ad _) (Ad _),Result.andThen_ok,kH ok hn]
   simp[sliced]
 . rename_i e b off len cap _;have hel:P.elem t=e:=by grind [Program.elem]
   obtain⟨c,hc,hs⟩:=au.1 hs;obtain⟨n,hn,hs⟩:=au.1 hs;obtain⟨l,hl,hs⟩:=au.1 hs;obtain⟨u,hu,hs⟩:=au.1 hs;have hcap:=JH H hc;have hgo:∀m,gq (mx.map ρ) (cap.val (E.cap b)) m->(mx.map ρ=none\/ ∃v,hi.map ρ=some v)->l<=u->u<=m->m<=cap.val (E.cap b)->
       (Instr.sliceAt t (af E (.sl b off len cap)) (lo.map ρ) (hi.map ρ) (mx.map ρ)).run P w=
        .ok (.slice (some ⟨E.aA b,if m=l then off else off+l*n,none⟩) (u - l) (m - l)) w:=by
     intro m hm hmx h1 h2 h3;rw[run_sliceAt_slice (P:=P) w t _ _ _ _ (by rw[hel];exact hP)];simp only[af];rw[run_slice_any (P:=P) w t _ _ _ (by rw[hel];exact hP),hel,
       ue (l8 hρ rfl hl) (l8 hρ rfl hu) hm hmx h1 h2 h3,Result.andThen_ok,kH ok hn,Result.andThen_ok]
     grind [sliced,add_lit]
   split at hs
   . obtain⟨m,hm,hs⟩:=au.1 hs;obtain⟨_,hb,hs⟩:=au.1 hs
     cases hs;have hb:=eD.1 hb;simp only[Ac]at hb;have hb1:=Ak hb.1.1.1;have hb2:=Ak hb.1.1.2;have hb3:=Ak hb.1.2;refine⟨rfl,?_⟩;have hm':gq (Option.map ρ (some ‹Operand›)) (cap.val (E.cap b)) m:=by
       have:=l8 hρ rfl hm;exact this
     rw[hgo m hm' (.inr (by cases hi<;>simp_all)) hb1 hb2 (by omega)];simp only[af,gB.val];by_cases e:m=l
     . simp[e]
     grind [Nat.eq_of_beq_eq_true]
   . cases cap with
     | lit m=>
       obtain⟨_,hb,hs⟩:=au.1 hs
       cases hs;have hb:=eD.1 hb;simp only[Ac]at hb;have hb1:=Ak hb.1;have hb2:=Ak hb.2;refine⟨rfl,?_⟩;rw[hgo m rfl (.inl rfl) hb1 hb2 (Ad _)];simp only[af,gB.val];simp_all
     | tail k=>
       obtain⟨_,hb,hs⟩:=au.1 hs;have hb:=eD.1 hb;simp only[Ac]at hb;have hb1:=Ak hb.1;have hb2:=Ak hb.2;have hcap':c<=E.cap b - k:=hcap;have hgo':=hgo (E.cap b - k) rfl (.inl rfl) hb1 (by omega) (Ad _);grind [Nat.eq_of_beq_eq_true,af,gB.val,Nat.blt,Nat.le_of_ble_eq_true,Nat.ble_eq_true_of_le]
 . rename_i e a c _;have hel:P.elem t=e:=by grind [Program.elem]
   obtain⟨n,hn,hs⟩:=au.1 hs;obtain⟨l,hl,hs⟩:=au.1 hs;obtain⟨u,hu,hs⟩:=au.1 hs;obtain⟨_,hb,hs⟩:=au.1 hs
   cases hs;have hb:=eD.1 hb;simp only[Ac]at hb;have hb1:=Af hb.1.1;have hb2:=Af hb.1.2;subst hb1 hb2;have hm:mx=none:=by cases mx<;>simp_all
   subst hm;refine⟨rfl,?_⟩;rw[run_sliceAt_slice (P:=P) w t _ _ _ _ (by rw[hel];exact hP)];simp only[af];rw[run_slice_any (P:=P) w t _ _ _ (by rw[hel];exact hP),hel,
     ue (l8 hρ rfl hl) (l8 hρ rfl hu) (show gq (Option.map ρ (none:Option Operand)) c c from rfl) (.inl rfl) (Ad _) (Au _) (Ad _),Result.andThen_ok,kH ok hn]
   cases a<;>simp[sliced,Addr.add]
 . rename_i e b off l0 n0 k _;have hel:P.elem t=e:=by grind [Program.elem]
   obtain⟨n,hn,hs⟩:=au.1 hs;obtain⟨l,hl,hs⟩:=au.1 hs;obtain⟨u,hu,hs⟩:=au.1 hs;obtain⟨_,hb,hs⟩:=au.1 hs
   cases hs;have hb:=eD.1 hb;simp only[Ac]at hb;have hb1:=Af hb.1.1;have hb2:=Af hb.1.2;subst hb1 hb2;have hm:mx=none:=by cases mx<;>simp_all
   subst hm;refine⟨rfl,?_⟩;rw[run_sliceAt_slice (P:=P) w t _ _ _ _ (by rw[hel];exact hP)];simp only[af];rw[run_slice_any (P:=P) w t _ _ _ (by rw[hel];exact hP),hel,
     ue (l8 hρ rfl hl) (l8 hρ rfl hu) (show gq (Option.map ρ (none:Option Operand)) (E.cap b - k - l0) (E.cap b - k - l0)from rfl) (.inl rfl) (Ad _) (Au _) (Ad _),Result.andThen_ok,kH ok hn]
   simp[sliced,Addr.add]
 grind
end
end
section
variable [Inhabited aF]
section
variable {P:Program} {tab:bm} (ok:bN P tab) {E:Env} {h:AH} {K:KS} {w:World}
theorem Io (E:Env) (s:List UInt8):bp E (ofBytes s)=s.map fun b=>Value.int .u8 b.toNat:=by
 simp only[ofBytes,pP,Dd];rfl
theorem uw {cs:List AV} {s:List UInt8} (hb:bytesOf cs= .ok s):
  ∃ns:List Int,bp E cs=ns.map (Value.int .u8)/\ns.map (fun n=>UInt8.ofNat n.toNat)=s:=by
 induction cs generalizing s with
 |nil=>simp only[bytesOf]at hb;simp_all
 |cons c cs ih=>
  unfold bytesOf at hb;split at hb
  . grind
  . rename_i n l e
    cases e;obtain⟨r,hr,hb⟩:=au.1 hb
    cases hb;obtain⟨ns,h1,h2⟩:=ih hr;exact⟨(n:Int)::ns,by simp[h1,af],by grind⟩
  grind
def ym:AV->Nat
 | .str s=>s.length
 |_=>0
theorem foldl_push (ns:List Int):∀(r:List UInt8),ns.foldl (fun(r:ByteArray) n=>r.push (UInt8.ofNat n.toNat)) ⟨r.toArray⟩=⟨(r++ns.map fun n=>UInt8.ofNat n.toNat).toArray⟩:=by
 induction ns with
 |nil=>grind
 |cons n ns ih=>
  simp_all
theorem Si (w:World) (arr:Array Value) (e:TypeId) (fz:Nat×Nat):(w.alloc (.cells arr e fz)).shape? w.heap.size=some (e,arr.size):=by
 grind [World.shape?,heap_alloc_new]
theorem Rv (w:World) (arr:Array Value) (e:TypeId) (n:Nat):
  (w.alloc (.cells arr e)).freeze {block:=w.heap.size,off:=n} 1=w.alloc (.cells arr e (n,n+1)):=by
 unfold World.freeze World.alloc;simp only[Nat.one_ne_zero,Bh];congr 1
 grind
include ok
theorem RE (H:bH E h K w) {src dst:TypeId} {x v:AV} {h':AH} (hc:convert tab h src dst x= .ok (v,h'))
   (hE:h.next<h'.next->E.aA h.next=w.heap.size/\E.cap h.next=grownCap w (ym x) 0 (P.elem dst)):
   (h.next<=h'.next/\h'.next<=h.next+1)/\ ∃w',(Go.convert src dst (af E x)).run P w= .ok (af E v) w'/\bH E h' K w'/\Kept K w w':=by
 unfold convert at hc;obtain⟨a,ha,hc⟩:=au.1 hc;obtain⟨b,hb,hc⟩:=au.1 hc;have hPa:=ok.und src a (de.1 ha);have hPb:=ok.und dst b (de.1 hb);split at hc
 . cases hc;refine⟨by omega,w,?_,H,Kept.refl K w⟩;simp only[af];unfold Go.convert;simp[underlying,hPa,hPb,Conv.intToInt]
 . cases hc;refine⟨by omega,w,?_,H,Kept.refl K w⟩;simp only[af];unfold Go.convert;simp[underlying,hPa,hPb]
 . rename_i e s _ _;obtain⟨d,hd,hc⟩:=au.1 hc;have hPe:=ok.und e d (de.1 hd);split at hc
   . obtain⟨n,hn,hc⟩:=au.1 hc;obtain⟨_,h1,hc⟩:=au.1 hc;obtain⟨⟨h2,b2⟩,hr,hc⟩:=au.1 hc
     cases hc;obtain⟨n',hn',rfl,rfl⟩:=jm hr;rw[hn]at hn';cases hn';have h1:=Af (eD.1 h1);subst h1;have hel:P.elem dst=e:=by grind [Program.elem]
     obtain⟨hE1,hE2⟩:=hE (by simp);rw[hel]at hE2;simp only[ym]at hE2;have hge:=grownCap_ge w s.length 0 e;have hrun:(Go.convert src dst (af E (.str s))).run P w= .ok (.slice (some ⟨w.heap.size,0,none⟩) s.length (grownCap w s.length 0 e))
         (w.drew.alloc (.cells ((s.map fun b=>Value.int .u8 b.toNat).toArray++Array.replicate (grownCap w s.length 0 e - s.length) (.int .u8 0)) e (grownCap w s.length 0 e,grownCap w s.length 0 e+1))):=by
       simp only[af];unfold Go.convert;have hq:(Question.appendCap s.length 0 e).cut (w.tape w.drawn (.appendCap s.length 0 e))=grownCap w s.length 0 e:=rfl;simp only[Sem.run_bind,underlying,run_program,Result.andThen_ok,hPa,hPb,hPe,Sem.run_pure,Conv.stringToBytes,run_choose,Question.forced,Az,Bh,qF,markStringish,run_shape,size_mk,hq,World.drew_eq,World.size_drew];grind [Si,World.size_drew,run_freeze,Result.andThen_ok,Rv]
     have hv:af E (.sl h.next 0 s.length (.tail 0))= .slice (some ⟨w.heap.size,0,none⟩) s.length (grownCap w s.length 0 e):=by
       grind [af,gB.val]
     rw[<-hv]at hrun;refine⟨by simp,_,hrun,H.drew.new (by simp_all) ?_,(Kept.drew K w).trans (Kept.alloc (by simpa using H.kb) _)⟩
     . refine⟨_,_,rfl,⟨_,by rw[Array.toList_append,List.toList_toArray,Io]⟩,?_,?_⟩
       all_goals grind [marks]
   grind
 . rename_i e _ hns;obtain⟨d,hd,hc⟩:=au.1 hc;have hPe:=ok.und e d (de.1 hd);split at hc
   . cases hc;refine⟨by omega,w,?_,H,Kept.refl K w⟩;simp only[af];rw[run_convert_bytes_string w src dst e _ _ _ hPa hPe hPb];simp[Conv.bytesToString];rfl
   . obtain⟨cs,hcs,hc⟩:=au.1 hc;obtain⟨s,hs,hc⟩:=au.1 hc
     cases hc;refine⟨by omega,w,?_,H,Kept.refl K w⟩;obtain⟨ns,h1,h2⟩:=uw (E:=E) hs;simp only[af];rw[run_convert_bytes_string w src dst e _ _ _ hPa hPe hPb,run_bytesToString w _ _ _ ns (by rw[<-h1];exact H.fJ hcs)];have:=foldl_push ns [];rw[show(⟨([]:List UInt8).toArray⟩:ByteArray)=ByteArray.empty from rfl]at this;rw[this,h2];rfl
   . cases hc;refine⟨by omega,w,?_,H,Kept.refl K w⟩;simp only[af];rw[run_convert_bytes_string w src dst e _ _ _ hPa hPe hPb];simp[Conv.bytesToString,loadCells,loadCellsFrom];rfl
   . cases hc;refine⟨by omega,w,?_,H,Kept.refl K w⟩;rename_i a _ _ _;simp only[af];rw[run_convert_bytes_string w src dst e _ _ _ hPa hPe hPb]
     cases a<;>simp[Conv.bytesToString,loadCells,loadCellsFrom]<;>rfl
   grind
 . rename_i e b off n c _ _;obtain⟨d,hd,hc⟩:=au.1 hc;have hPe:=ok.und e d (de.1 hd);split at hc
   . rename_i heq;obtain⟨⟨cs,e',sz,ext,bk⟩,hcs,hc⟩:=au.1 hc;obtain⟨_,hro,hc⟩:=au.1 hc
     cases hc;have hro:bk≠ .ro/\bk≠ .cold:=by grind [eD]
     have hcs:=iT hcs;have heq:=Af heq;subst heq
     cases hPa.symm.trans hPb;obtain⟨arr,fz,hh,hpre,hsz,hm⟩:=H.cells hcs;have hnr:¬(AO.cells cs e' sz ext bk).ro:=by cases bk<;>simp_all[AO.ro]
     have hfz:w.freeze {block:=E.aA b,off:=arr.size} 1=w.put (E.aA b) (.cells arr e' (arr.size,arr.size+1)):=by
       unfold World.freeze World.put;simp only[Nat.one_ne_zero,Bh];congr 1
       have he:=(Ab.1 hh).2;apply Array.ext
       . simp
       . intro j h1 h2;rw[Array.getElem_modify,Array.getElem_setIfInBounds (by grind)];by_cases ej:E.aA b=j
         . subst ej;simp only[BB,he]
           cases bk with
           |rw=>grind [marks]
           |mark=>grind [marks]
           |any=>grind [marks]
           |ro=>grind
           |cold=>grind
         grind
     refine⟨by simp,_,?_,H.put hcs hnr ⟨arr,(arr.size,arr.size+1),rfl,hpre,hsz,rfl⟩,H.dT hcs hnr _⟩;simp only[af];unfold Go.convert;have hshape:w.shape? (E.aA b)=some (e',arr.size):=by grind [World.shape?]
     simp only[Sem.run_bind,underlying,run_program,Result.andThen_ok,hPa,hPe,Sem.run_pure,Ec,markStringish,run_shape,hshape,run_freeze,hfz]
   grind
 grind
end
end
section
variable [Inhabited aF]
section
variable {P:Program} {tab:bm} (ok:bN P tab) {E:Env} {h:AH} {K:KS} {w:World}
theorem Ja {n m:Nat} {y:AV} {news:List AV} (hs:source h n y= .ok (m,news)):
  news.length=m*n/\(∀w:World,(Builtin.lenOf (af E y)).run P w= .ok m w)/\
  ∀w:World,bH E h K w->∀k,k<=m->(Builtin.firstCells n k (af E y)).run P w= .ok (bp E (news.take (k*n))).toArray w:=by
 cases y<;>simp only[source]at hs<;>(try cases hs)
 case str s=>
  obtain⟨_,h1,hsz⟩:=au.1 hs;have hs:=hsz;cases hs;have h1:=Af (eD.1 h1);subst h1;refine⟨by simp[ofBytes],fun w=>by simp[af,Builtin.lenOf,size_mk],fun w _ k hk=>?_⟩;grind [af,Builtin.firstCells,extract_mk,Sem.run_pure,ux,Io,List.map_take]
 case nils=>
  simp_all[af,Builtin.lenOf,Builtin.firstCells]
 case sl b off len cap=>
  obtain⟨cs,hcs,hsz⟩:=au.1 hs;have hs:=hsz;cases hs;obtain⟨cs0,e,sz,ext,bk,hc,hl,rfl⟩:=Lz hcs;refine⟨by grind,fun w=>by simp[af,Builtin.lenOf],fun w H k hk=>?_⟩;simp only[af,Builtin.firstCells];have hk':k*n<=m*n:=A9 _ hk;have hr:readN h b off (k*n)= .ok ((cs0.drop off).take (k*n)):=by
   grind [readN,lr,au,eD,Nat.ble_eq_true_of_le]
  rw[H.fJ hr];grind
 case emp b off l n' k'=>
  simp_all[af,Builtin.lenOf,Builtin.firstCells,loadCells,loadCellsFrom]
 case raw v=>
  have key:∃a c,v= .slice a 0 c/\m=0/\news=[]:=by
   grind
  obtain⟨a,c,rfl,rfl,rfl⟩:=key;refine⟨by simp,fun w=>by simp[af,Builtin.lenOf],fun w _ k hk=>?_⟩;have:k=0:=by omega
  subst this
  cases a<;>simp[af,Builtin.firstCells,loadCells,loadCellsFrom]
theorem RS {argTypes:Array TypeId} {t u ty e:TypeId} {du:TypeDesc} {i:TypeInfo} (h0:argTypes[0]? =some t) (h1:argTypes[1]? =some u)
  (ht:P.underlying t=some (.slice e)) (hu:P.underlying u=some du) (hnz:∀k,du≠ .int k) (hi:P.info? e=some i)
  {base:Option Addr} {sLen sCap m:Nat} {Y:Value} {news:Array Value} (hlen:(Builtin.lenOf Y).run P w= .ok m w)
  (hf:(Builtin.firstCells i.size m Y).run P w= .ok news w) (hroom:sLen+m<=sCap):
  (Builtin.append_ argTypes ty #[.slice base sLen sCap,Y]).run P w=
   (match base with
    |none=>(Result.ok () w:Result Unit)
    |some a=>(storeCells (a.add (sLen*i.size)) news.toList).run P w).andThen fun _ w'=> .ok (.slice base (sLen+m) sCap) w':=by
 unfold Builtin.append_;simp only[h0,h1,AJ,AQ,AZ];simp only[Sem.run_bind,underlying,run_program,Result.andThen_ok,ht,hu,Sem.run_pure,sizeOf,typeInfo,hi,Az,Bh,hlen,DR,BB,Al hroom,hf]
 cases base<;>simp[Result.andThen]
theorem RQ {argTypes:Array TypeId} {t u ty e:TypeId} {du:TypeDesc} {i:TypeInfo} {z:Value} (h0:argTypes[0]? =some t) (h1:argTypes[1]? =some u)
  (ht:P.underlying t=some (.slice e)) (hu:P.underlying u=some du) (hnz:∀k,du≠ .int k) (hi:P.info? e=some i) (hzero:i.zero=some z)
  {base:Option Addr} {sLen sCap m:Nat} {Y:Value} {olds news:Array Value} (hlen:(Builtin.lenOf Y).run P w= .ok m w)
  (hf:(Builtin.firstCells i.size m Y).run P w.drew= .ok news w.drew) (ho:(Builtin.firstCells i.size sLen (.slice base sLen sCap)).run P w.drew= .ok olds w.drew)
  (hroom:¬sLen+m<=sCap) (h63:sLen+m<=16777216) (hb:(sLen+m)*i.bytes<=16777216):
  (Builtin.append_ argTypes ty #[.slice base sLen sCap,Y]).run P w=
   .ok (.slice (some ⟨w.heap.size,0,none⟩) (sLen+m) (grownCap w (sLen+m) sCap e))
    (w.drew.alloc (.cells (olds++news++Builtin.zeroCells z.cells (grownCap w (sLen+m) sCap e - (sLen+m))) e)):=by
 have hfit:=growslice_fits (need:=sLen+m) (old:=sCap) (bytes:=i.bytes) (by omega) (by omega);have h63':¬(((sLen+m:Nat):Int)>IntKind.i64.max/\(False\/i.bytes=0)):=by
  have:IntKind.i64.max=9223372036854775807:=by decide
  rw[this];omega
 have hfit':¬(Builtin.nextslicecap (sLen+m) sCap*i.bytes>2 ^ 48):=by
  have:(2:Nat) ^ 48=281474976710656:=by decide
  rw[this];omega
 have hq:(Question.appendCap (sLen+m) sCap e).cut (w.tape w.drawn (.appendCap (sLen+m) sCap e))=grownCap w (sLen+m) sCap e:=rfl;unfold Builtin.append_;simp only[h0,h1,AJ,AQ,AZ];simp only[Sem.run_bind,underlying,run_program,Result.andThen_ok,ht,hu,Sem.run_pure,sizeOf,typeInfo,hi,Az,Bh,hlen,DR,BB,An hroom];rw[An (by omega)];simp only[Sem.run_bind,run_program,Result.andThen_ok,hi,Sem.run_pure];rw[An hfit'];simp only[Sem.run_bind,run_choose,Question.forced,Az,Bh,Result.andThen_ok,hq,World.drew_eq,run_askRoom,ho,hf,zeroValue,typeInfo,run_program,hi,hzero,Sem.run_pure,qF,World.size_drew]
theorem J9 (ok:bN P tab) {e:TypeId} {n:Nat} {u:Unit} (hz:mN tab e n= .ok u):
   ∃z,(∀E,∀i,P.info? e=some i->i.zero=some (af E z))/\ ∀E,(af E z).cells.size=n:=by
 obtain⟨z,h1,hzz⟩:=au.1 hz;have hz:=hzz;obtain⟨zc,h2,hzz⟩:=au.1 hz;have hz:=hzz;have h3:=Af (eD.1 hz);obtain⟨i,hi,hzz⟩:=ok.lV _ _ (de.1 h1);refine⟨z,fun E i' hi'=>?_,fun E=>?_⟩
 . rw[hi]at hi';grind
 simp_all[oN]
theorem Mk (H:bH E h K w) (hE:E.aA h.next=w.heap.size) (cs:List AV) (e:TypeId) (n c:Nat) {zs:Array Value} (hc:E.cap h.next=c)
  (hs:cs.length+zs.size=c*n):
  bH E (h.new (.cells cs e n true .rw)) K (w.alloc (.cells ((bp E cs).toArray++zs) e))/\Kept K w (w.alloc (.cells ((bp E cs).toArray++zs) e)):=
 ⟨H.new hE ⟨_,_,rfl,⟨zs.toList,by simp⟩,by simp_all,rfl⟩,Kept.alloc H.kb _⟩
theorem Xp (H:bH E h K w) (hE:E.aA h.next=w.heap.size) (cs:List AV) (e:TypeId) (n c:Nat) (bk:BK) (hno:bk≠ .ro) (hbk:∀n,marks bk (0,0) n) {zs:Array Value} (hc:E.cap h.next=c)
  (hs:cs.length+zs.size=c*n):
  bH E (h.new (.cells cs e n true bk)) K (w.alloc (.cells ((bp E cs).toArray++zs) e))/\Kept K w (w.alloc (.cells ((bp E cs).toArray++zs) e)):=
 ⟨H.new hE ⟨_,_,rfl,⟨zs.toList,by simp⟩,by simp_all,hbk _⟩ (by cases bk<;>simp_all[AO.ro]),Kept.alloc H.kb _⟩
def nQ (w:World) (X:Value) (m:Nat) (e:TypeId):Nat×Nat:=
 match X with
 | .slice base n c=>if n+m<=c then((base.map (·.block)).getD 0,c)else(w.heap.size,grownCap w (n+m) c e)
 |_=>(0,0)
structure kM (P:Program) (E:Env) (h:AH) (K:KS) (argTypes:Array TypeId) (ty e:TypeId) (i:TypeInfo) (Y:Value) (m:Nat) (news:List AV):Prop where
 len:news.length=m*i.size
 room:∀(w:World),bH E h K w->∀(base:Option Addr) (sLen sCap:Nat),sLen+m<=sCap->
  (Builtin.append_ argTypes ty #[.slice base sLen sCap,Y]).run P w=
   (match base with
    |none=>(Result.ok () w:Result Unit)
    |some a=>(storeCells (a.add (sLen*i.size)) (bp E news)).run P w).andThen fun _ w'=> .ok (.slice base (sLen+m) sCap) w'
 grow:∀(w:World),bH E h K w->∀(base:Option Addr) (sLen sCap:Nat) (olds:Array Value) (z:Value),i.zero=some z->
  (Builtin.firstCells i.size sLen (.slice base sLen sCap)).run P w.drew= .ok olds w.drew->
  ¬sLen+m<=sCap->sLen+m<=16777216->(sLen+m)*i.bytes<=16777216->
  (Builtin.append_ argTypes ty #[.slice base sLen sCap,Y]).run P w=
   .ok (.slice (some ⟨w.heap.size,0,none⟩) (sLen+m) (grownCap w (sLen+m) sCap e))
    (w.drew.alloc (.cells (olds++(bp E news).toArray++Builtin.zeroCells z.cells (grownCap w (sLen+m) sCap e - (sLen+m))) e))
theorem OG {argTypes:Array TypeId} {t u ty e:TypeId} {du:TypeDesc} {i:TypeInfo} (h0:argTypes[0]? =some t) (h1:argTypes[1]? =some u)
   (ht:P.underlying t=some (.slice e)) (hu:P.underlying u=some du) (hnz:∀k,du≠ .int k) (hi:P.info? e=some i) {n m:Nat} (hin:i.size=n)
   {y:AV} {news:List AV} (hs:source h n y= .ok (m,news)):kM P E h K argTypes ty e i (af E y) m news:=by
 obtain⟨hnl,hlen,hf⟩:=Ja (P:=P) (E:=E) (K:=K) hs;have hfm:∀w:World,bH E h K w->(Builtin.firstCells i.size m (af E y)).run P w= .ok (bp E news).toArray w:=by
   grind
 refine⟨by rw[hin];omega,?_,?_⟩
 . intro w H base sLen sCap hr;rw[RS h0 h1 ht hu hnz hi (hlen w) (hfm w H) hr]
 . intro w H base sLen sCap olds z hz ho hr h63 hb;exact RQ h0 h1 ht hu hnz hi hz (hlen w) (hfm w.drew H.drew) ho hr h63 hb
theorem OL {argTypes:Array TypeId} {t u ty e:TypeId} {k:IntKind} {i:TypeInfo} (h0:argTypes[0]? =some t) (h1:argTypes[1]? =some u)
   (ht:P.underlying t=some (.slice e)) (hu:P.underlying u=some (.int k)) (hi:P.info? e=some i) {z:AV} (hz:i.zero=some (af E z)) {zc:List AV} (hzc:z.cells= .ok zc)
   (hzl:zc.length=i.size) (hi0:i.size≠0) {y:AV} {m:Nat} (hy:asNat y= .ok m) (hm:m<=1048576) (hmb:m*i.bytes<=16777216):kM P E h K argTypes ty e i (af E y) m (rep m zc):=by
 obtain⟨ky,rfl⟩:=uM hy;have hzz:Builtin.zeroCells (af E z).cells m=(bp E (rep m zc)).toArray:=by
   rw[oN hzc,xh];exact IB m _ (by simp;omega)
 have hrl:(rep m zc).length=m*i.size:=by
   have:=Aj List.length (xh E m zc);rw[ct,zH,ct,hzl]at this;omega
 have hwrap:IntKind.i64.wrap (m:Int)=m:=by rw[IntKind.wrap_i64];omega
 have hb48:¬((m:Int)*(i.bytes:Int)>2 ^ 48):=by
   have h3:((m*i.bytes:Nat):Int)<=((16777216:Nat):Int):=Int.ofNat_le.2 hmb;rw[Int.natCast_mul]at h3;omega
 have happ:∀w:World,(if m*i.size=0 then pure #[]else do pure (Builtin.zeroCells (<-zeroValue e).cells m):Sem (Array Value)).run P w= .ok (bp E (rep m zc)).toArray w:=by
   simp_all[AL,zeroValue,typeInfo]
 refine⟨hrl,?_,?_⟩
 . intro w H base sLen sCap hr;unfold Builtin.append_;simp only[h0,h1,AJ,AQ,AZ];simp only[Sem.run_bind,underlying,run_program,Result.andThen_ok,ht,hu,Sem.run_pure,sizeOf,typeInfo,hi,BB,af,Go.asInt,Go.asIntOf,hwrap];rw[An (by omega)];simp only[Sem.run_bind,run_program,Result.andThen_ok,hi,Sem.run_pure];rw[An hb48];simp only[Sem.run_bind,Sem.run_pure,Result.andThen_ok,B6,Al hr,Dp,Az,Bh];have:=happ w;simp only[zeroValue,typeInfo]at this;simp only[zeroValue,typeInfo];rw[this]
   cases base<;>simp[Result.andThen]
 . intro w H base sLen sCap olds z' hz' ho hr h63 hb;rw[hz]at hz'
   cases hz';have hfit:=growslice_fits (need:=sLen+m) (old:=sCap) (bytes:=i.bytes) (by omega) (by omega);have h63':¬(((sLen+m:Nat):Int)>IntKind.i64.max/\(True\/i.bytes=0)):=by
    have:IntKind.i64.max=9223372036854775807:=by decide
    rw[this];omega
   have hfit':¬(Builtin.nextslicecap (sLen+m) sCap*i.bytes>2 ^ 48):=by
    have:(2:Nat) ^ 48=281474976710656:=by decide
    rw[this];omega
   have hq:(Question.appendCap (sLen+m) sCap e).cut (w.tape w.drawn (.appendCap (sLen+m) sCap e))=grownCap w (sLen+m) sCap e:=rfl;unfold Builtin.append_;simp only[h0,h1,AJ,AQ,AZ];simp only[Sem.run_bind,underlying,run_program,Result.andThen_ok,ht,hu,Sem.run_pure,sizeOf,typeInfo,hi,BB,af,Go.asInt,Go.asIntOf,hwrap];rw[An (by omega)];simp only[Sem.run_bind,run_program,Result.andThen_ok,hi,Sem.run_pure];rw[An hb48];simp only[Sem.run_bind,Sem.run_pure,Result.andThen_ok,B6,An hr,Dp,Az,Bh,run_program,hi];rw[An h63'];simp only[Sem.run_bind,run_program,Result.andThen_ok,hi,Sem.run_pure];rw[An hfit'];simp only[Sem.run_bind,run_choose,Question.forced,Az,Bh,Result.andThen_ok,hq,World.drew_eq,run_program,hi,Sem.run_pure,run_askRoom,ho];have:=happ w.drew;simp_all[zeroValue,typeInfo,qF]
include ok
theorem IC (H:bH E h K w) {argTypes:Array TypeId} {ty e:TypeId}
   {n by_ m:Nat} (hn:siz tab e= .ok n) (hn0:n≠0) (hby:tab.byt.get e=some by_)
   {x v:AV} {Y:Value} {news:List AV} {h':AH} (hsrc:∀i,P.info? e=some i->kM P E h K argTypes ty e i Y m news) (ha:bI tab h e n by_ x m news= .ok (v,h'))
   (hE:h.next<h'.next->E.aA h.next=(nQ w (af E x) m e).1/\E.cap h.next=(nQ w (af E x) m e).2):
   (h.next<=h'.next/\h'.next<=h.next+1)/\ ∃w',(Builtin.append_ argTypes ty #[af E x,Y]).run P w= .ok (af E v) w'/\bH E h' K w'/\Kept K w w':=by
 obtain⟨i,hi,hin⟩:=ok.siz _ _ (de.1 hn);obtain⟨i',hi',hiby⟩:=ok.byt _ _ hby;rw[hi]at hi';cases hi';have hS:=hsrc i hi;have hnl:news.length=m*n:=by rw[<-hin];exact hS.len
 unfold bI at ha;split at ha
 ·
   by_cases hm:Nat.beq m 0=true
   . rw[hm]at ha
     cases ha;have:=Af hm;subst this;refine⟨by omega,w,?_,H,Kept.refl K w⟩;simp only[af];rw[hS.room w H _ _ _ (by omega)];rfl
   . have hm':Nat.beq m 0=false:=Ao.2 hm;rw[hm']at ha;obtain⟨_,hc,haz⟩:=au.1 ha;have ha:=haz;obtain⟨_,hzo,haz⟩:=au.1 ha;have ha:=haz;obtain⟨⟨h2,b2⟩,hr,haz⟩:=au.1 ha;have ha:=haz;cases ha;obtain⟨n',hn',rfl,rfl⟩:=jm hr;rw[hn]at hn';cases hn';have hc:=eD.1 hc;rw[Ac]at hc;have hc1:=Ak hc.1;have hc2:=Ak hc.2;have hm0:¬m<=0:=fun h=>hm (by rw[Nat.le_zero.1 h];rfl)
     obtain⟨z,hz,hzl⟩:=J9 ok hzo;have hzi:=hz E i hi;obtain⟨hE1,hE2⟩:=hE (by simp);simp only[af,nQ,Ax,An hm0]at hE1 hE2;have hrun:=hS.grow w H none 0 0 #[] _ hzi
      (by simp[Builtin.firstCells]) (by omega) (by omega) (by rw[hiby];grind)
     obtain⟨H',hk⟩:=Mk (w:=w.drew) H.drew (by simp_all) news e n (grownCap w m 0 e) (zs:=Builtin.zeroCells (af E z).cells (grownCap w m 0 e - m))
      (by rw[hE2]) (by
        have:=grownCap_ge w m 0 e;rw[size_zeroCells,hzl E,hnl,<-Be];grind)
     refine⟨by simp,_,?_,H',(Kept.drew K w).trans hk⟩;grind [af,gB.val]
 . rename_i b off len cap;obtain⟨c,hc,haz⟩:=au.1 ha;clear ha;have ha:=haz;clear haz;obtain⟨⟨cs,e',sz,ext,bk⟩,hcs,haz⟩:=au.1 ha;clear ha;have ha:=haz;clear haz;obtain⟨_,hty,haz⟩:=au.1 ha;clear ha;have ha:=haz;clear haz;obtain⟨_,hsz,haz⟩:=au.1 ha;clear ha;have ha:=haz;have hcap:=JH H hc;have hcs:=iT hcs;have hty:=eD.1 hty;rw[Ac]at hty;have hty1:=Af hty.1;have hty2:=Af hty.2;subst hty1 hty2;have hsz:=eD.1 hsz;rw[Ac]at hsz;have hsz1:=Ak hsz.1;have hsz2:=Ak hsz.2;by_cases hroom:Nat.ble (len+m) c=true
   ·
     rw[hroom]at ha;obtain⟨h2,hw,haz⟩:=au.1 ha;have ha:=haz;cases ha;have hle:=Ak hroom;obtain⟨w',hst,H',hk⟩:=wK (P:=P) H hw;refine⟨by rw[wB hw];omega,w',?_,H',hk⟩;simp only[af];rw[hS.room w H _ _ _ (by omega)];simp_all[add_lit]
   . have hroom':Nat.ble (len+m) c=false:=Ao.2 hroom;rw[hroom']at ha;obtain⟨_,hold,haz⟩:=au.1 ha;clear ha;have ha:=haz;obtain⟨_,hzo,haz⟩:=au.1 ha;have ha:=haz;have hold:=Ak (eD.1 hold);obtain⟨z,hz,hzl⟩:=J9 ok hzo;have hzi:=hz E i hi;have hnr:¬len+m<=c:=fun h=>hroom (DK h)
     have hro:∀w:World,bH E h K w->(Builtin.firstCells i.size len (.slice (some ⟨E.aA b,off,none⟩) len (cap.val (E.cap b)))).run P w= .ok (bp E ((cs.drop off).take (len*sz))).toArray w:=by
      intro w H;rw[hin];have hr:readN h b off (len*sz)= .ok ((cs.drop off).take (len*sz)):=by
        grind [readN,au,eD]
      exact H.fJ hr
     have hol:((cs.drop off).take (len*sz)).length=len*sz:=by grind
     cases cap with
     |lit cn=>
      obtain⟨⟨h2,b2⟩,hr,haz⟩:=au.1 ha;have ha:=haz;cases ha;obtain⟨n',hn',rfl,rfl⟩:=jm hr;rw[hn]at hn';cases hn';have hcn:c=cn:=by grind [capLow]
      subst hcn;obtain⟨hE1,hE2⟩:=hE (by simp);simp only[af,nQ,gB.val,An hnr]at hE1 hE2;have hrun:=hS.grow w H (some ⟨E.aA b,off,none⟩) len c _ _ hzi
        (hro w.drew H.drew) hnr hsz2 (by rw[hiby];omega)
      obtain⟨H',hk⟩:=Mk (w:=w.drew) H.drew (by simp_all) ((cs.drop off).take (len*sz)++news) e sz (grownCap w (len+m) c e) (zs:=Builtin.zeroCells (af E z).cells (grownCap w (len+m) c e - (len+m)))
        (by rw[hE2]) (by
          have:=grownCap_ge w (len+m) c e;rw[size_zeroCells,hzl E,Bu,hol,hnl,<-Be,<-Be];grind)
      refine⟨by simp,_,?_,H',(Kept.drew K w).trans hk⟩;simp_all[af,gB.val]
     | tail k=>
      obtain⟨_,htl,haz⟩:=au.1 ha;have ha:=haz;obtain⟨⟨h2,b2⟩,hr,haz⟩:=au.1 ha;have ha:=haz;cases ha;obtain⟨n',hn',rfl,rfl⟩:=jm hr;rw[hn]at hn';cases hn';have htl:=eD.1 htl;simp only[Ac]at htl;obtain⟨⟨⟨⟨⟨htl1,htl2⟩,hext⟩,hbk⟩,hbk2⟩,hone⟩:=htl;have htl1:=Af htl1;have htl2:=Af htl2;subst htl1 htl2;have hbk:bk≠ .ro/\bk≠ .cold:=⟨by grind,by grind⟩;have hnro:¬(AO.cells cs e sz ext bk).ro:=by cases bk<;>simp_all[AO.ro]
      obtain⟨arr,fz,hh,⟨rest,harr⟩,hasz,hm⟩:=H.cells hcs;rw[Al hext]at hasz;have hcl:cs.length<=arr.size:=by
        have:=Aj List.length harr;simp at this;omega
      obtain⟨hE1,hE2⟩:=hE (by simp);simp only[af,nQ,gB.val,Nat.sub_zero]at hE1 hE2;by_cases hfit:len+m<=E.cap b
      . rw[Al hfit]at hE1 hE2;have hbound:(len+m)*sz<=arr.size:=by rw[hasz];simp_all[A9]
        rw[Be]at hbound;have hst:=zx (P:=P) (E.aA b) (len*sz) e fz (bp E news) 0 arr w hh (Jo hm hbk) (by simp_all)
          (by
            intro v hv;rw[pP]at hv;obtain⟨u,hu,rfl⟩:=Aw.1 hv;grind [Iy])
        have e1:(arr.toList.take (len*sz+0)++bp E news++arr.toList.drop (len*sz+0+(bp E news).length)).length=arr.size:=by
          simp;omega
        refine⟨by simp,_,?_,H.rename (c:= .cells (arr.toList.take (len*sz+0)++bp E news++arr.toList.drop (len*sz+0+(bp E news).length)).toArray e fz) hcs hnro hE1 ?_ (fun hx=>by cases bk<;>exact hx),H.dT hcs hnro _⟩
        . simp only[af,gB.val,Nat.sub_zero];rw[hS.room w H _ _ _ (by omega)];simp_all[add_lit]
        . refine⟨_,fz,rfl,⟨arr.toList.drop (len*sz+0+(bp E news).length),?_⟩,?_,?_⟩
          . simp_all[ux,Ef]
          . rw[Al rfl,Bj,e1,hE2];omega
          . rw[Bj,e1]
            cases bk with
            |rw=>exact hm
            |mark=>exact .inr hm
            |any=>exact hm
            |ro=>grind
            |cold=>grind
      . rw[An hfit]at hE1 hE2;have hrun:=hS.grow w H (some ⟨E.aA b,0,none⟩) len (E.cap b) _ _ hzi
          (by have:=hro w.drew H.drew;simpa [gB.val]using this) hfit hsz2 (by rw[hiby];omega)
        obtain⟨H',hk⟩:=Xp (w:=w.drew) (h:=h.kill b) (H.drew.kill b) (by simp_all) (cs.take (len*sz)++news) e sz (grownCap w (len+m) (E.cap b) e)
          bk.grown (by cases bk<;>simp[BK.grown]) (by cases bk<;>simp_all[marks,BK.grown])
          (zs:=Builtin.zeroCells (af E z).cells (grownCap w (len+m) (E.cap b) e - (len+m)))
          (by simp_all) (by
            have:=grownCap_ge w (len+m) (E.cap b) e;rw[size_zeroCells,hzl E,Bu,hnl,DH,Nat.min_eq_left (by omega),<-Be,<-Be];grind)
        refine⟨by simp,_,?_,H',(Kept.drew K w).trans hk⟩;simp_all[af,gB.val]
 grind
end
end
section
variable [Inhabited aF]
theorem put_same {w:World} {g:Nat} {o:Obj} (hg:w.heap[g]? =some o):w.put g o=w:=by
 unfold World.put;have hlt:=(Ab.1 hg).1;have he:=(Ab.1 hg).2;have:w.heap.setIfInBounds g o=w.heap:=by
  grind
 rw[this]
section
variable {P:Program} {tab:bm} (ok:bN P tab) {E:Env} {h:AH} {K:KS} {w:World}
theorem Kt {b:Nat} {es:List (AV×AV×Nat)} {c:Nat} (hm:vE h b= .ok (es,c)):h.get b=some (.mp es c):=by
 grind [vE]
theorem bH.map (H:bH E h K w) {b:Nat} {es:List (AV×AV×Nat)} {c:Nat} (hm:h.get b=some (.mp es c)):
  w.heap[E.aA b]? =some (.map (es.map (pZ E)).toArray c):=by
 obtain⟨o,h1,h2⟩:=H.obj b _ hm;rw[h1,h2]
theorem I6 {b c:Nat} {es:Array MapEntry} (hb:w.heap[b]? =some (.map es c)):(getObj b).run P w= .ok (.map es c) w:=by
 grind [getObj,Sem.run]
theorem Tu {b c:Nat} {es:Array MapEntry} (hb:w.heap[b]? =some (.map es c)) (o:Obj):(setObj b o).run P w= .ok () (w.put b o):=by
 grind [setObj,Sem.run,World.put]
include ok
theorem Re {t:TypeId} {k:AV}:∀(es:List (AV×AV×Nat)) (i:Nat) (r:Option (Nat×AV×AV×Nat)),findKey tab t k es i= .ok r->∀w,
  (Instr.findAsking t (af E k) (es.map (pZ E)) i).run P w= .ok (r.map fun x=>(x.1,af E x.2.2.1)) w:=by
 intro es;induction es with
 |nil=>intro i r hr w;cases hr;rfl
 |cons e es ih=>
  intro i r hr w;obtain⟨a,v,n⟩:=e;obtain⟨b,hb,hr⟩:=au.1 hr;have he:=qN ok (E:=E) 8 t _ _ b hb 9992 w;simp only[AW,Instr.findAsking,Sem.run_bind];have he':(Op.equal t (af E k) (pZ E (a,v,n)).key).run P w= .ok b w:=he;rw[he',Result.andThen_ok]
  cases b with
  |true=>cases hr;rfl
  |false=>grind
theorem Tv {t:TypeId} {d:TypeDesc} (hd:P.underlying t=some d) {k a:AV} {b:Bool} (hb:eqT tab 8 t k a= .ok b) {b':Bool}
   (hs:Instr.sameNow d (af E k) (af E a)=some b'):b'=b:=by
 have h1:=qN ok (E:=E) 8 t k a b hb 0 default;obtain⟨n,hn⟩:∃n,8+0=n+1:=⟨7,rfl⟩;rw[hn]at h1;generalize af E k=X at*
 generalize af E a=Y at*
 unfold Instr.sameNow at hs;split at hs
 . split at hs
   . cases hs;rename_i e;subst e;simp only[Op.equalIn,Sem.run_bind,underlying,run_program,Result.andThen_ok,hd,Sem.run_pure,BB]at h1;grind
   grind
 . cases hs;simp only[Op.equalIn,Sem.run_bind,underlying,run_program,Result.andThen_ok,hd,Sem.run_pure]at h1;grind
 . cases hs;simp only[Op.equalIn,Sem.run_bind,underlying,run_program,Result.andThen_ok,hd,Sem.run_pure]at h1;grind
 grind
theorem To {t:TypeId} {d:TypeDesc} (hd:P.underlying t=some d) {k:AV}:∀(es:List (AV×AV×Nat)) (i:Nat) (r:Option (Nat×AV×AV×Nat)),findKey tab t k es i= .ok r->∀r',
  Instr.findNow d (af E k) (es.map (pZ E)) i=some r'->r'=r.map fun x=>(x.1,af E x.2.2.1):=by
 intro es;induction es with
 |nil=>grind [findKey,Instr.findNow]
 |cons e es ih=>
  grind [findKey,au,Instr.findNow,pZ,Tv]
theorem uk {t:TypeId} {d:TypeDesc} (hd:P.underlying t=some d) {k:AV} {es:List (AV×AV×Nat)} {r:Option (Nat×AV×AV×Nat)} (hr:findKey tab t k es 0= .ok r) (w:World):
  (Instr.findKey t (af E k) (es.map (pZ E))).run P w= .ok (r.map fun x=>(x.1,af E x.2.2.1)) w:=by
 unfold Instr.findKey;simp only[Sem.run_bind,underlying,run_program,Result.andThen_ok,hd,Sem.run_pure]
 cases hn:Instr.findNow d (af E k) (es.map (pZ E)) 0 with
 |none=>grind [Re]
 |some r'=>rw[To ok hd es 0 r hr r' hn];rfl
theorem TV (H:bH E h K w) {t:TypeId} {m k v:AV} {c:Bool} (hl:lookup tab h t m k c= .ok v):
  (Instr.lookup t (af E m) (af E k) c).run P w= .ok (af E v) w:=by
 simp[lookup]at hl
theorem Il (H:bH E h K w) {t:TypeId} {m k x:AV} {h':AH} (hl:mapUpdate tab h t m k x= .ok h'):
  h'.next=h.next/\ ∃w',(Instr.mapUpdate t (af E m) (af E k) (af E x)).run P w= .ok () w'/\bH E h' K w'/\Kept K w w':=by
 simp[mapUpdate]at hl
theorem Rr (H:bH E h K w) {t:TypeId} {m k v:AV} {h':AH} (hl:mapEntry tab h t m k= .ok (v,h')):
  h'.next=h.next/\ ∃w',(Instr.mapEntry t (af E m) (af E k)).run P w= .ok (af E v) w'/\bH E h' K w'/\Kept K w w':=by
 simp[mapEntry]at hl
theorem Rb (H:bH E h K w) {t:TypeId} {m s x:AV} {h':AH} (hl:entryStore h m s x= .ok h'):
  h'.next=h.next/\ ∃w',(Instr.entryStore t (af E m) (af E s) (af E x)).run P w= .ok () w'/\bH E h' K w'/\Kept K w w':=by
 simp[entryStore]at hl
theorem Tj (H:bH E h K w) {argTypes:Array TypeId} {t ty:TypeId} (h0:argTypes[0]? =some t) {m k:AV} {h':AH} (hl:delete tab h t m k= .ok h'):
  h'.next=h.next/\ ∃w',(Builtin.delete_ argTypes ty #[af E m,af E k]).run P w= .ok (.tuple #[]) w'/\bH E h' K w'/\Kept K w w':=by
 simp[delete]at hl
theorem Sb (H:bH E h K w) {t:TypeId} {x v:AV} {h':AH} (hl:rangeOp tab h t x= .ok (v,h')) (hE:E.aA h.next=w.heap.size):
  h'.next=h.next+1/\ ∃w',(Instr.range t (af E x)).run P w= .ok (af E v) w'/\bH E h' K w'/\Kept K w w':=by
 simp[rangeOp]at hl
end
end
section
variable [Inhabited aF]
section
variable {P:Program} {tab:bm} (ok:bN P tab) {E:Env} {h:AH} {K:KS} {w:World}
theorem qO {ts:T AV} {ρ:Operand->Value} (hρ:∀x v,ev ts x= .ok v->ρ x=af E v):∀(l:List Operand) (vs:List AV),kt ts l= .ok vs->l.map ρ=bp E vs:=by
 intro l;induction l with
 |nil=>simp_all[kt]
 |cons x l ih=>
  intro vs h;obtain⟨v,hv,h⟩:=au.1 h;obtain⟨vs',hvs,h⟩:=au.1 h
  cases h;simp_all
theorem I3 {ts:T AV} {ρ:Operand->Value} (hρ:∀x v,ev ts x= .ok v->ρ x=af E v):∀(l:List (Nat×Operand)) (vs:List (Nat×AV)),l9 ts l= .ok vs->
  l.map (fun p=>(p.1,ρ p.2))=vs.map fun p=>(p.1,af E p.2):=by
 intro l;induction l with
 |nil=>grind [l9]
 |cons x l ih=>
  grind [l9,au]
theorem Sv (H:bH E h K w) {it v:AV} (he:entryOp h it= .ok v):(Instr.entry (af E it)).run P w= .ok (af E v) w:=by
 simp[entryOp]at he
theorem TX {k:IntKind}:∀(l:List AV) (x:Int) (v:AV),te k x l= .ok v->((bp E l).foldlM Builtin.min2 (.int k x)).run P w= .ok (af E v) w:=by
 intro l;induction l with
 |nil=>intro x v h;cases h;rfl
 |cons a l ih=>
  intro x v h
  cases a<;>simp only[te]at h<;>(try cases h)
  grind [bX,af,Builtin.min2]
theorem TW {k:IntKind}:∀(l:List AV) (x:Int) (v:AV),tb k x l= .ok v->((bp E l).foldlM Builtin.max2 (.int k x)).run P w= .ok (af E v) w:=by
 intro l;induction l with
 |nil=>intro x v h;cases h;rfl
 |cons a l ih=>
  intro x v h
  cases a<;>simp only[tb]at h<;>(try cases h)
  grind [bX,af,Builtin.max2]
theorem Rf (H:bH E h K w) {argTypes:Array TypeId} {type:TypeId} {x v:AV} {h':AH} (hs:sliceData h x= .ok (v,h')):
  h'=h/\(Builtin.unsafeSliceData_ argTypes type #[af E x]).run P w= .ok (af E v) w:=by
 simp[sliceData]at hs
include ok in
theorem QT (H:bH E h K w) {argTypes:Array TypeId} {t ty:TypeId} (h0:argTypes[0]? =some t) {x y v:AV} {h':AH} (hs:unsafeString tab h t x y= .ok (v,h')):
  h'.next=h.next/\ ∃w',(Builtin.unsafeString_ argTypes ty #[af E x,af E y]).run P w= .ok (af E v) w'/\bH E h' K w'/\Kept K w w':=by
 simp[unsafeString]at hs
def mr (P:Program) (w:World) (b:Builtin) (argTypes:Array TypeId) (X:Value) (m:Nat):Nat×Nat:=
 match b with
 | .append=>nQ w X m (P.elem (argTypes.getD 0 0))
 |_=>(w.heap.size,0)
def vp:List AV->Nat
 |[_, .str s]=>s.length
 |[_, .sl _ _ n _]=>n
 |[_, .int _ (.ofNat n)]=>n
 |_=>0
include ok
theorem RW (H:bH E h K w) {b:Builtin} {argTypes:Array TypeId} {args:List AV} {v:AV} {h':AH} (hb:builtin tab b argTypes args h= .ok (v,h'))
   (hE:h.next<h'.next->E.aA h.next=(mr P w b argTypes (((bp E args)[0]?).getD undef) (vp args)).1/\E.cap h.next=(mr P w b argTypes (((bp E args)[0]?).getD undef) (vp args)).2)
   (ty:TypeId) (consts:Array Bool):
   (h.next<=h'.next/\h'.next<=h.next+1)/\ ∃w',(Go.builtin b argTypes ty consts (bp E args).toArray).run P w= .ok (.value (af E v)) w'/\bH E h' K w'/\Kept K w w':=by
 unfold builtin at hb;split at hb
 ·
   rename_i x;obtain⟨t,ht,hb⟩:=au.1 hb;obtain⟨u,hu,hb⟩:=au.1 hb;have ht:=de.1 ht;have hP:=ok.und t u (de.1 hu);have hgo:∀(n:Nat),(Builtin.len_ argTypes ty (bp E [x]).toArray).run P w= .ok (Go.goInt n) w->
       (Go.builtin .len argTypes ty consts (bp E [x]).toArray).run P w= .ok (.value (af E (goInt n))) w:=by
     intro n hn;simp only[Go.builtin,Sem.run_bind,hn,Result.andThen_ok,Sem.run_pure];rfl
   split at hb
   . rename_i e;obtain⟨d,hd,hb⟩:=au.1 hb;have hPe:=ok.und e d (de.1 hd);split at hb
     . cases hb;refine⟨by omega,w,hgo _ ?_,H,Kept.refl K w⟩;unfold Builtin.len_;simp_all[underlying]
     grind
   . obtain⟨n,hn,hb⟩:=au.1 hb
     cases hb;refine⟨by omega,w,hgo _ ?_,H,Kept.refl K w⟩;unfold Builtin.len_;unfold lenOf at hn;split at hn<;>(try cases hn)
     case h_7=>
       obtain⟨⟨es,c⟩,hm,hn⟩:=au.1 hn
       cases hn;have hw:=H.map (Kt hm);simp[ht,underlying,hP,af,I6 hw]
     all_goals simp[ht,underlying,hP,af,size_mk]
 ·
   rename_i x;obtain⟨t,ht,hb⟩:=au.1 hb;obtain⟨u,hu,hb⟩:=au.1 hb;have ht:=de.1 ht;have hP:=ok.und t u (de.1 hu);split at hb
   . cases hb;refine⟨by omega,w,?_,H,Kept.refl K w⟩;simp[Go.builtin,Builtin.cap_,ht,underlying,hP,af,goInt,Go.goInt]
   . cases hb;refine⟨by omega,w,?_,H,Kept.refl K w⟩;simp[Go.builtin,Builtin.cap_,ht,underlying,hP,af,goInt,Go.goInt,gB.val]
   grind
 ·
   rename_i x y;obtain⟨t,ht,hb⟩:=au.1 hb;obtain⟨u,hu,hb⟩:=au.1 hb;have ht:=de.1 ht;have hu:=de.1 hu;obtain⟨du,hdu,hb⟩:=au.1 hb;have hPu:=ok.und u du (de.1 hdu);split at hb
   . rename_i ki _;obtain⟨dt,hdt,hb⟩:=au.1 hb;have hPt:=ok.und t dt (de.1 hdt);split at hb
     . rename_i e;unfold Jy at hb;obtain⟨n,hn,hb⟩:=au.1 hb;obtain⟨by_,hby,hb⟩:=au.1 hb;obtain⟨_,hnz,hb⟩:=au.1 hb;obtain⟨m,hm,hb⟩:=au.1 hb;obtain⟨_,hlim,hb⟩:=au.1 hb;obtain⟨z,hz,hb⟩:=au.1 hb;obtain⟨zc,hzc,hb⟩:=au.1 hb;obtain⟨_,hzl,hb⟩:=au.1 hb;have hnz:n≠0:=by
        have:=eD.1 hnz;rintro rfl;simp_all
       have hlim:=eD.1 hlim;rw[Ac]at hlim;have hl1:=Ak hlim.1;have hl2:=Ak hlim.2;have hzl:=Af (eD.1 hzl);obtain⟨i,hi,hin⟩:=ok.siz _ _ (de.1 hn);obtain⟨i',hi',hiby⟩:=ok.byt _ _ (de.1 hby);rw[hi]at hi';cases hi';obtain⟨i',hi',hzi⟩:=ok.lV _ _ (de.1 hz);rw[hi]at hi';cases hi';have hsl:vp [x,y]=m:=by
        obtain⟨k,rfl⟩:=uM hm;rfl
       have hel:P.elem (argTypes.getD 0 0)=e:=by
        have:argTypes.getD 0 0=t:=by
          rw[BL,ht];rfl
        rw[this];grind [Program.elem]
       have hE':h.next<h'.next->E.aA h.next=(nQ w (af E x) m e).1/\E.cap h.next=(nQ w (af E x) m e).2:=by
        grind [mr,bX]
       obtain⟨h1,w',h2,h3,h4⟩:=IC ok H (ty:=ty) (argTypes:=argTypes) (Y:=af E y) hn hnz (de.1 hby)
        (fun i' hi'=>by
          rw[hi]at hi';cases hi';exact OL ht hu hPt hPu hi (hzi E) hzc (by rw[hzl,hin]) (by rw[hin];omega) hm hl1 (by rw[hiby];omega)) hb hE'
       refine⟨h1,w',?_,h3,h4⟩;simp only[Go.builtin,Sem.run_bind];have:(bp E [x,y]).toArray=#[af E x,af E y]:=rfl;rw[this,h2];rfl
     grind
   . rename_i hni;obtain⟨dt,hdt,hb⟩:=au.1 hb;have hPt:=ok.und t dt (de.1 hdt);split at hb
     . rename_i e;obtain⟨n,hn,hb⟩:=au.1 hb;obtain⟨by_,hby,hb⟩:=au.1 hb;obtain⟨_,hnz,hb⟩:=au.1 hb;obtain⟨⟨m,news⟩,hs,hb⟩:=au.1 hb;have hnz:n≠0:=by
        have:=eD.1 hnz;rintro rfl;simp_all
       have hm:vp [x,y]=m:=by
        cases y<;>simp only[source]at hs<;>(try cases hs)<;>(try rfl)
        . obtain⟨_,_,hs⟩:=au.1 hs
          cases hs;rfl
        . obtain⟨_,_,hs⟩:=au.1 hs
          cases hs;rfl
        . split at hs<;>first|(rename_i hv;cases hv;cases hs;rfl)|(rename_i hv;cases hv;done)|grind|grind
       have hel:P.elem (argTypes.getD 0 0)=e:=by
        have:argTypes.getD 0 0=t:=by
          rw[BL,ht];rfl
        rw[this];grind [Program.elem]
       have hE':h.next<h'.next->E.aA h.next=(nQ w (af E x) m e).1/\E.cap h.next=(nQ w (af E x) m e).2:=by
        grind [mr,bX]
       obtain⟨h1,w',h2,h3,h4⟩:=IC ok H (ty:=ty) (argTypes:=argTypes) (Y:=af E y) hn hnz (de.1 hby)
        (fun i hi=>by
          obtain⟨i',hi',hin⟩:=ok.siz _ _ (de.1 hn);rw[hi]at hi';grind [OG]) hb hE'
       refine⟨h1,w',?_,h3,h4⟩;simp only[Go.builtin,Sem.run_bind];have:(bp E [x,y]).toArray=#[af E x,af E y]:=rfl;rw[this,h2];rfl
     grind
 ·
   rename_i x y;obtain⟨t,ht,hb⟩:=au.1 hb;obtain⟨u,hu,hb⟩:=au.1 hb;have ht:=de.1 ht;have hP:=ok.und t u (de.1 hu);split at hb
   . rename_i e;obtain⟨n,hn,hb⟩:=au.1 hb;obtain⟨⟨m,cs⟩,hs,hb⟩:=au.1 hb;obtain⟨hnl,hlen,hf⟩:=Ja (P:=P) (E:=E) (K:=K) hs;have hgo:∀(base:Option Addr) (dLen c:Nat),af E x= .slice base dLen c->(Builtin.copy_ argTypes ty (bp E [x,y]).toArray).run P w=
        ((match base with
          |none=>(Result.ok () w:Result Unit)
          |some a=>(storeCells a (bp E (cs.take (Nat.min m dLen*n)))).run P w).andThen fun _ w'=> .ok (Go.goInt (Nat.min m dLen)) w'):=by
       intro base dLen c hx;unfold Builtin.copy_;have h2:(bp E [x,y]).toArray=#[af E x,af E y]:=rfl;rw[h2];simp only[ht,AJ,AQ,AZ,Sem.run_bind,underlying,run_program,Result.andThen_ok,hP,Sem.run_pure,hx,hlen,kH ok hn,
        hf w H (Nat.min m dLen) (Nat.min_le_left _ _)]
       cases base<;>simp[Result.andThen]
     cases x with
     | nils=>
       simp only at hb
       cases hb;refine⟨by omega,w,?_,H,Kept.refl K w⟩;simp only[Go.builtin,Sem.run_bind];rw[hgo none 0 0 rfl];simp[Result.andThen,goInt,af,Go.goInt]
     | emp b off l n' k=>
       simp only at hb
       cases hb;refine⟨by omega,w,?_,H,Kept.refl K w⟩;simp only[Go.builtin,Sem.run_bind];rw[hgo _ 0 _ rfl];simp[Result.andThen,goInt,af,Go.goInt,storeCells]
     | sl b off len cap=>
       simp only at hb;obtain⟨h2,hw,hb⟩:=au.1 hb
       cases hb;obtain⟨w',hst,H',hk⟩:=wK (P:=P) H hw;refine⟨by rw[wB hw];omega,w',?_,H',hk⟩;simp only[Go.builtin,Sem.run_bind];rw[hgo _ len _ rfl];simp only[hst,Result.andThen_ok];rfl
     |_=>cases hb
   grind
 ·
   rename_i x;obtain⟨t,ht,hb⟩:=au.1 hb;obtain⟨u,hu,hb⟩:=au.1 hb;have ht:=de.1 ht;have hP:=ok.und t u (de.1 hu);have h2:(bp E [x]).toArray=#[af E x]:=rfl;split at hb
   . cases hb;simp_all[Kept.refl,Go.builtin,Builtin.clear_,underlying,af]
   . cases hb;simp_all[Kept.refl,Go.builtin,Builtin.clear_,underlying,af]
   . cases hb;simp_all[Kept.refl,Go.builtin,Builtin.clear_,underlying,af]
   . obtain⟨⟨es,c⟩,hm,hb⟩:=au.1 hb
     cases hb;have hm:=Kt hm;have hw:=H.map hm;have hnr:¬(AO.mp es c).ro:=fun h=>h
     refine⟨by simp,_,?_,H.put hm hnr (c:= .map #[] c) rfl,H.dT hm hnr _⟩;simp only[Go.builtin,Builtin.clear_,h2,ht,AJ,AQ,Sem.run_bind,underlying,run_program,Result.andThen_ok,hP,Sem.run_pure,af,I6 hw,Tu hw];rfl
   . rename_i e b off len cap _ _;obtain⟨z,hz,hb⟩:=au.1 hb;obtain⟨zc,hzc,hb⟩:=au.1 hb;obtain⟨h2',hw,hb⟩:=au.1 hb
     cases hb;obtain⟨w',hst,H',hk⟩:=wK (P:=P) H hw;refine⟨by rw[wB hw];omega,w',?_,H',hk⟩;have hzz:Builtin.zeroCells (af E z).cells len=(bp E (rep len zc)).toArray:=by
       rw[oN hzc,xh];grind [IB,zH,Builtin.zeroCells]
     simp only[Go.builtin,Builtin.clear_,h2,ht,AJ,AQ,Sem.run_bind,underlying,run_program,Result.andThen_ok,hP,Sem.run_pure,af];grind [rep,dv,storeCells,Sem.run_bind,uD,Result.andThen_ok,Sem.run_pure]
   grind
 ·
   rename_i m k;obtain⟨t,ht,hb⟩:=au.1 hb;obtain⟨h2,hd,hb⟩:=au.1 hb
   cases hb;obtain⟨h3,w',h4,h5,h6⟩:=Tj ok H (ty:=ty) (de.1 ht) hd;grind [bp,af,Go.builtin,Sem.run_bind,Result.andThen_ok,Sem.run_pure]
 ·
   obtain⟨h1,h2⟩:=Rf (P:=P) H (type:=ty) (argTypes:=argTypes) hb;subst h1;refine⟨by omega,w,?_,H,Kept.refl K w⟩;simp only[Go.builtin,Sem.run_bind];rw[show ∀x:AV,(bp E [x]).toArray=#[af E x]from fun _=>rfl,h2];rfl
 ·
   obtain⟨t,ht,hb⟩:=au.1 hb;obtain⟨h1,w',h2,h3,h4⟩:=QT ok H (ty:=ty) (de.1 ht) hb;refine⟨by omega,w',?_,h3,h4⟩;simp only[Go.builtin,Sem.run_bind];rw[show ∀x y:AV,(bp E [x,y]).toArray=#[af E x,af E y]from fun _ _=>rfl,h2];rfl
 ·
   obtain⟨v',hv,hb⟩:=au.1 hb;simp_all[Kept.refl,Go.builtin,Builtin.min_,af,TX]
 . obtain⟨v',hv,hb⟩:=au.1 hb;simp_all[Kept.refl,Go.builtin,Builtin.max_,af,TW]
 grind
end
end
section
variable [Inhabited aF]
section
variable {P:Program} {tab:bm} (ok:bN P tab) {E:Env} {h:AH} {K:KS} {w:World}
include ok
theorem Rn (H:bH E h K w) {src dst t:TypeId} (hs:P.underlying src=some (.pointer t)) (hd:P.underlying dst=some .unsafePointer) {x v:AV} {h':AH}
  (hc:convertTo tab h t x= .ok (v,h')):h'=h/\(Go.convert src dst (af E x)).run P w= .ok (af E v) w:=by
 simp[convertTo]at hc
theorem Q5 (H:bH E h K w) {src dst u:TypeId} (hs:P.underlying src=some .unsafePointer) (hd:P.underlying dst=some (.pointer u)) {x v:AV} {h':AH}
  (hc:convertFrom tab h u x= .ok (v,h')):h'=h/\(Go.convert src dst (af E x)).run P w= .ok (af E v) w:=by
 simp[convertFrom]at hc
theorem Ra (H:bH E h K w) {src dst:TypeId} {x v:AV} {h':AH} (hc:oK tab h src dst x= .ok (v,h'))
   (hE:h.next<h'.next->E.aA h.next=w.heap.size/\E.cap h.next=grownCap w (ym x) 0 (P.elem dst)):
   (h.next<=h'.next/\h'.next<=h.next+1)/\ ∃w',(Go.convert src dst (af E x)).run P w= .ok (af E v) w'/\bH E h' K w'/\Kept K w w':=by
 obtain⟨d,hd,hc1⟩:=au.1 hc;have hPd:=ok.und dst d (de.1 hd);split at hc1
 . obtain⟨s,hs,hc2⟩:=au.1 hc1;have hPs:=ok.und src s (de.1 hs);split at hc2
   . obtain⟨h1,h2⟩:=Rn ok H hPs hPd hc2;grind [Kept.refl]
   grind
 . obtain⟨s,hs,hc2⟩:=au.1 hc1;have hPs:=ok.und src s (de.1 hs);split at hc2
   . obtain⟨h1,h2⟩:=Q5 ok H hPs hPd hc2;grind [Kept.refl]
   grind
 . exact RE ok H hc1 hE
end
end
section
variable [Inhabited aF]
section
variable {P:Program} {tab:bm} (ok:bN P tab) {E:Env} {h:AH} {K:KS} {w:World}
theorem gS {ρ:Operand->Value} {o:Oper} {s:Sem Value} {a:Value} {w w':World} (hx:execOp ρ o=(do pure (.value (<-s)))) (hs:s.run P w= .ok a w'):
  (execOp ρ o).run P w= .ok (.value a) w':=by
 rw[hx];simp_all
theorem zt {ρ:Operand->Value} {o:Oper} {s:Sem Unit} {w w':World} (hx:execOp ρ o=(do s;pure .skip)) (hs:s.run P w= .ok () w'):
  (execOp ρ o).run P w= .ok .skip w':=by
 rw[hx];simp_all
def aP (P:Program) (s:Sem Next) (E:Env) (K:KS) (w:World) (v:AV) (h':AH):Prop:=
 ∃r w',s.run P w= .ok r w'/\Yields r (af E v)/\bH E h' K w'/\Kept K w w'
theorem aP.value {s:Sem Next} {v:AV} {h':AH} {w':World} (hs:s.run P w= .ok (.value (af E v)) w') (H:bH E h' K w') (hk:Kept K w w'):aP P s E K w v h':=
 ⟨_,w',hs, .inl rfl,H,hk⟩
theorem aP.same {s:Sem Next} {v:AV} (H:bH E h K w) (hs:s.run P w= .ok (.value (af E v)) w):aP P s E K w v h:=
 ⟨_,w,hs, .inl rfl,H,Kept.refl K w⟩
theorem yX {s:Sem Next} {h':AH} {w':World} (hs:s.run P w= .ok .skip w') (H:bH E h' K w') (hk:Kept K w w'):aP P s E K w (.bA []) h':=
 ⟨_,w',hs, .inr ⟨rfl,rfl⟩,H,hk⟩
theorem Jh (ok:bN P tab) {t:TypeId} {f:Nat} {fd:Field} (hf:u6 tab t f= .ok fd):∃fs,P.underlying t=some (.struct fs)/\fs[f]? =some fd:=by
 obtain⟨d,hd,hf⟩:=au.1 hf;have hP:=ok.und t d (de.1 hd);grind [de]
theorem ZQ {s:List UInt8} {i:Nat} {b:UInt8} (h:s[i]? =some b):(⟨s.toArray⟩:ByteArray)[i]? =some b:=by
 obtain⟨hlt,rfl⟩:=Ae.1 h;exact getElem?_pos (⟨s.toArray⟩:ByteArray) i (show i<(⟨s.toArray⟩:ByteArray).size from hlt)
def Good (P:Program) (o:Oper) (ts:T AV) (h:AH) (v:AV) (h':AH) (w:World) (ρ:Operand->Value):Prop:=
 ∃f:Nat×Nat,∀E K,bH E h K w->(∀x u,ev ts x= .ok u->ρ x=af E u)->
  (h.next<h'.next->E.aA h.next=f.1/\E.cap h.next=f.2)->(h.next<=h'.next/\h'.next<=h.next+1)/\aP P (execOp ρ o) E K w v h'
theorem Cs {e:TypeId} {cs:List AV} {ext:Bool} {bk:BK} {h':AH} {b:Nat} (hn:newRow tab h e cs ext bk= .ok (h',b)):h.next<h'.next:=by
 obtain⟨n,hs,rfl,rfl⟩:=jm hn;simp
theorem Rl {t:TypeId} {len:Nat} {ps:List (Nat×AV)} {v:AV} {h':AH} (hb:buildSlice tab h t len ps= .ok (v,h')):h.next<h'.next:=by
 obtain⟨u,hu,hb1⟩:=au.1 hb;split at hb1
 . obtain⟨n,_,hb2⟩:=au.1 hb1;obtain⟨_,_,hb3⟩:=au.1 hb2;obtain⟨_,_,hb4⟩:=au.1 hb3;obtain⟨_,_,hb5⟩:=au.1 hb4;obtain⟨_,_,hb6⟩:=au.1 hb5;obtain⟨_,_,hb7⟩:=au.1 hb6;obtain⟨⟨h1,b⟩,hn,hb8⟩:=au.1 hb7
   cases hb8;exact Cs hn
 grind
theorem Rq {t:TypeId} {l c v:AV} {h':AH} (hb:makeSlice tab h t l c= .ok (v,h')):h.next<h'.next:=by
 simp[makeSlice]at hb
theorem Uh {t:TypeId} {x v:AV} {h':AH} (hb:rangeOp tab h t x= .ok (v,h')):h.next<h'.next:=by
 simp[rangeOp]at hb
theorem IP (ok:bN P tab) {e:TypeId} {z:AV} {zc:List AV} (hzc:z.cells= .ok zc) {h1:AH} {b:Nat} (hn:newRow tab h e zc= .ok (h1,b)) (H:bH E h K w) (hE:E.aA h.next=w.heap.size):
  b=h.next/\h1.next=h.next+1/\(Go.newVar e (af E z)).run P w= .ok ⟨E.aA h.next,0,none⟩ (w.alloc (.cells (bp E zc).toArray e))/\bH E h1 K (w.alloc (.cells (bp E zc).toArray e))/\Kept K w (w.alloc (.cells (bp E zc).toArray e)):=by
 obtain⟨n,hs,rfl,rfl⟩:=jm hn;refine⟨rfl,rfl,?_,(Kc H hE zc e n).1,Kept.alloc H.kb _⟩;rw[Go.newVar,qF,oN hzc,hE]
set_option maxHeartbeats 1000000 in
include ok in
theorem Iz {ts:T AV} {o:Oper} {v:AV} {h':AH} (hp:fb tab ts h o= .ok (v,h')) (w:World) (ρ:Operand->Value):Good P o ts h v h' w ρ:=by
 unfold fb at hp
 cases hop:o.op<;>rw[hop]at hp<;>dsimp only at hp
 case move x=>
  obtain⟨u,hu,hp1⟩:=au.1 hp
  cases hp1;exact⟨(0,0),fun E K H hρ _=>⟨by omega,aP.same H (by simp_all[execOp])⟩⟩
 case assign x=>
  obtain⟨u,hu,hp1⟩:=au.1 hp
  cases hp1;exact⟨(0,0),fun E K H hρ _=>⟨by omega,aP.same H (by simp_all[execOp])⟩⟩
 case pick c a b=>
  obtain⟨u,hu,hp1⟩:=au.1 hp;refine⟨(0,0),fun E K H hρ _=>?_⟩;have hc:=hρ _ _ hu;split at hp1
  . obtain⟨x,hx,hp2⟩:=au.1 hp1
    cases hp2;exact⟨by omega,aP.same H (by simp_all[execOp,af,asBool])⟩
  . obtain⟨x,hx,hp2⟩:=au.1 hp1
    cases hp2;exact⟨by omega,aP.same H (by simp_all[execOp,af,asBool])⟩
  grind
 case alloc e=>
  obtain⟨z,hz,hp1⟩:=au.1 hp;obtain⟨zc,hzc,hp2⟩:=au.1 hp1;obtain⟨⟨h1,b⟩,hn,hp3⟩:=au.1 hp2
  cases hp3;refine⟨(w.heap.size,0),fun E K H hρ hE=>?_⟩;have hE1:E.aA h.next=w.heap.size:=(hE (Cs hn)).1;obtain⟨rfl,h2,h3,h4,h5⟩:=IP ok hzc hn H hE1;exact⟨by grind,aP.value (gS (s:=Instr.alloc e true (.tuple #[])) (by grind [execOp]) (by simp[Instr.alloc,uD ok hz E,h3,af])) h4 h5⟩
 case box e x=>
  obtain⟨z,hz,hp1⟩:=au.1 hp;obtain⟨zc,hzc,hp2⟩:=au.1 hp1;obtain⟨⟨h1,b⟩,hn,hp3⟩:=au.1 hp2
  cases hp3;refine⟨(w.heap.size,0),fun E K H hρ hE=>?_⟩;have hE1:E.aA h.next=w.heap.size:=(hE (Cs hn)).1;obtain⟨rfl,h2,h3,h4,h5⟩:=IP ok hzc hn H hE1;simp_all[aP.value,Instr.box,execOp,af]
 case build t ps=>
  obtain⟨l,hl,hp1⟩:=au.1 hp;obtain⟨u,hu,hp2⟩:=au.1 hp1
  cases hp2;refine⟨(0,0),fun E K H hρ _=>⟨by omega,aP.same H ?_⟩⟩;refine gS (s:=Instr.build t (ps.map fun(i,x)=>(i,ρ x))) (by grind [execOp]) ?_;have:=Tt ok (E:=E) (w:=w) hu;rw[<-I3 hρ _ _ hl]at this;rw[<-this];congr 2
  grind
 case buildSlice t n ps=>
  obtain⟨l,hl,hp1⟩:=au.1 hp;refine⟨(w.heap.size,0),fun E K H hρ hE=>?_⟩;obtain⟨h1,w',h2,h3,h4⟩:=Q9 ok H hp1 (hE (Rl hp1)).1;rw[<-I3 hρ _ _ hl]at h2;refine⟨by omega,aP.value (gS (s:=Instr.buildSlice t n (ps.map fun(i,x)=>(i,ρ x))) (by grind [execOp]) ?_) h3 h4⟩;rw[<-h2];congr 2
  grind
 case load t a=>
  obtain⟨x,hx,hp1⟩:=au.1 hp;split at hp1
  . obtain⟨u,hu,hp2⟩:=au.1 hp1
    cases hp2;refine⟨(0,0),fun E K H hρ _=>⟨by omega,aP.same H ?_⟩⟩;grind [gS,Instr.loadAt,execOp,af,Instr.sureAddr,IL]
  grind
 case store t a x=>
  obtain⟨y,hy,hp1⟩:=au.1 hp;split at hp1
  . obtain⟨u,hu,hp2⟩:=au.1 hp1;obtain⟨h1,hh,hp3⟩:=au.1 hp2
    cases hp3;refine⟨(0,0),fun E K H hρ _=>?_⟩;obtain⟨w',h2,h3,h4⟩:=RM ok H hh;refine⟨by have:=Rg (tab:=tab) hh;omega,yX (zt (s:=Instr.storeAt t (ρ a) (ρ x)) (by grind [execOp]) ?_) h3 h4⟩;grind [Instr.storeAt,af,Instr.sureAddr]
  grind
 case nilCheck x=>
  obtain⟨y,hy,hp1⟩:=au.1 hp;split at hp1
  . cases hp1;exact⟨(0,0),fun E K H hρ _=>⟨by omega,aP.same H (by simp_all[execOp,af])⟩⟩
  . cases hp1;exact⟨(0,0),fun E K H hρ _=>⟨by omega,aP.same H (by simp_all[execOp,af])⟩⟩
  grind
 case binOp op t x y yt=>
  obtain⟨a,ha,hp1⟩:=au.1 hp;obtain⟨b,hb,hp2⟩:=au.1 hp1;obtain⟨c,hc,hp3⟩:=au.1 hp2
  cases hp3;refine⟨(0,0),fun E K H hρ _=>⟨by omega,aP.same H ?_⟩⟩;have:=Ts ok H hc x y;grind [gS,execOp]
 case unOp op t x=>
  obtain⟨a,ha,hp1⟩:=au.1 hp;obtain⟨c,hc,hp3⟩:=au.1 hp1
  cases hp3;refine⟨(0,0),fun E K H hρ _=>⟨by omega,aP.same H ?_⟩⟩;grind [gS,execOp,Xh]
 case convert s d x=>
  obtain⟨a,ha,hp1⟩:=au.1 hp;refine⟨(w.heap.size,grownCap w (ym a) 0 (P.elem d)),fun E K H hρ hE=>?_⟩;obtain⟨h1,w',h2,h3,h4⟩:=Ra ok H hp1 hE;refine⟨h1,aP.value (gS (s:=Go.convert s d (ρ x)) (by grind [execOp]) ?_) h3 h4⟩;rw[hρ _ _ ha];exact h2
 case makeInterface t x=>
  obtain⟨d,hd,hp1⟩:=au.1 hp;have hP:=ok.und t d (de.1 hd);split at hp1
  . grind
  . rename_i hni;obtain⟨a,ha,hp2⟩:=au.1 hp1
    cases hp2;refine⟨(0,0),fun E K H hρ _=>⟨by omega,aP.same H ?_⟩⟩;refine gS (s:=Instr.makeInterface t (ρ x)) (by grind [execOp]) ?_;unfold Instr.makeInterface;simp only[Sem.run_bind,underlying,run_program,Result.andThen_ok,hP,Sem.run_pure]
    cases d<;>first|exact absurd rfl (hni _)|(rw[hρ _ _ ha];simp[af])
 case makeFunc fn fst cap=>
  split at hp
  . rename_i f;obtain⟨a,ha,hp1⟩:=au.1 hp;obtain⟨b,hb,hp2⟩:=au.1 hp1
    cases hp2;refine⟨(0,0),fun E K H hρ _=>⟨by omega,aP.same H ?_⟩⟩;refine gS (s:=Instr.makeFunc (.func f) (fst.map ρ) (cap.map ρ)) (by grind [execOp]) ?_;have h1:=qO hρ _ _ ha;have h2:=qO hρ _ _ hb;simp only[Instr.makeFunc,Sem.run_pure,af,<-h1,<-h2];congr 3<;>simp[<-Array.toList_inj]
  grind
 case makeMap t r=>
  cases r with
  |some x=>cases hp
  | none=>
    cases hp;refine⟨(w.heap.size,0),fun E K H hρ hE=>⟨by simp,?_⟩⟩;refine aP.value (w':=w.alloc (.map #[] 0)) (gS (s:=Instr.makeMap t none) (by grind [execOp]) ?_) (H.new (hE (by simp)).1 (by simp[pG])) (Kept.alloc H.kb _);simp_all[Instr.makeMap,af]
 case makeSlice t l c=>
  obtain⟨a,ha,hp1⟩:=au.1 hp;obtain⟨b,hb,hp2⟩:=au.1 hp1;refine⟨(w.heap.size,0),fun E K H hρ hE=>?_⟩;obtain⟨h1,w',h2,h3,h4⟩:=Rk ok H hp2 (hE (Rq hp2)).1;refine⟨by omega,aP.value (gS (s:=Instr.makeSlice t (ρ l) (ρ c)) (by grind [execOp]) ?_) h3 h4⟩;rw[hρ _ _ ha,hρ _ _ hb];exact h2
 case slice t x lo hi mx=>
  obtain⟨a,ha,hp1⟩:=au.1 hp;refine⟨(0,0),fun E K H hρ hE=>?_⟩;grind [Sk,aP.same,gS,execOp]
 case fieldAddr st x f=>
  obtain⟨fd,hf,hp1⟩:=au.1 hp;obtain⟨n,hn,hp2⟩:=au.1 hp1;obtain⟨_,hck,hp3⟩:=au.1 hp2;obtain⟨a,ha,hp4⟩:=au.1 hp3;obtain⟨fs,hP,hfd⟩:=Jh ok hf;have hn0:n≠0:=by
    intro e;simp_all[R.check]
  split at hp4
  . cases hp4;refine⟨(0,0),fun E K H hρ _=>⟨by omega,aP.same H ?_⟩⟩;refine gS (s:=Instr.fieldAt st (ρ x) f) (by grind [execOp]) ?_;unfold Instr.fieldAt;simp[underlying,hP,hfd,hρ _ _ ha,af,Instr.sureAddr,fieldPlace,kH ok hn,hn0,add_lit]
  grind
 case field t x f=>
  obtain⟨fd,hf,hp1⟩:=au.1 hp;obtain⟨a,ha,hp2⟩:=au.1 hp1;obtain⟨fs,hP,hfd⟩:=Jh ok hf;split at hp2
  . obtain⟨u,hu,hp3⟩:=au.1 hp2
    cases hp3;refine⟨(0,0),fun E K H hρ _=>⟨by omega,aP.same H ?_⟩⟩;refine gS (s:=Instr.field t (ρ x) f) (by grind [execOp]) ?_;unfold Instr.field;simp[underlying,hP,hfd,hρ _ _ ha,af,asAgg,xm ok hu E w]
  grind
 case indexAddr t x ix=>
  obtain⟨y,hy,hp0⟩:=au.1 hp;obtain⟨i,hi,hp1⟩:=au.1 hp0;obtain⟨d,hd,hp2⟩:=au.1 hp1;obtain⟨a,ha,hp3⟩:=au.1 hp2;have hP:=ok.und t d (de.1 hd);obtain⟨k,rfl⟩:=uM hi;split at hp3
  . obtain⟨_,hck,hp4⟩:=au.1 hp3;obtain⟨n,hn,hp5⟩:=au.1 hp4
    cases hp5;have hlt:=eD.1 hck;simp only[BT]at hlt;refine⟨(0,0),fun E K H hρ _=>⟨by omega,aP.same H ?_⟩⟩;refine gS (s:=Instr.indexAt t (ρ x) (ρ ix)) (by grind [execOp]) ?_;unfold Instr.indexAt;simp[underlying,hP,hρ _ _ ha,hρ _ _ hy,af,Go.asIntOf,Instr.sureAddr,kH ok hn,hlt,add_lit]
  . obtain⟨_,hck,hp4⟩:=au.1 hp3;obtain⟨n,hn,hp5⟩:=au.1 hp4
    cases hp5;have hlt:=eD.1 hck;simp only[BT]at hlt;refine⟨(0,0),fun E K H hρ _=>⟨by omega,aP.same H ?_⟩⟩;refine gS (s:=Instr.indexAt t (ρ x) (ρ ix)) (by grind [execOp]) ?_;unfold Instr.indexAt;simp[underlying,hP,hρ _ _ ha,hρ _ _ hy,af,Go.asIntOf,kH ok hn,hlt,add_lit]
  grind
 case index t x ix=>
  obtain⟨y,hy,hp0⟩:=au.1 hp;obtain⟨i,hi,hp1⟩:=au.1 hp0;obtain⟨d,hd,hp2⟩:=au.1 hp1;obtain⟨a,ha,hp3⟩:=au.1 hp2;have hP:=ok.und t d (de.1 hd);obtain⟨k,rfl⟩:=uM hi;split at hp3
  . obtain⟨_,hck,hp4⟩:=au.1 hp3;obtain⟨n,hn,hp5⟩:=au.1 hp4;obtain⟨u,hu,hp6⟩:=au.1 hp5
    cases hp6;have hlt:=eD.1 hck;simp only[BT]at hlt;refine⟨(0,0),fun E K H hρ _=>⟨by omega,aP.same H ?_⟩⟩;refine gS (s:=Instr.index t (ρ x) (ρ ix)) (by grind [execOp]) ?_;unfold Instr.index;simp[underlying,hP,hρ _ _ ha,hρ _ _ hy,af,Go.asIntOf,kH ok hn,hlt,xm ok hu E w]
  . obtain⟨b,hb,hp4⟩:=au.1 hp3
    cases hp4;have hb:=de.1 hb;refine⟨(0,0),fun E K H hρ _=>⟨by omega,aP.same H ?_⟩⟩;refine gS (s:=Instr.index t (ρ x) (ρ ix)) (by simp[execOp,hop]) ?_;unfold Instr.index;simp[underlying,hP,hρ _ _ ha,hρ _ _ hy,af,Go.asIntOf];rw[ZQ hb];rfl
  . cases hp3
 case lookup t m k c=>
  obtain⟨a,ha,hp1⟩:=au.1 hp;obtain⟨b,hb,hp2⟩:=au.1 hp1;obtain⟨u,hu,hp3⟩:=au.1 hp2
  cases hp3;refine⟨(0,0),fun E K H hρ _=>⟨by omega,aP.same H ?_⟩⟩;refine gS (s:=Instr.lookup t (ρ m) (ρ k) c) (by simp[execOp,hop]) ?_;rw[hρ _ _ ha,hρ _ _ hb];exact TV ok H hu
 case mapUpdate t m k x=>
  obtain⟨a,ha,hp1⟩:=au.1 hp;obtain⟨b,hb,hp2⟩:=au.1 hp1;obtain⟨c,hc,hp3⟩:=au.1 hp2;obtain⟨h1,hh,hp4⟩:=au.1 hp3
  cases hp4;refine⟨(0,0),fun E K H hρ _=>?_⟩;obtain⟨h2,w',h3,h4,h5⟩:=Il ok H hh;refine⟨by omega,yX (zt (s:=Instr.mapUpdate t (ρ m) (ρ k) (ρ x)) (by simp[execOp,hop]) ?_) h4 h5⟩;rw[hρ _ _ ha,hρ _ _ hb,hρ _ _ hc];exact h3
 case insert t m k x=>
  obtain⟨a,ha,hp1⟩:=au.1 hp;obtain⟨b,hb,hp2⟩:=au.1 hp1;obtain⟨c,hc,hp3⟩:=au.1 hp2;obtain⟨h1,hh,hp4⟩:=au.1 hp3
  cases hp4;refine⟨(0,0),fun E K H hρ _=>?_⟩;obtain⟨h2,w',h3,h4,h5⟩:=Il ok H hh;refine⟨by omega,yX (zt (s:=Instr.mapUpdate t (ρ m) (ρ k) (ρ x)) (by grind [execOp]) ?_) h4 h5⟩;rw[hρ _ _ ha,hρ _ _ hb,hρ _ _ hc];exact h3
 case mapEntry t m k=>
  obtain⟨a,ha,hp1⟩:=au.1 hp;obtain⟨b,hb,hp2⟩:=au.1 hp1;refine⟨(0,0),fun E K H hρ _=>?_⟩;obtain⟨h2,w',h3,h4,h5⟩:=Rr ok H hp2;refine⟨by omega,aP.value (gS (s:=Instr.mapEntry t (ρ m) (ρ k)) (by grind [execOp]) ?_) h4 h5⟩;rw[hρ _ _ ha,hρ _ _ hb];exact h3
 case entryStore t m s x=>
  obtain⟨a,ha,hp1⟩:=au.1 hp;obtain⟨b,hb,hp2⟩:=au.1 hp1;obtain⟨c,hc,hp3⟩:=au.1 hp2;obtain⟨h1,hh,hp4⟩:=au.1 hp3
  cases hp4;refine⟨(0,0),fun E K H hρ _=>?_⟩;obtain⟨h2,w',h3,h4,h5⟩:=Rb ok (t:=t) H hh;simp_all[yX,execOp]
 case range t x=>
  obtain⟨a,ha,hp1⟩:=au.1 hp;refine⟨(w.heap.size,0),fun E K H hρ hE=>?_⟩;obtain⟨h2,w',h3,h4,h5⟩:=Sb ok H hp1 (hE (Uh hp1)).1;refine⟨by omega,aP.value (gS (s:=Instr.range t (ρ x)) (by simp[execOp,hop]) ?_) h4 h5⟩;rw[hρ _ _ ha];exact h3
 case entry it=>
  obtain⟨a,ha,hp1⟩:=au.1 hp;obtain⟨u,hu,hp2⟩:=au.1 hp1
  cases hp2;refine⟨(0,0),fun E K H hρ _=>⟨by omega,aP.same H ?_⟩⟩;refine gS (s:=Instr.entry (ρ it)) (by simp[execOp,hop]) ?_;rw[hρ _ _ ha];exact Sv H hu
 case typeAssert x xt t c=>
  obtain⟨d,hd,hp1⟩:=au.1 hp;obtain⟨a,ha,hp2⟩:=au.1 hp1;have hP:=ok.und t d (de.1 hd);have hx:execOp ρ o=(do pure (.value (<-Instr.typeAssert (ρ x) xt t c))):=by simp[execOp,hop]
  split at hp2
  . grind
  . rename_i u v' hni;split at hp2
    . rename_i hut;subst hut
      cases hp2;refine⟨(0,0),fun E K H hρ _=>⟨by omega,aP.same H (gS hx ?_)⟩⟩;unfold Instr.typeAssert;rw[hρ _ _ ha];simp only[Sem.run_bind,underlying,run_program,Result.andThen_ok,hP,Sem.run_pure,af]
      cases d<;>first|exact absurd rfl (hni _)|(cases c<;>simp[af])
    . rename_i hut;obtain⟨_,hck,hp3⟩:=au.1 hp2;obtain⟨z,hz,hp4⟩:=au.1 hp3
      cases hp4;have hc:c=true:=eD.1 hck;subst hc;refine⟨(0,0),fun E K H hρ _=>⟨by omega,aP.same H (gS hx ?_)⟩⟩;unfold Instr.typeAssert;rw[hρ _ _ ha];simp only[Sem.run_bind,underlying,run_program,Result.andThen_ok,hP,Sem.run_pure,af]
      cases d<;>first|exact absurd rfl (hni _)|(simp[af,hut,uD ok hz E])
  . rename_i hni;obtain⟨_,hck,hp3⟩:=au.1 hp2;obtain⟨z,hz,hp4⟩:=au.1 hp3
    cases hp4;have hc:c=true:=eD.1 hck;subst hc;refine⟨(0,0),fun E K H hρ _=>⟨by omega,aP.same H (gS hx ?_)⟩⟩;unfold Instr.typeAssert;rw[hρ _ _ ha];simp only[Sem.run_bind,underlying,run_program,Result.andThen_ok,hP,Sem.run_pure,af]
    cases d<;>first|exact absurd rfl (hni _)|(simp[af,uD ok hz E])
  . cases hp2
 case extract t i=>
  obtain⟨a,ha,hp1⟩:=au.1 hp;split at hp1
  . obtain⟨u,hu,hp2⟩:=au.1 hp1
    cases hp2;have hu:=de.1 hu;refine⟨(0,0),fun E K H hρ _=>⟨by omega,aP.same H ?_⟩⟩;simp_all[Instr.extract,execOp,af,kI]
  . cases hp1
 case call c=>
  split at hp
  . rename_i b hb;obtain⟨l,hl,hp1⟩:=au.1 hp;refine⟨mr P w b c.argTypes (((c.args.toList.map ρ)[0]?).getD undef) (vp l),fun E K H hρ hE=>?_⟩;have hmap:=qO hρ _ _ hl;rw[hmap]at hE;obtain⟨h1,w',h2,h3,h4⟩:=RW ok H hp1 hE o.type (c.args.map fun| .const _=>true|_=>false);refine⟨h1,_,w',?_, .inl rfl,h3,h4⟩;rw[<-h2,<-hmap];have:(c.args.toList.map ρ).toArray=c.args.map ρ:=by simp[<-Array.toList_inj]
    rw[this];grind [execOp,resolve,invoke]
  . cases hp
 all_goals grind
end
end
end Go.Am
namespace Go.Am
section
def ag.enter (fn:Func) (f:FuncId) (body:Code) (args:List AV) (kind:CallKind):ag:=
 {fn:=f,nt:=Nat.max fn.ntmps args.length,tmps:=T.ofList args,todo:=[.code body],defers:=[],mode:= .run,kind,round:=none}
def ag.put (fr:ag) (d:Option Tmp) (v:AV):T AV:=
 match d with
 |some d=>bif Nat.blt d fr.nt then fr.tmps.set d (some v)else fr.tmps
 |none=>fr.tmps
def ag.finish (fr:ag) (v:AV):R ag:=
 match fr.todo with
 | .inRegion ops (i::rest)::k=> .ok {fr with tmps:=fr.put ((ops[i]?).bind (·.dst)) v,todo:= .inRegion ops rest::k}
 | .eW l::k=> .ok {fr with todo:= .endRange l::k}
 | .beginRound::k=> .ok {fr with todo:=k}
 |_=> .no "finish"
def ag.raise (fr:ag) (c:List wh):ag:=
 match fr.mode with
 | .panicking d=>{fr with mode:= .panicking (c++d)}
 |_=>{fr with mode:= .panicking c}
def exitTo (id:Nat):List bF->Option (List bF)
 | .inBlock j::k=>bif Nat.beq j id then some k else exitTo id k
 |_::k=>exitTo id k
 |[]=>none
inductive dV where
 |next (m:AM)
 |alts (l:List AM)
 |done (v:AV) (h:AH)
section
variable (tab:bm) (sub:FuncId->List AV->AH->R (List (AV×AH)))
def wanted (ops:Array Oper) (o:Oper) (ts:T AV):R Bool:=
 match o.guard with
 |none=> .ok true
 |some (j,w)=>
  match((ops[j]?).bind (·.dst)).bind ts.get with
  |some (.bool b)=> .ok (b==w)
  |some (.raw _)=> .no "guard"
  |_=> .ok false
def doReturn (fr:ag) (cs:List ag) (v:AV) (h:AH):R dV:=
 match cs with
 |[]=>
  match fr.kind with
  | .normal=> .ok (.done v h)
  |_=> .no "doReturn: end"
 | c::rest=>
  match fr.kind with
  | .normal=>do .ok (.next {fr:= <-c.finish v,cs:=rest,h})
  | .deferred=>
   match c.mode with
   | .panicking ({recovered:=true, .. }::_)=> .ok (.next {fr:={c with mode:= .returning},cs:=rest,h})
   |_=> .ok (.next {fr:=c,cs:=rest,h})
  |_=> .no "doReturn: kind"
def leave (fr:ag) (cs:List ag) (h:AH) (jump:Option Code):R dV:=
 match fr.round with
 |none=>
  match jump with
  |none=> .ok (.next {fr:={fr with mode:= .returning},cs,h})
  |some .ret=> .ok (.next {fr:={fr with mode:= .returning},cs,h})
  |_=> .no "leave"
 | some l=>
  match h.get l,cs with
  |some (.loop _ _ fn ts nt ps a b d),_::_=>
   doReturn fr cs (.bool jump.isNone) (h.set l (.loop (if jump.isNone then .ready else .done) jump fn ts nt ps a b d))
  |_,_=> .no "leave: loop"
def Fq (b:ByteArray) (c:UInt8):Int:=
 match(List.range b.size).find? fun i=>b[i]! ==c with
 |some i=>(i:Nat)
 |none=> -1
def extern (tag:Nat) (fn:Func) (args:List AV) (h:AH):R (AV×AH):=
 match tag,args with
 |1,[.str a, .str b]=> .ok (.int .i64 (Extern.BytealgCompare.cmp ⟨a.toArray⟩ ⟨b.toArray⟩),h)
 |2,[x]=> .ok (x,h)
 | 3,[.int .i64 (.ofNat n)]=>do
  let t<-R.of "MakeNoZero" fn.resultTypes[0]?
  match<-und tab t with
  | .slice e=>do
   let sz<-siz tab e
   R.check "MakeNoZero" (Nat.ble n 1048576&&Nat.beq sz 1)
   let (h',b)<-newRow tab h e [] true
   .ok (.sl b 0 n (.tail 0),h')
  |_=> .no "MakeNoZero"
 | 4,[x,y]=>do
  let t<-R.of "overlaps" fn.params[0]?
  match<-und tab t with
  | .slice e=>do
   let sz<-siz tab e
   R.check "overlaps: size" (!(Nat.beq sz 0))
   match x,y with
   | .nils, .nils=> .ok (.bool false,h)
   | .nils, .sl .. => .ok (.bool false,h)
   | .sl .., .nils=> .ok (.bool false,h)
   | .sl a i n _, .sl b j m _=>do
    match h.get a,h.get b with
    |some (.cells _ _ _ _ .rw),some (.cells _ _ _ _ .rw)=>
     bif Nat.beq n 0||Nat.beq m 0 then .ok (.bool false,h)
     else .ok (.bool (Nat.beq a b&&Nat.blt i (j+m*sz)&&Nat.blt j (i+n*sz)),h)
    |_,_=> .no "overlaps"
   |_,_=> .no "overlaps"
  |_=> .no "overlaps"
 |5,[.str a, .int .u8 c]=> .ok (.int .i64 (Fq ⟨a.toArray⟩ c.toNat.toUInt8),h)
 |6,[.str a, .int .u8 c]=> .ok (.int .i64 (a.count c.toNat.toUInt8:Nat),h)
 |_,_=> .no "extern"
def xC (f:FuncId) (fn:Func) (args:List AV) (h:AH):R (AV×AH):=
 match tab.ext.get f with
 |some tag=>extern tab tag fn args h
 |none=> .no "extern"
def callFn (fr:ag) (cs:List ag) (h:AH) (f:FuncId) (args:List AV) (kind:CallKind):R dV:=
 match tab.fns.get f with
 | some fn=>
  match fn.body with
  | some body=>
   bif tab.merge f&&kind== .normal then do
    let outs<-sub f args h
    let ms<-outs.mapM fun(v,h')=>do R.ok {fr:= <-fr.finish v,cs,h:=h':AM}
    .ok (.alts ms)
   else .ok (.next {fr:=ag.enter fn f body args kind,cs:=fr::cs,h})
  | none=>
   match kind with
   | .normal=>do
    let (v,h')<-xC tab f fn args h
    .ok (.next {fr:= <-fr.finish v,cs,h:=h'})
   |_=> .no "callFn: no body"
 |none=> .no "callFn: no function"
def callYield (fr:ag) (cs:List ag) (h:AH) (l:Nat) (args:List AV) (kind:CallKind):R dV:= .no "callYield"
def callTarget (fr:ag) (cs:List ag) (h:AH) (d:AD) (kind:CallKind):R dV:=
 match d.target with
 | .fn (.func f) captured=>callFn tab sub fr cs h f (d.args++captured) kind
 | .ml l=>callYield fr cs h l d.args kind
 |_=> .no "callTarget"
def qL (f:AV) (args:List AV):R AD:=
 match f with
 | .fn fn first captured=> .ok {target:= .fn fn captured,args:=first++args}
 | .ml l=> .ok {target:= .ml l,args}
 |_=> .no "resolve"
def tryRecover (fr:ag) (cs:List ag):R (Option (AV×List ag)):=
 match fr.kind,cs with
 | .deferred,c::rest=>
  match c.mode with
  | .panicking ({v,recovered:=false}::older)=> .ok (some (v,{c with mode:= .panicking ({v,recovered:=true}::older)}::rest))
  |_=> .ok none
 | .normal,_::_=> .ok none
 |_,_=> .no "recover"
def oper (fr:ag) (cs:List ag) (h:AH) (o:Oper):R dV:=do
 match o.op with
 | .call c=>do
  match c.callee with
  | .value f=>do
   let args<-kt fr.tmps c.args.toList
   let d<-qL (<-ev fr.tmps f) args
   callTarget tab sub fr cs h d .normal
  | .builtin .recover=>
   match fr.round with
   |none=>do
    match<-tryRecover fr cs with
    |some (v,cs')=>do .ok (.next {fr:= <-fr.finish v,cs:=cs',h})
    |none=>do .ok (.next {fr:= <-fr.finish .gN,cs,h})
   |some _=> .no "recover in a round"
  |_=>do
   let (v,h')<-fb tab fr.tmps h o
   .ok (.next {fr:= <-fr.finish v,cs,h:=h'})
 | .defer c=>do
  match c.callee,fr.round with
  | .value f,none=>do
   let args<-kt fr.tmps c.args.toList
   let d<-qL (<-ev fr.tmps f) args
   .ok (.next {fr:= <-ag.finish {fr with defers:=d::fr.defers} (.bA []),cs,h})
  |_,_=> .no "defer"
 | .panic x=>do
  match<-ev fr.tmps x with
  | .iface t v=> .ok (.next {fr:=fr.raise [{v:= .iface t v,recovered:=false}],cs,h})
  |_=> .no "panic"
 | .next it s=>do
  let l<-nextOp h (<-ev fr.tmps it) s
  let ms<-l.mapM fun(v,h')=>do R.ok {fr:= <-fr.finish v,cs,h:=h':AM}
  match ms with
  |[m]=> .ok (.next m)
  |ms=> .ok (.alts ms)
 |_=>do
  let (v,h')<-fb tab fr.tmps h o
  .ok (.next {fr:= <-fr.finish v,cs,h:=h'})
inductive qd where
 |pure|read|alloc|lk
deriving DecidableEq
def cls (tab:bm) (o:Oper):qd:=
 match o.op with
 | .move _| .assign _| .pick .. | .build .. | .unOp .. | .makeInterface .. | .makeFunc .. | .slice .. | .fieldAddr .. | .field .. | .indexAddr .. | .index .. | .extract .. | .nilCheck _| .typeAssert .. => .pure
 | .load .. | .lookup .. | .entry _| .binOp .. => .read
 | .convert a b _=>match tab.und.get a,tab.und.get b with
  |some (.int _),some (.int _)=> .pure
  |_,_=> .lk
 | .alloc _| .box .. | .buildSlice .. | .makeMap .. | .makeSlice .. => .alloc
 | .call c=>match c.callee with
  | .builtin .len=> .read
  | .builtin .cap| .builtin .min| .builtin .max=> .pure
  |_=> .lk
 |_=> .lk
structure DS where
 ts:T AV
 h:AH
 aM:T (List Nat)
 reads:List (Nat×T AV×AV)
 aC:List (Nat×Nat)
def iX (h:AH):List (Nat×Nat)->AH
 |[]=>h
 |(_,b)::l=>iX (h.kill b) l
def restore (h h0:AH):List (Nat×Nat)->AH
 |[]=>h
 |(_,b)::l=>restore {h with t:=h.t.set b (h0.get b)} h0 l
def cM (i:Nat) (l:List Nat):Bool:=l.any (Nat.beq i)
def iJ (o:Oper):List Nat:=(o.after.toList.filter (Region.binds .any)).map (·.on)
def ou (j:Nat) (l:List Nat):List Nat:=bif cM j l then l else j::l
def vu:List Nat->List Nat->List Nat
 |[],l=>l
 |j::m,l=>vu m (ou j l)
def yf (aM:T (List Nat)):List Nat->List Nat
 |[]=>[]
 |j::l=>ou j (vu ((aM.get j).getD []) (yf aM l))
def eO (aM:T (List Nat)) (o:Oper):List Nat:=yf aM (iJ o)
def isReady (aM:T (List Nat)) (i:Nat) (o:Oper):Bool:=(aM.get i).isNone&&(iJ o).all fun j=>(aM.get j).isSome
def looks (ops:Array Oper) (o:Oper):List Tmp:=
  (o.op.operands.toList.filterMap fun| .tmp t=>some t|_=>none)++
  (match o.guard with
   |some (g,_)=>((ops[g]?).bind (·.dst)).toList
   |none=>[])
def wT (aM:T (List Nat)) (t:Tmp) (pre:List Nat):Nat->List Oper->Bool
 |_,[]=>true
 |j,o::l=>(match o.dst with
  |some d=>bif Nat.beq d t&&(aM.get j).isSome then cM j pre else true
  |none=>true)&&wT aM t pre (j+1) l
def xI (aM:T (List Nat)) (ops:Array Oper) (i:Nat) (a:Tmp) (an:List Nat):Nat->List Oper->Bool
 |_,[]=>true
 |j,o::l=>(match o.dst with
  |some d=>bif Nat.beq d a then Nat.beq i j else true
  |none=>true)&&(bif (aM.get j).isSome then cM j an|| !(cM a (looks ops o))else true)&&xI aM ops i a an (j+1) l
def jH (aM:T (List Nat)) (ops:Array Oper) (i:Nat) (o:Oper):Bool:=
  (looks ops o).all (fun t=>wT aM t (iJ o) 0 ops.toList)&&
  (match o.dst with
   |some d=>xI aM ops i d (eO aM o) 0 ops.toList
   |none=>true)
def tC (ts:T AV) (h:AH) (o:Oper):R (AV×AH):=do
 match o.op with
 | .call c=>do
  match c.callee with
  | .value f=>do
   let args<-kt ts c.args.toList
   let d<-qL (<-ev ts f) args
   match d.target with
   | .fn (.func f) captured=>do
    match tab.fns.get f with
    | some fn=>
     match fn.body with
     |some _=>do
      match<-sub f (d.args++captured) h with
      |[(v,h')]=> .ok (v,h')
      |_=> .no "draw: more than one end"
     |none=>xC tab f fn (d.args++captured) h
    |none=> .no "draw: function"
   |_=> .no "draw: target"
  | .builtin .recover=> .no "draw: recover"
  |_=>fb tab ts h o
 | .defer _| .panic _| .next .. | .go _=> .no "draw: effect"
 |_=>fb tab ts h o
def iW (nt:Nat) (ts:T AV) (o:Oper) (v:AV):T AV:=
 match o.dst with
 |some d=>bif Nat.blt d nt then ts.set d (some v)else ts
 |none=>ts
def ur (ops:Array Oper) (nt:Nat) (i:Nat) (o:Oper) (s:DS):R (Option DS):=do
 R.check "draw: temporaries" (jH s.aM ops i o)
 let aM:=s.aM.set i (some (eO s.aM o))
 if !(<-wanted ops o s.ts)then .ok (some {s with ts:=iW nt s.ts o (.bA []),aM})
 else
  match cls tab o with
  | .lk=> .ok none
  | .alloc=>do
   let (v,h1)<-fb tab s.ts {t:= .e,next:=s.h.next} o
   R.check "draw: a block" (Nat.beq h1.next (s.h.next+1))
   let obj<-R.of "draw: block" (h1.get s.h.next)
   .ok (some {s with ts:=iW nt s.ts o v,h:=s.h.new obj,aM,aC:=(i,s.h.next)::s.aC})
  | c=>
   match(match c with| .pure=>fb tab s.ts {t:= .e,next:=0} o|_=> .no "read")with
   | .ok (v,h1)=>do
    R.check "draw: no block" (Nat.beq h1.next 0)
    .ok (some {s with ts:=iW nt s.ts o v,aM})
   | .no _=>
    match fb tab s.ts (iX s.h s.aC) o with
    | .ok (v,_)=> .ok (some {s with ts:=iW nt s.ts o v,aM,reads:=(i,s.ts,v)::s.reads})
    | .no _=> .ok none
def lv (ops:Array Oper) (nt:Nat):Nat->List Oper->DS->R DS
 |_,[],s=> .ok s
 | i,o::l,s=>
  bif isReady s.aM i o then do
   match<-ur tab ops nt i o s with
   |some s'=>lv ops nt (i+1) l s'
   |none=>lv ops nt (i+1) l s
  else lv ops nt (i+1) l s
def jP (aM:T (List Nat)):Nat->List Oper->List (Nat×Oper)
 |_,[]=>[]
 |i,o::l=>bif isReady aM i o then(i,o)::jP aM (i+1) l else jP aM (i+1) l
def reread (ops:Array Oper) (h:AH):List (Nat×T AV×AV)->R Unit
 |[]=> .ok ()
 |(i,ts,v)::l=>do
  let o<-R.of "reread" ops[i]?
  let (u,_)<-fb tab ts h o
  R.check "draw: a read behind an effect" (AV.beq u v)
  reread ops h l
def EW (ops:Array Oper) (nt:Nat) (i:Nat) (o:Oper) (s:DS):R DS:=do
 R.check "draw: temporaries" (jH s.aM ops i o)
 let b<-wanted ops o s.ts
 R.check "draw: not wanted" b
 let an:=eO s.aM o
 let hid:=s.aC.filter fun x=> !(cM x.1 an)
 let (v,h1)<-tC tab sub s.ts (iX s.h hid) o
 R.check "draw: next" (Nat.ble s.h.next h1.next)
 let h2:=restore h1 s.h hid
 let reads:=s.reads.filter fun x=> !(cM x.1 an)
 reread tab ops (iX h2 hid) reads
 .ok {ts:=iW nt s.ts o v,h:=h2,aM:=s.aM.set i (some an),reads,aC:=hid}
def uQ (ops:Array Oper) (nt:Nat):Nat->DS->R DS
 |0,_=> .no "draw: fuel"
 | n+1,s=>do
  let s1<-lv tab ops nt 0 ops.toList s
  match jP s1.aM 0 ops.toList with
  |[]=>do
   R.check "draw: not all" ((List.range ops.size).all fun i=>(s1.aM.get i).isSome)
   .ok s1
  |[(i,o)]=>do
   let s2<-EW tab sub ops nt i o s1
   uQ ops nt n s2
  |_=> .no "draw: two effects"
def qa:Nat->List Oper->Bool
 |_,[]=>true
 |i,o::l=>(iJ o).all (fun p=>Nat.blt p i)&&qa (i+1) l
def draw (ops:Array Oper) (nt:Nat) (ts:T AV) (h:AH):R (T AV×AH):=do
 R.check "draw: order" (qa 0 ops.toList)
 let s<-uQ tab sub ops nt (ops.size+1) {ts,h,aM:= .e,reads:=[],aC:=[]}
 .ok (s.ts,s.h)
def results (h:AH) (ts:T AV):List ResultVar->R (List AV)
 |[]=> .ok []
 | .tmp t::l=>do
  let vs<-results h ts l
  .ok ((ts.get t).getD (.bA [])::vs)
 | .cell a t::l=>do
  match ts.get a with
  |some (.ptr b off)=>do
   let v<-loadVar tab h t b off
   let vs<-results h ts l
   .ok (v::vs)
  |_=> .no "results"
def result (vs:List AV):AV:=
 match vs with
 |[v]=>v
 |vs=> .bA vs
def unwind (fr:ag) (cs:List ag) (h:AH):R dV:=
 match fr.defers with
 |{target:= .collected b, .. }::ds=>
  match h.get b with
  |some (.qo (some calls))=> .ok (.next {fr:={fr with defers:=calls++ds},cs,h:=h.set b (.qo none)})
  |_=> .no "unwind: collected"
 |d::ds=>callTarget tab sub {fr with defers:=ds} cs h d .deferred
 | []=>
  match fr.mode with
  | .run=> .no "unwind"
  | .panicking chain=>
   match cs with
   |c::rest=> .ok (.next {fr:=c.raise chain,cs:=rest,h})
   |[]=> .no "a panic at the end"
  | .returning=>
   match tab.fns.get fr.fn with
   |none=> .no "unwind: function"
   |some fn=>do
    let vs<-results tab h fr.tmps fn.results.toList
    doReturn fr cs (result vs) h
def step (m:AM):R dV:=
 let fr:=m.fr
 let cs:=m.cs
 let h:=m.h
 match fr.mode with
 | .run=>
  match fr.todo with
  |[]=>leave fr cs h none
  | .code .ret::_=>leave fr cs h (some .ret)
  | .code .skip::k=> .ok (.next {fr:={fr with todo:=k},cs,h})
  | .code (.label _)::k=> .ok (.next {fr:={fr with todo:=k},cs,h})
  | .inBlock _::k=> .ok (.next {fr:={fr with todo:=k},cs,h})
  | .inScope _::k=> .ok (.next {fr:={fr with todo:=k},cs,h})
  | .code (.seq a b)::k=> .ok (.next {fr:={fr with todo:= .code a:: .code b::k},cs,h})
  | .code (.cond c a b)::k=>do
   match<-ev fr.tmps c with
   | .bool true=> .ok (.next {fr:={fr with todo:= .code a::k},cs,h})
   | .bool false=> .ok (.next {fr:={fr with todo:= .code b::k},cs,h})
   |_=> .no "cond"
  | .code (.block id b)::k=> .ok (.next {fr:={fr with todo:= .code b:: .inBlock id::k},cs,h})
  | .code (.loop b)::k=> .ok (.next {fr:={fr with todo:= .code b:: .inLoop b::k},cs,h})
  | .inLoop b::k=> .ok (.next {fr:={fr with todo:= .code b:: .inLoop b::k},cs,h})
  | .code (.scope b)::k=> .ok (.next {fr:={fr with todo:= .code b:: .inScope b::k},cs,h})
  | .code (.exit id)::k=>
   match exitTo id k with
   |some k'=> .ok (.next {fr:={fr with todo:=k'},cs,h})
   |none=>leave fr cs h (some (.exit id))
  | .code (.rangeFunc _ _ _ _)::_=> .no "rangeFunc"
  | .endRange l::k=>
   match h.get l with
   |some (.loop st pending fn ts nt ps a b d)=>
    match st with
    | .busy=> .no "endRange: busy"
    |_=> .ok (.next {fr:={fr with todo:=(pending.map bF.code).toList++k},cs,h:=h.set l (.loop .exhausted pending fn ts nt ps a b d)})
   |_=> .no "endRange"
  | .beginRound::k=>
   match fr.round with
   |some l=>
    match h.get l with
    |some (.loop .ready pending fn ts nt ps a b d)=> .ok (.next {fr:={fr with todo:=k},cs,h:=h.set l (.loop .busy pending fn ts nt ps a b d)})
    |_=> .no "beginRound"
   |none=> .no "beginRound"
  | .code (.region _ ops false)::k=> .ok (.next {fr:={fr with todo:= .inRegion ops (List.range ops.size)::k},cs,h})
  | .code (.region _ ops true)::k=>do
   let (ts,h')<-draw tab sub ops fr.nt fr.tmps h
   .ok (.next {fr:={fr with tmps:=ts,todo:=k},cs,h:=h'})
  | .inRegion _ []::k=> .ok (.next {fr:={fr with todo:=k},cs,h})
  | .inRegion ops (i::_)::_=>
   match ops[i]? with
   |some o=>do
    if<-wanted ops o fr.tmps then oper tab sub fr cs h o
    else do .ok (.next {fr:= <-fr.finish (.bA []),cs,h})
   |none=> .no "region"
  |_=> .no "item"
 |_=>unwind tab sub fr cs h
end
mutual
def runs (tab:bm):Nat->List AM->R (List (AV×AH))
 |0,_=> .no "fuel"
 |_+1,[]=> .ok []
 |n+1,m::l=>do
  let a<-run tab n m
  let b<-runs tab n l
  .ok (a++b)
def run (tab:bm):Nat->AM->R (List (AV×AH))
 |0,_=> .no "fuel"
 | n+1,m=>
  match step tab (fun f args h=>match tab.fns.get f with
   |some fn=>match fn.body with
    |some body=>run tab n {fr:=ag.enter fn f body args .normal,cs:=[],h}
    |none=> .no "run: body"
   |none=> .no "run: function") m with
  | .no w=> .no w
  | .ok (.done v h)=> .ok [(v,h)]
  | .ok (.next m')=>run tab n m'
  | .ok (.alts l)=>runs tab n l
end
end
end Go.Am
namespace Go.Am
open Go.RowKit
section
variable [Inhabited aF]
def dJ (E:Env):bF->Item
 | .code c=> .code c
 | .inBlock id=> .inBlock id
 | .inLoop b=> .inLoop b
 | .inScope b=> .inScope b
 | .inRegion ops l=> .inRegion ops l
 | .eW l=> .inRangeFunc (E.aA l)
 | .endRange l=> .endRangeFunc (E.aA l)
 | .beginRound=> .beginRound
def pc (E:Env) (x:wh):PanicEntry:={v:=af E x.v,recovered:=x.recovered}
def fo (E:Env):pF->FrameMode
 | .run=> .run
 | .returning=> .returning
 | .panicking c=> .panicking (c.map (pc E))
def bq (E:Env) (fr:ag):Frame:=
 {fn:=fr.fn,tmps:=iD E fr.tmps fr.nt,todo:=fr.todo.map (dJ E),defers:=fr.defers.map (eu E),mode:=fo E fr.mode,kind:=fr.kind,roundOf:=fr.round.map E.aA}
def ag.WF (fr:ag):Prop:=∀t,fr.nt<=t->fr.tmps.get t=none
def ak (D:Nat->Prop) (E E':Env):Prop:=∀i,D i->E'.aA i=E.aA i/\E'.cap i=E.cap i
theorem ak.refl (D:Nat->Prop) (E:Env):ak D E E:=fun _ _=>⟨rfl,rfl⟩
theorem ak.trans {D D':Nat->Prop} {E E' E'':Env} (h:ak D E E') (h':ak D' E' E'') (hd:∀i,D i->D' i):ak D E E'':=
 fun i hi=>⟨(h' i (hd i hi)).1.trans (h i hi).1,(h' i (hd i hi)).2.trans (h i hi).2⟩
structure Rel (D:Nat->Prop) (E:Env) (K:KS) (m:AM) (base:List Frame) (fr:Frame) (cs:List Frame) (w:World):Prop where
 all:∀E',ak D E E'->bH E' m.h K w/\bq E' m.fr=fr/\m.cs.map (bq E')++base=cs
 ey:∀i,D i->i<m.h.next
 wf:m.fr.WF/\ ∀f∈m.cs,f.WF
def gH (P:Program) (lo:Nat) (M0:Machine) (D:Nat->Prop) (E:Env) (K:KS) (m':AM) (base:List Frame) (w:World):Prop:=
 ∃fr' cs' w' E' D',Steps P M0 (lone fr' cs' w')/\Rel D' E' K m' base fr' cs' w'/\ak D E E'/\(∀i,D i->D' i)/\Kept K w w'/\lo<=m'.h.next/\ ∀i,D' i->D i\/lo<=i
def Ends (P:Program) (lo:Nat) (M0:Machine) (D:Nat->Prop) (E:Env) (K:KS) (v:AV) (h:AH) (base:List Frame) (f:FuncId) (w:World):Prop:=
 ∃fr' w' v' E' D',Steps P M0 (lone fr' base w')/\fr'.fn=f/\fr'.leaving P w' (.returned v')/\(∀E'',ak D' E' E''->bH E'' h K w'/\af E'' v=v')/\
  ak D E E'/\(∀i,D i->D' i)/\(∀i,D' i->i<h.next)/\Kept K w w'/\lo<=h.next/\ ∀i,D' i->D i\/lo<=i
section
variable {P:Program} {D D1:Nat->Prop} {E E1:Env} {K:KS} {m:AM} {base:List Frame} {M0 M1:Machine} {w w1:World} {v:AV} {h:AH} {f:FuncId}
theorem gH.trans {lo lo1:Nat} (hs:Steps P M0 M1) (ha:ak D E E1) (hd:∀i,D i->D1 i) (hk:Kept K w w1) (hlo:lo<=lo1) (hnew:∀i,D1 i->D i\/lo<=i) (hg:gH P lo1 M1 D1 E1 K m base w1):gH P lo M0 D E K m base w:=by
 obtain⟨fr',cs',w',E',D',h1,h2,h3,h4,h5,h6,h7⟩:=hg;refine⟨fr',cs',w',E',D',hs.trans h1,h2,ha.trans h3 hd,fun i hi=>h4 i (hd i hi),hk.trans h5,Ar hlo h6,fun i hi=>?_⟩;grind
theorem Ends.trans {lo lo1:Nat} (hs:Steps P M0 M1) (ha:ak D E E1) (hd:∀i,D i->D1 i) (hk:Kept K w w1) (hlo:lo<=lo1) (hnew:∀i,D1 i->D i\/lo<=i) (hg:Ends P lo1 M1 D1 E1 K v h base f w1):Ends P lo M0 D E K v h base f w:=by
 obtain⟨fr',w',v',E',D',h1,h2,h3,h4,h5,h6,h7,h8,h9',h9⟩:=hg;refine⟨fr',w',v',E',D',hs.trans h1,h2,h3,h4,ha.trans h5 hd,fun i hi=>h6 i (hd i hi),h7,hk.trans h8,Ar hlo h9',fun i hi=>?_⟩;grind
end
theorem sQ {fr fr':Frame} {cs cs':List Frame} {w w':World} (h:lone fr cs w=lone fr' cs' w'):fr=fr'/\cs=cs'/\w=w':=by
 grind [lone]
def One (P:Program) (M0:Machine) (E:Env) (K:KS) (m':AM) (base:List Frame) (w:World):Prop:=
 ∃w',Go.step P M0= .next (lone (bq E m'.fr) (m'.cs.map (bq E)++base) w')/\bH E m'.h K w'/\Kept K w w'
section
variable {P:Program} {D:Nat->Prop} {E:Env} {K:KS} {m m':AM} {base:List Frame} {fr:Frame} {cs:List Frame} {w:World}
theorem Rel.oH (hR:Rel D E K m base fr cs w) (f:Nat->Nat×Nat):∃E1,ak D E E1/\ ∀i,m.h.next<=i->E1.aA i=(f i).1/\E1.cap i=(f i).2:=by
 refine⟨⟨fun i=>if i<m.h.next then E.aA i else(f i).1,fun i=>if i<m.h.next then E.cap i else(f i).2⟩,fun i hi=>?_,fun i hi=>?_⟩
 . have:=hR.ey i hi;grind
 grind
theorem Rel.one (hR:Rel D E K m base fr cs w) (M0:Machine)
   (f:Nat->Nat×Nat) (hn:m.h.next<=m'.h.next) (hwf:m'.fr.WF/\ ∀f∈m'.cs,f.WF)
   (h1:∀E',ak D E E'->bH E' m.h K w->bq E' m.fr=fr->m.cs.map (bq E')++base=cs->(∀i,m.h.next<=i->i<m'.h.next->E'.aA i=(f i).1/\E'.cap i=(f i).2)->One P M0 E' K m' base w):
   gH P m.h.next M0 D E K m' base w:=by
 obtain⟨E1,ha,hE⟩:=hR.oH f;let D1:Nat->Prop:=fun i=>D i\/(m.h.next<=i/\i<m'.h.next)
 have hE1:∀E',ak D1 E1 E'->One P M0 E' K m' base w:=by
   intro E' he;have hd:ak D E E':=ha.trans he (fun i hi=> .inl hi);obtain⟨g1,g2,g3⟩:=hR.all E' hd;refine h1 E' hd g1 g2 g3 (fun i hi hj=>?_);have h2:=he i (.inr ⟨hi,hj⟩);have h3:=hE i hi;omega
 obtain⟨w',s1,s2,s3⟩:=hE1 E1 (ak.refl _ _);refine⟨_,_,w',E1,D1, .one s1,⟨?_,?_,hwf⟩,ha,fun i hi=> .inl hi,s3,hn,fun i hi=>hi.elim .inl (fun h=> .inr h.1)⟩
 . intro E' he;obtain⟨w2,t1,t2,t3⟩:=hE1 E' he;rw[s1]at t1;grind [sQ]
 . intro i hi;rcases hi with hi|hi
   . have:=hR.ey i hi;omega
   omega
end
end
section
variable [Inhabited aF]
theorem CE (E:Env) (ts:T AV) (nt t:Nat) (hwf:∀t,nt<=t->ts.get t=none):(iD E ts nt).getD t undef=af E ((ts.get t).getD (.bA [])):=by
 unfold iD;by_cases ht:t<nt
 . simp[Array.getD,ht,vF]
 . simp[Array.getD,ht,hwf t (by omega)];rfl
theorem tmps_get? (E:Env) (ts:T AV) (nt t:Nat):(iD E ts nt)[t]? =if t<nt then some (af E ((ts.get t).getD (.bA [])))else none:=by
 grind [iD,vF]
theorem VH (E:Env) (ts:T AV) (nt:Nat):(iD E ts nt).size=nt:=by simp[iD]
def gO (ts:T AV) (nt:Nat) (d:Tmp) (v:AV):T AV:=bif Nat.blt d nt then ts.set d (some v)else ts
theorem CH (ts:T AV) (nt:Nat) (d:Tmp) (v:AV) (t:Nat):(gO ts nt d v).get t=if d<nt/\t=d then some v else ts.get t:=by
 unfold gO;by_cases h:d<nt
 . have:Nat.blt d nt=true:=by simp_all
   grind [T.aZ]
 . have:Nat.blt d nt=false:=by
    cases hb:Nat.blt d nt
    . rfl
    . exact absurd (by simp_all) h
   grind
theorem Xg (E:Env) (ts:T AV) (nt:Nat) (d:Tmp) (v:AV):(iD E ts nt).setIfInBounds d (af E v)=iD E (gO ts nt d v) nt:=by
 apply BX
 grind [tmps_get?,VH,CH]
theorem Zp {ts:T AV} {nt:Nat} (h:∀t,nt<=t->ts.get t=none) (d:Tmp) (v:AV):∀t,nt<=t->(gO ts nt d v).get t=none:=by
 grind [CH]
theorem pM {fr:ag} (hwf:fr.WF) (E:Env) {x:Operand} {u:AV} (h:ev fr.tmps x= .ok u):(bq E fr).eval x=af E u:=by
 cases x<;>simp only[ev]at h<;>(try cases h)
 . exact CE E fr.tmps fr.nt _ hwf
 all_goals simp_all[IF,Frame.eval,af]
theorem zw (fr:ag) (d:Option Tmp) (v:AV):fr.put d v=match d with|some d=>gO fr.tmps fr.nt d v|none=>fr.tmps:=by
 cases d<;>rfl
theorem lq {fr fr':ag} {v:AV} (h:fr.finish v= .ok fr') (E:Env):(bq E fr).finish (af E v)=bq E fr'/\(fr.WF->fr'.WF)/\fr'.fn=fr.fn:=by
 obtain⟨fn,nt,tmps,todo,defers,mode,kind,round⟩:=fr;unfold ag.finish at h;grind [zw,Frame.finish,bq,dJ,Xg,ag.WF,Zp]
def bot (fr:ag):List ag->FuncId
 |[]=>fr.fn
 |c::cs=>bot c cs
theorem il {fr fr':ag} (h:fr'.fn=fr.fn) (cs:List ag):bot fr' cs=bot fr cs:=by
 cases cs with
 |nil=>exact h
 |cons c cs=>rfl
theorem I4 (E:Env) (id:Nat):∀(k:List bF),Go.exitTo id (k.map (dJ E))=(exitTo id k).map (List.map (dJ E)):=by
 intro k;induction k with
 |nil=>rfl
 |cons x k ih=>
  cases x<;>simp only[AW,dJ,Go.exitTo,exitTo,ih]
  rename_i j;by_cases h:j=id
  . simp_all
  grind [Nat.eq_of_beq_eq_true]
section
variable {P:Program} {D:Nat->Prop} {E:Env} {K:KS} {m:AM} {base:List Frame} {fr:Frame} {cs:List Frame} {w:World}
theorem Rel.kq (hR:Rel D E K m base fr cs w) (fr':ag) (hwf:fr'.WF) (h:∀E' cs',Go.step P (lone (bq E' m.fr) cs' w)= .next (lone (bq E' fr') cs' w)):
  gH P m.h.next (lone fr cs w) D E K {fr:=fr',cs:=m.cs,h:=m.h} base w:=
 hR.one (m':={fr:=fr',cs:=m.cs,h:=m.h}) _ (fun _=>(0,0)) (Ad _) ⟨hwf,hR.wf.2⟩
  (fun E' _ H e1 e2 _=>⟨w,by rw[<-e1,<-e2];grind,H,Kept.refl K w⟩)
theorem zJ {fr:Frame} {cs:List Frame} {s:Sem Next} {r:Next} {x:Value} {w w':World} (hs:s.run P w= .ok r w') (hr:Yields r x):
  (stepG.apply P true fr cs none s w).bare= .go {frame:=fr.finish x,callers:=cs,status:= .running,dying:=none} w':=by
 rcases hr with rfl|⟨rfl,rfl⟩<;>simp[stepG.apply,hs]
theorem YM {fr:Frame} {cs:List Frame} {ops:Array Oper} {i:Nat} {rest:List Nat} {k:List Item} {o:Oper} (hm:fr.mode= .run) (ht:fr.todo= .inRegion ops (i::rest)::k)
  (ho:ops[i]? =some o) (hw:Region.wanted o (yielded ops fr.tmps)=true) (hd:fr.roundOf=none\/ ∀c,o.op≠ .defer c) (w:World):
  stepG P true {frame:=fr,callers:=cs,status:= .running,dying:=none} w=stepG.apply P true fr cs none (execOp fr.eval o) w:=by
 have:stepG P true {frame:=fr,callers:=cs,status:= .running,dying:=none} w=stepG.oper P true fr cs none w:=by
  grind [stepG,stepG.exec]
 rw[this];grind [stepG.oper,Frame.oper?]
end
end
section
variable [Inhabited aF]
theorem OV {α:Type}:∀(l:List α) (k:Nat) (t:T α) (j:Nat),(T.gx l k t).get j=if k<=j/\j<k+l.length then l[j - k]? else t.get j:=by
 intro l;induction l with
 |nil=>
  grind [T.gx]
 |cons x l ih=>
  grind [T.gx,T.aZ]
theorem lY {α:Type} (l:List α) (j:Nat):(T.ofList l).get j=l[j]? :=by
 unfold T.ofList;rw[OV];by_cases h:j<l.length
 . rw[Al (by omega)];simp
 . rw[An (by omega),BC (by omega)];rfl
theorem qI (fn:Func) (f:FuncId) (body:Code) (args:List AV) (kind:CallKind):(ag.enter fn f body args kind).WF:=by
 intro t ht;grind [ag.enter,lY]
theorem mH {P:Program} {fn:Func} {f:FuncId} {body:Code} (hf:P.funcs[f]? =some fn) (hb:fn.body=some body) (E:Env) (args:List AV) (kind:CallKind):
   Frame.enter P f (bp E args).toArray kind=bq E (ag.enter fn f body args kind):=by
 unfold Frame.enter ag.enter bq;simp only[hf,hb,DD,Bi,Bz,AW,D6,dJ,fo,BP];congr 1
 apply BX
 intro j;rw[tmps_get?,lY,Array.getElem?_append,Bj,ct,AJ,kI,Ex];by_cases h1:j<args.length
 . have h2:j<Nat.max fn.ntmps args.length:=AR h1 (Nat.le_max_right _ _);rw[Al h1,Al h2,Ag h1];simp
 . rw[An h1,BC (by omega:args.length<=j)];have:Nat.max fn.ntmps args.length=max fn.ntmps args.length:=rfl;rw[this];by_cases h2:j<fn.ntmps
   . rw[Al (by omega),Al (by omega)];rfl
   grind
theorem zR {ops:Array Oper} {o:Oper} {ts:T AV} {nt:Nat} (hwf:∀t,nt<=t->ts.get t=none) {b:Bool} (h:wanted ops o ts= .ok b) (E:Env):
  Region.wanted o (yielded ops (iD E ts nt))=b:=by
 unfold wanted at h;unfold Region.wanted
 cases hg:o.guard with
 |none=>rw[hg]at h;grind
 | some gw=>
  obtain⟨j,u⟩:=gw;rw[hg]at h;simp only at h⊢;unfold yielded
  cases hd:(ops[j]?).bind (·.dst)with
  |none=>
   rw[hd]at h;grind
  |some d=>
   rw[hd]at h;simp only[DD]at h⊢;rw[tmps_get?];by_cases hlt:d<nt
   . rw[Al hlt]
     cases hv:ts.get d with
     |none=>rw[hv]at h;cases h;rfl
     |some v=>
      rw[hv]at h
      cases v<;>simp only at h<;>first|(cases h;done)|(cases h;simp[af])
   grind
end
section
variable [Inhabited aF]
instance:LawfulMonad R:=LawfulMonad.mk'
 (id_map:=by intro α x;cases x<;>rfl)
 (pure_bind:=by intros;rfl)
 (bind_assoc:=by intro α β γ x f g;cases x<;>rfl)
theorem uJ {P:Program} {w:World} {r:Nat} {o:Obj} (h:w.heap[r]? =some o) (hn:∀c e f,o≠ .cells c e f):(getObj r).run P w= .ok o w:=by
 grind [getObj,Sem.run]
theorem mapM_mem {α β:Type} {g:α->R β}:∀{l:List α} {ms:List β},l.mapM g= .ok ms->∀x∈l,∃y∈ms,g x= .ok y:=by
 intro l;induction l with
 |nil=>grind
 |cons a l ih=>
  intro ms h x hx;rw[List.mapM_cons]at h;obtain⟨b,hb,h1⟩:=au.1 h;obtain⟨bs,hbs,h2⟩:=au.1 h1
  cases h2;grind
def Out (P:Program) (lo:Nat) (M0:Machine) (D:Nat->Prop) (E:Env) (K:KS) (b:FuncId) (base:List Frame) (w:World):dV->Prop
 | .next m'=>bot m'.fr m'.cs=b/\gH P lo M0 D E K m' base w
 | .alts l=>∃m'∈l,bot m'.fr m'.cs=b/\gH P lo M0 D E K m' base w
 | .done v h=>Ends P lo M0 D E K v h base b w
theorem Out.trans {P:Program} {D D1:Nat->Prop} {E E1:Env} {K:KS} {base:List Frame} {M0 M1:Machine} {w w1:World} {b:FuncId} {out:dV} {lo lo1:Nat}
  (hs:Steps P M0 M1) (ha:ak D E E1) (hd:∀i,D i->D1 i) (hk:Kept K w w1) (hlo:lo<=lo1) (hnew:∀i,D1 i->D i\/lo<=i) (hg:Out P lo1 M1 D1 E1 K b base w1 out):Out P lo M0 D E K b base w out:=by
 cases out with
 |next m'=>exact⟨hg.1,hg.2.trans hs ha hd hk hlo hnew⟩
 |alts l=>
  obtain⟨m',h1,h2,h3⟩:=hg;exact⟨m',h1,h2,h3.trans hs ha hd hk hlo hnew⟩
 |done v h=>exact Ends.trans hs ha hd hk hlo hnew hg
def lD (P:Program) (tab:bm) (sub:FuncId->List AV->AH->R (List (AV×AH))):Prop:=
 ∀f fn body args h outs,tab.fns.get f=some fn->fn.body=some body->sub f args h= .ok outs->∀(D:Nat->Prop) (E:Env) (K:KS) (w:World) (argsC:Array Value),
  (∀E',ak D E E'->bH E' h K w/\(bp E' args).toArray=argsC)->(∀i,D i->i<h.next)->∀cs,∃v h',(v,h')∈outs/\Ends P h.next (lone (Frame.enter P f argsC .normal) cs w) D E K v h' cs f w
def lC (P:Program) (tab:bm):Prop:=
 ∀f fn args h v h',tab.fns.get f=some fn->fn.body=none->xC tab f fn args h= .ok (v,h')->∀w,∃g:Nat×Nat,∀E K,bH E h K w->(h.next<h'.next->E.aA h.next=g.1/\E.cap h.next=g.2)->
  (h.next<=h'.next/\h'.next<=h.next+1)/\ ∃w',(callFunc f (bp E args).toArray).run P w= .ok (.value (af E v)) w'/\bH E h' K w'/\Kept K w w'
structure Ctx (P:Program) (M0:Machine) (frC:Frame) (csC:List Frame) (w:World) (kind:CallKind) (dC:Deferred):Prop where
 enter:∀f a w',(invoke dC.target dC.args).run P w= .ok (.enter f a) w'->Go.step P M0= .next (lone (Frame.enter P f a kind) (frC::csC) w')
 round:∀l f t a b w',(invoke dC.target dC.args).run P w= .ok (.round l f t a b) w'->Go.step P M0= .next (lone (Frame.round l f t a b kind) (frC::csC) w')
 value:∀v w',(invoke dC.target dC.args).run P w= .ok (.value v) w'->kind= .normal->Go.step P M0= .next (lone (frC.finish v) csC w')
section
variable {P:Program} {tab:bm} (ok:bN P tab) {sub:FuncId->List AV->AH->R (List (AV×AH))} (hsub:lD P tab sub) (hext:lC P tab)
variable {D:Nat->Prop} {E:Env} {K:KS} {base:List Frame} {frC:Frame} {csC:List Frame} {w:World}
include ok hsub hext in
theorem RC {fr:ag} {cs:List ag} {h:AH} {f:FuncId} {args:List AV} {kind:CallKind} {out:dV} (hc:callFn tab sub fr cs h f args kind= .ok out)
   (hR:Rel D E K {fr,cs,h} base frC csC w) (M0:Machine) {dC:Deferred} (hctx:Ctx P M0 frC csC w kind dC)
   (hinv:∀E',ak D E E'->invoke dC.target dC.args=callFunc f (bp E' args).toArray):Out P h.next M0 D E K (bot fr cs) base w out:=by
 unfold callFn at hc;split at hc
 . rename_i fn hfn;have hP:=ok.fns f fn hfn;have hn:fn.name≠ "runtime.NumGoroutine" :=by simpa using ok.wk f fn hfn
   split at hc
   . rename_i body hb;have hrun:∀a,(callFunc f a).run P w= .ok (.enter f a) w:=by
       simp_all[callFunc]
     have hstep:∀E',ak D E E'->Go.step P M0= .next (lone (Frame.enter P f (bp E' args).toArray kind) (frC::csC) w):=fun E' he=>
       hctx.enter _ _ _ (by rw[hinv E' he,hrun])
     by_cases hm:(tab.merge f&&kind== .normal)=true
     . simp only[hm,BZ]at hc;obtain⟨outs,ho,hc1⟩:=au.1 hc;obtain⟨ms,hms,hc2⟩:=au.1 hc1
       cases hc2;have hk:kind= .normal:=eq_of_beq ((Ac _ _▸hm).2:(kind== .normal)=true);subst hk;have hargs:∀E',ak D E E'->(bp E' args).toArray=(bp E args).toArray:=by
         grind [ak.refl]
       obtain⟨v,h',hmem,he⟩:=hsub f fn body args h outs hfn hb ho D E K w (bp E args).toArray (fun E' he=>⟨(hR.all E' he).1,hargs E' he⟩) hR.ey (frC::csC);obtain⟨fr',w',v',E',D',s1,s2,s3,s4,s5,s6,s7,s8,s9,s10⟩:=he;obtain⟨y,hy,hg⟩:=mapM_mem hms _ hmem;obtain⟨fr1,hfin,hg1⟩:=au.1 hg
       cases hg1;have hfc:=lq hfin;refine⟨_,hy,il (hfc E).2.2 cs,frC.finish v',csC,w',E',D',?_,⟨?_,s7,?_⟩,s5,s6,s8,s9,s10⟩
       . exact(Steps.head (hstep E (ak.refl _ _)) s1).trans (.one (step_leave_returned s3))
       . intro E'' he';obtain⟨g1,g2⟩:=s4 E'' he';obtain⟨k1,k2,k3⟩:=hR.all E'' (s5.trans he' s6);grind
       . exact⟨(hfc E).2.1 hR.wf.1,hR.wf.2⟩
     . have hm':(tab.merge f&&kind== .normal)=false:=by grind
       simp only[hm',Bf]at hc
       cases hc;refine⟨rfl,?_⟩;refine hR.one (m':={fr:=ag.enter fn f body args kind,cs:=fr::cs,h}) M0 (fun _=>(0,0)) (Ad _) ⟨qI _ _ _ _ _,?_⟩ ?_
       . intro g hg;rcases Ap.1 hg with rfl|hg
         . exact hR.wf.1
         . exact hR.wf.2 g hg
       . intro E' he H e1 e2 _;refine⟨w,?_,H,Kept.refl K w⟩;rw[hstep E' he,mH hP hb];grind
   . rename_i hb;split at hc
     . obtain⟨⟨v,h'⟩,hx,hc1⟩:=au.1 hc;obtain⟨fr1,hfin,hc2⟩:=au.1 hc1
       cases hc2;obtain⟨g,hg⟩:=hext f fn args h v h' hfn hb hx w;have hfc:=lq hfin;refine⟨il (hfc E).2.2 cs,?_⟩;obtain⟨E1,ha1,hE1⟩:=hR.oH (fun _=>g);have hn:=(hg E1 K (hR.all E1 ha1).1 (fun _=>hE1 h.next (Ad _))).1;refine hR.one (m':={fr:=fr1,cs,h:=h'}) M0 (fun _=>g) hn.1 ⟨(hfc E).2.1 hR.wf.1,hR.wf.2⟩ ?_;intro E' he H e1 e2 hE';obtain⟨_,w',s1,s2,s3⟩:=hg E' K H (fun hlt=>hE' h.next (Ad _) hlt);refine⟨w',?_,s2,s3⟩;rw[hctx.value (af E' v) w' (by rw[hinv E' he,s1]) rfl,<-e1,<-e2,(hfc E').1]
     grind
 grind
omit ok hsub hext in
theorem QZ {fr:ag} {cs:List ag} {h:AH} {l:Nat} {args:List AV} {kind:CallKind} {out:dV} (hc:callYield fr cs h l args kind= .ok out)
  (hR:Rel D E K {fr,cs,h} base frC csC w) (M0:Machine) {dC:Deferred} (hctx:Ctx P M0 frC csC w kind dC)
  (hinv:∀E',ak D E E'->invoke dC.target dC.args=Instr.yield (E'.aA l) (bp E' args).toArray):Out P h.next M0 D E K (bot fr cs) base w out:=by
 simp[callYield]at hc
include ok hsub hext in
theorem wm {fr:ag} {cs:List ag} {h:AH} {d:AD} {kind:CallKind} {out:dV} (hc:callTarget tab sub fr cs h d kind= .ok out)
  (hR:Rel D E K {fr,cs,h} base frC csC w) (M0:Machine) {dC:Deferred} (hctx:Ctx P M0 frC csC w kind dC) (hd:∀E',ak D E E'->eu E' d=dC):Out P h.next M0 D E K (bot fr cs) base w out:=by
 unfold callTarget at hc;grind [RC,eu,nZ,invoke,ee,QZ]
end
end
section
variable [Inhabited aF]
theorem xp {P:Program} {w:World} {r:Nat} {o:Obj} (h:w.heap[r]? =some o) (hn:∀c e f,o≠ .cells c e f) (o':Obj):(setObj r o').run P w= .ok () (w.put r o'):=by
 simp only[setObj,Sem.run,h];rfl
section
variable {P:Program} {h:AH}
theorem T7 {it:AV} {s:Bool} {l:List (AV×AH)} (hn:nextOp h it s= .ok l) (w:World) (ty:TypeId):
  ∃j:Nat,∀E K,bH E h K w->∃(v:AV) (h':AH),l[j]? =some (v,h')/\h'.next=h.next/\ ∃w',(Instr.next (af E it) s ty).run P w= .ok (af E v) w'/\bH E h' K w'/\Kept K w w':=by
 simp[nextOp]at hn
end
end
section
variable [Inhabited aF]
section
variable {P:Program} {tab:bm} (ok:bN P tab) {sub:FuncId->List AV->AH->R (List (AV×AH))} (hsub:lD P tab sub) (hext:lC P tab)
variable {D:Nat->Prop} {E:Env} {K:KS} {base:List Frame} {frC:Frame} {csC:List Frame} {w:World}
variable {fr:ag} {cs:List ag} {h:AH} {ops:Array Oper} {i:Nat} {rest:List Nat} {k:List bF} {o:Oper}
structure iZ (frC:Frame) (ops:Array Oper) (i:Nat) (rest:List Nat) (o:Oper):Prop where
 mode:frC.mode= .run
 todo:∃k,frC.todo= .inRegion ops (i::rest)::k
 op:ops[i]? =some o
 wanted:Region.wanted o (yielded ops frC.tmps)=true
theorem mq (hR:Rel D E K {fr,cs,h} base frC csC w) (hm:fr.mode= .run) (ht:fr.todo= .inRegion ops (i::rest)::k) (ho:ops[i]? =some o) (hw:wanted ops o fr.tmps= .ok true):iZ frC ops i rest o:=by
 obtain⟨_,e,_⟩:=hR.all E (ak.refl _ _);subst e;refine⟨by grind [bq,fo],⟨k.map (dJ E),by grind [bq,dJ]⟩,ho,?_⟩;exact zR hR.wf.1 hw E
theorem iZ.step (a:iZ frC ops i rest o) (hd:frC.roundOf=none\/ ∀c,o.op≠ .defer c) (csC:List Frame) (w:World):
  stepG P true {frame:=frC,callers:=csC,status:= .running,dying:=none} w=stepG.apply P true frC csC none (execOp frC.eval o) w:=by
 obtain⟨k,hk⟩:=a.todo;exact YM a.mode hk a.op a.wanted hd w
theorem iZ.value (a:iZ frC ops i rest o) (hd:frC.roundOf=none\/ ∀c,o.op≠ .defer c) (csC:List Frame) {w w':World} {r:Next} {x:Value} (hs:(execOp frC.eval o).run P w= .ok r w') (hr:Yields r x):
  Go.step P (lone frC csC w)= .next (lone (frC.finish x) csC w'):=
 step_lone_go (by rw[a.step hd,zJ hs hr])
theorem Kk {ts:T AV} {v:AV} {h':AH} (hp:fb tab ts h o= .ok (v,h')):∀c,o.op≠ .defer c:=by
 grind [fb]
include ok in
theorem U1 (hR:Rel D E K {fr,cs,h} base frC csC w) (a:iZ frC ops i rest o) {v:AV} {h':AH} (hp:fb tab fr.tmps h o= .ok (v,h')) {fr':ag} (hf:fr.finish v= .ok fr'):
  Out P h.next (lone frC csC w) D E K (bot fr cs) base w (.next {fr:=fr',cs,h:=h'}):=by
 obtain⟨f,hgood⟩:=Iz ok hp w frC.eval;have hfc:=lq hf;have hρ:∀E',ak D E E'->∀x u,ev fr.tmps x= .ok u->frC.eval x=af E' u:=by
  intro E' he x u hx;rw[<-(hR.all E' he).2.1];exact pM hR.wf.1 E' hx
 obtain⟨E1,ha1,hE1⟩:=hR.oH (fun _=>f);have hn:=(hgood E1 K (hR.all E1 ha1).1 (hρ E1 ha1) (fun _=>hE1 h.next (Ad _))).1;refine⟨il (hfc E).2.2 cs,?_⟩;refine hR.one (m':={fr:=fr',cs,h:=h'}) _ (fun _=>f) hn.1 ⟨(hfc E).2.1 hR.wf.1,hR.wf.2⟩ ?_;intro E' he H e1 e2 hE';obtain⟨_,r,w',s1,s2,s3,s4⟩:=hgood E' K H (hρ E' he) (fun hlt=>hE' h.next (Ad _) hlt);refine⟨w',?_,s3,s4⟩;rw[a.value (.inr (Kk hp)) csC s1 s2,<-e1,<-e2,(hfc E').1]
theorem si {u:AV} {args:List AV} {d:AD} (hd:qL u args= .ok d) (E:Env):Deferred.ofValue (af E u) (bp E args).toArray=pure (eu E d):=by
 unfold qL at hd;split at hd
 . cases hd;simp[Deferred.ofValue,af,eu,nZ]
 all_goals grind [Deferred.ofValue,af,eu,nZ]
theorem uo {f:Value} {a:Array Value} {d:AD} (h:∀E',ak D E E'->Deferred.ofValue f a=pure (eu E' d)):∀E',ak D E E'->eu E' d=eu E d:=by
 intro E' he;have h1:=h E' he;rw[h E (ak.refl _ _)]at h1;have h2:(pure (eu E d):Sem Deferred).run default default=(pure (eu E' d):Sem Deferred).run default default:=by rw[h1]
 simpa using h2.symm
theorem CC (a:iZ frC ops i rest o) (hd:frC.roundOf=none\/ ∀c,o.op≠ .defer c) {dC:Deferred} (hx:(execOp frC.eval o).run P w=(invoke dC.target dC.args).run P w):
   Ctx P (lone frC csC w) frC csC w .normal dC:=by
 obtain⟨k,hk⟩:=a.todo;refine⟨fun f x w' hr=>?_,fun l f t x b w' hr=>?_,fun v w' hr _=>?_⟩
 . refine step_lone_go ?_;rw[a.step hd];simp_all[stepG.apply]
 . refine step_lone_go ?_;rw[a.step hd];simp_all[stepG.apply]
 . exact a.value hd csC (by rw[hx,hr]) (.inl rfl)
theorem Q6 {r:Option (AV×List ag)} (hr:tryRecover fr cs= .ok r) (E:Env) (base:List Frame):
   Go.tryRecover (bq E fr) (cs.map (bq E)++base)=r.map (fun x=>(af E x.1,x.2.map (bq E)++base)):=by
 unfold tryRecover at hr;split at hr
 . rename_i _ c rest hk;have hk':(bq E fr).kind= .deferred:=hk;split at hr
   . grind [bq,pc,fo,Go.tryRecover]
   . cases hr;simp only[AW,BV,Go.tryRecover,hk',BP];split
     . rename_i heq;simp only[bq,fo]at heq;split at heq
       . grind
       . grind
       . rename_i chain hch
         cases chain with
         |nil=>grind
         |cons p older=>
          obtain⟨v',rc⟩:=p;simp_all[pc]
     . rfl
 all_goals grind [bq,Go.tryRecover]
theorem Rw {v:AV} {cs':List ag} (hr:tryRecover fr cs= .ok (some (v,cs'))):(∀f∈cs,f.WF)->(∀f∈cs',f.WF)/\(∀fr',fr'.fn=fr.fn->bot fr' cs'=bot fr cs):=by
 intro hwf;unfold tryRecover at hr;split at hr
 . rename_i _ c rest hk;split at hr
   . cases hr;refine⟨fun f hf=>?_,fun fr' hf=>?_⟩
     . rcases Ap.1 hf with rfl|hf
       . exact hwf c Aq
       grind
     grind [bot,il]
   grind
 all_goals grind
include ok hsub hext in
theorem Ub {out:dV} (hop:oper tab sub fr cs h o= .ok out) (hR:Rel D E K {fr,cs,h} base frC csC w) (hm:fr.mode= .run) (ht:fr.todo= .inRegion ops (i::rest)::k)
   (ho:ops[i]? =some o) (hw:wanted ops o fr.tmps= .ok true):Out P h.next (lone frC csC w) D E K (bot fr cs) base w out:=by
 have a:=mq hR hm ht ho hw;have hρ:∀E',ak D E E'->∀x u,ev fr.tmps x= .ok u->frC.eval x=af E' u:=by
   intro E' he x u hx;rw[<-(hR.all E' he).2.1];exact pM hR.wf.1 E' hx
 have hpure:∀{out:dV},(do let (v,h')<-fb tab fr.tmps h o;R.ok (dV.next {fr:= <-fr.finish v,cs,h:=h'}):R dV)= .ok out->Out P h.next (lone frC csC w) D E K (bot fr cs) base w out:=by
   grind [au,U1]
 unfold oper at hop;split at hop
 . rename_i c hc;split at hop
   ·
     rename_i f hf;obtain⟨args,hargs,hop1⟩:=au.1 hop;obtain⟨u,hu,hop2⟩:=au.1 hop1;obtain⟨d,hd,hop3⟩:=au.1 hop2;have hres:∀E',ak D E E'->Deferred.ofValue (frC.eval f) (c.args.map frC.eval)=pure (eu E' d):=by
       intro E' he;rw[<-si hd E',hρ E' he _ _ hu,<-qO (hρ E' he) _ _ hargs];congr 1
       simp[<-Array.toList_inj]
     have hrob:=uo hres;refine wm ok hsub hext hop3 hR _ (dC:=eu E d) (CC a (.inr (by rw[hc];intro c' e;cases e)) ?_) hrob;grind [execOp,resolve,ak.refl]
   ·
     rename_i hb;split at hop
     . rename_i hround;have hr0:frC.roundOf=none:=by
         rw[<-(hR.all E (ak.refl _ _)).2.1];simp[bq,hround]
       obtain⟨r,hr,hop1⟩:=au.1 hop;have hnd:frC.roundOf=none\/ ∀c,o.op≠ .defer c:= .inl hr0;have hrun:(execOp frC.eval o).run P w= .ok .recover w:=by
         simp[execOp,hc,resolve,hb,invoke,Go.builtin]
       have hstep:∀E',ak D E E'->(stepG P true {frame:=frC,callers:=csC,status:= .running,dying:=none} w).bare=
          (match r.map (fun x=>(af E' x.1,x.2.map (bq E')++base))with
           |some (v,callers)=> .go {frame:=frC.finish v,callers,status:= .running,dying:=none} w
           |none=> .go {frame:=frC.finish .nilIface,callers:=csC,status:= .running,dying:=none} w):=by
         intro E' he;obtain⟨_,e1,e2⟩:=hR.all E' he;rw[<-Q6 hr E' base,e1,e2,a.step hnd];simp only[stepG.apply,hrun,hr0,Sem.runT_eq,BB]
         cases Go.tryRecover frC csC<;>simp
       split at hop1
       . rename_i v cs';obtain⟨fr',hf,hop2⟩:=au.1 hop1
         cases hop2;have hfc:=lq hf;obtain⟨g1,g2⟩:=Rw hr hR.wf.2;refine⟨g2 _ (hfc E).2.2,?_⟩;refine hR.one (m':={fr:=fr',cs:=cs',h}) _ (fun _=>(0,0)) (Ad _) ⟨(hfc E).2.1 hR.wf.1,g1⟩ ?_;intro E' he H e1 e2 _;refine⟨w,step_lone_go ?_,H,Kept.refl K w⟩;rw[hstep E' he,<-(hfc E').1,e1];rfl
       . obtain⟨fr',hf,hop2⟩:=au.1 hop1
         cases hop2;have hfc:=lq hf;refine⟨il (hfc E).2.2 cs,?_⟩;refine hR.one (m':={fr:=fr',cs,h}) _ (fun _=>(0,0)) (Ad _) ⟨(hfc E).2.1 hR.wf.1,hR.wf.2⟩ ?_;intro E' he H e1 e2 _;refine⟨w,step_lone_go ?_,H,Kept.refl K w⟩;rw[hstep E' he,<-(hfc E').1,e1,e2];rfl
     . cases hop
   grind
 ·
   rename_i c hc;split at hop
   . rename_i f hf hround;have hr0:frC.roundOf=none:=by
       rw[<-(hR.all E (ak.refl _ _)).2.1];simp[bq,hround]
     obtain⟨args,hargs,hop1⟩:=au.1 hop;obtain⟨u,hu,hop2⟩:=au.1 hop1;obtain⟨d,hd,hop3⟩:=au.1 hop2;obtain⟨fr',hfin,hop4⟩:=au.1 hop3
     cases hop4;have hres:∀E',ak D E E'->Deferred.ofValue (frC.eval f) (c.args.map frC.eval)=pure (eu E' d):=by
       intro E' he;rw[<-si hd E',hρ E' he _ _ hu,<-qO (hρ E' he) _ _ hargs];congr 1
       simp[<-Array.toList_inj]
     have hfc:=lq hfin;refine⟨(il (hfc E).2.2 cs).trans (il (by rfl) cs),?_⟩;refine hR.one (m':={fr:=fr',cs,h}) _ (fun _=>(0,0)) (Ad _) ⟨(hfc E).2.1 hR.wf.1,hR.wf.2⟩ ?_;intro E' he H e1 e2 _;refine⟨w,step_lone_go ?_,H,Kept.refl K w⟩;have hrun:(execOp frC.eval o).run P w= .ok (.defer (eu E' d)) w:=by
       simp[execOp,hc,resolve,hf,hres E' he]
     rw[a.step (.inl hr0),<-(hfc E').1,<-e2];simp only[stepG.apply,hrun,Sem.runT_eq,BB,GStep.bare_after,GStep.bare_go];rw[<-e1];rfl
   . cases hop
 ·
   rename_i x hx;obtain⟨u,hu,hop1⟩:=au.1 hop;split at hop1
   . rename_i t v
     cases hop1;have hnd:∀c,o.op≠ .defer c:=by rw[hx];intro c e;cases e
     refine⟨il (by unfold ag.raise;split<;>rfl) cs,?_⟩;refine hR.one (m':={fr:=fr.raise [{v:= .iface t v,recovered:=false}],cs,h}) _ (fun _=>(0,0)) (Ad _) ⟨by unfold ag.raise;split<;>exact hR.wf.1,hR.wf.2⟩ ?_;intro E' he H e1 e2 _;refine⟨w,step_lone_go ?_,H,Kept.refl K w⟩;have hrun:(execOp frC.eval o).run P w= .halt (.panic (af E' (.iface t v))) w:=by
       simp[execOp,hx,hρ E' he _ _ hu,af,Instr.panic,goPanic,Sem.run,Result.andThen]
     rw[a.step (.inr hnd),<-e2];simp only[stepG.apply,hrun,Sem.runT_eq,BB,GStep.bare_after,GStep.bare_go];rw[<-e1];simp[Frame.raise,ag.raise,bq,hm,fo,pc]
   . cases hop1
 ·
   rename_i it s hn;obtain⟨u,hu,hop1⟩:=au.1 hop;obtain⟨l,hl,hop2⟩:=au.1 hop1;obtain⟨ms,hms,hop3⟩:=au.1 hop2;have hnd:∀c,o.op≠ .defer c:=by rw[hn];intro c e;cases e
   obtain⟨j,hj⟩:=T7 (P:=P) hl w o.type;obtain⟨v,h',hv,hh,_⟩:=hj E K (hR.all E (ak.refl _ _)).1;obtain⟨y,hy,hg⟩:=mapM_mem hms _ (Bv hv);obtain⟨fr',hfin,hg1⟩:=au.1 hg
   cases hg1;have hfc:=lq hfin;have hgets:bot fr' cs=bot fr cs/\gH P h.next (lone frC csC w) D E K {fr:=fr',cs,h:=h'} base w:=by
     refine⟨il (hfc E).2.2 cs,?_⟩;refine hR.one (m':={fr:=fr',cs,h:=h'}) _ (fun _=>(0,0)) (by simp only;omega) ⟨(hfc E).2.1 hR.wf.1,hR.wf.2⟩ ?_;intro E' he H e1 e2 _;obtain⟨v2,h2,hv2,_,w',s1,s2,s3⟩:=hj E' K H;rw[hv]at hv2
     cases hv2;refine⟨w',?_,s2,s3⟩;rw[a.value (.inr hnd) csC (gS (s:=Instr.next (frC.eval it) s o.type) (by simp[execOp,hn]) (by rw[hρ E' he _ _ hu];exact s1)) (.inl rfl),<-e1,<-e2,(hfc E').1]
   split at hop3
   . cases hop3;rcases Ap.1 hy with rfl|hy
     . exact hgets
     . cases hy
   . cases hop3;exact⟨_,hy,hgets⟩
 grind
end
end
section
variable [Inhabited aF]
section
variable {P:Program} {tab:bm} (ok:bN P tab) {sub:FuncId->List AV->AH->R (List (AV×AH))} (hsub:lD P tab sub) (hext:lC P tab)
variable {D:Nat->Prop} {E:Env} {K:KS} {base:List Frame} {frC:Frame} {csC:List Frame} {w:World}
variable {fr:ag} {cs:List ag} {h:AH}
theorem RH (E:Env) (l:List wh):(l.map (pc E)).dropWhile (fun e=> !e.goexit)=[]:=by
 induction l with
 |nil=>rfl
 |cons a l ih=>simp_all[pc]
theorem zy {v:AV} {m':AM} (hd:doReturn fr cs v h= .ok (.next m')) (hwf:∀f∈cs,f.WF) (w:World):
   m'.h=h/\bot m'.fr m'.cs=bot fr cs/\(m'.fr.WF/\ ∀f∈m'.cs,f.WF)/\
   ∀ E base,(Go.doReturn P true (bq E fr) (cs.map (bq E)++base) none (af E v) w).bare=
     .go {frame:=bq E m'.fr,callers:=m'.cs.map (bq E)++base,status:= .running,dying:=none} w:=by
 unfold doReturn at hd;split at hd
 . split at hd<;>cases hd
 . rename_i c rest;have hc:=hwf c Aq;have hrest:∀f∈rest,f.WF:=fun f hf=>hwf f (AS _ hf)
   split at hd
   . rename_i hk;obtain⟨fr1,hf,hd1⟩:=au.1 hd
     cases hd1;have hfc:=lq hf;refine⟨rfl,il (hfc ⟨fun _=>0,fun _=>0⟩).2.2 rest,⟨(hfc ⟨fun _=>0,fun _=>0⟩).2.1 hc,hrest⟩,fun E base=>?_⟩;have hk':(bq E fr).kind= .normal:=hk;simp_all[Go.doReturn]
   . rename_i hk;split at hd
     . cases hd;refine⟨rfl,il (by rfl) rest,⟨hc,hrest⟩,fun E base=>?_⟩;have hk':(bq E fr).kind= .deferred:=hk;simp_all[Go.doReturn,bq,fo,pc,RH]
     . cases hd;refine⟨rfl,rfl,⟨hc,hrest⟩,fun E base=>?_⟩;have hk':(bq E fr).kind= .deferred:=hk;simp only[AW,BV,Go.doReturn,hk'];split
       . rename_i heq;simp only[bq,fo]at heq;split at heq
         . grind
         . grind
         . rename_i chain hch
           cases chain with
           |nil=>grind
           |cons p older=>
            obtain⟨v',rc⟩:=p;simp_all[pc]
       . rfl
   grind
include ok in
theorem Se {ts:T AV} {nt:Nat} (hwf:∀t,nt<=t->ts.get t=none) (H:bH E h K w):∀(l:List ResultVar) (vs:List AV),results tab h ts l= .ok vs->
  (l.mapM (m:=Sem) fun
   | .tmp t=>pure ((iD E ts nt).getD t undef)
   | .cell a t=>do Go.loadVar t (<-asAddr ((iD E ts nt).getD a undef))).run P w= .ok (bp E vs) w:=by
 intro l;induction l with
 |nil=>simp_all[results]
 | cons x l ih=>
  intro vs hr;rw[List.mapM_cons]
  cases x with
  |tmp t=>
   grind [results,au,Sem.run_bind,Sem.run_pure,Result.andThen_ok,CE,bX]
  |cell a t=>
   simp only[results]at hr;split at hr
   . rename_i b off ha;obtain⟨v,h1,h2⟩:=au.1 hr;obtain⟨vs1,h3,h4⟩:=au.1 h2
     cases h4;have hv:=IL ok H h1;have hva:asAddr (af E (.ptr b off))=pure ⟨E.aA b,off,none⟩:=rfl;grind [Sem.run_bind,Sem.run_pure,Result.andThen_ok,CE,bX]
   grind
include ok in
theorem RZ {fn:Func} {ts:T AV} {nt:Nat} (hwf:∀t,nt<=t->ts.get t=none) (H:bH E h K w) {vs:List AV} (hr:results tab h ts fn.results.toList= .ok vs):
  (Go.results fn (iD E ts nt)).run P w= .ok (af E (result vs)) w:=by
 have h1:=Se ok hwf H _ _ hr;unfold Go.results;rw[Array.mapM_eq_mapM_toList,map_eq_pure_bind,Sem.run_bind,Sem.run_bind];erw[h1]
 cases vs with
 |nil=>simp[result,af]
 |cons v vs=>
  cases vs with
  |nil=>simp[result]
  |cons u vs=>simp[result,af]
end
end
section
variable [Inhabited aF]
section
variable {P:Program} {tab:bm} (ok:bN P tab) {sub:FuncId->List AV->AH->R (List (AV×AH))} (hsub:lD P tab sub) (hext:lC P tab)
variable {D:Nat->Prop} {E:Env} {K:KS} {base:List Frame} {frC:Frame} {csC:List Frame} {w:World}
variable {fr:ag} {cs:List ag} {h:AH}
theorem xg {E E':Env} (e:bq E' fr=bq E fr):iD E' fr.tmps fr.nt=iD E fr.tmps fr.nt/\fr.todo.map (dJ E')=fr.todo.map (dJ E)/\
  fr.defers.map (eu E')=fr.defers.map (eu E)/\fo E' fr.mode=fo E fr.mode/\fr.round.map E'.aA=fr.round.map E.aA:=by
 grind [bq]
def nT (P:Program) (fr:Frame) (callers:List Frame) (w:World) (jump:Option Code):GStep:=
 match fr.roundOf with
 |none=>if jump matches none|some .ret then .go {frame:={fr with mode:= .returning},callers,status:= .running,dying:=none} w else .ended (.stuck "exit, goto: no such block or label" (fr.pos P)) w
 |some l=>
  let (r,es):=(Instr.endRound l jump).runT P w #[]
  GStep.after (seen P fr.fn es)<|match r with
  | .ok v w=>Go.doReturn P true fr callers none v w
  | .halt _ w=> .ended (.stuck "range over a function: no such loop" (fr.pos P)) w
theorem Iq {c:ag} {rest:List ag} {v:AV} {out:dV} (hd:doReturn fr (c::rest) v h= .ok out):∃m',out= .next m':=by
 grind [doReturn,au]
theorem zF {jump:Option Code} {out:dV} (hl:leave fr cs h jump= .ok out) (hR:Rel D E K {fr,cs,h} base frC csC w)
   (hx:stepG P true {frame:=frC,callers:=csC,status:= .running,dying:=none} w=nT P frC csC w jump):Out P h.next (lone frC csC w) D E K (bot fr cs) base w out:=by
 unfold leave at hl;split at hl
 . have hret:(jump=none\/jump=some .ret)->Out P h.next (lone frC csC w) D E K (bot fr cs) base w (.next {fr:={fr with mode:= .returning},cs,h}):=by
     intro hj;refine⟨il (by rfl) cs,?_⟩;refine hR.one (m':={fr:={fr with mode:= .returning},cs,h}) _ (fun _=>(0,0)) (Ad _) ⟨hR.wf.1,hR.wf.2⟩ ?_;intro E' he H e1 e2 _;refine⟨w,step_lone_go ?_,H,Kept.refl K w⟩;rw[hx];have hr0:frC.roundOf=none:=by rw[<-e1];grind [bq]
     have hgo:(nT P frC csC w jump).bare= .go {frame:={frC with mode:= .returning},callers:=csC,status:= .running,dying:=none} w:=by
       unfold nT;rw[hr0];rcases hj with rfl|rfl<;>rfl
     rw[hgo,<-e1,<-e2];grind [bq,fo]
   grind
 . rename_i l hround;split at hl
   . rename_i _ st pd fn ts nt ps a b d c rest hg;obtain⟨m',rfl⟩:=Iq hl
     . obtain⟨h1,h2,h3,h4⟩:=zy (P:=P) hl hR.wf.2 w;refine⟨h2,?_⟩;refine hR.one _ (fun _=>(0,0)) (by rw[h1];simp_all) h3 ?_;intro E' he H e1 e2 _;obtain⟨o,ho,hoo,hw⟩:=H.obj l _ hg;subst hoo;let o':Obj:= .loop {state:=if jump.isNone then .ready else .done,pending:=jump,fn,tmps:=iD E' ts nt,params:=ps,assign:=a,body:=b,defers:=E'.aA d}
       have hrun:(Instr.endRound (E'.aA l) jump).run P w= .ok (.bool jump.isNone) (w.put (E'.aA l) o'):=by
         unfold Instr.endRound Instr.getLoop;simp only[Sem.run_bind,uJ ho (by simp),Result.andThen_ok,Sem.run_pure,xp ho (by simp)];rfl
       refine⟨w.put (E'.aA l) o',step_lone_go ?_,?_,H.dT hg (by simp[AO.ro]) _⟩
       . rw[hx];have hr0:frC.roundOf=some (E'.aA l):=by rw[<-e1];grind [bq]
         unfold nT;rw[hr0];simp only[Sem.runT_eq,hrun,GStep.bare_after];have:=(zy (P:=P) hl hR.wf.2 (w.put (E'.aA l) o')).2.2.2 E' base;rw[e1,e2]at this;exact this
       . rw[h1];refine H.put hg (by simp[AO.ro]) ⟨?_,hw⟩;by_cases hj:jump.isNone<;>simp[o',hj]
   grind
theorem RL (hm:frC.mode≠ .run):stepG P true {frame:=frC,callers:=csC,status:= .running,dying:=none} w=Go.unwind P true frC csC none w:=by
 grind [stepG]
include ok hsub hext in
theorem RN {out:dV} (hu:unwind tab sub fr cs h= .ok out) (hm:∀(_:fr.mode= .run),False) (hR:Rel D E K {fr,cs,h} base frC csC w):Out P h.next (lone frC csC w) D E K (bot fr cs) base w out:=by
 have hmC:frC.mode≠ .run:=by
   rw[<-(hR.all E (ak.refl _ _)).2.1];intro e;simp only[bq,fo]at e;grind
 have hx:=RL (P:=P) (csC:=csC) (w:=w) hmC;unfold unwind at hu;split at hu
 ·
   rename_i b args ds hds;split at hu
   . rename_i calls hb
     cases hu;refine⟨il (by rfl) cs,?_⟩;refine hR.one (m':={fr:={fr with defers:=calls++ds},cs,h:=h.set b (.qo none)}) _ (fun _=>(0,0)) (Ad _) ⟨hR.wf.1,hR.wf.2⟩ ?_;intro E' he H e1 e2 _;obtain⟨o,ho,hoo⟩:=H.obj b _ hb;simp only[pG]at hoo;refine⟨w.put (E'.aA b) (.deferred none),step_lone_go ?_,H.put hb (by simp[AO.ro]) (by simp[pG]),H.dT hb (by simp[AO.ro]) _⟩;rw[hx];have hrun:(Instr.takeDeferred (E'.aA b)).run P w= .ok (calls.map (eu E')) (w.put (E'.aA b) (.deferred none)):=by
       simp_all[Instr.takeDeferred,uJ,xp]
     have hdef:frC.defers={target:= .collected (E'.aA b),args:=(bp E' args).toArray}::ds.map (eu E'):=by
       rw[<-e1];grind [bq,eu,nZ]
     grind [Go.unwind,Sem.runT_eq,GStep.bare_after,GStep.bare_go,bq]
   grind
 ·
   rename_i d ds hnc hds;have hR':Rel D E K {fr:={fr with defers:=ds},cs,h} base (bq E {fr with defers:=ds}) csC w:=by
     refine⟨fun E' he=>?_,hR.ey,hR.wf.1,hR.wf.2⟩;obtain⟨g1,g2,g3⟩:=hR.all E' he;refine⟨g1,?_,g3⟩;obtain⟨h1,h2,h3,h4,h5⟩:=xg (g2.trans (hR.all E (ak.refl _ _)).2.1.symm);rw[hds]at h3;grind [bq]
   have hdrob:∀E',ak D E E'->eu E' d=eu E d:=by
     intro E' he;obtain⟨g1,g2,g3⟩:=hR.all E' he;obtain⟨h1,h2,h3,h4,h5⟩:=xg (g2.trans (hR.all E (ak.refl _ _)).2.1.symm);rw[hds]at h3;grind
   have hfr:frC=bq E fr:=(hR.all E (ak.refl _ _)).2.1.symm;have hdef:frC.defers=eu E d::ds.map (eu E):=by
     rw[hfr];grind [bq]
   have hfr':({frC with defers:=ds.map (eu E)}:Frame)=bq E {fr with defers:=ds}:=by
     rw[hfr];rfl
   have hux:Go.unwind P true frC csC none w=callDeferred P (bq E {fr with defers:=ds}) csC none (eu E d) w:=by
     have hnc':∀b,(eu E d).target≠ .collected b:=by
       intro b e;obtain⟨t,a⟩:=d
       cases t with
       |fn f c=>grind [eu,nZ]
       |ml l=>grind [eu,nZ]
       |collected r=>grind
     grind [Go.unwind]
   obtain⟨tg,tc,htgt⟩:∃g c,(eu E d).target= .fn g c:=by
     obtain⟨t,a⟩:=d
     cases t with
     |fn f c=>exact⟨_,_,rfl⟩
     |ml l=>exact⟨_,_,rfl⟩
     |collected r=>grind
   rw[<-il (fr:=fr) (fr':={fr with defers:=ds}) rfl cs];refine(wm ok hsub hext hu hR' (lone frC csC w) (dC:=eu E d) ⟨fun f x w' hr=>?_,fun l f t x b w' hr=>?_,fun v w' hr hk=>?_⟩ hdrob)
   all_goals grind [step_lone_go,callDeferred,Sem.runT_eq,GStep.bare_after,GStep.bare_go]
 . have hdef:frC.defers=[]:=by
     rw[<-(hR.all E (ak.refl _ _)).2.1];grind [bq]
   split at hu
   . cases hu
   ·
     rename_i chain hmode;split at hu
     . rename_i c rest
       cases hu;refine⟨il (by grind [ag.raise]) rest,?_⟩;refine hR.one (m':={fr:=c.raise chain,cs:=rest,h}) _ (fun _=>(0,0)) (Ad _)
        ⟨by have:=hR.wf.2 c Aq;unfold ag.raise;split<;>exact this,fun f hf=>hR.wf.2 f (AS _ hf)⟩ ?_
       intro E' he H e1 e2 _;refine⟨w,step_lone_go ?_,H,Kept.refl K w⟩;have hmd:frC.mode= .panicking (chain.map (pc E')):=by rw[<-e1];grind [bq,fo]
       have hcat:frC.catches P=false:=by
        unfold Frame.catches;rw[<-e1]
        cases P.funcs[(bq E' fr).fn]? with
        |some _=>rfl
        | none=>
          cases htd:fr.todo with
          |nil=>grind [bq]
          |cons x l=>cases x<;>simp[bq,htd,dJ]
       rw[hx];unfold Go.unwind;simp only[hdef,hmd,hcat,Az,Bh];rw[<-e2];unfold Frame.raise ag.raise
       cases hcm:c.mode<;>simp[bq,hcm,fo]
     grind
   ·
     split at hu
     . cases hu
     . rename_i fn hfn;obtain⟨vs,hvs,hu1⟩:=au.1 hu;have hP:=ok.fns _ _ hfn;have hmd:frC.mode= .returning:=by rw[<-(hR.all E (ak.refl _ _)).2.1];grind [bq,fo]
       have hres:∀E',ak D E E'->(Go.results fn frC.tmps).run P w= .ok (af E' (result vs)) w:=by
        intro E' he;obtain⟨g1,g2,g3⟩:=hR.all E' he;rw[<-g2];exact RZ ok hR.wf.1 g1 hvs
       have hfn':frC.fn=fr.fn:=by rw[<-(hR.all E (ak.refl _ _)).2.1];rfl
       have hP':P.funcs[frC.fn]? =some fn:=by rw[hfn'];exact hP
       have hxx:∀E',ak D E E'->(stepG P true {frame:=frC,callers:=csC,status:= .running,dying:=none} w).bare=(Go.doReturn P true frC csC none (af E' (result vs)) w).bare:=by
        grind [Go.unwind,Sem.runT_eq,GStep.bare_after]
       cases cs with
       |cons c rest=>
        obtain⟨m',rfl⟩:=Iq hu1;obtain⟨h1,h2,h3,h4⟩:=zy (P:=P) hu1 hR.wf.2 w;refine⟨h2,?_⟩;refine hR.one _ (fun _=>(0,0)) (by rw[h1];grind) h3 ?_;intro E' he H e1 e2 _;refine⟨w,step_lone_go ?_,by rw[h1];exact H,Kept.refl K w⟩;rw[hxx E' he];have:=h4 E' base;grind
       |nil=>
        unfold doReturn at hu1;simp only at hu1;split at hu1
        . rename_i hk
          cases hu1;have hk':frC.kind= .normal:=by rw[<-(hR.all E (ak.refl _ _)).2.1];exact hk
          have hcs:csC=base:=by rw[<-(hR.all E (ak.refl _ _)).2.2];rfl
          subst hcs;refine⟨frC,w,af E (result vs),E,D,Steps.refl P _,hfn',⟨hmd,hdef,hk',fn,hP',hres E (ak.refl _ _)⟩,?_,ak.refl _ _,fun _ hi=>hi,hR.ey,Kept.refl K w,Ad _,fun _ hi=> .inl hi⟩;intro E'' he;refine⟨(hR.all E'' he).1,?_⟩;have h1:=hres E'' he;rw[hres E (ak.refl _ _)]at h1;grind
        grind
end
end
section
variable [Inhabited aF]
section
variable {P:Program} {tab:bm} (ok:bN P tab) {sub:FuncId->List AV->AH->R (List (AV×AH))} (hsub:lD P tab sub) (hext:lC P tab)
variable {D:Nat->Prop} {E:Env} {K:KS} {base:List Frame} {frC:Frame} {csC:List Frame} {w:World}
variable {fr:ag} {cs:List ag} {h:AH}
theorem Rel.grow {m:AM} (hR:Rel D E K m base frC csC w) (m':AM) (fr':Frame) (w':World) (f:Nat->Nat×Nat) (hn:m.h.next<=m'.h.next) (hwf:m'.fr.WF/\ ∀f∈m'.cs,f.WF) (hcs:m'.cs=m.cs)
   (h1:∀E',ak D E E'->bH E' m.h K w->bq E' m.fr=frC->(∀i,m.h.next<=i->i<m'.h.next->E'.aA i=(f i).1/\E'.cap i=(f i).2)->bH E' m'.h K w'/\bq E' m'.fr=fr'):
   ∃D1 E1,Rel D1 E1 K m' base fr' csC w'/\ak D E E1/\(∀i,D i->D1 i)/\(∀i,m.h.next<=i->i<m'.h.next->∀E',ak D1 E1 E'->E'.aA i=(f i).1)/\(∀i,D1 i->D i\/m.h.next<=i):=by
 obtain⟨E1,ha,hE⟩:=hR.oH f;let D1:Nat->Prop:=fun i=>D i\/(m.h.next<=i/\i<m'.h.next)
 have hnew:∀i,m.h.next<=i->i<m'.h.next->∀E',ak D1 E1 E'->E'.aA i=(f i).1/\E'.cap i=(f i).2:=by
   intro i hi hj E' he;have h2:=he i (.inr ⟨hi,hj⟩);have h3:=hE i hi;omega
 refine⟨D1,E1,⟨fun E' he=>?_,fun i hi=>?_,hwf⟩,ha,fun i hi=> .inl hi,fun i hi hj E' he=>(hnew i hi hj E' he).1,fun i hi=>hi.elim .inl (fun h=> .inr h.1)⟩
 . have hd:ak D E E':=ha.trans he (fun i hi=> .inl hi);obtain⟨g1,g2,g3⟩:=hR.all E' hd;grind
 . rcases hi with hi|hi
   . have:=hR.ey i hi;omega
   omega
theorem IG {M0:Machine} {frC':Frame} {fr0:Frame} {w0:World} {s:Sem Next} {dC:Deferred} (hM:M0=lone fr0 csC w0)
   (hx:(stepG P true {frame:=fr0,callers:=csC,status:= .running,dying:=none} w0).bare=(stepG.apply P true frC' csC none s w).bare)
   (ht:∃l k,frC'.todo= .inRangeFunc l::k) (hs:s.run P w=(invoke dC.target dC.args).run P w):Ctx P M0 frC' csC w .normal dC:=by
 subst hM;obtain⟨l,k,ht⟩:=ht;refine⟨fun f x w' hr=>?_,fun l f t x b w' hr=>?_,fun v w' hr _=>?_⟩
 . refine step_lone_go ?_;rw[hx];simp_all[stepG.apply]
 . refine step_lone_go ?_;rw[hx];simp_all[stepG.apply]
 . refine step_lone_go ?_;rw[hx,zJ (by rw[hs,hr]) (.inl rfl)]
def Fo (P:Program) (tab:bm) (sub:FuncId->List AV->AH->R (List (AV×AH))):Prop:=
 ∀ (fr:ag) (cs:List ag) (h:AH) (id:Nat) (ops:Array Oper) (k:List bF) (ts:T AV) (h':AH),fr.mode= .run->fr.todo= .code (.region id ops true)::k->draw tab sub ops fr.nt fr.tmps h= .ok (ts,h')->
  ∀(D:Nat->Prop) (E:Env) (K:KS) (base:List Frame) (frC:Frame) (csC:List Frame) (w:World),Rel D E K {fr,cs,h} base frC csC w->
   gH P h.next (lone frC csC w) D E K {fr:={fr with tmps:=ts,todo:=k},cs,h:=h'} base w
include ok hsub hext in
theorem Sd {f:Operand} {ps:Array Tmp} {a b:Code} {k:List bF} {out:dV} (hm:fr.mode= .run) (ht:fr.todo= .code (.rangeFunc f ps a b)::k) (hR:Rel D E K {fr,cs,h} base frC csC w)
   (hs : (do
     let d<-qL (<-ev fr.tmps f) [.ml (bif fr.round.isNone then h.next+1 else h.next)]
     match fr.round with
     | none=>
       let h1:=h.new (.qo (some []))
       let h2:=h1.new (.loop .ready none fr.fn fr.tmps fr.nt ps a b h.next)
       callTarget tab sub {fr with todo:= .eW (h.next+1)::k,defers:={target:= .collected h.next,args:=[]}::fr.defers} cs h2 d .normal
     | some l=>
       match h.get l with
       | some (.loop _ _ _ _ _ _ _ _ dd)=>
         let h2:=h.new (.loop .ready none fr.fn fr.tmps fr.nt ps a b dd)
         callTarget tab sub {fr with todo:= .eW h.next::k} cs h2 d .normal
       |_=> .no "rangeFunc: loop" :R dV)= .ok out):Out P h.next (lone frC csC w) D E K (bot fr cs) base w out:=by
 obtain⟨u,hu,hs1⟩:=au.1 hs;obtain⟨d,hd,hs2⟩:=au.1 hs1;have hρ:∀E',ak D E E'->∀x u,ev fr.tmps x= .ok u->frC.eval x=af E' u:=by
   intro E' he x u hx;rw[<-(hR.all E' he).2.1];exact pM hR.wf.1 E' hx
 have hmC:frC.mode= .run:=by rw[<-(hR.all E (ak.refl _ _)).2.1];grind [bq,fo]
 have htC:frC.todo= .code (.rangeFunc f ps a b)::k.map (dJ E):=by rw[<-(hR.all E (ak.refl _ _)).2.1];grind [bq,dJ]
 have hfnC:frC.fn=fr.fn:=by rw[<-(hR.all E (ak.refl _ _)).2.1];rfl
 have hrob:∀E',ak D E E'->bq E' fr=bq E fr:=fun E' he=>(hR.all E' he).2.1.trans (hR.all E (ak.refl _ _)).2.1.symm
 split at hs2
 . have hr0:frC.roundOf=none:=by rw[<-(hR.all E (ak.refl _ _)).2.1];grind [bq]
   let N:=w.heap.size
   let w1:=w.alloc (.deferred (some []))
   let w2:=w1.alloc (.loop {state:= .ready,pending:=none,fn:=fr.fn,tmps:=frC.tmps,params:=ps,assign:=a,body:=b,defers:=N})
   let frC':Frame:={frC with todo:= .inRangeFunc (N+1)::k.map (dJ E),defers:={target:= .collected N,args:=#[]}::frC.defers,mode:= .run}
   have hparts:∀E',ak D E E'->iD E' fr.tmps fr.nt=frC.tmps/\k.map (dJ E')=k.map (dJ E)/\fr.defers.map (eu E')=frC.defers/\fo E' fr.mode=frC.mode/\fr.kind=frC.kind/\fr.round.map E'.aA=frC.roundOf:=by
     intro E' he;have e1:=(hR.all E' he).2.1;obtain⟨_,g2,_⟩:=xg (hrob E' he);simp only[ht,AW,Dj]at g2;exact⟨by rw[<-e1];rfl,g2.2,by rw[<-e1];rfl,by rw[<-e1];rfl,by rw[<-e1];rfl,by rw[<-e1];rfl⟩
   obtain⟨D1,E1,hR1,ha1,hd1,hb1,hw1⟩:=hR.grow {fr:={fr with todo:= .eW (h.next+1)::k,defers:={target:= .collected h.next,args:=[]}::fr.defers},cs,h:=(h.new (.qo (some []))).new (.loop .ready none fr.fn fr.tmps fr.nt ps a b h.next)}
     frC' w2 (fun i=>(N+(i - h.next),0)) (by grind [AH.cE]) ⟨hR.wf.1,hR.wf.2⟩ rfl (by
       intro E' he H e1 hE';have b1:E'.aA h.next=N:=by have:=(hE' h.next (Ad _) (by grind [AH.cE])).1;omega
       have b2:E'.aA (h.next+1)=N+1:=by have:=(hE' (h.next+1) (by simp) (by simp_all)).1;omega
       have H1:bH E' (h.new (.qo (some []))) K w1:=H.new b1 (by simp[pG]);have hsz:w1.heap.size=N+1:=by simp[w1,N]
       obtain⟨p1,p2,p3,p4,p5,p6⟩:=hparts E' he;refine⟨H1.new (by simp_all) ⟨?_,hR.wf.1⟩,?_⟩
       all_goals grind [bq,dJ,eu,nZ,dv])
   have hrun:(Instr.enterLoop frC.fn frC.tmps ps a b frC.roundOf).run P w= .ok (N+1,[{target:= .collected N,args:=#[]}]) w2:=by
     rw[hr0,hfnC];unfold Instr.enterLoop;simp[N];rfl
   have hresv:∀E',ak D1 E1 E'->Deferred.ofValue (frC.eval f) #[.func (.yield (N+1)) #[] #[]]=pure (eu E' d):=by
     intro E' he;rw[<-si hd E',hρ E' (ha1.trans he hd1) _ _ hu];have h3:E'.aA (h.next+1)=N+1:=by
       have:=hb1 (h.next+1) (by simp) (by simp_all) E' he;omega
     grind [bX,dv,af]
   have hdrob:=uo hresv;rw[<-il (fr:=fr) (fr':={fr with todo:= .eW (h.next+1)::k,defers:={target:= .collected h.next,args:=[]}::fr.defers}) rfl cs];refine Out.trans (Steps.refl P _) ha1 hd1 ?_ (by grind [AH.cE]) hw1 (wm ok hsub hext hs2 hR1 (lone frC csC w) (dC:=eu E1 d) ?_ hdrob)
   . exact(Kept.alloc (hR.all E (ak.refl _ _)).1.kb _).trans (Kept.alloc (fun b hb=>by have:=(hR.all E (ak.refl _ _)).1.kb b hb;simp[w1];omega) _)
   . refine IG (s:=do let d<-resolve frC'.eval {callee:= .value f,args:=#[.const (.func (.yield (N+1)) #[] #[])],argTypes:=#[]} 0;invoke d.target d.args) rfl ?_ ⟨N+1,_,rfl⟩ ?_
     . grind [stepG,stepG.exec,Sem.runT_eq,GStep.bare_after]
     . have he:frC'.eval f=frC.eval f:=by cases f<;>rfl
       have h2:=hresv E1 (ak.refl _ _);grind [resolve,Frame.eval]
 . rename_i l hround;split at hs2
   . rename_i st pd fn' ts nt ps' a' b' dd hl;let N:=w.heap.size
     let blkL:=E.aA l
     have hloop:∀E',ak D E E'->∃o,w.heap[E'.aA l]? =some (.loop o)/\o.defers=E'.aA dd:=by
       intro E' he;obtain⟨o,ho,hoo,_⟩:=(hR.all E' he).1.obj l _ hl;grind
     have hr0:∀E',ak D E E'->frC.roundOf=some (E'.aA l):=by
       intro E' he;rw[<-(hR.all E' he).2.1];grind [bq]
     obtain⟨o,ho,hod⟩:=hloop E (ak.refl _ _);have hdd:∀E',ak D E E'->E'.aA dd=o.defers:=by
       grind [ak.refl]
     let w2:=w.alloc (.loop {state:= .ready,pending:=none,fn:=fr.fn,tmps:=frC.tmps,params:=ps,assign:=a,body:=b,defers:=o.defers})
     let frC':Frame:={frC with todo:= .inRangeFunc N::k.map (dJ E),mode:= .run}
     have hparts:∀E',ak D E E'->iD E' fr.tmps fr.nt=frC.tmps/\k.map (dJ E')=k.map (dJ E)/\fr.defers.map (eu E')=frC.defers/\fo E' fr.mode=frC.mode/\fr.kind=frC.kind/\fr.round.map E'.aA=frC.roundOf:=by
       intro E' he;have e1:=(hR.all E' he).2.1;obtain⟨_,g2,_⟩:=xg (hrob E' he);simp only[ht,AW,Dj]at g2;exact⟨by rw[<-e1];rfl,g2.2,by rw[<-e1];rfl,by rw[<-e1];rfl,by rw[<-e1];rfl,by rw[<-e1];rfl⟩
     obtain⟨D1,E1,hR1,ha1,hd1,hb1,hw1⟩:=hR.grow {fr:={fr with todo:= .eW h.next::k},cs,h:=h.new (.loop .ready none fr.fn fr.tmps fr.nt ps a b dd)}
       frC' w2 (fun _=>(N,0)) (by simp) ⟨hR.wf.1,hR.wf.2⟩ rfl (by
         intro E' he H e1 hE';have b1:E'.aA h.next=N:=(hE' h.next (Ad _) (by simp)).1;obtain⟨p1,p2,p3,p4,p5,p6⟩:=hparts E' he;refine⟨H.new b1 ⟨?_,hR.wf.1⟩,?_⟩
         all_goals grind [bq,dJ])
     have hrun:(Instr.enterLoop frC.fn frC.tmps ps a b frC.roundOf).run P w= .ok (N,[]) w2:=by
       rw[hr0 E (ak.refl _ _),hfnC];unfold Instr.enterLoop Instr.getLoop;simp only[Sem.run_bind,uJ ho (by simp),run_newObj,Result.andThen_ok,Sem.run_pure];rfl
     have hresv:∀E',ak D1 E1 E'->Deferred.ofValue (frC.eval f) #[.func (.yield N) #[] #[]]=pure (eu E' d):=by
       intro E' he;rw[<-si hd E',hρ E' (ha1.trans he hd1) _ _ hu];have h3:E'.aA h.next=N:=hb1 h.next (Ad _) (by simp) E' he;grind [bX,dv,af]
     have hdrob:=uo hresv;rw[<-il (fr:=fr) (fr':={fr with todo:= .eW h.next::k}) rfl cs];refine Out.trans (Steps.refl P _) ha1 hd1 ?_ (by simp only[AH.cE];omega) hw1 (wm ok hsub hext hs2 hR1 (lone frC csC w) (dC:=eu E1 d) ?_ hdrob)
     . exact Kept.alloc (hR.all E (ak.refl _ _)).1.kb _
     . refine IG (s:=do let d<-resolve frC'.eval {callee:= .value f,args:=#[.const (.func (.yield N) #[] #[])],argTypes:=#[]} 0;invoke d.target d.args) rfl ?_ ⟨N,_,rfl⟩ ?_
       . unfold stepG stepG.exec;simp only[hmC,htC,Sem.runT_eq,hrun,GStep.bare_after];rfl
       . have he:frC'.eval f=frC.eval f:=by cases f<;>rfl
         have h2:=hresv E1 (ak.refl _ _);simp only[Sem.run_bind,resolve,he];have hargs:Array.map frC'.eval #[.const (.func (.yield N) #[] #[])]=#[.func (.yield N) #[] #[]]:=by simp[Frame.eval]
         rw[hargs,h2];simp
   grind
end
end
section
variable [Inhabited aF]
section
variable {P:Program} {tab:bm} (ok:bN P tab) {sub:FuncId->List AV->AH->R (List (AV×AH))} (hsub:lD P tab sub) (hext:lC P tab) (hdraw:Fo P tab sub)
variable {D:Nat->Prop} {E:Env} {K:KS} {base:List Frame} {frC:Frame} {csC:List Frame} {w:World}
theorem Un (hm:frC.mode= .run) (ht:frC.todo=[]):stepG P true {frame:=frC,callers:=csC,status:= .running,dying:=none} w=nT P frC csC w none:=by
 grind [stepG,stepG.exec,nT]
theorem Uo {k:List Item} (hm:frC.mode= .run) (ht:frC.todo= .code .ret::k):stepG P true {frame:=frC,callers:=csC,status:= .running,dying:=none} w=nT P frC csC w (some .ret):=by
 grind [stepG,stepG.exec,nT]
theorem TT {id:Nat} {k:List Item} (hm:frC.mode= .run) (ht:frC.todo= .code (.exit id)::k) (hk:Go.exitTo id k=none):stepG P true {frame:=frC,callers:=csC,status:= .running,dying:=none} w=nT P frC csC w (some (.exit id)):=by
 grind [stepG,stepG.exec,nT]
theorem lu {fr:ag} {cs:List ag} {h:AH} (hR:Rel D E K {fr,cs,h} base frC csC w) (k:List bF)
  (hx:∀E' cs',Go.step P (lone (bq E' fr) cs' w)= .next (lone (bq E' {fr with todo:=k}) cs' w)):
  Out P h.next (lone frC csC w) D E K (bot fr cs) base w (.next {fr:={fr with todo:=k},cs,h}):=
 ⟨il (by rfl) cs,hR.kq {fr with todo:=k} hR.wf.1 hx⟩
include ok hsub hext hdraw in
theorem Cd {m:AM} {out:dV} (hs:step tab sub m= .ok out) (hR:Rel D E K m base frC csC w):Out P m.h.next (lone frC csC w) D E K (bot m.fr m.cs) base w out:=by
 obtain⟨fr,cs,h⟩:=m;unfold step at hs;simp only at hs;split at hs
 . rename_i hm;have hmC:frC.mode= .run:=by rw[<-(hR.all E (ak.refl _ _)).2.1];grind [bq,fo]
   split at hs
   ·
     have htC:frC.todo=[]:=by rw[<-(hR.all E (ak.refl _ _)).2.1];grind [bq]
     grind [zF,Un]
   . rename_i k ht;have htC:frC.todo= .code .ret::k.map (dJ E):=by rw[<-(hR.all E (ak.refl _ _)).2.1];grind [bq,dJ]
     grind [zF,Uo]
   . rename_i k ht
     cases hs;exact lu hR k (fun E' cs'=>step_lone_go (by simp_all[stepG,stepG.exec,bq,fo,dJ]))
   . rename_i l k ht
     cases hs;exact lu hR k (fun E' cs'=>step_lone_go (by simp_all[stepG,stepG.exec,bq,fo,dJ]))
   . rename_i l k ht
     cases hs;exact lu hR k (fun E' cs'=>step_lone_go (by simp_all[stepG,stepG.exec,bq,fo,dJ]))
   . rename_i l k ht
     cases hs;exact lu hR k (fun E' cs'=>step_lone_go (by simp_all[stepG,stepG.exec,bq,fo,dJ]))
   . cases hs;exact lu hR _ (fun E' cs'=>step_lone_go (by simp_all[stepG,stepG.exec,bq,fo,dJ]))
   ·
     obtain⟨u,hu,hs1⟩:=au.1 hs;split at hs1
     . cases hs1;exact lu hR _ (fun E' cs'=>step_lone_go (by
         have:=pM hR.wf.1 E' hu;simp_all[af,stepG,stepG.exec,bq,fo,dJ]))
     . cases hs1;exact lu hR _ (fun E' cs'=>step_lone_go (by
         have:=pM hR.wf.1 E' hu;simp_all[af,stepG,stepG.exec,bq,fo,dJ]))
     grind
   . cases hs;exact lu hR _ (fun E' cs'=>step_lone_go (by simp_all[stepG,stepG.exec,bq,fo,dJ]))
   . cases hs;exact lu hR _ (fun E' cs'=>step_lone_go (by simp_all[stepG,stepG.exec,bq,fo,dJ]))
   . cases hs;exact lu hR _ (fun E' cs'=>step_lone_go (by simp_all[stepG,stepG.exec,bq,fo,dJ]))
   . cases hs;exact lu hR _ (fun E' cs'=>step_lone_go (by simp_all[stepG,stepG.exec,bq,fo,dJ]))
   ·
     rename_i id k ht;split at hs
     . cases hs;exact lu hR _ (fun E' cs'=>step_lone_go (by simp_all[stepG,stepG.exec,bq,fo,dJ,I4]))
     . have htC:frC.todo= .code (.exit id)::k.map (dJ E):=by rw[<-(hR.all E (ak.refl _ _)).2.1];grind [bq,dJ]
       grind [zF,TT,I4]
   ·
     grind [Sd]
   ·
     rename_i l k ht;split at hs
     . rename_i st pd fn ts nt ps a b d hl;have hbusy:st≠ .busy:=by grind
       have hs1:(R.ok (dV.next {fr:={fr with todo:=(pd.map bF.code).toList++k},cs,h:=h.set l (.loop .exhausted pd fn ts nt ps a b d)}):R dV)= .ok out:=by
         cases st<;>first|exact hs|grind
       cases hs1;refine⟨il (by rfl) cs,?_⟩;refine hR.one (m':={fr:={fr with todo:=(pd.map bF.code).toList++k},cs,h:=h.set l (.loop .exhausted pd fn ts nt ps a b d)}) _ (fun _=>(0,0)) (Ad _) ⟨hR.wf.1,hR.wf.2⟩ ?_;intro E' he H e1 e2 _;obtain⟨o,ho,hoo,hw⟩:=H.obj l _ hl;subst hoo;let o':Obj:= .loop {state:= .exhausted,pending:=pd,fn,tmps:=iD E' ts nt,params:=ps,assign:=a,body:=b,defers:=E'.aA d}
       have hrun:(Instr.endLoop (E'.aA l)).run P w= .ok pd (w.put (E'.aA l) o'):=by
         unfold Instr.endLoop Instr.getLoop;have:(st==LoopState.busy)=false:=by cases st<;>first|rfl|grind
         simp only[Sem.run_bind,uJ ho (by simp),Result.andThen_ok,Sem.run_pure,this,Az,Bh,xp ho (by simp)];rfl
       refine⟨w.put (E'.aA l) o',step_lone_go ?_,H.put hl (by simp[AO.ro]) ⟨rfl,hw⟩,H.dT hl (by simp[AO.ro]) _⟩;have htC:frC.todo= .endRangeFunc (E'.aA l)::k.map (dJ E'):=by rw[<-e1];grind [bq,dJ]
       rw[<-e2];have hgoal:bq E' {fr with todo:=(pd.map bF.code).toList++k}={frC with todo:=(pd.map Item.code).toList++k.map (dJ E')}:=by
         rw[<-e1]
         cases pd<;>simp[bq,dJ]
       grind [stepG,stepG.exec,Sem.runT_eq,GStep.bare_after,GStep.bare_go]
     grind
   ·
     rename_i k ht;split at hs
     . rename_i l hround;split at hs
       . rename_i pd fn ts nt ps a b d hl
         cases hs;refine⟨il (by rfl) cs,?_⟩;refine hR.one (m':={fr:={fr with todo:=k},cs,h:=h.set l (.loop .busy pd fn ts nt ps a b d)}) _ (fun _=>(0,0)) (Ad _) ⟨hR.wf.1,hR.wf.2⟩ ?_;intro E' he H e1 e2 _;obtain⟨o,ho,hoo,hw⟩:=H.obj l _ hl;subst hoo;let o':Obj:= .loop {state:= .busy,pending:=pd,fn,tmps:=iD E' ts nt,params:=ps,assign:=a,body:=b,defers:=E'.aA d}
         have hr0:frC.roundOf=some (E'.aA l):=by rw[<-e1];grind [bq]
         have htC:frC.todo= .beginRound::k.map (dJ E'):=by rw[<-e1];grind [bq,dJ]
         have hrun:(do frC.roundOf.elim (stuck "beginRound: no round") Instr.beginRound;pure .skip:Sem Next).run P w= .ok .skip (w.put (E'.aA l) o'):=by
          rw[hr0];simp only[Option.elim_some,Instr.beginRound,Instr.getLoop];simp only[Sem.run_bind,uJ ho (by simp),Result.andThen_ok,Sem.run_pure,xp ho (by simp)];rfl
         refine⟨w.put (E'.aA l) o',step_lone_go ?_,H.put hl (by simp[AO.ro]) ⟨rfl,hw⟩,H.dT hl (by simp[AO.ro]) _⟩;rw[<-e2];have hgoal:bq E' {fr with todo:=k}={frC with todo:=k.map (dJ E')}:=by
          rw[<-e1];rfl
         have hx:stepG P true {frame:=frC,callers:=cs.map (bq E')++base,status:= .running,dying:=none} w=stepG.apply P true frC (cs.map (bq E')++base) none (do frC.roundOf.elim (stuck "beginRound: no round") Instr.beginRound;pure .skip) w:=by
          grind [stepG,stepG.exec]
         rw[hx,zJ hrun (.inr ⟨rfl,rfl⟩)];grind [Frame.finish]
       grind
     grind
   . cases hs;exact lu hR _ (fun E' cs'=>step_lone_go (by simp_all[stepG,stepG.exec,bq,fo,dJ]))
   . rename_i id ops k ht;obtain⟨⟨ts,h'⟩,hd,hs1⟩:=au.1 hs
     cases hs1;exact⟨il (by rfl) cs,hdraw fr cs h id ops k ts h' hm ht hd D E K base frC csC w hR⟩
   . cases hs;exact lu hR _ (fun E' cs'=>step_lone_go (by simp_all[stepG,stepG.exec,bq,fo,dJ]))
   ·
     rename_i ops i rest k ht;split at hs
     . rename_i o ho;obtain⟨b,hb,hs1⟩:=au.1 hs
       cases b with
       |true=>grind [Ub]
       | false=>
         obtain⟨fr',hf,hs2⟩:=au.1 hs1
         cases hs2;have hfc:=lq hf;refine⟨il (hfc E).2.2 cs,hR.kq fr' ((hfc E).2.1 hR.wf.1) (fun E' cs'=>step_lone_go ?_)⟩;have hw:=zR hR.wf.1 hb E';rw[<-(hfc E').1];have h1:(bq E' fr).todo= .inRegion ops (i::rest)::k.map (dJ E'):=by grind [bq,dJ]
         have h2:(bq E' fr).mode= .run:=by grind [bq,fo]
         have h3:Region.wanted o (yielded ops (bq E' fr).tmps)=false:=hw;unfold stepG stepG.exec;simp[h1,h2,ho,h3];rfl
     grind
   grind
 grind [RN]
end
end
section
variable [Inhabited aF]
section
variable {P:Program} {tab:bm} (ok:bN P tab) (hext:lC P tab) (hdraw:∀sub,lD P tab sub->Fo P tab sub)
def ND (P:Program) (tab:bm) (m:AM) (outs:List (AV×AH)):Prop:=
 ∀(D:Nat->Prop) (E:Env) (K:KS) (base:List Frame) (frC:Frame) (csC:List Frame) (w:World),Rel D E K m base frC csC w->
  ∃v h',(v,h')∈outs/\Ends P m.h.next (lone frC csC w) D E K v h' base (bot m.fr m.cs) w
include ok hext hdraw in
theorem U9:∀n,(∀m outs,run tab n m= .ok outs->ND P tab m outs)/\
  (∀l outs,runs tab n l= .ok outs->∀m∈l,∀outs',(∀x∈outs,x∈outs')->ND P tab m outs'):=by
 intro n;induction n with
 |zero=>
  grind [run,runs]
 |succ n ih=>
  refine⟨fun m outs h=>?_,fun l outs h=>?_⟩
  . let sub:FuncId->List AV->AH->R (List (AV×AH)):=fun f args h=>match tab.fns.get f with
     | some fn=>match fn.body with
       |some body=>run tab n {fr:=ag.enter fn f body args .normal,cs:=[],h}
       |none=> .no "run: body"
     |none=> .no "run: function"
    have hsub:lD P tab sub:=by
     intro f fn body args h outs hfn hb ho D E K w argsC hargs hdom cs;simp only[sub,hfn,hb]at ho;have hP:=ok.fns f fn hfn;have hR:Rel D E K {fr:=ag.enter fn f body args .normal,cs:=[],h} cs (Frame.enter P f argsC .normal) cs w:=by
       refine⟨fun E' he=>?_,hdom,qI _ _ _ _ _,fun f hf=>by cases hf⟩;grind [mH]
     exact ih.1 _ _ ho D E K cs _ cs w hR
    intro D E K base frC csC w hR;change (match step tab sub m with
     | .no w=>R.no w
     | .ok (.done v h)=> .ok [(v,h)]
     | .ok (.next m')=>run tab n m'
     | .ok (.alts l)=>runs tab n l)= .ok outs at h
    cases hs:step tab sub m with
    |no w=>rw[hs]at h;cases h
    |ok out=>
     rw[hs]at h;have ho:=Cd ok hsub hext (hdraw sub hsub) hs hR
     cases out with
     | done v hh=>
       cases h;exact⟨v,hh,Aq,ho⟩
     | next m'=>
       obtain⟨hb,fr',cs',w',E',D',s1,s2,s3,s4,s5,s6,s7⟩:=ho;obtain⟨v,h',hm,he⟩:=ih.1 m' outs h D' E' K base fr' cs' w' s2;rw[hb]at he;grind [Ends.trans]
     | alts l=>
       obtain⟨m',hml,hb,fr',cs',w',E',D',s1,s2,s3,s4,s5,s6,s7⟩:=ho;obtain⟨v,h',hm,he⟩:=ih.2 l outs h m' hml outs (fun _ hx=>hx) D' E' K base fr' cs' w' s2;rw[hb]at he;grind [Ends.trans]
  . intro m hm outs' hsub'
    cases l with
    |nil=>cases hm
    |cons x l=>
     obtain⟨a,ha,h1⟩:=au.1 h;obtain⟨b,hb,h2⟩:=au.1 h1
     cases h2;rcases Ap.1 hm with rfl|hm
     . intro D E K base frC csC w hR;obtain⟨v,h',hx,he⟩:=ih.1 m a ha D E K base frC csC w hR;grind
     grind
end
end
section
variable [Inhabited aF]
section
variable {tab:bm} {ts ts':T AV} {h:AH}
theorem uu:∀(l:List Operand),(∀x∈l,ev ts x=ev ts' x)->kt ts l=kt ts' l:=by
 intro l;induction l with
 |nil=>intro _;rfl
 |cons x l ih=>
  grind [kt]
theorem Is:∀(l:List (Nat×Operand)),(∀x∈l.map (·.2),ev ts x=ev ts' x)->l9 ts l=l9 ts' l:=by
 intro l;induction l with
 |nil=>intro _;rfl
 |cons x l ih=>
  grind [l9]
theorem uh (o:Oper) (hx:∀x∈o.op.operands,ev ts x=ev ts' x):fb tab ts h o=fb tab ts' h o:=by
 obtain⟨dst,op,type,pos,after,guard⟩:=o
 cases op<;>simp only[Op.operands]at hx<;>simp only[fb]
 case build t ps=>rw[Is ps.toList fun x hm=>hx x (by grind)]
 case buildSlice t n ps=>rw[Is ps.toList fun x hm=>hx x (by grind)]
 case makeFunc fn first captured=>
  rw[uu first.toList fun x hm=>hx x (by grind),uu captured.toList fun x hm=>hx x (by grind)]
 case call c=>
  grind [uu,Call.operands]
 case slice t x lo hi mx=>
  have h0:ev ts x=ev ts' x:=hx x (by simp);have h1:∀y,lo=some y->ev ts y=ev ts' y:=fun y e=>hx y (by simp[e])
  have h2:∀y,hi=some y->ev ts y=ev ts' y:=fun y e=>hx y (by simp[e])
  have h3:∀y,mx=some y->ev ts y=ev ts' y:=fun y e=>hx y (by simp[e])
  rw[h0]
  cases lo<;>cases hi<;>cases mx<;>simp_all[jU,fH]
 case makeMap t r=>cases r<;>rfl
 all_goals grind
theorem RI {sub:FuncId->List AV->AH->R (List (AV×AH))} (o:Oper) (hx:∀x∈o.op.operands,ev ts x=ev ts' x):tC tab sub ts h o=tC tab sub ts' h o:=by
 have hp:=uh (tab:=tab) (h:=h) o hx;unfold tC
 cases hop:o.op
 case call c=>
  rw[hop]at hx;simp only
  cases hc:c.callee with
  |builtin b=>cases b<;>simp only[hp]
  |value f=>
   have h1:ev ts f=ev ts' f:=hx f (by grind [Op.operands,Call.operands]);have h2:kt ts c.args.toList=kt ts' c.args.toList:=uu c.args.toList fun x hm=>hx x (by grind [Op.operands,Call.operands])
   grind
  |invoke r m=>omega
 all_goals grind
theorem zV {ops:Array Oper} {o:Oper} (h:∀t∈looks ops o,ts.get t=ts'.get t):(∀x∈o.op.operands,ev ts x=ev ts' x)/\wanted ops o ts=wanted ops o ts':=by
 constructor
 . intro x hx
   cases x with
   |tmp t=>
    have:=h t (EG _ (List.mem_filterMap.2 ⟨.tmp t,by grind,rfl⟩));grind [ev]
   |const v=>rfl
   |func f=>rfl
   |global g=>rfl
 . unfold wanted
   cases hg:o.guard with
   |none=>rfl
   | some gw=>
    obtain⟨g,want⟩:=gw;simp only
    cases hd:(ops[g]?).bind (·.dst)with
    |none=>rfl
    |some d=>
     have:=h d (DO _ (by grind));grind
end
end
section
variable [Inhabited aF]
theorem jM:∀(l:List (Nat×Nat)) (h:AH),(iX h l).next=h.next:=by
 intro l;induction l with
 |nil=>intro h;rfl
 |cons x l ih=>grind [iX,AH.gM]
theorem iU:∀(l:List (Nat×Nat)) (h:AH) (i:Nat),(iX h l).get i=if ∃x∈l,x.2=i then none else h.get i:=by
 intro l;induction l with
 |nil=>grind [iX]
 |cons x l ih=>
  intro h i;simp only[iX,ih,nz];by_cases h1:∃y∈l,y.2=i
  . rw[Al h1,Al (by grind)]
  . rw[An h1];by_cases h2:i=x.2
    . rw[Al h2,Al ⟨x,Aq,h2.symm⟩]
    grind
theorem wE:∀(l:List (Nat×Nat)) (h h0:AH),(restore h h0 l).next=h.next:=by
 intro l;induction l with
 |nil=>intro h h0;rfl
 |cons x l ih=>grind [restore]
theorem oM:∀(l:List (Nat×Nat)) (h h0:AH) (i:Nat),(restore h h0 l).get i=if ∃x∈l,x.2=i then h0.get i else h.get i:=by
 intro l;induction l with
 |nil=>grind [restore]
 |cons x l ih=>
  intro h h0 i;simp only[restore,ih];have hg:({h with t:=h.t.set x.2 (h0.get x.2)}:AH).get i=if i=x.2 then h0.get x.2 else h.get i:=T.aZ _ _ _ _
  rw[hg];by_cases h1:∃y∈l,y.2=i
  . rw[Al h1,Al (by grind)]
  . rw[An h1];by_cases h2:i=x.2
    . rw[Al h2,Al ⟨x,Aq,h2.symm⟩,h2]
    grind
section
variable {E:Env} {h h0 h1 h2:AH} {K:KS} {w w':World}
def Rest (E:Env) (h h0:AH) (K:KS):KS:=⟨fun b=>K b\/ ∃i o,h.get i=some o/\h0.get i=none/\b=E.aA i,K.b⟩
theorem bH.part (H:bH E h K w) (hs:∀i o,h0.get i=some o->h.get i=some o) (hd:∀i o,h0.get i=some o->i<h0.next):bH E h0 (Rest E h h0 K) w:=by
 refine⟨fun i o hi=>H.obj i o (hs i o hi),?_,fun i j oi oj hi hj=>H.inj i j oi oj (hs i oi hi) (hs j oj hj),hd,?_,fun i o hi=>H.im i o (hs i o hi),fun b hb=> .inl (H.k0 b hb)⟩
 . rintro i o hi hr (hk|⟨j,oj,hj,hn,e⟩)
   . exact H.nk i o (hs i o hi) hr hk
   . have:=H.inj i j o oj (hs i o hi) hj hr e;grind
 . rintro b (hk|⟨j,oj,hj,hn,e⟩)
   . exact H.kb b hk
   . subst e;exact H.lt hj
theorem bH.join (H:bH E h K w) (H1:bH E h1 (Rest E h h0 K) w') (hk:Kept (Rest E h h0 K) w w')
   (hg:∀i o,h2.get i=some o->h1.get i=some o\/(h.get i=some o/\h0.get i=none)) (hd:∀i o,h2.get i=some o->i<h2.next):bH E h2 K w':=by
 refine⟨?_,?_,?_,hd,?_,?_,H.k0⟩
 . intro i o hi;rcases hg i o hi with g|⟨g,n⟩
   . exact H1.obj i o g
   . obtain⟨c,hc,ho⟩:=H.obj i o g;refine⟨c,?_,ho⟩;rw[<-hc];exact hk.block _ (.inr ⟨i,o,g,n,rfl⟩)
 . intro i o hi hr hK;rcases hg i o hi with g|⟨g,n⟩
   . exact H1.nk i o g hr (.inl hK)
   . exact H.nk i o g hr hK
 . intro i j oi oj hi hj hr e;rcases hg i oi hi with g|⟨g,n⟩<;>rcases hg j oj hj with g'|⟨g',n'⟩
   . exact H1.inj i j oi oj g g' hr e
   . exact absurd (.inr ⟨j,oj,g',n',e⟩) (H1.nk i oi g hr)
   . by_cases hrj:oj.ro
     . exact absurd (H.k0 _ (H1.im j oj g' hrj)) (by rw[<-e];exact H.nk i oi g hr)
     . exact absurd (.inr ⟨i,oi,g,n,e.symm⟩) (H1.nk j oj g' hrj)
   . exact H.inj i j oi oj g g' hr e
 . intro b hb;exact H1.kb b (.inl hb)
 . intro i o hi hr;rcases hg i o hi with g|⟨g,n⟩
   . exact H1.im i o g hr
   . exact H.im i o g hr
theorem Kept.part (hk:Kept (Rest E h h0 K) w w'):Kept K w w':=
 ⟨hk.os,hk.tape,hk.output,hk.size,fun b hb=>hk.block b (.inl hb),hk.drawn⟩
end
end
section
variable [Inhabited aF]
section
variable {P:Program} {tab:bm} (ok:bN P tab) {sub:FuncId->List AV->AH->R (List (AV×AH))} (hsub:lD P tab sub) (hext:lC P tab)
variable {D:Nat->Prop} {E:Env} {K:KS} {base:List Frame} {frC:Frame} {csC:List Frame} {w:World}
def vr (P:Program) (M0:Machine) (D N:Nat->Prop) (E:Env) (K:KS) (m':AM) (base:List Frame) (w:World):Prop:=
 ∃fr' cs' w' E',Steps P M0 (lone fr' cs' w')/\Rel (fun i=>D i\/N i) E' K m' base fr' cs' w'/\ak D E E'/\Kept K w w'
open Classical in
theorem Rel.qy {m m':AM} (hR:Rel D E K m base frC csC w) (M0:Machine) (N:Nat->Prop) (f:Nat->Nat×Nat) (hN:∀i,N i->¬D i) (hlt:∀i,D i\/N i->i<m'.h.next) (hwf:m'.fr.WF/\ ∀f∈m'.cs,f.WF)
  (h1:∀E',ak D E E'->bH E' m.h K w->bq E' m.fr=frC->m.cs.map (bq E')++base=csC->(∀i,N i->E'.aA i=(f i).1/\E'.cap i=(f i).2)->One P M0 E' K m' base w):
  vr P M0 D N E K m' base w:=by
 let E1:Env:=⟨fun i=>if N i then(f i).1 else E.aA i,fun i=>if N i then(f i).2 else E.cap i⟩
 have ha:ak D E E1:=by
  intro i hi;have:¬N i:=fun hn=>hN i hn hi
  grind
 have hE:∀i,N i->E1.aA i=(f i).1/\E1.cap i=(f i).2:=by
  grind
 have hE1:∀E',ak (fun i=>D i\/N i) E1 E'->One P M0 E' K m' base w:=by
  intro E' he;have hd:ak D E E':=ha.trans he (fun i hi=> .inl hi);obtain⟨g1,g2,g3⟩:=hR.all E' hd;refine h1 E' hd g1 g2 g3 (fun i hi=>?_);have h2:=he i (.inr hi);have h3:=hE i hi;omega
 obtain⟨w',s1,s2,s3⟩:=hE1 E1 (ak.refl _ _);refine⟨_,_,w',E1, .one s1,⟨?_,hlt,hwf⟩,ha,s3⟩;intro E' he;obtain⟨w2,t1,t2,t3⟩:=hE1 E' he;rw[s1]at t1;grind [sQ]
variable {fr fr':ag} {cs:List ag} {h h0 h1 h2:AH} {ops:Array Oper} {i:Nat} {rest:List Nat} {k:List bF} {o:Oper} {v:AV}
theorem Rel.live (hR:Rel D E K {fr,cs,h} base frC csC w) {i:Nat} {ob:AO} (hi:h.get i=some ob):D i:=by
 by_cases hd:D i
 . exact hd
 . have ha:ak D E ⟨fun j=>if j=i then w.heap.size else E.aA j,E.cap⟩:=by
    intro j hj;have:¬j=i:=fun e=>hd (e▸hj)
    grind
   have:=(hR.all _ ha).1.lt hi;grind
include ok in
theorem uy (hR:Rel D E K {fr,cs,h} base frC csC w) (a:iZ frC ops i rest o) (hp:fb tab fr.tmps h0 o= .ok (v,h1)) (hf:fr.finish v= .ok fr')
  (hs:∀i o,h0.get i=some o->h.get i=some o) (hd0:∀i o,h0.get i=some o->i<h0.next)
  (hg:∀i o,h2.get i=some o->h1.get i=some o\/(h.get i=some o/\h0.get i=none)) (hd2:∀i o,h2.get i=some o->i<h2.next\/(h1.get i=some o/\h1.next<=h2.next))
  (N:Nat->Prop) (hN1:h0.next<h1.next->N h0.next) (hN:∀i,N i->i=h0.next/\ ¬D i) (hlt:∀i,D i\/N i->i<h2.next):
  vr P (lone frC csC w) D N E K {fr:=fr',cs,h:=h2} base w:=by
 obtain⟨f,hgood⟩:=Iz ok hp w frC.eval;have hfc:=lq hf;have hρ:∀E',ak D E E'->∀x u,ev fr.tmps x= .ok u->frC.eval x=af E' u:=by
  intro E' he x u hx;rw[<-(hR.all E' he).2.1];exact pM hR.wf.1 E' hx
 refine hR.qy (m':={fr:=fr',cs,h:=h2}) _ N (fun _=>f) (fun i hi=>(hN i hi).2) hlt ⟨(hfc E).2.1 hR.wf.1,hR.wf.2⟩ ?_;intro E' he H e1 e2 hE';obtain⟨_,r,w',s1,s2,s3,s4⟩:=hgood E' _ (H.part hs hd0) (hρ E' he) (fun hlt=>hE' h0.next (hN1 hlt));refine⟨w',?_,H.join s3 s4 hg (fun i o hi=>(hd2 i o hi).elim id (fun h=>AR (s3.ey i o h.1) h.2)),s4.part⟩;rw[a.value (.inr (Kk hp)) csC s1 s2,<-e1,<-e2,(hfc E').1]
theorem Gi {M0:Machine} {N:Nat->Prop} {m':AM} {lo:Nat} (hg:vr P M0 D N E K m' base w) (hlo:lo<=m'.h.next) (hN:∀i,N i->lo<=i):gH P lo M0 D E K m' base w:=by
 obtain⟨fr',cs',w',E',h1,h2,h3,h4⟩:=hg;exact⟨fr',cs',w',E',_,h1,h2,h3,fun i hi=> .inl hi,h4,hlo,fun i hi=>hi.elim .inl (fun h=> .inr (hN i h))⟩
theorem Rel.fp (hR:Rel D E K {fr,cs,h} base frC csC w) {E':Env} (he:ak D E E'):Rest E' h h0 K=Rest E h h0 K:=by
 unfold Rest;congr 1
 funext b
 apply propext;constructor
 . rintro(hk|⟨i,o,h1,h2,e⟩)
   . grind
   . exact .inr ⟨i,o,h1,h2,by rw[e,(he i (hR.live h1)).1]⟩
 . rintro(hk|⟨i,o,h1,h2,e⟩)
   . grind
   . exact .inr ⟨i,o,h1,h2,by rw[e,(he i (hR.live h1)).1]⟩
include ok hsub hext in
theorem WD (hR :Rel D E K {fr,cs,h} base frC csC w) (a:iZ frC ops i rest o) (hp:tC tab sub fr.tmps h0 o= .ok (v,h1)) (hf:fr.finish v= .ok fr')
   (hs:∀i o,h0.get i=some o->h.get i=some o) (hd0:∀i o,h0.get i=some o->i<h0.next)
   (hg:∀i o,h2.get i=some o->h1.get i=some o\/(h.get i=some o/\h0.get i=none)) (hd2:∀i o,h2.get i=some o->i<h2.next\/(h1.get i=some o/\h1.next<=h2.next))
   (hle:h0.next<=h1.next) (hnx:h2.next=h1.next) (hltD:∀i,D i->i<h0.next):
   gH P h0.next (lone frC csC w) D E K {fr:=fr',cs,h:=h2} base w:=by
 have hpure:fb tab fr.tmps h0 o= .ok (v,h1)->gH P h0.next (lone frC csC w) D E K {fr:=fr',cs,h:=h2} base w:=by
   intro hp;refine Gi (uy ok hR a hp hf hs hd0 hg hd2 (fun i=>i=h0.next/\h0.next<h1.next) (fun h=>⟨rfl,h⟩) (fun i hi=>⟨hi.1,fun hd=>by have:=hltD i hd;omega⟩) ?_) (by grind) (fun i hi=>by omega);grind
 have hfc:=lq hf;have hρ:∀E',ak D E E'->∀x u,ev fr.tmps x= .ok u->frC.eval x=af E' u:=by
   intro E' he x u hx;rw[<-(hR.all E' he).2.1];exact pM hR.wf.1 E' hx
 unfold tC at hp;split at hp
 . rename_i c hc;split at hp
   . rename_i f hcf;obtain⟨args,hargs,hp1⟩:=au.1 hp;obtain⟨u,hu,hp2⟩:=au.1 hp1;obtain⟨d,hd,hp3⟩:=au.1 hp2;have hres:∀E',ak D E E'->Deferred.ofValue (frC.eval f) (c.args.map frC.eval)=pure (eu E' d):=by
       intro E' he;rw[<-si hd E',hρ E' he _ _ hu,<-qO (hρ E' he) _ _ hargs];congr 1
       grind
     have hrob:=uo hres;have hnd:∀c',o.op≠ .defer c':=by rw[hc];grind
     have hctx:Ctx P (lone frC csC w) frC csC w .normal (eu E d):=CC a (.inr hnd) (by grind [execOp,resolve,ak.refl]);split at hp3
     . rename_i g captured htg;have hinv:∀E',ak D E E'->invoke (eu E d).target (eu E d).args=callFunc g (bp E' (d.args++captured)).toArray:=by
         grind [eu,nZ,invoke,ee]
       split at hp3
       . rename_i fn hfn;have hP:=ok.fns g fn hfn;have hn:fn.name≠ "runtime.NumGoroutine" :=by simpa using ok.wk g fn hfn
         split at hp3
         . rename_i body hb;obtain⟨outs,ho,hp4⟩:=au.1 hp3;split at hp4
           . cases hp4;have hrun:∀a,(callFunc g a).run P w= .ok (.enter g a) w:=by
               intro a;simp[callFunc,hP,hn,hb]
             have hstep:∀E',ak D E E'->Go.step P (lone frC csC w)= .next (lone (Frame.enter P g (bp E' (d.args++captured)).toArray .normal) (frC::csC) w):=fun E' he=>
               hctx.enter _ _ _ (by rw[hinv E' he,hrun])
             have hargsC:∀E',ak D E E'->(bp E' (d.args++captured)).toArray=(bp E (d.args++captured)).toArray:=by
               grind [ak.refl]
             obtain⟨v2,h2',hmem,he2⟩:=hsub g fn body _ h0 _ hfn hb ho D E (Rest E h h0 K) w (bp E (d.args++captured)).toArray
               (fun E' he=>⟨by rw[<-hR.fp he];exact(hR.all E' he).1.part hs hd0,hargsC E' he⟩) hltD (frC::csC)
             rcases Ap.1 hmem with e|hmem
             . cases e;obtain⟨fr1,w',vC,E',D',s1,s2,s3,s4,s5,s6,s7,s8,s9,s10⟩:=he2;refine⟨frC.finish vC,csC,w',E',D',?_,⟨?_,?_,?_⟩,s5,s6,s8.part,by grind,s10⟩
               . exact(Steps.head (hstep E (ak.refl _ _)) s1).trans (.one (step_leave_returned s3))
               . intro E'' he';obtain⟨g1,g2⟩:=s4 E'' he';have hag:=s5.trans he' s6;obtain⟨k1,k2,k3⟩:=hR.all E'' hag;refine⟨k1.join (by rw[hR.fp hag];exact g1) (by rw[hR.fp hag];exact s8) hg (fun i o hi=>(hd2 i o hi).elim id (fun h=>AR (g1.ey i o h.1) h.2)),?_,k3⟩;rw[<-(hfc E'').1,<-g2,<-k2]
               . grind
               . exact⟨(hfc E).2.1 hR.wf.1,hR.wf.2⟩
             grind
           grind
         . rename_i hb;obtain⟨gg,hgg⟩:=hext g fn _ h0 v h1 hfn hb hp3 w;refine Gi (N:=fun i=>i=h0.next/\h0.next<h1.next) (hR.qy (m':={fr:=fr',cs,h:=h2}) _ _ (fun _=>gg) (fun i hi hd=>by have:=hltD i hd;omega) ?_ ⟨(hfc E).2.1 hR.wf.1,hR.wf.2⟩ ?_) (by grind) (fun i hi=>by omega)
           . grind
           . intro E' he H e1 e2 hE';obtain⟨_,w',s1,s2,s3⟩:=hgg E' _ (H.part hs hd0) (fun hlt=>hE' h0.next ⟨rfl,hlt⟩);refine⟨w',?_,H.join s2 s3 hg (fun i o hi=>(hd2 i o hi).elim id (fun h=>AR (s2.ey i o h.1) h.2)),s3.part⟩;rw[hctx.value (af E' v) w' (by rw[hinv E' he,s1]) rfl,<-e1,<-e2,(hfc E').1]
       grind
     grind
   all_goals grind
 all_goals grind
end
end
section
variable [Inhabited aF]
section
variable {tab:bm} {ts:T AV} {h h':AH} {v:AV}
theorem R4 {t:TypeId} {x:AV} {lo hi mx:Option Operand} (hp:jU tab ts h t x lo hi mx= .ok (v,h')):h'=h:=by
 unfold jU at hp;simp only[cond_eq_ite]at hp
 repeat' (first
  |(cases hp;done)
  |(cases hp;rfl)
  |(obtain⟨_,_,hp⟩:=au.1 hp)
  |split at hp)
theorem RB {b:Builtin} {l:List AV} {at_:Array TypeId} (hb:b= .len\/b= .cap\/b= .min\/b= .max) (hp:builtin tab b at_ l h= .ok (v,h')):h'=h:=by
 unfold builtin at hp;rcases hb with rfl|rfl|rfl|rfl
 all_goals (repeat' (first
  |contradiction
  |(cases hp;done)
  |(cases hp;rfl)
  |(obtain⟨_,_,hp⟩:=au.1 hp)
  |split at hp))
theorem Vz {src dst:TypeId} (h:(match tab.und.get src,tab.und.get dst with
  |some (.int _),some (.int _)=>qd.pure
  |_,_=>qd.lk)=qd.pure\/(match tab.und.get src,tab.und.get dst with
  |some (.int _),some (.int _)=>qd.pure
  |_,_=>qd.lk)=qd.read):∃k j,tab.und.get src=some (.int k)/\tab.und.get dst=some (.int j):=by
 grind
theorem L3 {src dst:TypeId} {k j:IntKind} (h1:tab.und.get src=some (.int k)) (h2:tab.und.get dst=some (.int j)) {x:AV} (hp:oK tab h src dst x= .ok (v,h')):∃i n,x= .int i n/\v= .int j (j.wrap n)/\h'=h:=by
 have e1:und tab src= .ok (.int k):=de.2 h1;have e2:und tab dst= .ok (.int j):=de.2 h2;grind [oK,au,convert]
theorem Jf {src dst:TypeId} {k j:IntKind} (h1:tab.und.get src=some (.int k)) (h2:tab.und.get dst=some (.int j)) (i:IntKind) (n:Int) (h:AH):oK tab h src dst (.int i n)= .ok (.int j (j.wrap n),h):=by
 have e1:und tab src= .ok (.int k):=de.2 h1;have e2:und tab dst= .ok (.int j):=de.2 h2;unfold oK;rw[e2];unfold convert;rw[e1,e2];rfl
theorem wy {o:Oper} (hc:cls tab o≠ .lk/\cls tab o≠ .alloc) (hp:fb tab ts h o= .ok (v,h')):h'=h:=by
 obtain⟨dst,op,type,pos,after,guard⟩:=o;unfold fb at hp
 cases op<;>simp only[cls]at hc<;>simp only at hp
 case slice t x lo hi mx=>
  grind [au,R4]
 case call c=>
  grind [au,RB]
 case convert src dst x=>
  grind [au,L3]
 all_goals first
  |exact absurd rfl hc.1
  |exact absurd rfl hc.2
  |(repeat' (first
   |(cases hp;done)
   |(cases hp;rfl)
   |(obtain⟨_,_,hp⟩:=au.1 hp)
   |split at hp))
end
end
section
variable [Inhabited aF]
def Kind (tab:bm) (ops:Array Oper) (s:DS) (j:Nat) (o:Oper) (tj:T AV) (v:AV):Prop:=
  (wanted ops o tj= .ok false/\v= .bA []/\ ∀x∈s.aC,x.1≠j)\/
  (wanted ops o tj= .ok true/\
    (((∃h1,fb tab tj {t:= .e,next:=0} o= .ok (v,h1)/\h1.next=0)/\ ∀x∈s.aC,x.1≠j)\/
     (∃b h1 ob,((j,b)∈s.aC/\ ∀x∈s.aC,x.1=j->x.2=b)/\fb tab tj {t:= .e,next:=b} o= .ok (v,h1)/\h1.next=b+1/\h1.get b=some ob/\s.h.get b=some ob)\/
     (((j,tj,v)∈s.reads/\ ∀x∈s.aC,x.1≠j)/\cls tab o≠ .lk/\cls tab o≠ .alloc/\ ∃hr,fb tab tj hr o= .ok (v,hr)/\ ∀b ob,hr.get b=some ob->b<hr.next/\s.h.get b=some ob/\ ∀x∈s.aC,x.2≠b)))
def cj (ops:Array Oper) (ts0:T AV) (s:DS) (j:Nat) (o:Oper) (tj:T AV):Prop:=
 ∀t∈looks ops o,(∃i oi,ops[i]? =some oi/\oi.dst=some t/\i∈iJ o/\(s.aM.get i).isSome/\tj.get t=s.ts.get t)\/
  (tj.get t=ts0.get t/\ ∀i oi a,ops[i]? =some oi->oi.dst=some t->s.aM.get i=some a->i=j\/j∈a)
def y8 (tab:bm) (ops:Array Oper) (nt:Nat) (ts0:T AV) (s:DS) (j:Nat):Prop:=
 ∃o tj v,ops[j]? =some o/\(∀d,o.dst=some d->d<nt->s.ts.get d=some v)/\cj ops ts0 s j o tj/\Kind tab ops s j o tj v
structure dg (tab:bm) (ops:Array Oper) (nt:Nat) (ts0:T AV) (lo:Nat) (s:DS) (X:Nat->Prop):Prop where
 cx:∀j,X j->(s.aM.get j).isSome
 rp:∀j a,X j->s.aM.get j=some a->∀i∈a,X i
 op:∀j,(s.aM.get j).isSome->∃o,ops[j]? =some o
 shape:∀j a o,s.aM.get j=some a->ops[j]? =some o->(∀i∈iJ o,i∈a/\(s.aM.get i).isSome)/\ ∀i∈a,i∈iJ o\/ ∃p∈iJ o,∃ap,s.aM.get p=some ap/\i∈ap
 uniq:∀i j oi oj d,(s.aM.get i).isSome->ops[i]? =some oi->ops[j]? =some oj->oi.dst=some d->oj.dst=some d->i=j
 qc:∀t,(∀j o,(s.aM.get j).isSome->ops[j]? =some o->o.dst≠some t)->s.ts.get t=ts0.get t
 lL:∀j,(s.aM.get j).isSome->¬X j->y8 tab ops nt ts0 s j
 al:∀x∈s.aC,x.2<s.h.next/\(s.aM.get x.1).isSome/\lo<=x.2
 nx:lo<=s.h.next
 tF:∀t,nt<=t->s.ts.get t=none
 sg:∀x∈s.aC,∀y∈s.aC,x.2=y.2->x=y
 hd:∀i o,s.h.get i=some o->i<s.h.next
theorem eM {i:Nat} {l:List Nat}:cM i l=true↔i∈l:=by
 grind [cM,Nat.eq_of_beq_eq_true,Nat.beq_refl]
theorem RP {aM:T (List Nat)} {t:Tmp} {pre:List Nat}:∀(l:List Oper) (k:Nat),wT aM t pre k l=true->∀j o,l[j]? =some o->o.dst=some t->(aM.get (k+j)).isSome->k+j∈pre:=by
 intro l;induction l with
 |nil=>grind
 | cons x l ih=>
  intro k h j o hj hd hc;simp only[wT,Ac]at h
  cases j with
  |zero=>
   grind [Nat.beq_refl,eM]
  |succ j=>
   have:=ih (k+1) h.2 j o (by grind) hd (by rw[show k+1+j=k+(j+1)from by omega];exact hc);rw[show k+1+j=k+(j+1)from by omega]at this;omega
theorem Tn {aM:T (List Nat)} {ops:Array Oper} {i:Nat} {a:Tmp} {an:List Nat}:∀(l:List Oper) (k:Nat),xI aM ops i a an k l=true->∀j o,l[j]? =some o->
  (o.dst=some a->i=k+j)/\((aM.get (k+j)).isSome->a∈looks ops o->k+j∈an):=by
 intro l;induction l with
 |nil=>grind
 | cons x l ih=>
  intro k h j o hj;simp only[xI,Ac]at h;obtain⟨⟨h1,h2⟩,h3⟩:=h
  cases j with
  |zero=>
   grind [Nat.beq_refl,Nat.eq_of_beq_eq_true,eM]
  |succ j=>
   have:=ih (k+1) h3 j o (by grind);rw[show k+1+j=k+(j+1)from by omega]at this;omega
theorem xO {aM:T (List Nat)} {ops:Array Oper} {i:Nat} {o:Oper} (h:jH aM ops i o=true):
   (∀t∈looks ops o,∀j oj,ops[j]? =some oj->oj.dst=some t->(aM.get j).isSome->j∈iJ o)/\
   (∀d,o.dst=some d->∀j oj,ops[j]? =some oj->(oj.dst=some d->i=j)/\((aM.get j).isSome->d∈looks ops oj->j∈eO aM o)):=by
 unfold jH at h;simp only[Ac,AB]at h;constructor
 . intro t ht j oj hj hd hc;have:=RP ops.toList 0 (h.1 t ht) j oj (by grind) hd (by grind);grind
 . intro d hd j oj hj;have h2:=h.2;rw[hd]at h2;have:=Tn ops.toList 0 h2 j oj (by grind);grind
theorem pI {aM:T (List Nat)} {i:Nat} {o:Oper} (h:isReady aM i o=true):aM.get i=none/\ ∀j∈iJ o,(aM.get j).isSome:=by
 simp_all[isReady]
end
section
variable [Inhabited aF]
theorem lp (nt:Nat) (ts:T AV) (o:Oper) (v:AV) (t:Nat):(iW nt ts o v).get t=if o.dst=some t/\t<nt then some v else ts.get t:=by
 unfold iW
 cases hd:o.dst with
 |none=>simp
 |some d=>
  have:=CH ts nt d v t;grind [gO]
theorem VS {i:Nat} {l:List Nat}:cM i l=true↔i∈l:=by
 grind [cM,Nat.eq_of_beq_eq_true,Nat.beq_refl]
theorem Kv {i j:Nat} {l:List Nat}:i∈ou j l↔i=j\/i∈l:=by
 grind [ou,VS]
theorem Vh {i:Nat}:∀{m l:List Nat},i∈vu m l↔i∈m\/i∈l:=by
 intro m;induction m with
 |nil=>grind [vu]
 |cons j m ih=>
  grind [vu,Kv]
theorem fF {aM:T (List Nat)} {o:Oper} {i:Nat}:i∈eO aM o↔i∈iJ o\/ ∃p∈iJ o,∃ap,aM.get p=some ap/\i∈ap:=by
 unfold eO;induction iJ o with
 |nil=>simp[yf]
 |cons j l ih=>
  simp only[yf,Kv,Vh,ih,Ap];constructor
  . rintro(rfl|h|h|⟨p,hp,ap,h1,h2⟩)
    . omega
    . cases ha:aM.get j with
      |none=>rw[ha]at h;cases h
      |some ap=>rw[ha]at h;grind
    all_goals grind
  grind
section
variable {tab:bm} {ops:Array Oper} {nt lo:Nat} {ts0:T AV} {s s':DS} {X:Nat->Prop} {i:Nat} {o:Oper} {v:AV}
theorem dg.float (H:dg tab ops nt ts0 lo s X) (hi:ops[i]? =some o) (hr:isReady s.aM i o=true) (hok:jH s.aM ops i o=true)
   (e1:s'.ts=iW nt s.ts o v) (e2:s'.aM=s.aM.set i (some (eO s.aM o))) (eh:∀b ob,s.h.get b=some ob->s'.h.get b=some ob) (en:s.h.next<=s'.h.next)
   (ea:s'.aC=s.aC\/(s'.aC=(i,s.h.next)::s.aC/\s'.h.next=s.h.next+1)) (er:∀x∈s.reads,x∈s'.reads) (hd':∀b ob,s'.h.get b=some ob->b<s'.h.next)
   (hk:Kind tab ops s' i o s.ts v):dg tab ops nt ts0 lo s' X:=by
 obtain⟨hnone,hpre⟩:=pI hr;obtain⟨hok1,hok2⟩:=xO hok;have hanc:∀j,s'.aM.get j=if j=i then some (eO s.aM o)else s.aM.get j:=by
   grind [T.aZ]
 have hold:∀j,(s.aM.get j).isSome->j≠i/\s'.aM.get j=s.aM.get j:=by
   grind
 have hnd:∀j oj d,(s.aM.get j).isSome->ops[j]? =some oj->oj.dst=some d->o.dst≠some d:=by
   grind
 have hts:∀t,o.dst≠some t->s'.ts.get t=s.ts.get t:=by
   grind [lp]
 refine⟨?_,?_,?_,?_,?_,?_,?_,?_,Ar H.nx en,?_,?_,hd'⟩
 . intro j hj;rw[(hold j (H.cx j hj)).2];exact H.cx j hj
 . intro j a hj ha;rw[(hold j (H.cx j hj)).2]at ha;exact H.rp j a hj ha
 . intro j hj;rw[hanc]at hj;by_cases h1:j=i
   . grind
   . rw[An h1]at hj;exact H.op j hj
 . intro j a oj ha hoj;rw[hanc]at ha;by_cases h1:j=i
   . grind [fF]
   . rw[An h1]at ha;obtain⟨g1,g2⟩:=H.shape j a oj ha hoj;grind
 . intro a b oa ob d ha hoa hob hda hdb;rw[hanc]at ha;by_cases h1:a=i
   . grind
   . rw[An h1]at ha;exact H.uniq a b oa ob d ha hoa hob hda hdb
 . intro t ht;have h1:o.dst≠some t:=ht i o (by rw[hanc,Al rfl];rfl) hi;rw[hts t h1];exact H.qc t (fun j oj hj hoj=>ht j oj (by rw[(hold j hj).2];exact hj) hoj)
 . intro j hj hx;by_cases h1:j=i
   . subst h1;refine⟨o,s.ts,v,hi,?_,?_,hk⟩
     . grind [lp]
     . intro t ht;by_cases hw:∃jj oj,ops[jj]? =some oj/\oj.dst=some t/\(s.aM.get jj).isSome
       . obtain⟨jj,oj,g1,g2,g3⟩:=hw;refine .inl ⟨jj,oj,g1,g2,hok1 t ht jj oj g1 g2 g3,by rw[(hold jj g3).2];exact g3,?_⟩;exact(hts t (hnd jj oj t g3 g1 g2)).symm
       . refine .inr ⟨H.qc t (fun jj oj g3 g1 g2=>hw ⟨jj,oj,g1,g2,g3⟩),?_⟩;grind
   . have hj':(s.aM.get j).isSome:=by rw[hanc,An h1]at hj;exact hj
     obtain⟨oj,tj,vj,g1,g2,g3,g4⟩:=H.lL j hj' hx;refine⟨oj,tj,vj,g1,?_,?_,?_⟩
     . intro d hd hlt;rw[hts d (hnd j oj d hj' g1 hd)];exact g2 d hd hlt
     . intro t ht;rcases g3 t ht with⟨i1,oi1,k1,k2,k3,k4,k5⟩|⟨k1,k2⟩
       . refine .inl ⟨i1,oi1,k1,k2,k3,by rw[(hold i1 k4).2];exact k4,?_⟩;rw[k5,hts t (hnd i1 oi1 t k4 k1 k2)]
       . refine .inr ⟨k1,?_⟩;intro i' oi a q1 q2 q3;rw[hanc]at q3;by_cases h2:i'=i
         . subst h2;rw[Al rfl]at q3;rw[hi]at q1
           cases q1;cases q3;exact .inr ((hok2 t q2 j oj g1).2 hj' ht)
         . rw[An h2]at q3;exact k2 i' oi a q1 q2 q3
     . have hnoA:(∀x∈s.aC,x.1≠j)->∀x∈s'.aC,x.1≠j:=by
         intro hx x hm;rcases ea with ea|⟨ea,_⟩<;>rw[ea]at hm
         . exact hx x hm
         . rcases Ap.1 hm with rfl|hm
           . exact fun e=>h1 e.symm
           . exact hx x hm
       rcases g4 with⟨k1,k2,k3⟩|⟨k1,k2⟩
       . exact .inl ⟨k1,k2,hnoA k3⟩
       . refine .inr ⟨k1,?_⟩;rcases k2 with k2|⟨b,h1',ob,m1,m2,m3,m4,m5⟩|⟨m1,m2,m3,hr',m4,m5⟩
         . exact .inl ⟨k2.1,hnoA k2.2⟩
         . refine .inr (.inl ⟨b,h1',ob,?_,m2,m3,m4,eh _ _ m5⟩);rcases ea with ea|⟨ea,_⟩<;>rw[ea]
           . exact m1
           . refine⟨AS _ m1.1,fun x hm e=>?_⟩;rcases Ap.1 hm with rfl|hm
             . exact absurd e.symm h1
             . exact m1.2 x hm e
         . refine .inr (.inr ⟨⟨er _ m1.1,hnoA m1.2⟩,m2,m3,hr',m4,?_⟩);intro b ob hb;obtain⟨n1,n2,n3⟩:=m5 b ob hb;refine⟨n1,eh _ _ n2,?_⟩;intro x hx';rcases ea with ea|⟨ea,_⟩<;>rw[ea]at hx'
           . exact n3 x hx'
           . rcases Ap.1 hx' with rfl|hx'
             . have:=H.hd b ob n2;omega
             . exact n3 x hx'
 . intro x hx;rcases ea with ea|⟨ea,hnx⟩<;>rw[ea]at hx
   . have:=H.al x hx;exact⟨by omega,by rw[(hold _ this.2.1).2];exact this.2.1,this.2.2⟩
   . rcases Ap.1 hx with rfl|hx
     . exact⟨by omega,by rw[hanc,Al rfl];rfl,H.nx⟩
     . have:=H.al x hx;exact⟨by omega,by rw[(hold _ this.2.1).2];exact this.2.1,this.2.2⟩
 . intro t ht;rw[e1,lp,An (fun h=>absurd h.2 (Nat.not_lt.2 ht))];exact H.tF t ht
 . intro x hx y hy e;rcases ea with ea|⟨ea,hnx⟩<;>rw[ea]at hx hy
   . exact H.sg x hx y hy e
   . rcases Ap.1 hx with rfl|hx<;>rcases Ap.1 hy with rfl|hy
     . rfl
     . have:=(H.al y hy).1;omega
     . have:=(H.al x hx).1;omega
     . exact H.sg x hx y hy e
end
end
section
variable [Inhabited aF]
section
variable {tab:bm} {ops:Array Oper} {nt lo:Nat} {ts0:T AV} {s s':DS} {X:Nat->Prop} {i:Nat} {o:Oper} {v:AV}
theorem Iu (hf:ur tab ops nt i o s= .ok (some s')) (hi:ops[i]? =some o) (hr:isReady s.aM i o=true) (H:dg tab ops nt ts0 lo s X):dg tab ops nt ts0 lo s' X:=by
 obtain⟨_,hck,hf1⟩:=au.1 hf;have hok:=eD.1 hck;obtain⟨b,hb,hf2⟩:=au.1 hf1;have hnoA:∀x∈s.aC,x.1≠i:=by
  intro x hx e;have:=(H.al x hx).2.1;rw[e,(pI hr).1]at this;grind
 cases b with
 |false=>
  cases hf2;exact H.float hi hr hok rfl rfl (fun _ _ h=>h) (Ad _) (.inl rfl) (fun _ h=>h) H.hd (.inl ⟨hb,rfl,hnoA⟩)
 | true =>
  simp only[Dp,Az,Bh]at hf2;split at hf2
  . grind
  ·
    obtain⟨⟨u,h1⟩,hp,hf3⟩:=au.1 hf2;obtain⟨_,hn,hf4⟩:=au.1 hf3;obtain⟨ob,hob,hf5⟩:=au.1 hf4
    cases hf5;have hn:=Af (eD.1 hn);have hob:=de.1 hob;refine H.float (v:=u) hi hr hok rfl rfl ?_ (by simp) (.inr ⟨rfl,rfl⟩) (fun _ h=>h) ?_ (.inr ⟨hb, .inr (.inl ⟨s.h.next,h1,ob,⟨Aq,?_⟩,hp,hn,hob,?_⟩)⟩)
    . intro b ob' hg;have:=H.hd b ob' hg;grind [AH.aT]
    . intro b ob' hg;rw[AH.aT]at hg;split at hg
      . simp_all
      . have:=H.hd b ob' hg;grind [AH.cE]
    all_goals grind [AH.aT]
  ·
    rename_i hne hna;split at hf2
    . rename_i u h1 hm;obtain⟨_,hn,hf3⟩:=au.1 hf2
      cases hf3;have hn:=Af (eD.1 hn);have hp:fb tab s.ts {t:= .e,next:=0} o= .ok (u,h1):=by
        grind
      exact H.float (v:=u) hi hr hok rfl rfl (fun _ _ h=>h) (Ad _) (.inl rfl) (fun _ h=>h) H.hd (.inr ⟨hb, .inl ⟨⟨h1,hp,hn⟩,hnoA⟩⟩)
    . split at hf2
      . rename_i u h1 hp
        cases hf2;have hsame:=wy (tab:=tab) (o:=o) ⟨fun e=>hne (by rw[e]),fun e=>hna (by rw[e])⟩ hp;subst hsame;refine H.float (v:=u) hi hr hok rfl rfl (fun _ _ h=>h) (Ad _) (.inl rfl) (fun _ h=>AS _ h) H.hd
          (.inr ⟨hb, .inr (.inr ⟨⟨Aq,hnoA⟩,fun e=>hne (by rw[e]),fun e=>hna (by rw[e]),_,hp,?_⟩)⟩)
        intro b ob hg;rw[iU]at hg;split at hg
        . cases hg
        . rename_i hnx;refine⟨by rw[jM];exact H.hd b ob hg,hg,fun x hx e=>hnx ⟨x,hx,e⟩⟩
      grind
theorem wx:∀(l:List Oper) (k:Nat) (s s':DS),(∀j o,l[j]? =some o->ops[k+j]? =some o)->lv tab ops nt k l s= .ok s'->dg tab ops nt ts0 lo s X->dg tab ops nt ts0 lo s' X:=by
 intro l;induction l with
 |nil=>grind [lv]
 |cons o l ih=>
  intro k s s' hl h H;have hl':∀j o',l[j]? =some o'->ops[k+1+j]? =some o':=by
    intro j o' hj;have:=hl (j+1) o' (by grind);rw[show k+1+j=k+(j+1)from by omega];omega
  simp only[lv]at h;by_cases hr:isReady s.aM k o=true
  . simp only[hr,BZ]at h;obtain⟨x,hx,h1⟩:=au.1 h
    cases x with
    |none=>grind
    |some s1=>exact ih (k+1) s1 s' hl' h1 (Iu hx (by simpa using hl 0 o rfl) hr H)
  grind
theorem K6:∀(l:List Oper) (k:Nat) (aM:T (List Nat)) (j:Nat) (o:Oper),l[j]? =some o->isReady aM (k+j) o=true->(k+j,o)∈jP aM k l:=by
 intro l;induction l with
 |nil=>grind
 | cons x l ih=>
  intro k aM j o hj hr;simp only[jP]
  cases j with
  |zero=>
   grind
  |succ j=>
   have h1:=ih (k+1) aM j o (by grind) (by rw[show k+1+j=k+(j+1)from by omega];exact hr);rw[show k+1+j=k+(j+1)from by omega]at h1;grind
theorem IX:∀(l:List Oper) (k:Nat) (aM:T (List Nat)) (j:Nat) (o:Oper),(j,o)∈jP aM k l->∃j',j=k+j'/\l[j']? =some o/\isReady aM j o=true:=by
 intro l;induction l with
 |nil=>grind [jP]
 | cons x l ih=>
  intro k aM j o h;simp only[jP]at h
  cases hr:isReady aM k x with
  |true=>
   rw[hr]at h;rcases Ap.1 h with e|h
   . simp_all
   . obtain⟨j',h1,h2,h3⟩:=ih (k+1) aM j o h;exact⟨j'+1,by omega,by grind,h3⟩
  |false=>
   rw[hr]at h;obtain⟨j',h1,h2,h3⟩:=ih (k+1) aM j o h;exact⟨j'+1,by omega,by grind,h3⟩
end
end
section
variable [Inhabited aF]
structure eP (ops:Array Oper) (fr0:ag) (cs:List ag) (k:List bF) (base:List Frame) (s:DS) (X:Nat->Prop) (D:Nat->Prop) (E:Env) (K:KS)
  (tsR:T AV) (hR:AH) (l:List Nat) (frC:Frame) (csC:List Frame) (w:World):Prop where
 rel:Rel D E K {fr:={fr0 with tmps:=tsR,todo:= .inRegion ops l::k},cs,h:=hR} base frC csC w
 hr:∀i ob,hR.get i=some ob↔s.h.get i=some ob/\ ∀x∈s.aC,x.2=i->X x.1
 hn:hR.next=s.h.next
 pt:∀j o t,X j->ops[j]? =some o->o.dst=some t->tsR.get t=s.ts.get t
 po:∀t,(∀j o,X j->ops[j]? =some o->o.dst≠some t)->tsR.get t=fr0.tmps.get t
 dp:∀x∈s.aC,¬X x.1->¬D x.2
section
variable {P:Program} {tab:bm} (ok:bN P tab)
variable {D:Nat->Prop} {E:Env} {K:KS} {base:List Frame} {frC:Frame} {csC:List Frame} {w:World}
variable {ops:Array Oper} {fr0:ag} {cs:List ag} {k:List bF} {lo:Nat} {s:DS} {X:Nat->Prop} {tsR:T AV} {hR:AH} {j:Nat} {l:List Nat} {o:Oper} {v:AV}
theorem UP {fr fr':ag} {h:AH} {i:Nat} {rest:List Nat} {k:List bF} (hR:Rel D E K {fr,cs,h} base frC csC w) (hm:fr.mode= .run) (ht:fr.todo= .inRegion ops (i::rest)::k) (ho:ops[i]? =some o) (hw:wanted ops o fr.tmps= .ok false)
  (hf:fr.finish (.bA [])= .ok fr'):vr P (lone frC csC w) D (fun _=>False) E K {fr:=fr',cs,h} base w:=by
 have hfc:=lq hf;refine hR.qy (m':={fr:=fr',cs,h}) _ _ (fun _=>(0,0)) (fun _ h=>h.elim) (fun i hi=>hi.elim (hR.ey i) False.elim) ⟨(hfc E).2.1 hR.wf.1,hR.wf.2⟩ ?_;intro E' he H e1 e2 _;refine⟨w,step_lone_go ?_,H,Kept.refl K w⟩;have hw':=zR hR.wf.1 hw E';rw[<-(hfc E').1,<-e1,<-e2];have h1:(bq E' fr).todo= .inRegion ops (i::rest)::k.map (dJ E'):=by grind [bq,dJ]
 have h2:(bq E' fr).mode= .run:=by grind [bq,fo]
 have h3:Region.wanted o (yielded ops (bq E' fr).tmps)=false:=hw';unfold stepG stepG.exec;simp[h1,h2,ho,h3];rfl
theorem Vd (H:dg tab ops fr0.nt fr0.tmps lo s X) (R:eP ops fr0 cs k base s X D E K tsR hR l frC csC w) {tj:T AV} (hl:cj ops fr0.tmps s j o tj) (hx:¬X j) (hready:∀p∈iJ o,X p):
   ∀t∈looks ops o,tsR.get t=tj.get t:=by
 intro t ht;rcases hl t ht with⟨i,oi,h1,h2,h3,_,h5⟩|⟨h1,h2⟩
 . rw[h5,R.pt i oi t (hready i h3) h1 h2]
 . rw[h1];refine R.po t (fun i oi hi hoi hd=>?_);have hc:=H.cx i hi
   cases ha:s.aM.get i with
   |none=>rw[ha]at hc;cases hc
   |some a=>
    rcases h2 i oi a hoi hd ha with e|hm
    . grind
    . exact hx (H.rp i a hi ha j hm)
theorem dg.tM (H:dg tab ops fr0.nt fr0.tmps lo s X) (hC:(s.aM.get j).isSome) (ho:ops[j]? =some o) (hready:∀p∈iJ o,X p):dg tab ops fr0.nt fr0.tmps lo s (fun i=>X i\/i=j):=by
 refine⟨?_,?_,H.op,H.shape,H.uniq,H.qc,fun i hi hx=>H.lL i hi (fun h=>hx (.inl h)),H.al,H.nx,H.tF,H.sg,H.hd⟩
 . rintro i (hi|rfl)
   . exact H.cx i hi
   omega
 . rintro i a (hi|rfl) ha x hx
   . exact .inl (H.rp i a hi ha x hx)
   . obtain⟨g1,g2⟩:=H.shape i a o ha ho;rcases g2 x hx with hp|⟨p,hp,ap,h1,h2⟩
     . grind
     . exact .inl (H.rp p ap (hready p hp) h1 x h2)
theorem qzR (H:dg tab ops fr0.nt fr0.tmps lo s X) (R:eP ops fr0 cs k base s X D E K tsR hR l frC csC w) (hC:(s.aM.get j).isSome) (ho:ops[j]? =some o) (hdst:∀d,o.dst=some d->d<fr0.nt->s.ts.get d=some v):
   (∀i oi t,(X i\/i=j)->ops[i]? =some oi->oi.dst=some t->(iW fr0.nt tsR o v).get t=s.ts.get t)/\
   (∀t,(∀i oi,(X i\/i=j)->ops[i]? =some oi->oi.dst≠some t)->(iW fr0.nt tsR o v).get t=fr0.tmps.get t):=by
 constructor
 . intro i oi t hi hoi hd;rw[lp];by_cases h1:o.dst=some t/\t<fr0.nt
   . rw[Al h1,hdst t h1.1 h1.2]
   . rw[An h1];rcases hi with hi|rfl
     . exact R.pt i oi t hi hoi hd
     . rw[ho]at hoi
       cases hoi;have hge:fr0.nt<=t:=DG (fun hlt=>h1 ⟨hd,hlt⟩);rw[H.tF t hge];exact R.rel.wf.1 t hge
 . intro t ht;rw[lp,An (fun h=>ht j o (.inr rfl) ho h.1)];exact R.po t (fun i oi hi hoi=>ht i oi (.inl hi) hoi)
theorem zC (ho:ops[j]? =some o) (v:AV):ag.finish {fr0 with tmps:=tsR,todo:= .inRegion ops (j::l)::k} v= .ok {fr0 with tmps:=iW fr0.nt tsR o v,todo:= .inRegion ops l::k}:=by
 unfold ag.finish;simp only[ho,DD];congr 1
end
end
section
variable [Inhabited aF]
section
variable {P:Program} {tab:bm} (ok:bN P tab) {sub:FuncId->List AV->AH->R (List (AV×AH))} (hsub:lD P tab sub) (hext:lC P tab)
variable {D:Nat->Prop} {E:Env} {K:KS} {base:List Frame} {frC:Frame} {csC:List Frame} {w:World}
variable {ops:Array Oper} {fr0:ag} {cs:List ag} {k:List bF} {lo:Nat} {s:DS} {X:Nat->Prop} {tsR:T AV} {hR:AH} {j:Nat} {l:List Nat} {o:Oper} {v:AV}
def tk (P:Program) (ops:Array Oper) (fr0:ag) (cs:List ag) (k:List bF) (base:List Frame) (s:DS) (X:Nat->Prop) (D:Nat->Prop) (E:Env) (K:KS) (lo:Nat) (l:List Nat) (frC:Frame) (csC:List Frame) (w:World):Prop:=
 ∃tsR' hR' frC' csC' w' D' E',Steps P (lone frC csC w) (lone frC' csC' w')/\eP ops fr0 cs k base s X D' E' K tsR' hR' l frC' csC' w'/\ak D E E'/\(∀i,D i->D' i)/\Kept K w w'/\(∀i,D' i->D i\/lo<=i)
include ok in
theorem JQ (H:dg tab ops fr0.nt fr0.tmps lo s X) (R:eP ops fr0 cs k base s X D E K tsR hR (j::l) frC csC w) (hm:fr0.mode= .run) (ho:ops[j]? =some o) (hC:(s.aM.get j).isSome) (hx:¬X j)
   (hready:∀p∈iJ o,X p):tk P ops fr0 cs k base s (fun i=>X i\/i=j) D E K lo l frC csC w:=by
 obtain⟨o',tj,v,ho',hdst,hlook,hkind⟩:=H.lL j hC hx;rw[ho]at ho'
 cases ho';have hl:=Vd H R hlook hx hready;obtain⟨hops,hwant⟩:=zV hl;obtain⟨htr1,htr0⟩:=qzR H R hC ho hdst;have hfin:=zC (fr0:=fr0) (tsR:=tsR) (l:=l) (k:=k) ho v;have hdomR:=(R.rel.all E (ak.refl _ _)).1.ey;have wrap:∀(N:Nat->Prop) (hR2:AH),vr P (lone frC csC w) D N E K {fr:={fr0 with tmps:=iW fr0.nt tsR o v,todo:= .inRegion ops l::k},cs,h:=hR2} base w->
     (∀i ob,hR2.get i=some ob↔s.h.get i=some ob/\ ∀x∈s.aC,x.2=i->X x.1\/x.1=j)->hR2.next=s.h.next->(∀i,N i->(j,i)∈s.aC)->
     tk P ops fr0 cs k base s (fun i=>X i\/i=j) D E K lo l frC csC w:=by
   intro N hR2 hg hchar hnx hN;obtain⟨frC',csC',w',E1,s1,s2,s3,s4⟩:=hg;refine⟨_,hR2,frC',csC',w',_,E1,s1,⟨s2,hchar,hnx,htr1,htr0,?_⟩,s3,fun i hi=> .inl hi,s4,fun i hi=>hi.elim .inl (fun h=> .inr ((H.al _ (hN i h)).2.2))⟩;rintro x hxm hnx' (hd|hn)
   . exact R.dp x hxm (fun h=>hnx' (.inl h)) hd
   . have:=H.sg x hxm _ (hN _ hn) rfl;grind
 have hcharA:(∀x∈s.aC,x.1≠j)->∀i ob,hR.get i=some ob↔s.h.get i=some ob/\ ∀x∈s.aC,x.2=i->X x.1\/x.1=j:=by
   intro hno i ob;rw[R.hr i ob];grind
 rcases hkind with⟨hw,rfl,hno⟩|⟨hw,hk⟩
 . exact wrap _ hR (UP R.rel hm rfl ho (by rw[hwant];exact hw) hfin) (hcharA hno) R.hn (fun _ h=>h.elim)
 . have a:=mq R.rel hm rfl ho (by rw[hwant];exact hw);rcases hk with⟨⟨h1,hp,hn1⟩,hno⟩|⟨b,h1,ob,⟨hb1,hb2⟩,hp,hn1,hob,hsb⟩|⟨⟨_,hno⟩,_,_,hr,hp,hrr⟩
   . refine wrap _ hR (uy ok R.rel a (h0:={t:= .e,next:=0}) (h1:=h1) (h2:=hR) (by rw[uh o hops];exact hp) hfin ?_ ?_ ?_ (fun i o h=> .inl (hdomR i o h)) (fun _=>False) ?_ (fun _ h=>h.elim) (fun i hi=>hi.elim (R.rel.ey i) False.elim)) (hcharA hno) R.hn (fun _ h=>h.elim)
     . intro i o' h;cases h
     . intro i o' h;cases h
     . intro i o' h;exact .inr ⟨h,rfl⟩
     omega
   . have hbn:=(H.al _ hb1).1;have hget:∀i,(hR.set b ob).get i=if i=b then some ob else hR.get i:=fun i=>AH.aZ _ _ _ _
     refine wrap (fun i=>i=b) (hR.set b ob) (uy ok R.rel a (h0:={t:= .e,next:=b}) (h1:=h1) (h2:=hR.set b ob) (by rw[uh o hops];exact hp) hfin ?_ ?_ ?_ ?_ (fun i=>i=b) ?_ ?_ ?_) ?_ R.hn ?_
     . intro i o' h;cases h
     . intro i o' h;cases h
     . intro i o' h;rw[hget]at h;by_cases e:i=b
       . grind
       . rw[An e]at h;exact .inr ⟨h,rfl⟩
     . intro i o' h;rw[hget]at h;simp only[AH.eN];by_cases e:i=b
       . rw[e,R.hn];omega
       grind
     . grind
     . rintro i rfl;exact⟨rfl,R.dp _ hb1 hx⟩
     . rintro i (hi|rfl)
       . exact R.rel.ey i hi
       . simp only[AH.eN];rw[R.hn];omega
     . intro i ob';rw[hget];by_cases e:i=b
       . subst e;rw[Al rfl,hsb];constructor
         . intro h;refine⟨h,fun x hx e=> .inr ?_⟩;rw[H.sg x hx _ hb1 e]
         grind
       . rw[An e,R.hr i ob'];grind
     grind
   . refine wrap _ hR (uy ok R.rel a (h0:=hr) (h1:=hr) (h2:=hR) (by rw[uh o hops];exact hp) hfin ?_ ?_ ?_ (fun i o h=> .inl (hdomR i o h)) (fun _=>False) ?_ (fun _ h=>h.elim) (fun i hi=>hi.elim (R.rel.ey i) False.elim)) (hcharA hno) R.hn (fun _ h=>h.elim)
     . grind
     . grind
     . intro i o' h
       cases hg:hr.get i with
       |none=>grind
       | some ob'=>
         grind
     omega
end
end
section
variable [Inhabited aF]
section
variable {tab:bm} {ops:Array Oper} {nt lo:Nat} {ts0:T AV} {s s':DS} {X:Nat->Prop} {i:Nat} {o:Oper} {v:AV}
theorem dg.lk (H:dg tab ops nt ts0 lo s X) (hi:ops[i]? =some o) (hr:isReady s.aM i o=true) (hok:jH s.aM ops i o=true) (hanX:∀p∈eO s.aM o,X p)
   (e1:s'.ts=iW nt s.ts o v) (e2:s'.aM=s.aM.set i (some (eO s.aM o))) (en:s.h.next<=s'.h.next)
   (ea:∀x∈s'.aC,x∈s.aC) (ea':∀x∈s.aC,x.1∉eO s.aM o->x∈s'.aC) (eh:∀x∈s'.aC,s'.h.get x.2=s.h.get x.2) (hd':∀b ob,s'.h.get b=some ob->b<s'.h.next)
   (er:∀j oj tj vj,(j,tj,vj)∈s.reads->j∉eO s.aM o->ops[j]? =some oj->cls tab oj≠ .lk->cls tab oj≠ .alloc->(j,tj,vj)∈s'.reads/\ ∃hr,fb tab tj hr oj= .ok (vj,hr)/\ ∀b ob,hr.get b=some ob->b<hr.next/\s'.h.get b=some ob/\ ∀x∈s'.aC,x.2≠b):
   dg tab ops nt ts0 lo s' (fun j=>X j\/j=i):=by
 obtain⟨hnone,hpre⟩:=pI hr;obtain⟨hok1,hok2⟩:=xO hok;have hanc:∀j,s'.aM.get j=if j=i then some (eO s.aM o)else s.aM.get j:=by
   grind [T.aZ]
 have hold:∀j,(s.aM.get j).isSome->j≠i/\s'.aM.get j=s.aM.get j:=by
   grind
 have hnd:∀j oj d,(s.aM.get j).isSome->ops[j]? =some oj->oj.dst=some d->o.dst≠some d:=by
   grind
 have hts:∀t,o.dst≠some t->s'.ts.get t=s.ts.get t:=by
   grind [lp]
 refine⟨?_,?_,?_,?_,?_,?_,?_,?_,Ar H.nx en,?_,?_,hd'⟩
 . rintro j (hj|rfl)
   . rw[(hold j (H.cx j hj)).2];exact H.cx j hj
   grind
 . rintro j a (hj|rfl) ha p hp
   . rw[(hold j (H.cx j hj)).2]at ha;exact .inl (H.rp j a hj ha p hp)
   grind
 . intro j hj;rw[hanc]at hj;by_cases h1:j=i
   . grind
   . rw[An h1]at hj;exact H.op j hj
 . intro j a oj ha hoj;rw[hanc]at ha;by_cases h1:j=i
   . grind [fF]
   . rw[An h1]at ha;obtain⟨g1,g2⟩:=H.shape j a oj ha hoj;grind
 . intro a b oa ob d ha hoa hob hda hdb;rw[hanc]at ha;by_cases h1:a=i
   . grind
   . rw[An h1]at ha;exact H.uniq a b oa ob d ha hoa hob hda hdb
 . intro t ht;have h1:o.dst≠some t:=ht i o (by rw[hanc,Al rfl];rfl) hi;rw[hts t h1];exact H.qc t (fun j oj hj hoj=>ht j oj (by rw[(hold j hj).2];exact hj) hoj)
 . intro j hj hx;have h1:j≠i:=fun e=>hx (.inr e)
   have hxj:¬X j:=fun h=>hx (.inl h)
   have hjan:j∉eO s.aM o:=fun h=>hxj (hanX j h)
   have hj':(s.aM.get j).isSome:=by rw[hanc,An h1]at hj;exact hj
   obtain⟨oj,tj,vj,g1,g2,g3,g4⟩:=H.lL j hj' hxj;refine⟨oj,tj,vj,g1,?_,?_,?_⟩
   . grind
   . intro t ht;rcases g3 t ht with⟨i1,oi1,k1,k2,k3,k4,k5⟩|⟨k1,k2⟩
     . refine .inl ⟨i1,oi1,k1,k2,k3,by rw[(hold i1 k4).2];exact k4,?_⟩;rw[k5,hts t (hnd i1 oi1 t k4 k1 k2)]
     . refine .inr ⟨k1,?_⟩;intro i' oi a q1 q2 q3;rw[hanc]at q3;by_cases h2:i'=i
       . subst h2;rw[Al rfl]at q3;rw[hi]at q1
         cases q1;cases q3;exact .inr ((hok2 t q2 j oj g1).2 hj' ht)
       . rw[An h2]at q3;exact k2 i' oi a q1 q2 q3
   . rcases g4 with⟨k1,k2,k3⟩|⟨k1,k2⟩
     . exact .inl ⟨k1,k2,fun x hx=>k3 x (ea x hx)⟩
     . refine .inr ⟨k1,?_⟩;rcases k2 with k2|⟨b,h1',ob,m1,m2,m3,m4,m5⟩|⟨m1,m2,m3,_⟩
       . grind
       . have hm:=ea' _ m1.1 hjan;exact .inr (.inl ⟨b,h1',ob,⟨hm,fun x hx=>m1.2 x (ea x hx)⟩,m2,m3,m4,(eh _ hm).trans m5⟩)
       . obtain⟨q1,q2⟩:=er j oj tj vj m1.1 hjan g1 m2 m3;exact .inr (.inr ⟨⟨q1,fun x hx=>m1.2 x (ea x hx)⟩,m2,m3,q2⟩)
 . intro x hx;have:=H.al x (ea x hx);exact⟨by omega,by rw[(hold _ this.2.1).2];exact this.2.1,this.2.2⟩
 . intro t ht;rw[e1,lp,An (fun h=>absurd h.2 (Nat.not_lt.2 ht))];exact H.tF t ht
 . intro x hx y hy e;exact H.sg x (ea x hx) y (ea y hy) e
theorem Kl {h:AH}:∀(l:List (Nat×T AV×AV)),reread tab ops h l= .ok ()->∀j tj vj,(j,tj,vj)∈l->∃oj h',ops[j]? =some oj/\fb tab tj h oj= .ok (vj,h'):=by
 intro l;induction l with
 |nil=>grind
 |cons x l ih=>
  grind [reread,au,Gs,eD,de]
end
end
section
variable [Inhabited aF]
section
variable {P:Program} {tab:bm} (ok:bN P tab) {sub:FuncId->List AV->AH->R (List (AV×AH))} (hsub:lD P tab sub) (hext:lC P tab)
variable {D:Nat->Prop} {E:Env} {K:KS} {base:List Frame} {frC:Frame} {csC:List Frame} {w:World}
variable {ops:Array Oper} {fr0:ag} {cs:List ag} {k:List bF} {lo:Nat} {s s2:DS} {X:Nat->Prop} {tsR:T AV} {hR:AH} {j:Nat} {l:List Nat} {o:Oper}
open Classical in
include ok hsub hext in
theorem WH (H:dg tab ops fr0.nt fr0.tmps lo s X) (Q:eP ops fr0 cs k base s X D E K tsR hR (j::l) frC csC w) (hm:fr0.mode= .run) (ho:ops[j]? =some o) (hr:isReady s.aM j o=true)
   (hd:EW tab sub ops fr0.nt j o s= .ok s2) (hready:∀p∈iJ o,X p):dg tab ops fr0.nt fr0.tmps lo s2 (fun i=>X i\/i=j)/\tk P ops fr0 cs k base s2 (fun i=>X i\/i=j) D E K lo l frC csC w:=by
 obtain⟨_,hck,hd1⟩:=au.1 hd;obtain⟨b,hb,hd2⟩:=au.1 hd1;obtain⟨_,hbt,hd3⟩:=au.1 hd2;obtain⟨⟨v,h1⟩,hp,hd4⟩:=au.1 hd3;obtain⟨_,hle,hd5⟩:=au.1 hd4;obtain⟨_,hrr,hd6⟩:=au.1 hd5
 cases hd6;have hok:=eD.1 hck;have hbt:b=true:=eD.1 hbt;subst hbt;have hle:=Ak (eD.1 hle);obtain⟨hnone,hpre⟩:=pI hr;obtain⟨hok1,hok2⟩:=xO hok;have hxj:¬X j:=fun h=>by have:=H.cx j h;rw[hnone]at this;grind
 have hanX:∀p∈eO s.aM o,X p:=by
   intro p hp;rcases fF.1 hp with h|⟨q,hq,ap,h1,h2⟩
   . grind
   . exact H.rp q ap (hready q hq) h1 p h2
 generalize hhid:(s.aC.filter fun x=> !(cM x.1 (eO s.aM o)))=hid at*
 have hidm:∀x,x∈hid↔x∈s.aC/\x.1∉eO s.aM o:=by
   grind [eM]
 have hidj:∀x∈hid,x.1≠j:=by
   intro x hx e;have:=(H.al x ((hidm x).1 hx).1).2.1;rw[e,hnone]at this;grind
 have hl:∀t∈looks ops o,tsR.get t=s.ts.get t:=by
   intro t ht;by_cases hw:∃jj oj,ops[jj]? =some oj/\oj.dst=some t/\(s.aM.get jj).isSome
   . obtain⟨jj,oj,g1,g2,g3⟩:=hw;exact Q.pt jj oj t (hready jj (hok1 t ht jj oj g1 g2 g3)) g1 g2
   . rw[Q.po t (fun jj oj hx hoj hd=>hw ⟨jj,oj,hoj,hd,H.cx jj hx⟩),H.qc t (fun jj oj hc hoj hd=>hw ⟨jj,oj,hoj,hd,hc⟩)]
 obtain⟨hops,hwant⟩:=zV hl;have a:=mq Q.rel hm rfl ho (by rw[hwant];exact hb);have hfin:=zC (fr0:=fr0) (tsR:=tsR) (l:=l) (k:=k) ho v;let h2:=restore h1 s.h hid
 let pd:=hid.filter fun x=>decide (¬(X x.1\/x.1=j))
 let hR2:=iX h2 pd
 have hg2:∀i,h2.get i=if ∃x∈hid,x.2=i then s.h.get i else h1.get i:=fun i=>oM _ _ _ _
 have hn2:h2.next=h1.next:=wE _ _ _;have hchar:∀i ob,hR2.get i=some ob↔h2.get i=some ob/\ ∀x∈hid,x.2=i->X x.1\/x.1=j:=by
   intro i ob;simp only[hR2,iU];constructor
   . intro h;split at h
     . cases h
     . refine⟨h,fun x hx e=>?_⟩;grind
   grind
 have hR2n:hR2.next=h1.next:=(jM _ _).trans hn2;have hgets:=WD ok hsub hext Q.rel a (h0:=iX s.h hid) (h1:=h1) (h2:=hR2) (v:=v) (by rw[RI o hops];exact hp) hfin
   (by
     intro i ob h;rw[iU]at h;split at h
     . cases h
     . refine(Q.hr i ob).2 ⟨h,fun x hx e=>?_⟩;grind)
   (by
     intro i ob h;rw[iU]at h;split at h
     . cases h
     . rw[jM];exact H.hd i ob h)
   (by
     intro i ob h;obtain⟨h3,h4⟩:=(hchar i ob).1 h;rw[hg2]at h3;split at h3
     . rename_i hex;right;refine⟨(Q.hr i ob).2 ⟨h3,fun x hx e=>?_⟩,by rw[iU,Al hex]⟩;grind
     grind)
   (by
     intro i ob h;obtain⟨h3,_⟩:=(hchar i ob).1 h;rw[hg2]at h3;rw[hR2n];split at h3
     . have:=H.hd i ob h3;omega
     grind)
   (by rw[jM];omega) hR2n (by intro i hi;rw[jM,<-Q.hn];exact Q.rel.ey i hi)
 obtain⟨frC',csC',w',E1,D1,s1,rel1,ag1,dd1,kp1,_,new1⟩:=hgets;rw[jM]at new1;have hdom2:∀i ob,h2.get i=some ob->i<h2.next:=by
   intro i ob h;rw[hn2];rw[hg2]at h;split at h
   . have:=H.hd i ob h;omega
   . rename_i hne;have h3:=(hchar i ob).2 ⟨by rw[hg2,An hne];exact h,fun x hx e=>absurd ⟨x,hx,e⟩ hne⟩;have:=(rel1.all E1 (ak.refl _ _)).1.ey i ob h3;rw[<-hR2n];omega
 refine⟨?_,iW fr0.nt tsR o v,hR2,frC',csC',w',D1,E1,s1,⟨rel1,hchar,hR2n.trans hn2.symm,?_,?_,?_⟩,ag1,dd1,kp1,?_⟩
 . refine H.lk ho hr hok hanX rfl rfl (by grind) (fun x hx=>((hidm x).1 hx).1) (fun x hx hn=>(hidm x).2 ⟨hx,hn⟩) ?_ hdom2 ?_
   . intro x hx;rw[hg2,Al ⟨x,hx,rfl⟩]
   . intro j' oj tj vj hmr hjan hoj hce hca;have hmf:(j',tj,vj)∈s.reads.filter (fun x=> !(cM x.1 (eO s.aM o))):=by
       rw[As];grind [eM]
     refine⟨hmf,?_⟩;obtain⟨oj',hr',g1,g2⟩:=Kl _ hrr _ _ _ hmf;rw[hoj]at g1
     cases g1;have hsame:=wy ⟨hce,hca⟩ g2;subst hsame;refine⟨_,g2,?_⟩;intro b ob hg;rw[iU]at hg;split at hg
     all_goals grind [jM]
 . intro i oi t hi hoi hd;rw[lp,lp];by_cases hc:o.dst=some t/\t<fr0.nt
   . rw[Al hc,Al hc]
   . rw[An hc,An hc];rcases hi with hi|rfl
     . exact Q.pt i oi t hi hoi hd
     . rw[ho]at hoi
       cases hoi;have hge:fr0.nt<=t:=DG (fun hlt=>hc ⟨hd,hlt⟩);rw[H.tF t hge];exact Q.rel.wf.1 t hge
 . intro t ht;rw[lp,An (fun h=>ht j o (.inr rfl) ho h.1)];exact Q.po t (fun i oi hi hoi=>ht i oi (.inl hi) hoi)
 . intro x hx hnx hD;have hxm:=((hidm x).1 hx).1;rcases new1 x.2 hD with hd|hd
   . exact Q.dp x hxm (fun h=>hnx (.inl h)) hd
   . have:=(H.al x hxm).1;omega
 . intro i hi;rcases new1 i hi with h|h
   . grind
   . exact .inr (Ar H.nx h)
end
end
section
variable [Inhabited aF]
theorem bH.same {E:Env} {h h':AH} {K:KS} {w:World} (H:bH E h K w) (hg:∀i ob,h'.get i=some ob->h.get i=some ob) (hn:h.next<=h'.next):bH E h' K w:=
 ⟨fun i o hi=>H.obj i o (hg i o hi),fun i o hi=>H.nk i o (hg i o hi),fun i j oi oj hi hj=>H.inj i j oi oj (hg i oi hi) (hg j oj hj),fun i o hi=>AR (H.ey i o (hg i o hi)) hn,H.kb,fun i o hi=>H.im i o (hg i o hi),H.k0⟩
section
variable {tab:bm} {D:Nat->Prop} {E:Env} {K:KS} {base:List Frame} {frC:Frame} {csC:List Frame} {w:World}
variable {ops:Array Oper} {fr0:ag} {cs:List ag} {k:List bF} {lo:Nat} {s s':DS} {X:Nat->Prop} {tsR:T AV} {hR:AH} {j:Nat} {l:List Nat} {o:Oper}
theorem eP.look (H:dg tab ops fr0.nt fr0.tmps lo s X) (Q:eP ops fr0 cs k base s X D E K tsR hR l frC csC w)
   (ht:∀j o t,X j->ops[j]? =some o->o.dst=some t->s'.ts.get t=s.ts.get t) (hn:s.h.next<=s'.h.next)
   (hg:∀i ob,(s'.h.get i=some ob/\ ∀x∈s'.aC,x.2=i->X x.1)↔(s.h.get i=some ob/\ ∀x∈s.aC,x.2=i->X x.1))
   (ha:∀x∈s'.aC,x∈s.aC\/s.h.next<=x.2):eP ops fr0 cs k base s' X D E K tsR {hR with next:=s'.h.next} l frC csC w:=by
 have hget:∀i,({hR with next:=s'.h.next}:AH).get i=hR.get i:=fun _=>rfl
 refine⟨⟨fun E' he=>?_,fun i hi=>?_,Q.rel.wf⟩,?_,rfl,?_,Q.po,?_⟩
 . obtain⟨g1,g2,g3⟩:=Q.rel.all E' he;exact⟨g1.same (fun i ob h=>h) (by grind [hn]),g2,g3⟩
 . have:=Q.rel.ey i hi;simp only at this⊢;rw[Q.hn]at this;omega
 . intro i ob;rw[hget,Q.hr i ob,hg i ob]
 . intro j o t hx ho hd;rw[Q.pt j o t hx ho hd,ht j o t hx ho hd]
 . intro x hx hnx hd;rcases ha x hx with h|h
   . exact Q.dp x h hnx hd
   . have:=Q.rel.ey _ hd;rw[Q.hn]at this;omega
theorem Ly:∀(l:List Oper) (k:Nat),qa k l=true->∀j o,l[j]? =some o->∀p∈iJ o,p<k+j:=by
 intro l;induction l with
 |nil=>grind
 | cons x l ih=>
  intro k h j o hj p hp;simp only[qa,Ac,AB]at h
  cases j with
  |zero=>
   simp_all
  |succ j=>
   have:=ih (k+1) h.2 j o (by grind) p hp;omega
end
section
variable {tab:bm} {D:Nat->Prop} {E:Env} {K:KS} {base:List Frame} {frC:Frame} {csC:List Frame} {w:World}
variable {ops:Array Oper} {fr0:ag} {cs:List ag} {k:List bF} {lo:Nat} {X:Nat->Prop} {tsR:T AV} {l:List Nat}
theorem SY {s s':DS} {i:Nat} {o:Oper} {hR:AH} (hf:ur tab ops fr0.nt i o s= .ok (some s')) (hi:ops[i]? =some o) (hr:isReady s.aM i o=true) (H:dg tab ops fr0.nt fr0.tmps lo s X)
  (Q:eP ops fr0 cs k base s X D E K tsR hR l frC csC w):∃hR',eP ops fr0 cs k base s' X D E K tsR hR' l frC csC w:=by
 obtain⟨hnone,_⟩:=pI hr;have hxi:¬X i:=fun h=>by have:=H.cx i h;rw[hnone]at this;grind
 have hput:∀(v:AV) j oj t,X j->ops[j]? =some oj->oj.dst=some t->(iW fr0.nt s.ts o v).get t=s.ts.get t:=by
  intro v j oj t hx ho hd;rw[lp,An];rintro⟨h,_⟩;have:=H.uniq j i oj o t (H.cx j hx) ho hi hd h;grind
 have hsame:∀(v:AV) (s2:DS),s2.ts=iW fr0.nt s.ts o v->s2.h=s.h->s2.aC=s.aC->∃hR',eP ops fr0 cs k base s2 X D E K tsR hR' l frC csC w:=by
  intro v s2 e1 e2 e3;refine⟨_,Q.look H (s':=s2) ?_ (by rw[e2];omega) (fun i ob=>by rw[e2,e3]) (fun x hx=> .inl (by rw[<-e3];exact hx))⟩;grind
 obtain⟨_,hck,hf1⟩:=au.1 hf;obtain⟨b,hb,hf2⟩:=au.1 hf1
 cases b with
 |false=>
  cases hf2;exact hsame _ _ rfl rfl rfl
 | true =>
  simp only[Dp,Az,Bh]at hf2;split at hf2
  . grind
  . obtain⟨⟨u,h1⟩,hp,hf3⟩:=au.1 hf2;obtain⟨_,hn,hf4⟩:=au.1 hf3;obtain⟨ob,hob,hf5⟩:=au.1 hf4
    cases hf5;refine⟨_,Q.look H (hput u) (by simp) ?_ ?_⟩
    . intro i' ob';rw[AH.aT];by_cases e:i'=s.h.next
      . subst e;rw[Al rfl];constructor
        . simp_all
        . rintro⟨h1,_⟩;have:=H.hd _ _ h1;omega
      grind
    grind
  . split at hf2
    . obtain⟨_,hn,hf3⟩:=au.1 hf2
      cases hf3;exact hsame _ _ rfl rfl rfl
    . split at hf2
      . cases hf2;exact hsame _ _ rfl rfl rfl
      grind
theorem xa:∀(l':List Oper) (n:Nat) (s s':DS) (hR:AH),(∀j o,l'[j]? =some o->ops[n+j]? =some o)->lv tab ops fr0.nt n l' s= .ok s'->dg tab ops fr0.nt fr0.tmps lo s X->
  eP ops fr0 cs k base s X D E K tsR hR l frC csC w->∃hR',eP ops fr0 cs k base s' X D E K tsR hR' l frC csC w:=by
 intro l';induction l' with
 |nil=>grind [lv]
 |cons o l' ih=>
  intro n s s' hR hl h H Q;have hl':∀j o',l'[j]? =some o'->ops[n+1+j]? =some o':=by
    intro j o' hj;have:=hl (j+1) o' (by grind);rw[show n+1+j=n+(j+1)from by omega];omega
  simp only[lv]at h;by_cases hr:isReady s.aM n o=true
  . simp only[hr,BZ]at h;obtain⟨x,hx,h1⟩:=au.1 h
    cases x with
    |none=>grind
    |some s1=>
     have hin:ops[n]? =some o:=by simpa using hl 0 o rfl
     grind [SY,Iu]
  grind
end
end
section
variable [Inhabited aF]
def eG (listed:Array Bool) (j:Nat):Prop:=listed.getD j false=true
def oo (n:Nat) (listed:Array Bool):Nat:=((List.range n).filter fun i=> !listed.getD i false).length
theorem Sw {p q:Nat->Bool} {i:Nat}:∀(l:List Nat),(∀j,q j=true->p j=true)->i∈l->p i=true->q i=false->(l.filter q).length+1<=(l.filter p).length:=by
 intro l;induction l with
 |nil=>grind
 |cons x l ih=>
  intro hqp hi hp hq;rcases Ap.1 hi with rfl|hi
  . rw[BU,BU,Al hp,An (by rw[hq];simp),Bc];have:(l.filter q).length<=(l.filter p).length:=by
     rw[<-Ei,<-Ei];simp_all[List.countP_mono_left]
    omega
  grind
theorem EY {listed:Array Bool} {i:Nat} (hi:i<listed.size):eG (listed.setIfInBounds i true)=fun j=>eG listed j\/j=i:=by
 funext j
 unfold eG;rw[BL,BL,Ej];grind
theorem Mq {n:Nat} {listed:Array Bool} {i:Nat} (hi:i<n) (hs:i<listed.size) (hx:¬eG listed i):oo n (listed.setIfInBounds i true)+1<=oo n listed:=by
 refine Sw _ ?_ (List.mem_range.2 hi) (by grind [eG]) ?_
 . intro j hj;have h1:¬eG (listed.setIfInBounds i true) j:=by grind [eG]
   rw[EY hs]at h1;have:¬eG listed j:=fun h=>h1 (.inl h)
   grind [eG]
 simp_all
theorem Lm {n:Nat} {listed:Array Bool} (h:oo n listed=0):∀j,j<n->eG listed j:=by
 grind [oo,List.filter_eq_nil_iff,eG]
end
section
variable [Inhabited aF]
section
variable {P:Program} {tab:bm} (ok:bN P tab) {sub:FuncId->List AV->AH->R (List (AV×AH))} (hsub:lD P tab sub) (hext:lC P tab)
variable {K:KS} {base:List Frame}
variable {ops:Array Oper} {fr0:ag} {cs:List ag} {k:List bF} {lo:Nat}
def Fin (P:Program) (fr0:ag) (cs:List ag) (k:List bF) (base:List Frame) (K:KS) (lo:Nat) (sF:DS) (D:Nat->Prop) (E:Env) (frC:Frame) (csC:List Frame) (w:World):Prop:=
 ∃frC' csC' w' D' E',Steps P (lone frC csC w) (lone frC' csC' w')/\Rel D' E' K {fr:={fr0 with tmps:=sF.ts,todo:=k},cs,h:=sF.h} base frC' csC' w'/\ak D E E'/\(∀i,D i->D' i)/\Kept K w w'/\(∀i,D' i->D i\/lo<=i)/\lo<=sF.h.next
def ot (tab:bm) (sub:FuncId->List AV->AH->R (List (AV×AH))) (ops:Array Oper) (nt:Nat) (s sF:DS):Prop:=
 (jP s.aM 0 ops.toList=[]/\sF=s)\/ ∃c o n s2,jP s.aM 0 ops.toList=[(c,o)]/\EW tab sub ops nt c o s= .ok s2/\uQ tab sub ops nt n s2= .ok sF
theorem JG {nt n:Nat} {s sF:DS} (h:uQ tab sub ops nt n s= .ok sF):∃s1,lv tab ops nt 0 ops.toList s= .ok s1/\ot tab sub ops nt s1 sF:=by
 cases n with
 |zero=>grind [uQ]
 |succ n=>
  obtain⟨s1,h1,h2⟩:=au.1 h;refine⟨s1,h1,?_⟩;split at h2
  . rename_i hc;obtain⟨_,_,h3⟩:=au.1 h2
    cases h3;exact .inl ⟨hc,rfl⟩
  . rename_i c o hc;obtain⟨s2,h3,h4⟩:=au.1 h2;exact .inr ⟨c,o,n,s2,hc,h3,h4⟩
  grind
include ok hsub hext in
theorem bW (hm:fr0.mode= .run) (hlt:qa 0 ops.toList=true):∀(fuel t:Nat) (listed:Array Bool) (s sF:DS) (D:Nat->Prop) (E:Env) (tsR:T AV) (hR:AH) (frC:Frame) (csC:List Frame) (w:World),
  listed.size=ops.size->oo ops.size listed<=fuel->ot tab sub ops fr0.nt s sF->dg tab ops fr0.nt fr0.tmps lo s (eG listed)->
  eP ops fr0 cs k base s (eG listed) D E K tsR hR (Region.linearise.go .any ops fuel t listed []) frC csC w->Fin P fr0 cs k base K lo sF D E frC csC w:=by
 have hend:∀(listed:Array Bool) (s sF:DS) (D:Nat->Prop) (E:Env) (tsR:T AV) (hR:AH) (frC:Frame) (csC:List Frame) (w:World),(∀j,j<ops.size->eG listed j)->
    ot tab sub ops fr0.nt s sF->dg tab ops fr0.nt fr0.tmps lo s (eG listed)->eP ops fr0 cs k base s (eG listed) D E K tsR hR [] frC csC w->Fin P fr0 cs k base K lo sF D E frC csC w:=by
  intro listed s sF D E tsR hR frC csC w hall htodo H Q;rcases htodo with⟨_,rfl⟩|⟨c,o,n,s2,hc,_,_⟩
  . have hts:∀t,tsR.get t=sF.ts.get t:=by
      intro t;by_cases hw:∃(j:Nat) (oj:Oper),ops[j]? =some oj/\oj.dst=some t
      . obtain⟨j,oj,h1,h2⟩:=hw;exact Q.pt j oj t (hall j (Ab.1 h1).1) h1 h2
      . rw[Q.po t (fun j oj _ h1 h2=>hw ⟨j,oj,h1,h2⟩),H.qc t (fun j oj _ h1 h2=>hw ⟨j,oj,h1,h2⟩)]
    have hst:∀E',Go.step P (lone (bq E' {fr0 with tmps:=tsR,todo:= .inRegion ops []::k}) csC w)= .next (lone (bq E' {fr0 with tmps:=tsR,todo:=k}) csC w):=
      fun E'=>step_lone_go (by simp[stepG,stepG.exec,bq,hm,fo,dJ])
    have hconc:∀E',bq E' {fr0 with tmps:=sF.ts,todo:=k}=bq E' {fr0 with tmps:=tsR,todo:=k}:=by
      simp_all[iD,vF,bq]
    have hfr:=(Q.rel.all E (ak.refl _ _)).2.1;refine⟨bq E {fr0 with tmps:=tsR,todo:=k},csC,w,D,E, .one (by rw[<-hfr];grind),⟨fun E' he=>?_,fun i hi=>?_,?_,Q.rel.wf.2⟩,ak.refl _ _,fun _ h=>h,Kept.refl K w,fun i hi=> .inl hi,H.nx⟩
    . obtain⟨g1,g2,g3⟩:=Q.rel.all E' he;refine⟨g1.same (fun i ob h=>(Q.hr i ob).2 ⟨h,fun x hx _=>?_⟩) (by simp only;rw[Q.hn];omega),?_,g3⟩
      . obtain⟨o,ho⟩:=H.op _ (H.al x hx).2.1;grind
      grind [sQ]
    . have:=Q.rel.ey i hi;rw[Q.hn]at this;omega
    . intro t ht;have:=Q.rel.wf.1 t ht;grind
  . have hcm:(c,o)∈jP s.aM 0 ops.toList:=by rw[hc];grind
    obtain⟨j',h1,h2,h3⟩:=IX _ _ _ _ _ hcm;have hlt':c<ops.size:=by
      have:=(Ae.1 h2).1;grind
    have:=H.cx c (hall c hlt');rw[(pI h3).1]at this;grind
 intro fuel;induction fuel with
 |zero=>
  grind [Lm,Region.linearise.go]
 | succ fuel ih=>
  intro t listed s sF D E tsR hR frC csC w hsz hu htodo H Q;change eP ops fr0 cs k base s (eG listed) D E K tsR hR (match(Region.ready .any ops listed)[t % (Region.ready .any ops listed).length]? with
    |some i=>Region.linearise.go .any ops fuel (t / (Region.ready .any ops listed).length) (listed.setIfInBounds i true) [i]
    |none=>[].reverse) frC csC w at Q
  have hget:∀j,j<ops.size->(listed.getD j true=false↔¬eG listed j):=by
    grind [eG]
  cases hi:(Region.ready .any ops listed)[t % (Region.ready .any ops listed).length]? with
  | none=>
    rw[hi]at Q;have hnil:Region.ready .any ops listed=[]:=by
      cases hr:Region.ready .any ops listed with
      |nil=>rfl
      | cons x xs=>
        rw[hr]at hi;have hlt:t % (x::xs).length<(x::xs).length:=Nat.mod_lt _ (by simp);rw[DC]at hi;omega
    have hall:∀j,j<ops.size->eG listed j:=by
      intro j;induction j using Nat.strongRecOn with
      | _ j ihj=>
        intro hj;by_cases hx:eG listed j
        . exact hx
        . have hm':j∈Region.ready .any ops listed:=by
           rw[mem_ready];refine⟨(hget j hj).2 hx,ops[j],AY hj,?_⟩;intro e he hb;have hp:e.on∈iJ ops[j]:=Aw.2 ⟨e,As.2 ⟨by grind,hb⟩,rfl⟩;have hlt':=Ly ops.toList 0 hlt j ops[j] (by grind) e.on hp;grind
          rw[hnil]at hm';grind
    grind
  | some i =>
    rw[hi]at Q;simp only at Q;rw[linearise_go_acc,Ez,DN]at Q;obtain⟨hl1,o,ho,hdeps⟩:=mem_ready.1 (Bv hi);have hin:i<ops.size:=(Ab.1 ho).1;have hx:=(hget i hin).1 hl1;have hready:∀p∈iJ o,eG listed p:=by
      intro p hp;obtain⟨e,he,rfl⟩:=Aw.1 hp;grind
    have hsz':(listed.setIfInBounds i true).size=ops.size:=by grind
    have hu':oo ops.size (listed.setIfInBounds i true)<=fuel:=by
      have:=Mq hin (by omega) hx;omega
    have hX':eG (listed.setIfInBounds i true)=fun j=>eG listed j\/j=i:=EY (by omega)
    have hfin:∀(s':DS),ot tab sub ops fr0.nt s' sF->dg tab ops fr0.nt fr0.tmps lo s' (fun j=>eG listed j\/j=i)->
        tk P ops fr0 cs k base s' (fun j=>eG listed j\/j=i) D E K lo (Region.linearise.go .any ops fuel (t / (Region.ready .any ops listed).length) (listed.setIfInBounds i true) []) frC csC w->Fin P fr0 cs k base K lo sF D E frC csC w:=by
      intro s' htd H' hc;obtain⟨tsR',hR',frC',csC',w',D',E',c1,c2,c3,c4,c5,c6⟩:=hc;obtain⟨frF,csF,wF,DF,EF,f1,f2,f3,f4,f5,f6,f7⟩:=ih _ (listed.setIfInBounds i true) s' sF D' E' tsR' hR' frC' csC' w' hsz' hu' htd (by rw[hX'];exact H') (by rw[hX'];exact c2);exact⟨frF,csF,wF,DF,EF,c1.trans f1,f2,c3.trans f3 c4,fun x hx=>f4 x (c4 x hx),c5.trans f5,fun x hx=>(f6 x hx).elim (c6 x) .inr,f7⟩
    by_cases hC:(s.aM.get i).isSome=true
    . exact hfin s htodo (H.tM hC ho hready) (JQ ok H Q hm ho hC hx hready)
    . have hr:isReady s.aM i o=true:=by
        unfold isReady;simp only[Ac,AB];exact⟨by simp_all,fun p hp=>H.cx p (hready p hp)⟩
      have hcm:(i,o)∈jP s.aM 0 ops.toList:=by
        have:=K6 ops.toList 0 s.aM i o (by grind) (by grind);grind
      rcases htodo with⟨hc,_⟩|⟨c,o',n,s2,hc,hd,hloop⟩
      . rw[hc]at hcm;grind
      . rw [hc]at hcm;rcases Ap.1 hcm with e|hcm
        . cases e;obtain⟨H2,tsR',hR',frC',csC',w',D',E',c1,c2,c3,c4,c5,c6⟩:=WH ok hsub hext H Q hm ho hr hd hready;obtain⟨s3,hpass,htd3⟩:=JG hloop;have hpl:∀j o,ops.toList[j]? =some o->ops[0+j]? =some o:=by
           grind
          obtain⟨hR3,Q3⟩:=xa ops.toList 0 s2 s3 hR' hpl hpass H2 c2;exact hfin s3 htd3 (wx ops.toList 0 s2 s3 hpl hpass H2) ⟨tsR',hR3,frC',csC',w',D',E',c1,Q3,c3,c4,c5,c6⟩
        grind
end
end
section
variable [Inhabited aF]
section
variable {P:Program} {tab:bm} (ok:bN P tab) {sub:FuncId->List AV->AH->R (List (AV×AH))} (hsub:lD P tab sub) (hext:lC P tab)
theorem sH (n j:Nat):¬eG (Array.replicate n false) j:=by
 unfold eG;rw[BL,Ex];split<;>simp
include ok hsub hext in
theorem zS (hmix:P.follows .mixedOrders=true):Fo P tab sub:=by
 intro fr cs h id ops k ts h' hm ht hd D E K base frC csC w hR;obtain⟨_,hlt,hd1⟩:=au.1 hd;obtain⟨sF,hloop,hd2⟩:=au.1 hd1
 cases hd2;have hlt:=eD.1 hlt;let s0:DS:={ts:=fr.tmps,h,aM:= .e,reads:=[],aC:=[]}
 let ord:=w.tape w.drawn (.order frC.fn id)
 let l:=Region.linearise.go .any ops ops.size ord (Array.replicate ops.size false) []
 have hstep:∀E',ak D E E'->Go.step P (lone frC csC w)= .next (lone (bq E' {fr with tmps:=fr.tmps,todo:= .inRegion ops l::k}) csC w.drew):=by
  intro E' he;have e1:=(hR.all E' he).2.1;refine step_lone_go ?_;have hmC:frC.mode= .run:=by rw[<-e1];grind [bq,fo]
  have htC:frC.todo= .code (.region id ops true)::k.map (dJ E'):=by rw[<-e1];grind [bq,dJ]
  have hrun:(choose (.order frC.fn id)).run P w= .ok ord w.drew:=by
   rfl
  have hsch:Region.schedule (P.follows .mixedOrders) ops ord=l:=by
   simp only[Region.schedule,hmix,D9,BB];rfl
  have hgoal:bq E' {fr with tmps:=fr.tmps,todo:= .inRegion ops l::k}={frC with todo:= .inRegion ops l::k.map (dJ E')}:=by
   rw[<-e1];rfl
  rw[hgoal];grind [stepG,stepG.exec,GStep.bare_go]
 have hdom:=(hR.all E (ak.refl _ _)).1.ey;have H0:dg tab ops fr.nt fr.tmps h.next s0 (eG (Array.replicate ops.size false)):=by
  have hnone:∀j,s0.aM.get j=none:=fun _=>rfl
  refine⟨fun j hj=>absurd hj (sH _ _),fun j a hj=>absurd hj (sH _ _),?_,?_,?_,fun _ _=>rfl,?_,fun x hx=>(by cases hx),Ad _,hR.wf.1,fun x hx=>(by cases hx),hdom⟩
  all_goals grind
 have Q0:eP ops fr cs k base s0 (eG (Array.replicate ops.size false)) D E K fr.tmps h l (bq E {fr with tmps:=fr.tmps,todo:= .inRegion ops l::k}) csC w.drew:=by
  refine⟨⟨fun E' he=>?_,hR.ey,hR.wf⟩,fun i ob=>⟨fun h=>⟨h,fun x hx=>(by cases hx)⟩,fun h=>h.1⟩,rfl,fun j o t hx=>absurd hx (sH _ _),fun _ _=>rfl,fun x hx=>by cases hx⟩;obtain⟨g1,g2,g3⟩:=hR.all E' he;refine⟨g1.drew,?_,g3⟩;have h1:=hstep E' he;rw[hstep E (ak.refl _ _)]at h1;grind [sQ]
 obtain⟨s1,hpass,htodo⟩:=JG hloop;have hpl:∀j o,ops.toList[j]? =some o->ops[0+j]? =some o:=by
  grind
 obtain⟨hR1,Q1⟩:=xa ops.toList 0 s0 s1 h hpl hpass H0 Q0;have H1:=wx ops.toList 0 s0 s1 hpl hpass H0;obtain⟨frC',csC',w',D',E',f1,f2,f3,f4,f5,f6,f7⟩:=bW ok hsub hext hm hlt ops.size ord (Array.replicate ops.size false) s1 sF D E fr.tmps hR1 _ csC w.drew (by simp)
  (by grind [oo]) htodo H1 Q1
 exact⟨frC',csC',w',E',D',Steps.head (hstep E (ak.refl _ _)) f1,f2,f3,f4,(Kept.drew K w).trans f5,f7,f6⟩
end
end
end Go.Am
