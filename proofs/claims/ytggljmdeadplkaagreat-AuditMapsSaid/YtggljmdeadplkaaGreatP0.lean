/- Part 0: an evaluator, proved sound, and its use at this seat; no condition. -/
import GoSem.Step
import Derived.WalkKit
import Derived.Laws.MakeOwn
import Derived.Laws.Sem
import Derived.Calls
import Derived.Orders
set_option linter.unusedSimpArgs false
set_option linter.unusedVariables false
set_option linter.unusedSectionVars false
set_option linter.deprecated false
abbrev Aa:=@Int.ofNat_eq_natCast
abbrev Ab:=@Nat.eq_of_beq_eq_true
abbrev Ac:=@Array.getElem?_eq_some_iff
abbrev Ad:=@Bool.and_eq_true
abbrev Ae:=@decide_eq_true_eq
abbrev Af:=@List.getElem?_eq_getElem
abbrev Ag:=@decide_eq_false_iff_not
abbrev Ah:=@List.getElem?_eq_some_iff
abbrev Ai:=@if_neg
abbrev Aj:=@Nat.le_refl
abbrev Ak:=@Nat.le_of_ble_eq_true
abbrev Al:=@List.mem_cons
abbrev An:=@if_pos
abbrev Ao:=@Bool.false_eq_true
abbrev Ap:=@List.mem_cons_self
abbrev Aq:=@List.all_eq_true
abbrev Ar:=@List.mem_map
abbrev As:=@List.take_succ_eq_append_getElem
abbrev Au:=@List.getElem_mem
abbrev Av:=@List.take_of_length_le
abbrev Aw:=@List.mem_cons_of_mem
abbrev Ax:=@Nat.zero_le
abbrev Ay:=@congrArg
abbrev Az:=@List.getElem?_map
abbrev AA:=@Bool.not_eq_true'
abbrev AB:=@Bool.eq_false_iff
abbrev AE:=@Bool.eq_iff_iff
abbrev AF:=@List.map_append
abbrev AG:=@Nat.zero_add
abbrev AI:=@List.eq_nil_of_length_eq_zero
abbrev AJ:=@Option.map_eq_some_iff
abbrev AK:=@Nat.lt_of_lt_of_le
abbrev AL:=@List.getElem?_append_left
abbrev AN:=@Array.getElem?_eq_getElem
abbrev AP:=@if_false
abbrev AQ:=@cond_false
abbrev AR:=@List.getElem?_toArray
abbrev AS:=@List.getElem_of_mem
abbrev AU:=@decide_eq_false
abbrev AW:=@Nat.le_trans
abbrev AX:=@List.length_cons
abbrev AY:=@Nat.ble_eq
abbrev AZ:=@List.map_cons
abbrev A0:=@Option.map_some
abbrev A1:=@Option.some.injEq
abbrev A2:=@Option.isSome_none
abbrev A3:=@List.getElem?_append_right
abbrev A4:=@Bool.false_and
abbrev A5:=@List.getElem?_cons_zero
abbrev A6:=@List.mem_append
abbrev A7:=@decide_eq_true
abbrev A8:=@Nat.mul_le_mul_right
abbrev A9:=@Bool.true_and
abbrev Ba:=@List.mem_iff_getElem?
abbrev Bb:=@List.length_pos_iff
abbrev Bc:=@List.length_nil
abbrev Bd:=@List.getElem?_cons_succ
abbrev Be:=@Nat.add_mul
abbrev Bf:=@List.pairwise_iff_getElem
abbrev Bg:=@Decidable.byContradiction
abbrev Bh:=@List.getElem?_take
abbrev Bi:=@List.takeWhile_cons
abbrev Bj:=@List.length_eq_zero_iff
abbrev Bk:=@Option.map_none
abbrev Bl:=@Option.getD_some
abbrev Bn:=@List.take_length
abbrev Bo:=@of_decide_eq_true
abbrev Bp:=@List.size_toArray
abbrev Bq:=@if_true
abbrev Br:=@Nat.not_lt_zero
abbrev Bt:=@Array.getElem?_setIfInBounds
abbrev Bu:=@List.length_append
abbrev Bv:=@cond_true
abbrev Bw:=@List.foldl_cons
abbrev Bx:=@List.getElem?_eq_none
abbrev By:=@Prod.mk.injEq
abbrev Bz:=@Option.isSome_iff_exists
abbrev BA:=@Bool.and_false
abbrev BB:=@List.ext_getElem?
abbrev BC:=@List.append_assoc
abbrev BD:=@Function.comp_def
abbrev BE:=@List.nil_append
abbrev BF:=@List.mem_filter
abbrev BG:=@beq_eq_false_iff_ne
abbrev BH:=@List.map_congr_left
abbrev BJ:=@Nat.add_zero
abbrev BL:=@Array.getD_eq_getD_getElem?
abbrev BM:=@Nat.add_assoc
abbrev BN:=@Bool.not_true
abbrev BO:=@List.cons_append
abbrev BP:=@Nat.blt_eq
abbrev BQ:=@List.mem_singleton
abbrev BR:=@Array.ext_getElem?
abbrev BS:=@Array.getElem?_toList
abbrev BT:=@List.length_map
abbrev BU:=@List.cons.injEq
abbrev BV:=@List.mem_of_getElem?
abbrev BW:=@Array.toList_push
abbrev BX:=@beq_iff_eq
abbrev BY:=@List.filter_eq_self
abbrev BZ:=@List.not_mem_nil
abbrev B0:=@List.filter_cons
abbrev B5:=@Nat.beq_refl
abbrev B6:=@List.map_map
abbrev B7:=@List.head?_eq_getElem?
abbrev B8:=@List.getElem?_drop
abbrev B9:=@List.append_nil
abbrev Da:=@Bool.or_eq_true
abbrev Db:=@List.singleton_append
abbrev Dc:=@List.getElem_drop
abbrev Dd:=@List.dropWhile_cons
abbrev De:=@Array.toList_modify
abbrev Df:=@Array.toList_filter
abbrev Dg:=@and_true
abbrev Dh:=@Bool.and_true
abbrev Di:=@Option.some.inj
abbrev Dj:=@List.nodup_cons
abbrev Dk:=@List.find?_cons
abbrev Dl:=@List.pairwise_cons
abbrev Dm:=@List.reverse_singleton
abbrev Dn:=@List.find?_append
abbrev Dp:=@Bool.or_true
abbrev Dq:=@Bool.not_false
abbrev Dr:=@List.eraseIdx_eq_take_drop_succ
abbrev Ds:=@List.take_append_drop
abbrev Dt:=@Array.getElem?_modify
abbrev Du:=@beq_self_eq_true
abbrev Dv:=@Option.bind_some
abbrev Dw:=@Nat.lt_succ_self
abbrev Dx:=@List.length_take
abbrev Dy:=@Nat.one_mul
abbrev Dz:=@List.getElem?_modify
abbrev DA:=@Array.replicate_zero
abbrev DB:=@Array.replicate_succ
abbrev DC:=@Array.size_push
abbrev DD:=@List.getElem?_range
abbrev DE:=@List.append_toArray
abbrev DG:=@Bool.true_or
abbrev DH:=@List.filter_append
abbrev DI:=@Option.isSome_iff_ne_none
abbrev DJ:=@List.getLast?_eq_getElem?
abbrev DK:=@List.getElem?_eq_none_iff
abbrev DM:=@List.drop_eq_getElem_cons
abbrev DN:=@List.push_toArray
abbrev DO:=@Int.toNat_natCast
abbrev DP:=@or_false
abbrev DQ:=@Option.bind_eq_some_iff
abbrev DR:=@Nat.le_of_not_lt
abbrev DT:=@Nat.lt_or_ge
abbrev DU:=@Array.getElem?_eq_none
abbrev DV:=@List.all_append
abbrev DW:=@Nat.ble_eq_true_of_le
abbrev DX:=@List.takeWhile_prefix
abbrev DY:=@List.mem_append_right
abbrev DZ:=@List.take_zero
abbrev D0:=@List.pairwise_append
abbrev D2:=@List.find?_nil
abbrev D3:=@List.map_take
abbrev D4:=@Bool.or_false
abbrev D5:=@Nat.pos_of_ne_zero
abbrev D6:=@List.findIdx?_cons
abbrev D7:=@List.find?_eq_none
abbrev D8:=@Bool.not_eq_false'
abbrev D9:=@List.findIdx?_eq_some_iff_getElem
abbrev Ea:=@List.nodup_append
abbrev Eb:=@List.getElem_take
abbrev Ec:=@List.getElem?_set
abbrev Ed:=@List.foldl_append
abbrev Ee:=@List.takeWhile_append_dropWhile
abbrev Ef:=@List.length_drop
abbrev Eg:=@Bool.not_eq_true
abbrev Eh:=@List.take_append_of_le_length
abbrev Ei:=@Int.le_refl
abbrev Ej:=@UInt8.toNat_inj
abbrev Ek:=@List.head?_cons
abbrev El:=@List.countP_eq_length_filter
abbrev Em:=@Option.or_none
abbrev En:=@Option.none_or
abbrev Eo:=@Nat.mod_lt
abbrev Ep:=@List.foldl_nil
abbrev Er:=@List.exists_cons_of_ne_nil
abbrev Es:=@List.drop_drop
abbrev Et:=@Array.toList_setIfInBounds
abbrev Eu:=@List.mem_of_find?_eq_some
abbrev Ew:=@List.map_drop
abbrev Ex:=@Array.getElem?_replicate
abbrev Ey:=@Classical.axiomOfChoice
abbrev Ez:=@getElem!_pos
abbrev EA:=@Option.map_eq_none_iff
abbrev EB:=@Nat.zero_mul
abbrev EC:=@List.map_nil
abbrev ED:=@List.getElem_cons_zero
abbrev EE:=@List.getElem_cons_succ
abbrev EG:=@Eq.symm
abbrev EH:=@Nat.le_div_iff_mul_le
abbrev EI:=@List.eraseIdx_sublist
abbrev EJ:=@List.concat_eq_append
abbrev EK:=@Array.getElem?_append
abbrev EL:=@ne_eq
abbrev EM:=@Nat.le_succ
abbrev EN:=@List.mem_of_mem_take
abbrev EO:=@List.mem_append_left
abbrev EP:=@List.map_id
abbrev ER:=@List.length_dropLast
abbrev ES:=@Nat.pred_eq_sub_one
abbrev ET:=@List.reverse_append
namespace Go.Am
inductive R (α:Type) where
 |ok (a:α)
 |no (why:String)
namespace R
def bind {α β:Type}:R α->(α->R β)->R β
 | .ok a,f=>f a
 | .no w,_=> .no w
instance:Monad R where
 pure:=R.ok
 bind:=R.bind
def of {α:Type} (why:String):Option α->R α
 |some a=> .ok a
 |none=> .no why
def check (why:String):Bool->R Unit
 |true=> .ok ()
 |false=> .no why
end R
inductive T (α:Type) where
 |e
 |n (v:Option α) (l r:T α)
namespace T
def get {α:Type}:T α->Nat->Option α
 | .e,_=>none
 | .n v l r,k=>bif Nat.beq k 0 then v else bif Nat.beq (Nat.mod k 2) 1 then l.get (Nat.div k 2)else r.get (Nat.pred (Nat.div k 2))
def bW {α:Type}:Nat->T α->Nat->Option α->T α
 |0,t,_,_=>t
 |f+1, .e,k,x=>
  bif Nat.beq k 0 then .n x .e .e else bif Nat.beq (Nat.mod k 2) 1 then .n none (bW f .e (Nat.div k 2) x) .e else .n none .e (bW f .e (Nat.pred (Nat.div k 2)) x)
 |f+1, .n v l r,k,x=>
  bif Nat.beq k 0 then .n x l r else bif Nat.beq (Nat.mod k 2) 1 then .n v (bW f l (Nat.div k 2) x) r else .n v l (bW f r (Nat.pred (Nat.div k 2)) x)
def set {α:Type} (t:T α) (k:Nat) (x:Option α):T α:=bW (k+1) t k x
def fv {α:Type}:List α->Nat->T α->T α
 |[],_,t=>t
 |x::l,k,t=>fv l (k+1) (t.set k (some x))
def ofList {α:Type} (l:List α):T α:=fv l 0 .e
end T
inductive fk where
 |lit (n:Nat)
 |tail (k:Nat)
deriving DecidableEq
inductive AV where
 |bool (b:Bool)
 |int (k:IntKind) (n:Int)
 |str (s:List UInt8)
 |aF
 |ptr (b off:Nat)
 |nils
 |sl (b off len:Nat) (cap:fk)
 |emp (b off l n k:Nat)
 |aY
 |map (b:Nat)
 |bh
 |fn (f:Fn) (first captured:List AV)
 |jU (l:Nat)
 |fu
 |iface (t:TypeId) (v:AV)
 |agg (cs:List AV)
 |bj (vs:List AV)
 |raw (v:Value)
inductive BK where
 |rw|mark|any|ro|cold
deriving DecidableEq
def BK.grown:BK->BK
 | .rw=> .rw
 |_=> .any
inductive AT where
 |fn (f:Fn) (captured:List AV)
 |jU (l:Nat)
 |collected (r:Nat)
structure AD where
 target:AT
 args:List AV
inductive AO where
 |cells (cs:List AV) (elem:TypeId) (sz:Nat) (ext:Bool) (bk:BK)
 |mp (es:List (AV×AV×Nat)) (clock:Nat)
 |fK (m:Option Nat) (since:Nat) (seen:List Nat) (stepped:Nat)
 |jz (s:List UInt8) (pos:Nat)
 |loop (st:LoopState) (pending:Option Code) (fn:FuncId) (tmps:T AV) (nt:Nat) (params:Array Tmp) (assign body:Code) (defers:Nat)
 |ng (calls:Option (List AD))
structure AH where
 t:T AO
 next:Nat
namespace AH
def get (h:AH) (b:Nat):Option AO:=h.t.get b
def set (h:AH) (b:Nat) (o:AO):AH:={h with t:=h.t.set b (some o)}
def new (h:AH) (o:AO):AH:={t:=h.t.set h.next (some o),next:=h.next+1}
def kill (h:AH) (b:Nat):AH:={h with t:=h.t.set b none}
end AH
inductive bq where
 |code (c:Code)
 |inBlock (id:Nat)
 |inLoop (body:Code)
 |inScope (body:Code)
 |inRegion (ops:Array Oper) (l:List Nat)
 |dv (l:Nat)
 |endRange (l:Nat)
 |beginRound
structure sD where
 v:AV
 recovered:Bool
inductive nc where
 |run
 |returning
 |panicking (chain:List sD)
structure af where
 fn:FuncId
 nt:Nat
 tmps:T AV
 todo:List bq
 defers:List AD
 mode:nc
 kind:CallKind
 round:Option Nat
structure AM where
 fr:af
 cs:List af
 h:AH
structure bc where
 und:T TypeDesc
 siz:T Nat
 byt:T Nat
 jB:T AV
 agg:T Bool
 cmp:T Bool
 held:T Bool
 jG:T Bool
 fns:T Func
 ext:T Nat
 merge:FuncId->Bool
def nA:Value->AV
 | .bool b=> .bool b
 | .int k n=> .int k n
 | .string s=> .str s.data.toList
 | .pointer none=> .aF
 | .slice none 0 0=> .nils
 | .map none=> .aY
 | .nilFunc=> .bh
 | .nilIface=> .fu
 |v=> .raw v
def ofConst:Value->AV
 | .agg cs=> .agg (cs.toList.map nA)
 | .tuple vs=> .bj (vs.toList.map nA)
 |v=>nA v
def ev (ts:T AV):Operand->R AV
 | .tmp t=> .ok ((ts.get t).getD (.bj []))
 | .const v=> .ok (ofConst v)
 | .func f=> .ok (.fn (.func f) [] [])
 | .global _=> .no "global"
def iI (ts:T AV):List Operand->R (List AV)
 |[]=> .ok []
 |x::l=>do
  let v<-ev ts x
  let vs<-iI ts l
  .ok (v::vs)
def AV.cells:AV->R (List AV)
 | .agg cs=> .ok cs
 | .raw (.agg _)=> .no "cells of a raw value"
 | .raw (.tuple _)=> .no "cells of a raw value"
 | .raw v=> .ok [.raw v]
 |v=> .ok [v]
mutual
def AV.beq:AV->AV->Bool
 | .bool a, .bool b=>a==b
 | .int k a, .int j b=>k==j&&a==b
 | .str a, .str b=>a==b
 | .aF, .aF=>true
 | .ptr a i, .ptr b j=>Nat.beq a b&&Nat.beq i j
 | .nils, .nils=>true
 | .sl a i n c, .sl b j m d=>Nat.beq a b&&Nat.beq i j&&Nat.beq n m&&c==d
 | .emp a i n c e, .emp b j m d f=>Nat.beq a b&&Nat.beq i j&&Nat.beq n m&&Nat.beq c d&&Nat.beq e f
 | .aY, .aY=>true
 | .map a, .map b=>Nat.beq a b
 | .bh, .bh=>true
 | .fn f a b, .fn g c d=>f==g&&fT a c&&fT b d
 | .jU a, .jU b=>Nat.beq a b
 | .fu, .fu=>true
 | .iface t v, .iface u w=>Nat.beq t u&&AV.beq v w
 | .agg a, .agg b=>fT a b
 | .bj a, .bj b=>fT a b
 | .raw (.slice a n c), .raw (.slice b m d)=>decide (a=b)&&Nat.beq n m&&Nat.beq c d
 | .raw (.pointer (some a)), .raw (.pointer (some b))=>decide (a=b)
 |_,_=>false
def fT:List AV->List AV->Bool
 |[],[]=>true
 |a::l,b::m=>AV.beq a b&&fT l m
 |_,_=>false
end
section
variable (tab:bc)
def und (t:TypeId):R TypeDesc:=R.of "und" (tab.und.get t)
def siz (t:TypeId):R Nat:=R.of "siz" (tab.siz.get t)
def zero (t:TypeId):R AV:=R.of "zero" (tab.jB.get t)
def isAgg (t:TypeId):R Bool:=R.of "isAgg" (tab.agg.get t)
def part (t:TypeId) (cs:List AV) (off:Nat):R AV:=do
 if<-isAgg tab t then
  let n<-siz tab t
  .ok (.agg ((cs.drop off).take n))
 else R.of "part" cs[off]?
def iM (h:AH) (b:Nat):R (List AV×TypeId×Nat×Bool×BK):=
 match h.get b with
 |some (.cells cs e sz ext bk)=> .ok (cs,e,sz,ext,bk)
 |_=> .no "cells"
def readN (h:AH) (b off n:Nat):R (List AV):=do
 let (cs,_)<-iM h b
 R.check "readN" (Nat.ble (off+n) cs.length)
 .ok ((cs.drop off).take n)
def lP (cs:List AV) (off:Nat) (vs:List AV):List AV:=cs.take off++(vs++cs.drop (off+vs.length))
def kf:AV->Bool
 | .raw (.slice _ _ _)=>true
 | .raw (.int _ _)=>true
 | .raw (.string _)=>true
 | .raw (.bool _)=>true
 | .raw (.pointer (some _))=>true
 | .agg _| .bj _| .raw _=>false
 |_=>true
def writeN (h:AH) (b off:Nat) (vs:List AV):R AH:=
 match vs with
 |[]=> .ok h
 |_=>do
  let (cs,e,sz,ext,bk)<-iM h b
  R.check "writeN: ro" (bk != .ro&&bk != .cold)
  R.check "writeN: range" (Nat.ble (off+vs.length) cs.length)
  R.check "writeN: cell" (vs.all kf)
  .ok (h.set b (.cells (lP cs off vs) e sz ext bk))
def loadVar (h:AH) (t:TypeId) (b off:Nat):R AV:=do
 if<-isAgg tab t then
  let n<-siz tab t
  let cs<-readN h b off n
  .ok (.agg cs)
 else
  let (cs,_)<-iM h b
  R.of "load" cs[off]?
def storeVar (h:AH) (t:TypeId) (b off:Nat) (v:AV):R AH:=do
 let n<-siz tab t
 let l<-v.cells
 R.check "store: size" (Nat.beq l.length n)
 writeN h b off l
def newRow (h:AH) (elem:TypeId) (cs:List AV) (ext:Bool:=false) (bk:BK:= .rw):R (AH×Nat):=do
 let n<-siz tab elem
 .ok (h.new (.cells cs elem n ext bk),h.next)
def asInt:AV->R (IntKind×Int)
 | .int k n=> .ok (k,n)
 |_=> .no "asInt"
def asNat (v:AV):R Nat:=do
 let (_,n)<-asInt v
 match n with
 | .ofNat k=> .ok k
 | .negSucc _=> .no "asNat"
def goInt (n:Nat):AV:= .int .i64 (.ofNat n)
def intOp (op:BinOp) (k:IntKind) (x y:Int):R AV:=
 match op with
 | .add=> .ok (.int k (k.wrap (x+y)))
 | .sub=> .ok (.int k (k.wrap (x - y)))
 | .mul=> .ok (.int k (k.wrap (x*y)))
 | .quo=>if y=0 then .no "div" else .ok (.int k (k.wrap (x.tdiv y)))
 | .rem=>if y=0 then .no "div" else .ok (.int k (x.tmod y))
 | .and=> .ok (.int k (k.wrap (BitVec.ofInt k.bits x&&&BitVec.ofInt k.bits y).toNat))
 | .or=> .ok (.int k (k.wrap (BitVec.ofInt k.bits x|||BitVec.ofInt k.bits y).toNat))
 | .xor=> .ok (.int k (k.wrap (BitVec.ofInt k.bits x ^^^ BitVec.ofInt k.bits y).toNat))
 | .andNot=> .ok (.int k (k.wrap (BitVec.ofInt k.bits x&&& ~~~ BitVec.ofInt k.bits y).toNat))
 | .eql=> .ok (.bool (x==y))
 | .neq=> .ok (.bool (x !=y))
 | .lss=> .ok (.bool (decide (x<y)))
 | .leq=> .ok (.bool (decide (x<=y)))
 | .gtr=> .ok (.bool (decide (x>y)))
 | .geq=> .ok (.bool (decide (x>=y)))
 |_=> .no "intOp"
def shiftOp (op:BinOp) (k:IntKind) (x y:Int):R AV:=
 if y<0 then .no "shift" else
 match op with
 | .shl=> .ok (.int k (k.wrap (x*2 ^ (min y.toNat k.bits))))
 | .shr=> .ok (.int k (x.fdiv (2 ^ (min y.toNat k.bits))))
 |_=> .no "shiftOp"
def strOp (op:BinOp) (x y:List UInt8):R AV:=
 match op with
 | .add=>if x.length+y.length<=1048576 then .ok (.str (x++y))else .no "string too long"
 | .eql=> .ok (.bool (x==y))
 | .neq=> .ok (.bool (!(x==y)))
 | .lss=> .ok (.bool (Op.bytesLess x y))
 | .leq=> .ok (.bool (Op.bytesLess x y||x==y))
 | .gtr=> .ok (.bool (!(Op.bytesLess x y||x==y)))
 | .geq=> .ok (.bool (!Op.bytesLess x y))
 |_=> .no "strOp"
def eqFields (eq:TypeId->AV->AV->R Bool) (xs ys:List AV):List Field->R Bool
 |[]=> .ok true
 | f::fs=>
  if f.name≠ "_" then do
   let a<-part tab f.type xs f.offset
   let b<-part tab f.type ys f.offset
   if<-eq f.type a b then eqFields eq xs ys fs else .ok false
  else eqFields eq xs ys fs
def eqT:Nat->TypeId->AV->AV->R Bool
 |0,_,_,_=> .no "eqT"
 | d+1,t,x,y=>do
  match<-und tab t,x,y with
  | .bool, .bool a, .bool b=> .ok (a==b)
  | .int _, .int k a, .int j b=>if k=j then .ok (a==b)else .no "eqT kinds"
  | .string, .str a, .str b=> .ok (a==b)
  | .pointer _, .aF, .aF=> .ok true
  | .pointer _, .aF, .ptr _ _=> .ok false
  | .pointer _, .ptr _ _, .aF=> .ok false
  | .pointer _, .raw (.pointer (some _)), .aF=> .ok false
  | .pointer _, .aF, .raw (.pointer (some _))=> .ok false
  | .slice _, .nils, .nils=> .ok true
  | .slice _, .nils, .sl .. => .ok false
  | .slice _, .sl .., .nils=> .ok false
  | .slice _, .nils, .emp .. => .ok false
  | .slice _, .emp .., .nils=> .ok false
  | .map _ _, .aY, .aY=> .ok true
  | .map _ _, .aY, .map _=> .ok false
  | .map _ _, .map _, .aY=> .ok false
  | .func _ _ _, .bh, .bh=> .ok true
  | .func _ _ _, .bh, .fn .. => .ok false
  | .func _ _ _, .fn .., .bh=> .ok false
  | .interface _, .fu, .iface _ _=> .ok false
  | .interface _, .iface _ _, .fu=> .ok false
  | .struct fs, .agg xs, .agg ys=>do
   match tab.held.get t with
   |some false=>eqFields tab (eqT d) xs ys fs.toList
   |_=> .no "eqT held"
  |_,_,_=> .no "eqT"
def eqOp (h:AH) (t:TypeId) (x y:AV):R Bool:=do
 match x,y with
 | .ptr a i, .ptr b j=>
  match<-und tab t with
  | .pointer e=>do
   let n<-siz tab e
   R.check "eqOp: size 0" (!(Nat.beq n 0))
   if Nat.beq a b then .ok (Nat.beq i j)else
    match h.get a,h.get b with
    |some (.cells _ _ _ _ .rw),some (.cells _ _ _ _ .rw)=> .ok false
    |_,_=> .no "eqOp: blocks"
  |_=> .no "eqOp"
 | .agg _, .agg _=>
  match tab.jG.get t with
  |some false=>eqT tab 8 t x y
  |_=> .no "eqOp: guard"
 | .fu, .fu=> .no "eqOp: nil, nil"
 |_,_=>eqT tab 8 t x y
def binOp (h:AH) (op:BinOp) (t:TypeId) (x y:AV):R AV:=
 match op,x,y with
 | .shl, .int k a, .int _ b=>shiftOp .shl k a b
 | .shr, .int k a, .int _ b=>shiftOp .shr k a b
 |_, .int k a, .int j b=>if k=j then intOp op k a b else .no "binOp kinds"
 |_, .str a, .str b=>strOp op a b
 | .eql,x,y=>do .ok (.bool (<-eqOp tab h t x y))
 | .neq,x,y=>do .ok (.bool (!(<-eqOp tab h t x y)))
 |_,_,_=> .no "binOp"
def unOp (op:UnOp) (x:AV):R AV:=
 match op,x with
 | .neg, .int k n=> .ok (.int k (k.wrap (0 - n)))
 | .xor, .int k n=> .ok (.int k (k.wrap (BitVec.ofInt k.bits (if k.signed then -1 else k.max) ^^^ BitVec.ofInt k.bits n).toNat))
 | .not, .bool b=> .ok (.bool (!b))
 |_,_=> .no "unOp"
def bytesOf:List AV->R (List UInt8)
 |[]=> .ok []
 | .int .u8 (.ofNat n)::l=>do
  let r<-bytesOf l
  .ok (UInt8.ofNat n::r)
 |_=> .no "bytesOf"
def ofBytes (s:List UInt8):List AV:=s.map fun b=> .int .u8 (.ofNat b.toNat)
def convert (h:AH) (src dst:TypeId) (x:AV):R (AV×AH):=do
 match<-und tab src,<-und tab dst,x with
 |_, .int k, .int _ n=> .ok (.int k (k.wrap n),h)
 |_, .string, .str s=> .ok (.str s,h)
 | _, .slice e, .str s=>do
  match<-und tab e with
  | .int .u8=>do
   let n<-siz tab e
   R.check "convert: size" (Nat.beq n 1)
   let (h',b)<-newRow tab h e (ofBytes s) true .mark
   .ok (.sl b 0 s.length (.tail 0),h')
  |_=> .no "convert to a slice"
 | .slice e, .string,x=>do
  match<-und tab e,x with
  | .int .u8, .nils=> .ok (.str [],h)
  | .int .u8, .sl b off n _=>do
   let s<-bytesOf (<-readN h b off n)
   .ok (.str s,h)
  | .int .u8, .emp .. => .ok (.str [],h)
  | .int .u8, .raw (.slice _ 0 _)=> .ok (.str [],h)
  |_,_=> .no "convert of a slice"
 | .slice _, .slice e, .sl b off n c=>do
  match Nat.beq src dst,<-und tab e with
  |true, .int .u8=>do
   let (cs,e',sz,ext,bk)<-iM h b
   R.check "convert: ro" (bk != .ro&&bk != .cold)
   .ok (.sl b off n c,h.set b (.cells cs e' sz ext .mark))
  |_,_=> .no "convert slices"
 |_,_,_=> .no "convert"
def wD (h:AH) (t:TypeId) (x:AV):R (AV×AH):=do
 match x with
 | .aF=> .ok (.aF,h)
 | .ptr b off=>do
  let (cs,_,_,_,_)<-iM h b
  let n<-siz tab t
  R.check "convert to unsafe.Pointer" (!(Nat.beq n 0)&&Nat.blt off cs.length)
  .ok (.ptr b off,h)
 |_=> .no "convert to unsafe.Pointer"
def vP (h:AH) (u:TypeId) (x:AV):R (AV×AH):=do
 match x with
 | .aF=> .ok (.aF,h)
 | .ptr b off=>do
  let (cs,e,_,_,_)<-iM h b
  let sz<-siz tab u
  R.check "convert from unsafe.Pointer" (Nat.beq e u&& !(Nat.beq sz 0)&&Nat.beq off 0&&Nat.ble sz cs.length)
  .ok (.ptr b off,h)
 |_=> .no "convert from unsafe.Pointer"
def mn (h:AH) (src dst:TypeId) (x:AV):R (AV×AH):=do
 match<-und tab dst with
 | .unsafePointer=>do
  match<-und tab src with
  | .pointer t=>wD tab h t x
  |_=> .no "convert to unsafe.Pointer"
 | .pointer u=>do
  match<-und tab src with
  | .unsafePointer=>vP tab h u x
  |_=> .no "convert to a pointer"
 |_=>convert tab h src dst x
def fill (cs:List AV):List (Nat×Nat×AV)->R (List AV)
 |[]=> .ok cs
 |(off,n,v)::rest=>do
  let l<-v.cells
  R.check "fill" (Nat.beq l.length n&&Nat.ble (off+n) cs.length)
  fill (lP cs off l) rest
def pD (fs:Array Field):List (Nat×AV)->R (List (Nat×Nat×AV))
 |[]=> .ok []
 |(i,v)::rest=>do
  let f<-R.of "field" fs[i]?
  let n<-siz tab f.type
  let r<-pD fs rest
  .ok ((f.offset,n,v)::r)
def build (t:TypeId) (parts:List (Nat×AV)):R AV:=do
 let z<-zero tab t
 let zc<-z.cells
 match<-und tab t with
 | .struct fs=>do
  R.check "build: sizes" (fs.toList.all fun f=>(tab.siz.get f.type).isSome)
  let ps<-pD tab fs parts
  let cs<-fill zc ps
  .ok (.agg cs)
 | .array _ e=>do
  let n<-siz tab e
  let cs<-fill zc (parts.map fun(i,v)=>(i*n,n,v))
  .ok (.agg cs)
 |_=> .no "build"
def rep (n:Nat) (l:List AV):List AV:=
 match n with
 |0=>[]
 |n+1=>l++rep n l
def buildSlice (h:AH) (t:TypeId) (len:Nat) (parts:List (Nat×AV)):R (AV×AH):=do
 match<-und tab t with
 | .slice e=>do
  let n<-siz tab e
  R.check "buildSlice" (Nat.ble (len*n) 16777216)
  let z<-zero tab e
  let zc<-z.cells
  R.check "buildSlice: zero" (Nat.beq zc.length n)
  let cs<-fill (rep len zc) (parts.map fun(i,v)=>(i*n,n,v))
  let (h',b)<-newRow tab h e cs
  .ok (.sl b 0 len (.lit len),h')
 |_=> .no "buildSlice"
def ke (ts:T AV):List (Nat×Operand)->R (List (Nat×AV))
 |[]=> .ok []
 |(i,x)::l=>do
  let v<-ev ts x
  let r<-ke ts l
  .ok ((i,v)::r)
def makeSlice (h:AH) (t:TypeId) (len cap:AV):R (AV×AH):=do
 match<-und tab t with
 | .slice e=>do
  let l<-asNat len
  let c<-asNat cap
  let by_<-R.of "byt" (tab.byt.get e)
  R.check "makeSlice" (Nat.ble l c&&Nat.ble c 4194304&&Nat.ble (by_*c) 16777216)
  let n<-siz tab e
  let z<-zero tab e
  let zc<-z.cells
  R.check "makeSlice: zero" (Nat.beq zc.length n&& !(Nat.beq n 0))
  let (h',b)<-newRow tab h e (rep c zc)
  .ok (.sl b 0 l (.lit c),h')
 |_=> .no "makeSlice"
def capLow (h:AH) (b:Nat):fk->R Nat
 | .lit n=> .ok n
 | .tail k=>do
  let (cs,_,sz,ext,_)<-iM h b
  R.check "capLow" (ext&& !(Nat.beq sz 0))
  .ok (Nat.div cs.length sz - k)
def eW (ts:T AV) (d:R Nat):Option Operand->R Nat
 |none=>d
 |some x=>do asNat (<-ev ts x)
def iA (ts:T AV) (h:AH) (t:TypeId) (x:AV) (lo hi mx:Option Operand):R (AV×AH):=do
 match<-und tab t,x with
 | .string, .str s=>do
  R.check "slice: max" mx.isNone
  let l<-eW ts (.ok 0) lo
  let u<-eW ts (.ok s.length) hi
  R.check "slice: bounds" (Nat.ble l u&&Nat.ble u s.length)
  .ok (.str ((s.drop l).take (u - l)),h)
 | .slice e, .nils=>do
  let _<-siz tab e
  let l<-eW ts (.ok 0) lo
  let u<-eW ts (.ok 0) hi
  let m<-eW ts (.ok 0) mx
  R.check "slice: nil" (Nat.beq l 0&&Nat.beq u 0&&Nat.beq m 0&&(mx.isNone||hi.isSome))
  .ok (.nils,h)
 | .slice e, .sl b off len cap=>do
  let c<-capLow h b cap
  let n<-siz tab e
  let l<-eW ts (.ok 0) lo
  let u<-eW ts (.ok len) hi
  match mx with
  |some _=>do
   let m<-eW ts (.ok 0) mx
   R.check "slice: bounds" (Nat.ble l u&&Nat.ble u m&&Nat.ble m c&&hi.isSome)
   .ok (.sl b (bif Nat.beq m l then off else off+l*n) (u - l) (.lit (m - l)),h)
  | none=>
   match cap with
   | .lit m=>do
    R.check "slice: bounds" (Nat.ble l u&&Nat.ble u m)
    .ok (.sl b (bif Nat.beq m l then off else off+l*n) (u - l) (.lit (m - l)),h)
   | .tail k=>do
    R.check "slice: bounds" (Nat.ble l u&&Nat.ble u c)
    bif Nat.beq l 0 then .ok (.sl b off u (.tail k),h)
    else bif Nat.blt l c then .ok (.sl b (off+l*n) (u - l) (.tail (k+l)),h)
    else .ok (.emp b off l n k,h)
 | .slice e, .raw (.slice a 0 c)=>do
  let _<-siz tab e
  let l<-eW ts (.ok 0) lo
  let u<-eW ts (.ok 0) hi
  R.check "slice: raw" (Nat.beq l 0&&Nat.beq u 0&&mx.isNone)
  .ok (.raw (.slice a 0 c),h)
 | .slice e, .emp b off l0 n0 k=>do
  let _<-siz tab e
  let l<-eW ts (.ok 0) lo
  let u<-eW ts (.ok 0) hi
  R.check "slice: emp" (Nat.beq l 0&&Nat.beq u 0&&mx.isNone)
  .ok (.emp b off l0 n0 k,h)
 |_,_=> .no "slice"
def kL (e:TypeId) (n:Nat):R Unit:=do
 let z<-zero tab e
 let zc<-z.cells
 R.check "append: zero" (Nat.beq zc.length n)
def bu (h:AH) (e:TypeId) (n by_:Nat) (x:AV) (m:Nat) (news:List AV):R (AV×AH):=do
 match x with
 | .nils=>
  bif Nat.beq m 0 then .ok (.nils,h)
  else do
   R.check "append: size" (Nat.ble (m*by_) 16777216&&Nat.ble m 16777216)
   kL tab e n
   let (h',b)<-newRow tab h e news true
   .ok (.sl b 0 m (.tail 0),h')
 | .sl b off len cap=>do
  let c<-capLow h b cap
  let (cs,e',sz,ext,bk)<-iM h b
  R.check "append: type" (Nat.beq e e'&&Nat.beq sz n)
  let need:=len+m
  R.check "append: size" (Nat.ble (need*by_) 16777216&&Nat.ble need 16777216)
  bif Nat.ble need c then do
   let h'<-writeN h b (off+len*n) news
   .ok (.sl b off need cap,h')
  else
   R.check "append: old" (Nat.ble (off+len*n) cs.length)>>=fun _=>
   kL tab e n>>=fun _=>
   match cap with
   | .lit _=>do
    let (h',b')<-newRow tab h e ((cs.drop off).take (len*n)++news) true
    .ok (.sl b' 0 need (.tail 0),h')
   | .tail k=>do
    R.check "append: tail" (Nat.beq k 0&&Nat.beq off 0&&ext&&bk != .ro&&bk != .cold&&news.all kf)
    let (h',b')<-newRow tab (h.kill b) e (cs.take (len*n)++news) true bk.grown
    .ok (.sl b' 0 need (.tail 0),h')
 |_=> .no "append"
def source (h:AH) (n:Nat):AV->R (Nat×List AV)
 | .nils=> .ok (0,[])
 | .emp .. => .ok (0,[])
 | .sl b off len _=>do
  let cs<-readN h b off (len*n)
  .ok (len,cs)
 | .str s=>do
  R.check "source: size" (Nat.beq n 1)
  .ok (s.length,ofBytes s)
 | .raw (.slice _ 0 _)=> .ok (0,[])
 |_=> .no "source"
def rC (ck:TypeId->AV->R Unit) (cs:List AV):List Field->R Unit
 |[]=> .ok ()
 | f::fs=>
  if f.name≠ "_" then do
   let x<-part tab f.type cs f.offset
   ck f.type x
   rC ck cs fs
  else rC ck cs fs
def uC:Nat->TypeId->AV->R Unit
 |0,_,_=> .no "ckKey"
 |d+1,t,v=>do
  match<-und tab t,v with
  | .interface _,_=> .no "ckKey"
  | .array _ _,_=> .no "ckKey"
  | .struct fs, .agg cs=>rC tab (uC d) cs fs.toList
  | .struct _,_=> .no "ckKey"
  |_,_=> .ok ()
def ckKey (t:TypeId) (v:AV) (d:Nat):R Unit:=uC tab d t v
def findKey (t:TypeId) (k:AV):List (AV×AV×Nat)->Nat->R (Option (Nat×AV×AV×Nat))
 |[],_=> .ok none
 |(a,v,n)::es,i=>do
  if<-eqT tab 8 t k a then .ok (some (i,a,v,n))else findKey t k es (i+1)
def jS (h:AH) (b:Nat):R (List (AV×AV×Nat)×Nat):=
 match h.get b with
 |some (.mp es c)=> .ok (es,c)
 |_=> .no "map"
def entriesOf (h:AH):AV->R (List (AV×AV×Nat))
 | .aY=> .ok []
 | .map b=>do
  let (es,_)<-jS h b
  .ok es
 |_=> .no "entries"
def lookup (h:AH) (t:TypeId) (m k:AV) (ok:Bool):R AV:=do
 match<-und tab t with
 | .map kt et=>do
  let es<-entriesOf h m
  ckKey tab kt k 8
  let r<-findKey tab kt k es 0
  match r with
  |some (_,_,v,_)=> .ok (if ok then .bj [v, .bool true]else v)
  |none=>do
   let z<-zero tab et
   .ok (if ok then .bj [z, .bool false]else z)
 |_=> .no "lookup"
def setAt {α:Type} (l:List α) (i:Nat) (x:α):List α:=
 match l,i with
 |[],_=>[]
 |_::l,0=>x::l
 |a::l,i+1=>a::setAt l i x
def uZ:AV->Bool
 | .bool _| .int _ _| .str _| .aF| .ptr _ _| .fu=>true
 |_=>false
def rP:AV->Bool
 | .agg cs=>cs.all uZ
 |v=>uZ v
def mapUpdate (h:AH) (t:TypeId) (m k x:AV):R AH:=do
 match<-und tab t,m with
 | .map kt _, .map b=>do
  let (es,c)<-jS h b
  ckKey tab kt k 8
  match<-findKey tab kt k es 0 with
  |some (i,a,_,n)=>do
   R.check "map: key" (AV.beq a k&&rP k)
   .ok (h.set b (.mp (setAt es i (a,x,n)) c))
  |none=> .ok (h.set b (.mp (es++[(k,x,c)]) (c+1)))
 |_,_=> .no "mapUpdate"
def mapEntry (h:AH) (t:TypeId) (m k:AV):R (AV×AH):=do
 match<-und tab t,m with
 | .map kt et, .map b=>do
  let (es,c)<-jS h b
  ckKey tab kt k 8
  match<-findKey tab kt k es 0 with
  |some (_,a,v,n)=>do
   R.check "map: key" (AV.beq a k&&rP k)
   .ok (.bj [v,goInt n],h)
  |none=>do
   let z<-zero tab et
   .ok (.bj [z,goInt c],h.set b (.mp (es++[(k,z,c)]) (c+1)))
 |_,_=> .no "mapEntry"
def rr (n:Nat) (x:AV):List (AV×AV×Nat)->Option (List (AV×AV×Nat))
 |[]=>none
 |(a,v,m)::es=>bif Nat.beq m n then some ((a,x,m)::es)else(rr n x es).map ((a,v,m):: ·)
def entryStore (h:AH) (m s x:AV):R AH:=do
 match m with
 | .map b=>do
  let (es,c)<-jS h b
  let n<-asNat s
  let es'<-R.of "entryStore" (rr n x es)
  .ok (h.set b (.mp es' c))
 |_=> .no "entryStore"
def delete (h:AH) (t:TypeId) (m k:AV):R AH:=do
 match<-und tab t,m with
 | .map kt _, .aY=>do
  ckKey tab kt k 8
  .ok h
 | .map kt _, .map b=>do
  let (es,c)<-jS h b
  ckKey tab kt k 8
  match<-findKey tab kt k es 0 with
  |some (i,_)=> .ok (h.set b (.mp (es.take i++es.drop (i+1)) c))
  |none=> .ok h
 |_,_=> .no "delete"
def xr (h:AH) (t:TypeId) (x:AV):R (AV×AH):=do
 match<-und tab t,x with
 | .string, .str s=> .ok (.ptr h.next 0,h.new (.jz s 0))
 | .map _ _, .aY=> .ok (.ptr h.next 0,h.new (.fK none 0 [] 0))
 | .map _ _, .map b=>do
  let (_,c)<-jS h b
  .ok (.ptr h.next 0,h.new (.fK (some b) c [] c))
 |_,_=> .no "range"
def xV (h:AH) (it:AV) (isString:Bool):R (List (AV×AH)):=do
 match it with
 | .ptr r 0=>
  match h.get r,isString with
  |some (.fK none _ _ _),false=> .ok [(.bj [.bool false],h)]
  | some (.jz s pos),true=>
   bif Nat.blt pos s.length then
    let d:=Utf8.decode ⟨s.toArray⟩ pos
    .ok [(.bj [.bool true,goInt pos, .int .i32 d.1],h.set r (.jz s (pos+d.2)))]
   else .ok [(.bj [.bool false],h)]
  |some (.fK (some m) since seen last),false=>do
   let (es,c)<-jS h m
   R.check "next: clock" (Nat.beq c since&&es.all fun x=>Nat.blt x.2.2 since&&Nat.blt x.2.2 last)
   let left:=es.filter fun x=> !(seen.any (Nat.beq x.2.2))
   match left with
   |[]=> .ok [(.bj [.bool false],h)]
   |l=> .ok (l.map fun x=>(.bj [.bool true,x.1,x.2.1],h.set r (.fK (some m) since (seen++[x.2.2]) c)))
  |_,_=> .no "next"
 |_=> .no "next"
def xy (h:AH) (it:AV):R AV:=do
 match it with
 | .ptr r 0=>
  match h.get r with
  |some (.fK (some m) _ seen stepped)=>do
   let (es,c)<-jS h m
   R.check "entry: clock" (Nat.beq c stepped)
   let n<-R.of "entry: step" seen.getLast?
   let x<-R.of "entry" (es.find? fun x=>Nat.beq x.2.2 n)
   .ok (.bj [x.1,x.2.1])
  |_=> .no "entry"
 |_=> .no "entry"
def rL (t:TypeId) (f:Nat):R Field:=do
 match<-und tab t with
 | .struct fs=>R.of "field" fs[f]?
 |_=> .no "struct"
def qh (k:IntKind):Int->List AV->R AV
 |x,[]=> .ok (.int k x)
 |x, .int _ y::l=>qh k (if y<x then y else x) l
 |_,_=> .no "min"
def qg (k:IntKind):Int->List AV->R AV
 |x,[]=> .ok (.int k x)
 |x, .int _ y::l=>qg k (if y>x then y else x) l
 |_,_=> .no "max"
def lenOf (h:AH):TypeDesc->AV->R Nat
 | .string, .str s=> .ok s.length
 | .slice _, .nils=> .ok 0
 | .slice _, .emp .. => .ok 0
 | .slice _, .sl _ _ n _=> .ok n
 | .slice _, .raw (.slice _ n _)=> .ok n
 | .map _ _, .aY=> .ok 0
 | .map _ _, .map b=>do
  let (es,_)<-jS h b
  .ok es.length
 | .array n _,_=> .ok n
 |_,_=> .no "len"
def y8 (h:AH) (e:TypeId) (x y:AV):R (AV×AH):=do
 let n<-siz tab e
 let by_<-R.of "byt" (tab.byt.get e)
 R.check "append: cells" (!(Nat.beq n 0))
 let m<-asNat y
 R.check "append of make: size" (Nat.ble m 1048576&&Nat.ble (m*by_) 16777216)
 let z<-zero tab e
 let zc<-z.cells
 R.check "append of make: zero" (Nat.beq zc.length n)
 bu tab h e n by_ x m (rep m zc)
def wy (h:AH) (x:AV):R (AV×AH):=
 match x with
 | .nils=> .ok (.aF,h)
 | .sl b off _ cap=>do
  let c<-capLow h b cap
  R.check "unsafe.SliceData" (!(Nat.beq c 0))
  .ok (.ptr b off,h)
 |_=> .no "unsafe.SliceData"
def unsafeString (h:AH) (t:TypeId) (x y:AV):R (AV×AH):=do
 let n<-asNat y
 R.check "unsafe.String: length" (Nat.ble n 1048576)
 match x with
 | .aF=>do
  R.check "unsafe.String" (Nat.beq n 0)
  .ok (.str [],h)
 | .ptr b off=>
  bif Nat.beq n 0 then .ok (.str [],h)
  else do
   match<-und tab t with
   | .pointer u=>do
    let (cs,e,sz,ext,bk)<-iM h b
    let n1<-siz tab e
    R.check "unsafe.String: type" (Nat.beq e u&&Nat.beq n1 1&&bk != .ro&&bk != .cold)
    let s<-bytesOf (<-readN h b off n)
    .ok (.str s,h.set b (.cells cs e sz ext .cold))
   |_=> .no "unsafe.String"
 |_=> .no "unsafe.String"
def builtin (b:Builtin) (argTypes:Array TypeId) (args:List AV) (h:AH):R (AV×AH):=do
 match b,args with
 | .len,[x]=>do
  let t<-R.of "len" argTypes[0]?
  let u<-und tab t
  match u with
  | .pointer e=>do
   match<-und tab e with
   | .array n _=> .ok (goInt n,h)
   |_=> .no "len"
  |u=>do
   let n<-lenOf h u x
   .ok (goInt n,h)
 | .cap,[x]=>do
  let t<-R.of "cap" argTypes[0]?
  match<-und tab t,x with
  | .slice _, .nils=> .ok (goInt 0,h)
  | .slice _, .sl _ _ _ (.lit n)=> .ok (goInt n,h)
  |_,_=> .no "cap"
 | .append,[x,y]=>do
  let t<-R.of "append" argTypes[0]?
  let u<-R.of "append" argTypes[1]?
  match<-und tab u with
  | .int _=>do
   match<-und tab t with
   | .slice e=>y8 tab h e x y
   |_=> .no "append"
  | _=>do
   match<-und tab t with
   | .slice e=>do
    let n<-siz tab e
    let by_<-R.of "byt" (tab.byt.get e)
    R.check "append: cells" (!(Nat.beq n 0))
    let (m,news)<-source h n y
    bu tab h e n by_ x m news
   |_=> .no "append"
 | .copy,[x,y]=>do
  let t<-R.of "copy" argTypes[0]?
  match<-und tab t with
  | .slice e=>do
   let n<-siz tab e
   let (m,cs)<-source h n y
   match x with
   | .nils=> .ok (goInt 0,h)
   | .emp .. => .ok (goInt 0,h)
   | .sl b off len _=>do
    let k:=Nat.min m len
    let h'<-writeN h b off (cs.take (k*n))
    .ok (goInt k,h')
   |_=> .no "copy"
  |_=> .no "copy"
 | .clear,[x]=>do
  let t<-R.of "clear" argTypes[0]?
  match<-und tab t,x with
  |_, .aY=> .ok (.bj [],h)
  |_, .nils=> .ok (.bj [],h)
  |_, .emp .. => .ok (.bj [],h)
  |_, .map b=>do
   let (_,c)<-jS h b
   .ok (.bj [],h.set b (.mp [] c))
  | .slice e, .sl b off len _=>do
   let z<-zero tab e
   let zc<-z.cells
   let h'<-writeN h b off (rep len zc)
   .ok (.bj [],h')
  |_,_=> .no "clear"
 | .delete,[m,k]=>do
  let t<-R.of "delete" argTypes[0]?
  let h'<-delete tab h t m k
  .ok (.bj [],h')
 | .unsafeSliceData,[x]=>wy h x
 | .unsafeString,[x,y]=>do
  let t<-R.of "unsafe.String" argTypes[0]?
  unsafeString tab h t x y
 | .min, .int k x::l=>do
  let v<-qh k x l
  .ok (v,h)
 | .max, .int k x::l=>do
  let v<-qg k x l
  .ok (v,h)
 |_,_=> .no "builtin"
def eu (ts:T AV) (h:AH) (o:Oper):R (AV×AH):=do
 match o.op with
 | .move x=>do .ok (<-ev ts x,h)
 | .assign x=>do .ok (<-ev ts x,h)
 | .pick c a b=>do
  match<-ev ts c with
  | .bool true=>do .ok (<-ev ts a,h)
  | .bool false=>do .ok (<-ev ts b,h)
  |_=> .no "pick"
 | .alloc e=>do
  let z<-zero tab e
  let zc<-z.cells
  let (h',b)<-newRow tab h e zc
  .ok (.ptr b 0,h')
 | .box e x=>do
  let v<-ev ts x
  let vc<-v.cells
  let (h',b)<-newRow tab h e vc
  .ok (.ptr b 0,h')
 | .build t ps=>do
  let l<-ke ts ps.toList
  .ok (<-build tab t l,h)
 | .buildSlice t n ps=>do
  let l<-ke ts ps.toList
  buildSlice tab h t n l
 | .load t a=>do
  match<-ev ts a with
  | .ptr b off=>do .ok (<-loadVar tab h t b off,h)
  |_=> .no "load"
 | .store t a x=>do
  match<-ev ts a with
  | .ptr b off=>do
   let h'<-storeVar tab h t b off (<-ev ts x)
   .ok (.bj [],h')
  |_=> .no "store"
 | .nilCheck x=>do
  match<-ev ts x with
  | .ptr b off=> .ok (.ptr b off,h)
  | .fn (.func f) a b=> .ok (.fn (.func f) a b,h)
  |_=> .no "nilCheck"
 | .binOp op t x y _=>do .ok (<-binOp tab h op t (<-ev ts x) (<-ev ts y),h)
 | .unOp op _ x=>do .ok (<-unOp op (<-ev ts x),h)
 | .convert s d x=>do mn tab h s d (<-ev ts x)
 | .makeInterface t x=>do
  match<-und tab t with
  | .interface _=> .no "makeInterface"
  |_=>do .ok (.iface t (<-ev ts x),h)
 | .makeFunc fn first captured=>do
  match fn with
  | .func _=>do .ok (.fn fn (<-iI ts first.toList) (<-iI ts captured.toList),h)
  |_=> .no "makeFunc"
 | .makeMap _ none=> .ok (.map h.next,h.new (.mp [] 0))
 | .makeSlice t l c=>do makeSlice tab h t (<-ev ts l) (<-ev ts c)
 | .slice t x lo hi mx=>do iA tab ts h t (<-ev ts x) lo hi mx
 | .fieldAddr s x f=>do
  let fd<-rL tab s f
  let n<-siz tab fd.type
  R.check "fieldAddr: size 0" (!(Nat.beq n 0))
  match<-ev ts x with
  | .ptr b off=> .ok (.ptr b (off+fd.offset),h)
  |_=> .no "fieldAddr"
 | .field t x f=>do
  let fd<-rL tab t f
  match<-ev ts x with
  | .agg cs=>do .ok (<-part tab fd.type cs fd.offset,h)
  |_=> .no "field"
 | .indexAddr t x ix=>do
  let i<-asNat (<-ev ts ix)
  match<-und tab t,<-ev ts x with
  | .array len e, .ptr b off=>do
   R.check "indexAddr" (Nat.blt i len)
   let n<-siz tab e
   .ok (.ptr b (off+i*n),h)
  | .slice e, .sl b off len _=>do
   R.check "indexAddr" (Nat.blt i len)
   let n<-siz tab e
   .ok (.ptr b (off+i*n),h)
  |_,_=> .no "indexAddr"
 | .index t x ix=>do
  let i<-asNat (<-ev ts ix)
  match<-und tab t,<-ev ts x with
  | .array len e, .agg cs=>do
   R.check "index" (Nat.blt i len)
   let n<-siz tab e
   .ok (<-part tab e cs (i*n),h)
  | .string, .str s=>do
   let b<-R.of "index" s[i]?
   .ok (.int .u8 (.ofNat b.toNat),h)
  |_,_=> .no "index"
 | .lookup t m k ok=>do .ok (<-lookup tab h t (<-ev ts m) (<-ev ts k) ok,h)
 | .mapUpdate t m k x| .insert t m k x=>do
  let h'<-mapUpdate tab h t (<-ev ts m) (<-ev ts k) (<-ev ts x)
  .ok (.bj [],h')
 | .mapEntry t m k=>do mapEntry tab h t (<-ev ts m) (<-ev ts k)
 | .entryStore _ m s x=>do
  let h'<-entryStore h (<-ev ts m) (<-ev ts s) (<-ev ts x)
  .ok (.bj [],h')
 | .range t x=>do xr tab h t (<-ev ts x)
 | .entry it=>do .ok (<-xy h (<-ev ts it),h)
 | .typeAssert x xt t ok=>do
  let _:=xt
  match<-und tab t,<-ev ts x with
  | .interface _,_=> .no "typeAssert"
  | _, .iface u v=>if u=t then .ok ((if ok then .bj [v, .bool true]else v),h)else do
    R.check "typeAssert" ok
    let z<-zero tab t
    .ok (.bj [z, .bool false],h)
  | _, .fu=>do
    R.check "typeAssert" ok
    let z<-zero tab t
    .ok (.bj [z, .bool false],h)
  |_,_=> .no "typeAssert"
 | .extract t i=>do
  match<-ev ts t with
  | .bj vs=>do .ok (<-R.of "extract" vs[i]?,h)
  |_=> .no "extract"
 | .call c=>do
  match c.callee with
  | .builtin b=>do
   let l<-iI ts c.args.toList
   builtin tab b c.argTypes l h
  |_=> .no "call"
 |_=> .no "op"
end
end Go.Am
namespace Go.Am
open Go.RowKit
section
theorem ai {α β:Type} {x:R α} {f:α->R β} {b:β}:(x>>=f)= .ok b↔∃a,x= .ok a/\f a= .ok b:=by
 cases x with
 |ok a=>exact⟨fun h=>⟨a,rfl,h⟩,fun⟨_,h1,h2⟩=>by cases h1;exact h2⟩
 |no w=>exact⟨fun h=>(nomatch h),fun⟨_,h1,_⟩=>(nomatch h1)⟩
theorem cg {α:Type} {s:String} {x:Option α} {a:α}:R.of s x= .ok a↔x=some a:=by
 cases x<;>simp[R.of]
theorem c9 {s:String} {b:Bool} {u:Unit}:R.check s b= .ok u↔b=true:=by
 cases b<;>simp[R.check]
theorem sh {α:Type} (k:Nat):(T.e:T α).get k=none:=rfl
theorem vp {α:Type} (v:Option α) (l r:T α) (k:Nat):
  (T.n v l r).get k=if k=0 then v else if k % 2=1 then l.get (k / 2)else r.get (k / 2 - 1):=by
 have h1:(Nat.beq k 0)=decide (k=0):=by
  by_cases h:k=0<;>simp[h]
  cases k<;>simp_all[Nat.beq]
 have h2:(Nat.beq (Nat.mod k 2) 1)=decide (k % 2=1):=by
  by_cases h:k % 2=1
  . simp[h];exact h
  . simp only[h,decide_false];exact AB.2 fun e=>h (Ab e)
 conv=>lhs;unfold T.get
 rw[h1,h2];simp only[cond_eq_ite,Ae];rfl
theorem QM {α:Type} (f:Nat):∀(t:T α) (k j:Nat) (x:Option α),k<f->(T.bW f t k x).get j=if j=k then x else t.get j:=by
 induction f with
 |zero=>omega
 | succ f ih=>
  intro t k j x h;have h1:(Nat.beq k 0)=decide (k=0):=by
   by_cases h:k=0<;>simp[h]
   cases k<;>simp_all[Nat.beq]
  have h2:(Nat.beq (Nat.mod k 2) 1)=decide (k % 2=1):=by
   by_cases h:k % 2=1
   . simp[h];exact h
   . simp only[h,decide_false];exact AB.2 fun e=>h (Ab e)
  have e1:Nat.div k 2=k / 2:=rfl
  cases t with
  |e=>
   grind [T.bW,Nat.pred_eq_sub_one,vp,sh]
  |n v l r=>
   grind [T.bW,Nat.pred_eq_sub_one,vp]
theorem T.aT {α:Type} (t:T α) (k j:Nat) (x:Option α):(t.set k x).get j=if j=k then x else t.get j:=
 QM (k+1) t k j x (Dw k)
structure Env where
 aN:Nat->Nat
 cap:Nat->Nat
def fk.val (c:fk) (n:Nat):Nat:=
 match c with
 | .lit m=>m
 | .tail k=>n - k
mutual
def ab (E:Env):AV->Value
 | .bool b=> .bool b
 | .int k n=> .int k n
 | .str s=> .string ⟨s.toArray⟩
 | .aF=> .pointer none
 | .ptr b off=> .pointer (some ⟨E.aN b,off,none⟩)
 | .nils=> .slice none 0 0
 | .sl b off len cap=> .slice (some ⟨E.aN b,off,none⟩) len (cap.val (E.cap b))
 | .emp b off l n k=> .slice (some ⟨E.aN b,if E.cap b - k=l then off else off+l*n,none⟩) 0 (E.cap b - k - l)
 | .aY=> .map none
 | .map b=> .map (some (E.aN b))
 | .bh=> .nilFunc
 | .fn f xs ys=> .func f (aV E xs).toArray (aV E ys).toArray
 | .jU l=> .func (.yield (E.aN l)) #[] #[]
 | .fu=> .nilIface
 | .iface t v=> .iface t (ab E v)
 | .agg cs=> .agg (aV E cs).toArray
 | .bj vs=> .tuple (aV E vs).toArray
 | .raw v=>v
def aV (E:Env):List AV->List Value
 |[]=>[]
 |v::l=>ab E v::aV E l
end
theorem mA (E:Env) (l:List AV):aV E l=l.map (ab E):=by
 induction l with
 |nil=>rfl
 |cons v l ih=>grind [aV]
@[simp] theorem cW (E:Env):aV E []=[]:=rfl
@[simp] theorem bF (E:Env) (v:AV) (l:List AV):aV E (v::l)=ab E v::aV E l:=rfl
@[simp] theorem dB (E:Env) (l m:List AV):aV E (l++m)=aV E l++aV E m:=by simp[mA]
@[simp] theorem bM (E:Env) (l:List AV):(aV E l).length=l.length:=by simp[mA]
theorem qV (E:Env) (l:List AV) (n:Nat):aV E (l.take n)=(aV E l).take n:=by simp[mA,D3]
theorem wh (E:Env) (l:List AV) (n:Nat):aV E (l.drop n)=(aV E l).drop n:=by simp[mA,Ew]
theorem jg (E:Env) (l:List AV) (i:Nat):(aV E l)[i]? =(l[i]?).map (ab E):=by simp[mA]
theorem zj (E:Env) (v:Value):ab E (nA v)=v:=by
 unfold nA;split<;>simp[ab]
theorem IF (E:Env) (l:List Value):aV E (l.map nA)=l:=by
 induction l with
 |nil=>rfl
 |cons v l ih=>simp[zj,ih]
theorem yX (E:Env) (v:Value):ab E (ofConst v)=v:=by
 unfold ofConst;split
 all_goals simp_all[ab,IF,zj]
theorem lI {E:Env} {v:AV} {l:List AV} (h:v.cells= .ok l):(ab E v).cells=(aV E l).toArray:=by
 cases v
 case raw u=>cases u<;>simp only[AV.cells]at h<;>(try cases h)<;>simp[ab,Value.cells]
 all_goals simp only[AV.cells]at h<;>(try cases h)<;>simp[ab,Value.cells]
theorem yS {E:Env} {v:AV} (h:kf v=true):(ab E v).oneCell'=true:=by
 cases v
 case raw u=>cases u<;>simp_all[kf,ab,Value.oneCell']
 all_goals grind [kf,ab,Value.oneCell']
mutual
theorem lE:∀(a b:AV),AV.beq a b=true->a=b
 | .bool a,b,h=>by cases b<;>simp_all[AV.beq]
 | .int k a,b,h=>by cases b<;>simp_all[AV.beq]
 | .str a,b,h=>by cases b<;>simp_all[AV.beq]
 | .aF,b,h=>by cases b<;>simp_all[AV.beq]
 | .ptr x i,b,h=>by
  cases b<;>simp only[AV.beq,Ad]at h<;>(try cases h)
  rename_i h1 h2;rw[Ab h1,Ab h2]
 | .nils,b,h=>by cases b<;>simp_all[AV.beq]
 | .sl x i n c,b,h=>by
  cases b<;>simp only[AV.beq,Ad]at h<;>(try cases h)
  rename_i h1 h2;obtain⟨⟨h3,h4⟩,h5⟩:=h1;rw[Ab h3,Ab h4,Ab h5,eq_of_beq h2]
 | .emp x i n c e,b,h=>by
  cases b<;>simp only[AV.beq,Ad]at h<;>(try cases h)
  rename_i h1 h2;obtain⟨⟨⟨h3,h4⟩,h5⟩,h6⟩:=h1;rw[Ab h3,Ab h4,Ab h5,Ab h6,Ab h2]
 | .aY,b,h=>by cases b<;>simp_all[AV.beq]
 | .map x,b,h=>by
  cases b<;>simp only[AV.beq]at h<;>(try cases h)
  rw[Ab h]
 | .bh,b,h=>by cases b<;>simp_all[AV.beq]
 | .fn f x y,b,h=>by
  cases b<;>simp only[AV.beq,Ad]at h<;>(try cases h)
  rename_i h1 h2;rw[eq_of_beq h1.1,lB _ _ h1.2,lB _ _ h2]
 | .jU x,b,h=>by
  cases b<;>simp only[AV.beq]at h<;>(try cases h)
  rw[Ab h]
 | .fu,b,h=>by cases b<;>simp_all[AV.beq]
 | .iface t v,b,h=>by
  cases b<;>simp only[AV.beq,Ad]at h<;>(try cases h)
  rename_i h1 h2;rw[Ab h1,lE _ _ h2]
 | .agg x,b,h=>by
  cases b<;>simp only[AV.beq]at h<;>(try cases h)
  rw[lB _ _ h]
 | .bj x,b,h=>by
  cases b<;>simp only[AV.beq]at h<;>(try cases h)
  rw[lB _ _ h]
 | .raw v,b,h=>by
  cases b
  case raw u=>
   unfold AV.beq at h;split at h<;>first|(cases h;done)|skip
   all_goals (rename_i e1 e2;cases e1<;>cases e2)
   . simp only[Ad,Ae]at h;obtain⟨⟨h3,h4⟩,h2⟩:=h;rw[h3,Ab h4,Ab h2]
   . rw[Bo h]
  all_goals (exfalso;revert h;simp[AV.beq])
theorem lB:∀(a b:List AV),fT a b=true->a=b
 |[],b,h=>by cases b<;>simp_all[fT]
 | x::l,b,h=>by
  cases b with
  |nil=>simp[fT]at h
  |cons y m=>
   simp only[fT,Ad]at h;rw[lE _ _ h.1,lB _ _ h.2]
end
def x5:TypeDesc->Bool
 | .struct _| .array _ _=>true
 |_=>false
structure bD (P:Program) (tab:bc):Prop where
 und:∀t d,tab.und.get t=some d->P.underlying t=some d
 siz:∀t n,tab.siz.get t=some n->∃i,P.info? t=some i/\i.size=n
 byt:∀t n,tab.byt.get t=some n->∃i,P.info? t=some i/\i.bytes=n
 jB:∀t z,tab.jB.get t=some z->∃i,P.info? t=some i/\ ∀E,i.zero=some (ab E z)
 agg:∀t b,tab.agg.get t=some b->∃d,P.underlying t=some d/\x5 d=b
 held:∀t b,tab.held.get t=some b->P.stoodInHeld t=b
 jG:∀t b,tab.jG.get t=some b->P.eqGuardType P.depth t=b
 fns:∀f fn,tab.fns.get f=some fn->P.funcs[f]? =some fn
 sI:∀f fn,tab.fns.get f=some fn->(fn.name== "runtime.NumGoroutine")=false
section
variable {P:Program} {tab:bc} (ok:bD P tab)
include ok
theorem iT {t:TypeId} {n:Nat} (h:siz tab t= .ok n) (w:World):(sizeOf t).run P w= .ok n w:=by
 obtain⟨i,hi,rfl⟩:=ok.siz t n (cg.1 h);simp[sizeOf,typeInfo,hi]
theorem ot {t:TypeId} {z:AV} (h:zero tab t= .ok z) (E:Env) (w:World):(zeroValue t).run P w= .ok (ab E z) w:=by
 obtain⟨i,hi,hz⟩:=ok.jB t z (cg.1 h);simp[zeroValue,typeInfo,hi,hz E]
theorem z6 {t:TypeId} {b:Bool} (h:isAgg tab t= .ok b) (w:World):(Go.isAgg t).run P w= .ok b w:=by
 obtain⟨d,hd,rfl⟩:=ok.agg t b (cg.1 h);simp only[Go.isAgg,underlying,Sem.run_bind,run_program,Result.andThen_ok,hd,Sem.run_pure]
 cases d<;>rfl
theorem rz {t:TypeId} {cs:List AV} {off:Nat} {v:AV} (h:part tab t cs off= .ok v) (E:Env) (w:World):
  (Go.part t (aV E cs).toArray off).run P w= .ok (ab E v) w:=by
 obtain⟨b,hb,h⟩:=ai.1 h;unfold Go.part;rw[Sem.run_bind,z6 ok hb,Result.andThen_ok]
 cases b with
 |true=>
  simp only[Bq]at h⊢;obtain⟨n,hn,h⟩:=ai.1 h
  cases h;rw[Sem.run_bind,iT ok hn];simp[ab,qV,wh,List.extract_eq_take_drop]
 |false=>
  simp_all[cg,jg]
end
end
section
structure aI where
 dr:Prop
 old:Array Obj
variable [Inhabited aI]
def AO.ro:AO->Prop
 | .cells _ _ _ _ .ro=>True
 |_=>False
structure KS where
 p:Nat->Prop
 b:Nat
instance:CoeFun KS (fun _=>Nat->Prop):=⟨KS.p⟩
abbrev KS.old (n:Nat):KS:=⟨fun b=>b<n,n⟩
def lY (E:Env):AT->Target
 | .fn f captured=> .fn f (aV E captured).toArray
 | .jU l=> .fn (.yield (E.aN l)) #[]
 | .collected r=> .collected (E.aN r)
def dF (E:Env) (d:AD):Deferred:={target:=lY E d.target,args:=(aV E d.args).toArray}
def sd (E:Env) (ts:T AV) (i:Nat):Value:=ab E ((ts.get i).getD (.bj []))
def fD (E:Env) (ts:T AV) (nt:Nat):Array Value:=((List.range nt).map (sd E ts)).toArray
def cO (E:Env) (x:AV×AV×Nat):MapEntry:={key:=ab E x.1,val:=ab E x.2.1,born:=x.2.2}
def marks:BK->(Nat×Nat)->Nat->Prop
 | .rw,fz,_=>fz=(0,0)
 | .mark,fz,n=>fz=(n,n+1)
 | .any,fz,n=>fz=(0,0)\/fz=(n,n+1)
 | .ro,_,_=>True
 | .cold,_,_=>True
def kr (E:Env) (i:Nat):AO->Obj->Prop
 | .cells cs e sz ext bk,o=>∃arr fz,o= .cells arr e fz/\(∃rest,arr.toList=aV E cs++rest)/\
  (if ext then arr.size=E.cap i*sz else arr.size=cs.length)/\marks bk fz arr.size
 | .mp es c,o=>o= .map (es.map (cO E)).toArray c
 | .fK m since seen st,o=>o= .mapIter (m.map E.aN) since seen.toArray st
 | .jz s pos,o=>o= .stringIter ⟨s.toArray⟩ pos
 | .loop st pending fn ts nt ps a b d,o=>o= .loop {state:=st,pending,fn,tmps:=fD E ts nt,params:=ps,assign:=a,body:=b,defers:=E.aN d}/\ ∀t,nt<=t->ts.get t=none
 | .ng calls,o=>o= .deferred (calls.map (List.map (dF E)))
structure bo (E:Env) (h:AH) (K:KS) (w:World):Prop where
 obj:∀i o,h.get i=some o->∃c,w.heap[E.aN i]? =some c/\kr E i o c
 nk:∀i o,h.get i=some o->¬o.ro->¬K (E.aN i)
 inj:∀i j oi oj,h.get i=some oi->h.get j=some oj->¬oi.ro->E.aN i=E.aN j->i=j
 dM:∀i o,h.get i=some o->i<h.next
 kb:∀b,K b->b<w.heap.size
 im:∀i o,h.get i=some o->o.ro->E.aN i<K.b
 k0:∀b,b<K.b->K b
structure Kept (K:KS) (w w':World):Prop where
 os:w'.os=w.os
 tape:w'.tape=w.tape
 output:w'.output=w.output
 size:w.heap.size<=w'.heap.size
 block:∀b,K b->w'.heap[b]? =w.heap[b]?
 drawn:(default:aI).dr->w.drawn<=w'.drawn
theorem Kept.refl (K:KS) (w:World):Kept K w w:=⟨rfl,rfl,rfl,Aj _,fun _ _=>rfl,fun _=>Aj _⟩
theorem Kept.trans {K:KS} {a b c:World} (h:Kept K a b) (k:Kept K b c):Kept K a c:=
 ⟨k.os.trans h.os,k.tape.trans h.tape,k.output.trans h.output,AW h.size k.size,fun i hi=>(k.block i hi).trans (h.block i hi),fun hd=>AW (h.drawn hd) (k.drawn hd)⟩
def dY (K:KS) (w:World):Prop:=∀b,b<(default:aI).old.size->K b/\w.heap[b]? =(default:aI).old[b]?
theorem dY.kept {K:KS} {w w':World} (h:dY K w) (k:Kept K w w'):dY K w':=fun b hb=>⟨(h b hb).1,(k.block b (h b hb).1).trans (h b hb).2⟩
theorem AH.aT (h:AH) (b i:Nat) (o:AO):(h.set b o).get i=if i=b then some o else h.get i:=T.aT _ _ _ _
theorem AH.aO (h:AH) (i:Nat) (o:AO):(h.new o).get i=if i=h.next then some o else h.get i:=T.aT _ _ _ _
theorem ly (h:AH) (b i:Nat):(h.kill b).get i=if i=b then none else h.get i:=T.aT _ _ _ _
@[simp] theorem AH.dQ (h:AH) (b:Nat) (o:AO):(h.set b o).next=h.next:=rfl
@[simp] theorem AH.cm (h:AH) (o:AO):(h.new o).next=h.next+1:=rfl
@[simp] theorem AH.fH (h:AH) (b:Nat):(h.kill b).next=h.next:=rfl
theorem Ca (w:World) (o:Obj) {i:Nat} (h:i<w.heap.size):(w.alloc o).heap[i]? =w.heap[i]? :=by
 grind [World.alloc]
def _root_.Go.World.put (w:World) (g:Nat) (o:Obj):World:={w with heap:=w.heap.setIfInBounds g o}
theorem pQ (w:World) (g i:Nat) (o:Obj):(w.put g o).heap[i]? =if i=g then(if g<w.heap.size then some o else none)else w.heap[i]? :=by
 grind [World.put]
section
variable {E:Env} {h:AH} {K:KS} {w:World}
theorem bo.lt (H:bo E h K w) {i:Nat} {o:AO} (hi:h.get i=some o):E.aN i<w.heap.size:=by
 obtain⟨c,hc,_⟩:=H.obj i o hi;grind
theorem bo.drew (H:bo E h K w):bo E h K w.drew:=⟨H.obj,H.nk,H.inj,H.dM,H.kb,H.im,H.k0⟩
theorem Kept.drew (K:KS) (w:World):Kept K w w.drew:=⟨rfl,rfl,rfl,Aj _,fun _ _=>rfl,fun _=>EM _⟩
theorem bo.new (H:bo E h K w) {o:AO} {c:Obj} (hE:E.aN h.next=w.heap.size) (ho:kr E h.next o c) (hno:¬o.ro:=by simp[AO.ro]):bo E (h.new o) K (w.alloc c):=by
 have hnew:∀i o',(h.new o).get i=some o'->i≠h.next->h.get i=some o':=by
   grind [AH.aO]
 have hne:∀i o',h.get i=some o'->E.aN i≠E.aN h.next:=by
   intro i o' hi e;have:=H.lt hi;omega
 refine⟨?_,?_,?_,?_,?_,?_,H.k0⟩
 . intro i o' hi;by_cases e:i=h.next
   . grind [AH.aO,heap_alloc_new]
   . obtain⟨c',hc',hk⟩:=H.obj i o' (hnew i o' hi e);grind [Ca]
 . intro i o' hi hr hK;by_cases e:i=h.next
   . subst e;have:=H.kb _ hK;omega
   . exact H.nk i o' (hnew i o' hi e) hr hK
 . intro i j oi oj hi hj hr e;by_cases ei:i=h.next
   . grind
   . by_cases ej:j=h.next
     . grind
     . exact H.inj i j oi oj (hnew i oi hi ei) (hnew j oj hj ej) hr e
 . intro i o' hi;by_cases e:i=h.next
   . simp_all
   . have:=H.dM i o' (hnew i o' hi e);simp;omega
 . intro b hb;have:=H.kb b hb;simp;omega
 . intro i o' hi hr;by_cases e:i=h.next
   . grind [AH.aO]
   . exact H.im i o' (hnew i o' hi e) hr
theorem Kept.alloc (hkb:∀b,K b->b<w.heap.size) (c:Obj):Kept K w (w.alloc c):=
 ⟨rfl,rfl,rfl,by simp,fun b hb=>Ca w c (hkb b hb),fun _=>Aj _⟩
theorem bo.put (H:bo E h K w) {b:Nat} {o o':AO} {c:Obj} (hb:h.get b=some o) (hr:¬o.ro) (ho:kr E b o' c) (hno:¬o'.ro:=by simp[AO.ro]):bo E (h.set b o') K (w.put (E.aN b) c):=by
 have hold:∀i o1,(h.set b o').get i=some o1->i≠b->h.get i=some o1:=by
   grind [AH.aT]
 refine⟨?_,?_,?_,?_,?_,?_,H.k0⟩
 . intro i o1 hi;by_cases e:i=b
   . subst e;rw[AH.aT,An rfl]at hi
     cases hi;exact⟨c,by rw[pQ,An rfl,An (H.lt hb)],ho⟩
   . obtain⟨c',hc',hk⟩:=H.obj i o1 (hold i o1 hi e);refine⟨c',?_,hk⟩;rw[pQ,Ai (fun e'=>e (H.inj b i o o1 hb (hold i o1 hi e) hr e'.symm).symm)];omega
 . intro i o1 hi hr1;by_cases e:i=b
   . subst e;exact H.nk i o hb hr
   . exact H.nk i o1 (hold i o1 hi e) hr1
 . intro i j oi oj hi hj hri e;by_cases ei:i=b
   . subst ei;by_cases ej:j=i
     . omega
     . exact H.inj i j o oj hb (hold j oj hj ej) hr e
   . by_cases ej:j=b
     . subst ej;exact H.inj i j oi o (hold i oi hi ei) hb hri e
     . exact H.inj i j oi oj (hold i oi hi ei) (hold j oj hj ej) hri e
 . intro i o1 hi;by_cases e:i=b
   . subst e;exact H.dM i o hb
   . exact H.dM i o1 (hold i o1 hi e)
 . intro g hg;have:=H.kb g hg;grind [World.put]
 . intro i o1 hi hr1;by_cases e:i=b
   . grind [AH.aT]
   . exact H.im i o1 (hold i o1 hi e) hr1
theorem bo.bK (H:bo E h K w) {b:Nat} {o:AO} (hb:h.get b=some o) (hr:¬o.ro) (c:Obj):Kept K w (w.put (E.aN b) c):=
 ⟨rfl,rfl,rfl,by simp[World.put],fun g hg=>by rw[pQ];exact Ai (fun e=>H.nk b o hb hr (by rw[<-e];exact hg)),fun _=>Aj _⟩
theorem bo.kill (H:bo E h K w) (b:Nat):bo E (h.kill b) K w:=by
 have hold:∀i o1,(h.kill b).get i=some o1->h.get i=some o1:=by
  grind [ly]
 exact⟨fun i o hi=>H.obj i o (hold i o hi),fun i o hi=>H.nk i o (hold i o hi),fun i j oi oj hi hj=>H.inj i j oi oj (hold i oi hi) (hold j oj hj),
  fun i o hi=>H.dM i o (hold i o hi),H.kb,fun i o hi=>H.im i o (hold i o hi),H.k0⟩
theorem bo.rename (H:bo E h K w) {b:Nat} {o o':AO} {c:Obj} (hb:h.get b=some o) (hr:¬o.ro) (hE:E.aN h.next=E.aN b) (ho:kr E h.next o' c) (hno:¬o'.ro:=by simp[AO.ro]):
   bo E ((h.kill b).new o') K (w.put (E.aN b) c):=by
 have hold:∀i o1,((h.kill b).new o').get i=some o1->i≠h.next->i≠b/\h.get i=some o1:=by
   grind [AH.aO,AH.fH,ly]
 have hnx:∀o1,((h.kill b).new o').get h.next=some o1->o1=o':=by
   grind [AH.aO,AH.fH]
 have hne:∀i o1,h.get i=some o1->i≠b->E.aN i≠E.aN b:=fun i o1 hi hib e=>hib (H.inj b i o o1 hb hi hr e.symm).symm
 refine⟨?_,?_,?_,?_,?_,?_,H.k0⟩
 . intro i o1 hi;by_cases e:i=h.next
   . subst e;rw[hnx o1 hi];exact⟨c,by rw[pQ,An hE,An (H.lt hb)],ho⟩
   . obtain⟨h1,h2⟩:=hold i o1 hi e;obtain⟨c',hc',hk⟩:=H.obj i o1 h2;grind [pQ]
 . intro i o1 hi hr1;by_cases e:i=h.next
   . subst e;rw[hE];exact H.nk b o hb hr
   . exact H.nk i o1 (hold i o1 hi e).2 hr1
 . intro i j oi oj hi hj hri e;by_cases ei:i=h.next
   . grind
   . obtain⟨h1,h2⟩:=hold i oi hi ei;by_cases ej:j=h.next
     . rw[ej,hE]at e;grind
     . exact H.inj i j oi oj h2 (hold j oj hj ej).2 hri e
 . intro i o1 hi;by_cases e:i=h.next
   . subst e;simp
   . have:=H.dM i o1 (hold i o1 hi e).2;simp;omega
 . intro g hg;have:=H.kb g hg;grind [World.put]
 . intro i o1 hi hr1;by_cases e:i=h.next
   . grind
   . exact H.im i o1 (hold i o1 hi e).2 hr1
theorem fR {b:Nat} {cs:List AV} {e:TypeId} {sz:Nat} {ext:Bool} {bk:BK} (hc:iM h b= .ok (cs,e,sz,ext,bk)):h.get b=some (.cells cs e sz ext bk):=by
 grind [iM]
theorem bo.cells (H:bo E h K w) {b:Nat} {cs:List AV} {e:TypeId} {sz:Nat} {ext:Bool} {bk:BK} (hc:h.get b=some (.cells cs e sz ext bk)):
  ∃arr fz,w.heap[E.aN b]? =some (.cells arr e fz)/\(∃rest,arr.toList=aV E cs++rest)/\(if ext then arr.size=E.cap b*sz else arr.size=cs.length)/\marks bk fz arr.size:=by
 obtain⟨c,h1,arr,fz,rfl,h2⟩:=H.obj b _ hc;grind
theorem bo.cell (H:bo E h K w) {b:Nat} {cs:List AV} {e:TypeId} {sz:Nat} {ext:Bool} {bk:BK} (hc:h.get b=some (.cells cs e sz ext bk)) {i:Nat} {v:AV} (hv:cs[i]? =some v):
  w.cell? ⟨E.aN b,i,none⟩=some (ab E v):=by
 obtain⟨arr,fz,h1,⟨rest,h2⟩,_⟩:=H.cells hc;rw[cell_of_row w _ i arr e fz h1];rw[<-BS,h2,AL (by rw[bM];grind),jg,hv];rfl
theorem add_lit (b o j:Nat):(⟨b,o,none⟩:Addr).add j=⟨b,o+j,none⟩:=by
 grind [Addr.add]
theorem E0 {b off n:Nat} {cs:List AV} (hr:readN h b off n= .ok cs):
  ∃cs0 e sz ext bk,h.get b=some (.cells cs0 e sz ext bk)/\off+n<=cs0.length/\cs=(cs0.drop off).take n:=by
 obtain⟨⟨cs0,e,sz,ext,bk⟩,h1,hr⟩:=ai.1 hr;obtain⟨_,h2,hr⟩:=ai.1 hr
 cases hr;exact⟨cs0,e,sz,ext,bk,fR h1,Ak (c9.1 h2),rfl⟩
theorem bo.fO (H:bo E h K w) {b off n:Nat} {cs:List AV} (hr:readN h b off n= .ok cs):
   (aV E cs).length=n/\ ∀j v,(aV E cs)[j]? =some v->w.cell? ((⟨E.aN b,off,none⟩:Addr).add j)=some v:=by
 obtain⟨cs0,e,sz,ext,bk,hc,hl,rfl⟩:=E0 hr;refine⟨by simp;omega,fun j v hv=>?_⟩;rw[jg,Bh]at hv;split at hv
 . rw[B8]at hv
   cases hx:cs0[off+j]? with
   |none=>rw[hx]at hv;cases hv
   |some u=>
    rw[hx]at hv
    cases hv;rw[add_lit];exact H.cell hc hx
 grind
theorem bo.eX (H:bo E h K w) {P:Program} {b off n:Nat} {cs:List AV} (hr:readN h b off n= .ok cs):
  (loadCells ⟨E.aN b,off,none⟩ n).run P w= .ok (aV E cs).toArray w:=by
 obtain⟨hl,hc⟩:=H.fO hr;have:=run_loadCells_list (P:=P) w ⟨E.aN b,off,none⟩ (aV E cs) hc;rw[hl]at this;omega
theorem vJ {P:Program} (g o:Nat) (t:TypeId) (fz:Nat×Nat):∀(vs:List Value) (i:Nat) (cur:Array Value) (w:World),w.heap[g]? =some (.cells cur t fz)->
  (∀j,j<cur.size->¬(fz.1<=j/\j<fz.2))->o+i+vs.length<=cur.size->(∀v∈vs,v.oneCell'=true)->
  (storeCells ⟨g,o,none⟩ vs i).run P w= .ok () (w.put g (.cells (cur.toList.take (o+i)++vs++cur.toList.drop (o+i+vs.length)).toArray t fz))
 | [],i,cur,w,hg,_,_,_=>by
  simp only[storeCells,B9,Bc,BJ,Ds,Array.toArray_toList];have:w.put g (.cells cur t fz)=w:=by
   unfold World.put;have hlt:=(Ac.1 hg).1;have he:=(Ac.1 hg).2;have:w.heap.setIfInBounds g (.cells cur t fz)=w.heap:=by
    grind
   rw[this]
  rw[this];rfl
 | v::rest,i,cur,w,hg,hf,hl,h1=>by
  have hi:o+i<cur.size:=by grind
  have hlt:=(Ac.1 hg).1;have hcell:w.cell? ⟨g,o+i,none⟩=some cur[o+i]:=by grind [World.cell?]
  have hfro:w.frozen? ⟨g,o+i,none⟩=false:=by
   have:=hf (o+i) hi;grind [World.frozen?]
  have hset:w.setCell ⟨g,o+i,none⟩ v=w.put g (.cells (cur.setIfInBounds (o+i) v) t fz):=by
   unfold World.setCell World.put;congr 1
   grind
  have hst:(store ((⟨g,o,none⟩:Addr).add i) v).run P w= .ok () (w.put g (.cells (cur.setIfInBounds (o+i) v) t fz)):=by
   rw[add_lit,run_store P w _ v _ (h1 v (by simp)),hcell];grind
  have hg':(w.put g (.cells (cur.setIfInBounds (o+i) v) t fz)).heap[g]? =some (.cells (cur.setIfInBounds (o+i) v) t fz):=by
   rw[pQ,An rfl,An hlt]
  simp only[storeCells,Sem.run_bind];rw[hst,Result.andThen_ok,vJ g o t fz rest (i+1) _ _ hg' (by simpa using hf) (by simp at hl⊢;omega) (fun v hv=>h1 v (by simp[hv]))];have hL:(cur.setIfInBounds (o+i) v).toList.take (o+(i+1))++rest++(cur.setIfInBounds (o+i) v).toList.drop (o+(i+1)+rest.length)=cur.toList.take (o+i)++(v::rest)++cur.toList.drop (o+i+(v::rest).length):=by
   have:=list_seg_step cur.toList (o+i) v rest (by omega);simp only[Et,AX];rw[show o+(i+1)=o+i+1 from by omega];exact this
  rw[hL];unfold World.put;simp only[Array.setIfInBounds_setIfInBounds]
end
end
section
variable [Inhabited aI]
def Yields (r:Next) (x:Value):Prop:=r= .value x\/(r= .skip/\x=undef)
section
variable {P:Program} {tab:bc} (ok:bD P tab) {E:Env} {h:AH} {K:KS} {w:World}
include ok
theorem zq (H:bo E h K w) {t:TypeId} {b off:Nat} {v:AV} (hl:loadVar tab h t b off= .ok v):
  (Go.loadVar t ⟨E.aN b,off,none⟩).run P w= .ok (ab E v) w:=by
 obtain⟨g,hg,hl⟩:=ai.1 hl;unfold Go.loadVar;rw[Sem.run_bind,z6 ok hg,Result.andThen_ok]
 cases g with
 |true=>
  simp only[Bq]at hl⊢;obtain⟨n,hn,hl⟩:=ai.1 hl;obtain⟨cs,hc,hl⟩:=ai.1 hl
  cases hl;rw[Sem.run_bind,iT ok hn,Result.andThen_ok,Sem.run_bind,H.eX hc];simp[ab]
 |false=>
  simp only[Ao,AP]at hl⊢;obtain⟨⟨cs,e,sz,ext,bk⟩,hc,hl⟩:=ai.1 hl;have hl:=cg.1 hl;rw[run_load,H.cell (fR hc) hl]
omit ok in
theorem tf {b off:Nat} {vs:List AV} {h':AH} (hw:writeN h b off vs= .ok h'):h'.next=h.next:=by
 unfold writeN at hw;split at hw
 . grind
 . obtain⟨⟨cs,e,sz,ext,bk⟩,hc,hw⟩:=ai.1 hw;obtain⟨_,_,hw⟩:=ai.1 hw;obtain⟨_,_,hw⟩:=ai.1 hw;obtain⟨_,_,hw⟩:=ai.1 hw
   cases hw;rfl
omit ok in
theorem zS {bk:BK} {fz:Nat×Nat} {n:Nat} (hm:marks bk fz n) (hr:bk≠ .ro/\bk≠ .cold):∀j,j<n->¬(fz.1<=j/\j<fz.2):=by
 intro j hj
 cases bk with
 |rw=>grind [marks]
 |mark=>grind [marks]
 |any=>
  grind [marks]
 |ro=>grind
 |cold=>grind
omit ok in
theorem sS (H:bo E h K w) {b off:Nat} {vs:List AV} {h':AH} (hw:writeN h b off vs= .ok h'):
   ∃w',(storeCells ⟨E.aN b,off,none⟩ (aV E vs)).run P w= .ok () w'/\bo E h' K w'/\Kept K w w':=by
 unfold writeN at hw;split at hw
 . cases hw;exact⟨w,rfl,H,Kept.refl K w⟩
 . obtain⟨⟨cs,e,sz,ext,bk⟩,hc,hw⟩:=ai.1 hw;obtain⟨_,h1,hw⟩:=ai.1 hw;obtain⟨_,h2,hw⟩:=ai.1 hw;obtain⟨_,h3,hw⟩:=ai.1 hw
   cases hw;have hc:=fR hc;have hro:bk≠ .ro/\bk≠ .cold:=by grind [c9]
   have hlen:off+vs.length<=cs.length:=Ak (c9.1 h2);have hone:=c9.1 h3;obtain⟨arr,fz,hh,⟨rest,harr⟩,hsz,hm⟩:=H.cells hc;have hasz:cs.length<=arr.size:=by
     have:=Ay List.length harr;simp at this;omega
   have hrun:=vJ (P:=P) (E.aN b) off e fz (aV E vs) 0 arr w hh (zS hm hro) (by simp;omega)
     (by
      intro v hv;rw[mA]at hv;obtain⟨u,hu,rfl⟩:=Ar.1 hv;exact yS (Aq.1 hone u hu))
   refine⟨_,hrun,H.put hc (by cases bk<;>simp_all[AO.ro]) ?_ (by cases bk<;>simp_all[AO.ro]),H.bK hc (by cases bk<;>simp_all[AO.ro]) _⟩;refine⟨_,fz,rfl,⟨rest,?_⟩,?_,?_⟩
   . simp only[lP,BJ,dB,qV,wh,bM,harr];rw[Eh (by simp;omega),List.drop_append_of_le_length (by simp;omega)];simp
   . have e1:(arr.toList.take (off+0)++aV E vs++arr.toList.drop (off+0+(aV E vs).length)).length=arr.size:=by
      simp;omega
     cases ext with
     |true=>rw[Bp,e1];exact hsz
     |false=>
      rw[Bp,e1,hsz];simp[lP];omega
   . have e1:(arr.toList.take (off+0)++aV E vs++arr.toList.drop (off+0+(aV E vs).length)).length=arr.size:=by
      simp;omega
     rw[Bp,e1];exact hm
theorem IY (H:bo E h K w) {t:TypeId} {b off:Nat} {v:AV} {h':AH} (hs:storeVar tab h t b off v= .ok h'):
  ∃w',(Go.storeVar t ⟨E.aN b,off,none⟩ (ab E v)).run P w= .ok () w'/\bo E h' K w'/\Kept K w w':=by
 obtain⟨n,hn,hs⟩:=ai.1 hs;obtain⟨l,hl,hs⟩:=ai.1 hs;obtain⟨_,hc,hs⟩:=ai.1 hs;have hc:=Ab (c9.1 hc);obtain⟨w',hw,H',hk⟩:=sS (P:=P) H hs;refine⟨w',?_,H',hk⟩;unfold Go.storeVar;rw[Sem.run_bind,iT ok hn,Result.andThen_ok,lI hl];simp_all
omit ok in
theorem IL {t:TypeId} {b off:Nat} {v:AV} {h':AH} (hs:storeVar tab h t b off v= .ok h'):h'.next=h.next:=by
 grind [storeVar,ai,tf]
omit ok in
theorem gF {e:TypeId} {cs:List AV} {ext:Bool} {bk:BK} {h':AH} {b:Nat} (hn:newRow tab h e cs ext bk= .ok (h',b)):
  ∃n,siz tab e= .ok n/\h'=h.new (.cells cs e n ext bk)/\b=h.next:=by
 grind [newRow,ai]
omit ok in
theorem wv (H:bo E h K w) (hE:E.aN h.next=w.heap.size) (cs:List AV) (e:TypeId) (n:Nat):
  bo E (h.new (.cells cs e n false .rw)) K (w.alloc (.cells (aV E cs).toArray e))/\Kept K w (w.alloc (.cells (aV E cs).toArray e)):=
 ⟨H.new hE ⟨_,_,rfl,⟨[],by simp⟩,by simp,rfl⟩,Kept.alloc H.kb _⟩
omit ok in
theorem n9 (e:TypeId) (cs:Array Value):(Go.newRow e cs).run P w= .ok ⟨w.heap.size,0,none⟩ (w.alloc (.cells cs e)):=by
 simp_all[Go.newRow]
omit ok in
theorem LW {v:AV} {k:IntKind} {n:Int} (ha:asInt v= .ok (k,n)):v= .int k n:=by
 cases v<;>simp only[asInt]at ha<;>cases ha
 rfl
omit ok in
theorem mw {v:AV} {n:Nat} (ha:asNat v= .ok n):∃k,v= .int k (n:Int):=by
 obtain⟨⟨k,m⟩,h1,ha⟩:=ai.1 ha
 cases m with
 |ofNat m=>cases ha;exact⟨k,LW h1⟩
 |negSucc m=>cases ha
omit ok in
theorem toList_mk (l:List UInt8):(⟨l.toArray⟩:ByteArray).toList=l:=by
 simp
omit ok in
theorem nu (l:List UInt8):(⟨l.toArray⟩:ByteArray).size=l.length:=rfl
omit ok in
theorem Ll (l m:List UInt8):(⟨l.toArray⟩:ByteArray)++⟨m.toArray⟩=⟨(l++m).toArray⟩:=by
 apply ByteArray.ext;simp
omit ok in
theorem KN {op:BinOp} {k:IntKind} {x y:Int} {v:AV} (hi:intOp op k x y= .ok v) (t:TypeId) (hs:op≠ .shl/\op≠ .shr):
  (Go.binOp op t (.int k x) (.int k y)).run P w= .ok (ab E v) w:=by
 cases op<;>simp only[intOp]at hi<;>(try (split at hi<;>try cases hi))<;>(try cases hi)<;>
  simp_all[Go.binOp,Op.intArith,Op.intDiv,Op.intBits,Op.intCmp,ab]
omit ok in
theorem zg {op:BinOp} {k yk:IntKind} {x y:Int} {v:AV} (hi:shiftOp op k x y= .ok v):
   (Op.shift op k x yk y).run P w= .ok (ab E v) w:=by
 unfold shiftOp at hi;split at hi
 . cases hi
 . rename_i hy
   cases op<;>simp only at hi<;>cases hi<;>simp[Op.shift,hy,ab]
omit ok in
theorem Lh {op:BinOp} {x y:List UInt8} {v:AV} (hi:strOp op x y= .ok v):
   (Op.stringOp op ⟨x.toArray⟩ ⟨y.toArray⟩).run P w= .ok (ab E v) w:=by
 cases op<;>simp only[strOp]at hi<;>(try cases hi)<;>(try simp only[Op.stringOp,toList_mk,Sem.run_pure,ab])
 split at hi
 . cases hi;have:¬((((⟨x.toArray⟩:ByteArray).size+(⟨y.toArray⟩:ByteArray).size:Nat):Int)>IntKind.i64.max):=by
    rw[nu,nu];have:IntKind.i64.max=9223372036854775807:=by decide
    rw[this];omega
   grind [Sem.run_pure,Ll,ab]
 grind
omit ok in
theorem L4 {op:UnOp} {x v:AV} (hu:unOp op x= .ok v):(Op.unary op (ab E x)).run P w= .ok (ab E v) w:=by
 cases op<;>cases x<;>simp only[unOp]at hu<;>cases hu<;>simp[Op.unary,ab,Op.intArith,Op.intBits]
end
end
section
variable [Inhabited aI]
section
variable {P:Program} {tab:bc} (ok:bD P tab) {E:Env} {h:AH} {K:KS} {w:World}
include ok
theorem IG (d:Nat) (eq:TypeId->AV->AV->R Bool)
  (heq:∀t x y b,eq t x y= .ok b->∀w,(Op.equalIn d t (ab E x) (ab E y)).run P w= .ok b w) (xs ys:List AV):
  ∀(fs:List Field) (b:Bool),eqFields tab eq xs ys fs= .ok b->∀w,(Op.eqFields d (aV E xs).toArray (aV E ys).toArray fs).run P w= .ok b w:=by
 intro fs;induction fs with
 |nil=>intro b hb w;cases hb;rfl
 |cons f fs ih=>
  intro b hb w;simp only[eqFields]at hb;by_cases hn:f.name≠ "_"
  . rw[An hn]at hb;obtain⟨a,ha,hb⟩:=ai.1 hb;obtain⟨c,hc,hb⟩:=ai.1 hb;obtain⟨r,hr,hb⟩:=ai.1 hb;simp only[Op.eqFields,An hn,Sem.run_bind,rz ok ha,rz ok hc,heq _ _ _ _ hr,Result.andThen_ok]
    cases r with
    |true=>grind
    |false=>simp_all
  grind [Op.eqFields]
theorem ou:∀(d:Nat) (t:TypeId) (x y:AV) (b:Bool),eqT tab d t x y= .ok b->∀(k:Nat) (w:World),
    (Op.equalIn (d+k) t (ab E x) (ab E y)).run P w= .ok b w:=by
  intro d;induction d with
  |zero=>intro t x y b hb;cases hb
  | succ d ih=>
    intro t x y b hb k w;simp only[eqT]at hb;obtain⟨u,hu,hb⟩:=ai.1 hb;have hP:=ok.und t u (cg.1 hu);rw[show d+1+k=(d+k)+1 from by omega];have hagg:∀xs ys fs,x= .agg xs->y= .agg ys->u= .struct fs->tab.held.get t=some false->eqFields tab (eqT tab d) xs ys fs.toList= .ok b->
        (Op.equalIn (d+k+1) t (ab E x) (ab E y)).run P w= .ok b w:=by
      intro xs ys fs hx hy hu' hheld hb2;subst hx hy hu';have hf:P.fieldsOf t=fs:=by grind [Program.fieldsOf]
      simp only[ab];rw[run_equalIn_struct w (d+k) t _ _ (by rw[hf];exact hP) (ok.held t false hheld),hf];exact IG ok (d+k) (eqT tab d) (fun t x y b h w=>ih t x y b h k w) xs ys fs.toList b hb2 w
    split at hb
    case h_22=>
      split at hb
      . exact hagg _ _ _ rfl rfl rfl (by assumption) hb
      . cases hb
    all_goals
      clear hagg ih;simp only[Op.equalIn,underlying,Sem.run_bind,run_program,Result.andThen_ok,hP,Sem.run_pure,ab]
    all_goals
      first
      |(cases hb;done)
      |(cases hb;rfl)
      | (split at hb
         all_goals simp_all)
      |grind [beq_toListBytes,toList_mk]
omit ok in
theorem Fq {d:Nat} (t:TypeId) (v:Value) (y:AV) (b:Bool) (hb:eqT tab (d+1) t (.raw v) y= .ok b):(∃a,v= .pointer (some a))/\y= .aF:=by
 grind [eqT,ai]
omit ok in
theorem Fs {d:Nat} (t:TypeId) (v:Value) (x:AV) (b:Bool) (hb:eqT tab (d+1) t x (.raw v)= .ok b):(∃a,v= .pointer (some a))/\x= .aF:=by
 obtain⟨u,hu,hb⟩:=ai.1 hb;split at hb<;>first|(cases hb;done)|simp_all
omit ok in
theorem tk (H:bo E h K w) {b:Nat} {cs:List AV} {e:TypeId} {sz:Nat} {ext:Bool} (hc:h.get b=some (.cells cs e sz ext .rw)) (i:Nat):
  w.frozen? ⟨E.aN b,i,none⟩=false:=by
 obtain⟨arr,fz,h1,_,_,hm⟩:=H.cells hc;grind [marks,World.frozen?]
omit ok in
theorem tO (H:bo E h K w) {b:Nat} {cs:List AV} {e:TypeId} {sz:Nat} {ext:Bool} {bk:BK} (hc:h.get b=some (.cells cs e sz ext bk)):
  ∃n,w.shape? (E.aN b)=some (e,n):=by
 obtain⟨arr,fz,h1,_⟩:=H.cells hc;simp_all[World.shape?]
omit ok in
theorem sV (H:bo E h K w) {b:Nat} {cs:List AV} {e:TypeId} {sz:Nat} {ext:Bool} {bk:BK} (hc:h.get b=some (.cells cs e sz ext bk)) (i:Nat):
  (noView ⟨E.aN b,i,none⟩).run P w= .ok () w:=by
 obtain⟨n,hn⟩:=tO H hc;simp[noView,viewAt,hn]
omit ok in
theorem yz (H:bo E h K w) {b:Nat} {cs:List AV} {e:TypeId} {sz:Nat} {ext:Bool} (hc:h.get b=some (.cells cs e sz ext .rw)) (i:Nat):
  (stringish ⟨E.aN b,i,none⟩).run P w= .ok false w:=by
 obtain⟨n,hn⟩:=tO H hc;simp[stringish,hn,tk H hc]
omit ok in
theorem yR (H:bo E h K w) {b b':Nat} {cs cs':List AV} {e e':TypeId} {sz sz':Nat} {ext ext':Bool}
  (hc:h.get b=some (.cells cs e sz ext .rw)) (hc':h.get b'=some (.cells cs' e' sz' ext' .rw)) (i i':Nat):
  (mayBeOne ⟨E.aN b,i,none⟩ ⟨E.aN b',i',none⟩).run P w= .ok false w:=by
 obtain⟨n,hn⟩:=tO H hc;obtain⟨n',hn'⟩:=tO H hc';simp[mayBeOne,yz H hc,yz H hc',hn']
theorem Fp (H:bo E h K w) {t:TypeId} {x y:AV} {b:Bool} (hb:eqOp tab h t x y= .ok b):
   (Op.equal t (ab E x) (ab E y)).run P w= .ok b w/\
   (∀op ox oy,(op= .eql\/op= .neq)->(eqGuard op t ox oy (ab E x) (ab E y)).run P w= .ok () w):=by
 unfold eqOp at hb;split at hb
 . rename_i a i c j;obtain⟨u,hu,hb⟩:=ai.1 hb;have hP:=ok.und t u (cg.1 hu);split at hb
   . obtain⟨n,hn,hb⟩:=ai.1 hb;obtain⟨_,hz,hb⟩:=ai.1 hb;have hz:=c9.1 hz;have hn0:n≠0:=by
       rintro rfl;simp at hz
     refine⟨?_,fun op ox oy ho=>by rcases ho with rfl|rfl<;>simp[eqGuard,ab]⟩;have hstep:(Op.equal t (ab E (.ptr a i)) (ab E (.ptr c j))).run P w=(sameAddr ⟨E.aN a,i,none⟩ ⟨E.aN c,j,none⟩).run P w:=by
       have key:∀n,(Op.equalIn (n+1) t (ab E (.ptr a i)) (ab E (.ptr c j))).run P w=(sameAddr ⟨E.aN a,i,none⟩ ⟨E.aN c,j,none⟩).run P w:=by
         intro n;simp only[Op.equalIn,underlying,Sem.run_bind,run_program,Result.andThen_ok,hP,Sem.run_pure,ab,iT ok hn,EL,hn0,not_false_eq_true,Bq]
       exact key 9999
     rw[hstep];by_cases hac:Nat.beq a c=true
     . rw[An hac]at hb
       cases hb;have:=Ab hac;subst this;simp only[sameAddr,Du,Bq,Sem.run_pure];congr 1
       rw[AE];simp_all
     . rw[Ai hac]at hb;split at hb
       . rename_i h1 h2
         cases hb;have hne:E.aN a≠E.aN c:=fun e'=>hac (by rw[H.inj a c _ _ h1 h2 (by simp[AO.ro]) e'];simp_all)
         simp[sameAddr,hne,tk H h1,sV H h1,sV H h2,yR H h1 h2]
       grind
   grind
 . split at hb
   . rename_i hg;refine⟨?_,fun op ox oy ho=>?_⟩
     . have:=ou ok (E:=E) 8 t _ _ b hb 9992 w;exact this
     . exact run_eqGuard_agg w op t ox oy _ _ (ok.jG t false hg)
   grind
 . cases hb
 . refine⟨ou ok (E:=E) 8 t _ _ b hb 9992 w,fun op ox oy ho=>?_⟩;have hrx:∀v,x= .raw v->∃a,v= .pointer (some a):=by
     grind [Fq]
   have hry:∀v,y= .raw v->∃a,v= .pointer (some a):=by
     grind [Fs]
   have hne:∀cs,ab E x= .agg cs->∀ds,ab E y= .agg ds->False:=by
     intro cs hx ds hy
     cases x<;>simp only[ab]at hx<;>(try cases hx)
     . cases y<;>simp only[ab]at hy<;>(try cases hy)
       all_goals grind
     grind
   have hni:ab E x= .nilIface->ab E y= .nilIface->False:=by
     intro hx hy
     cases x<;>simp only[ab]at hx<;>(try cases hx)
     . cases y<;>simp only[ab]at hy<;>(try cases hy)
       all_goals grind
     grind
   rcases ho with rfl|rfl<;>(unfold eqGuard;split)
   all_goals simp_all
omit ok in
theorem wL (op:BinOp) (t:TypeId) (ox oy:Operand) (k j:IntKind) (a b:Int):(eqGuard op t ox oy (.int k a) (.int j b)).run P w= .ok () w:=by
 cases op<;>simp[eqGuard]
omit ok in
theorem KM (op:BinOp) (t:TypeId) (ox oy:Operand) (a b:ByteArray):(eqGuard op t ox oy (.string a) (.string b)).run P w= .ok () w:=by
 cases op<;>simp[eqGuard]
omit ok in
theorem tI {t:TypeId} {x y:AV} {b:Bool} (hb:eqOp tab h t x y= .ok b):(∀v,x= .raw v->∃a,v= .pointer (some a))/\(∀v,y= .raw v->∃a,v= .pointer (some a)):=by
 grind [eqOp,Fq,Fs]
omit ok in
theorem zG {x:AV} (hx:∀v,x= .raw v->∃a,v= .pointer (some a)):(∀k b,ab E x≠ .float k b)/\(∀k a b,ab E x≠ .complex k a b)/\
  (∀k a,ab E x= .int k a->x= .int k a)/\(∀s,ab E x= .string s->∃l,x= .str l):=by
 cases x
 all_goals grind [ab]
omit ok in
theorem yL (t:TypeId) (x y:AV) (hi:∀k j a b,x= .int k a->y= .int j b->False) (hs:∀a b,x= .str a->y= .str b->False)
   (hx:∀v,x= .raw v->∃a,v= .pointer (some a)) (hy:∀v,y= .raw v->∃a,v= .pointer (some a)):
   Go.binOp .eql t (ab E x) (ab E y)=(do pure (.bool (<-Op.equal t (ab E x) (ab E y))))/\
   Go.binOp .neq t (ab E x) (ab E y)=(do pure (.bool (!(<-Op.equal t (ab E x) (ab E y))))):=by
 obtain⟨x1,x2,x3,x4⟩:=zG (E:=E) hx;obtain⟨y1,y2,y3,y4⟩:=zG (E:=E) hy;generalize ab E x=X at*
 generalize ab E y=Y at*
 constructor
 . unfold Go.binOp;split<;>simp_all
   all_goals grind
 . unfold Go.binOp;split<;>simp_all
   all_goals grind
theorem KT (H:bo E h K w) {op:BinOp} {t:TypeId} {x y v:AV} (hb:binOp tab h op t x y= .ok v) (ox oy:Operand):
   (do eqGuard op t ox oy (ab E x) (ab E y);Go.binOp op t (ab E x) (ab E y)).run P w= .ok (ab E v) w:=by
 unfold binOp at hb;split at hb
 . simp only[ab];rw[Sem.run_bind,wL];exact zg (yk:= .i64) hb
 . simp only[ab];rw[Sem.run_bind,wL];exact zg (yk:= .i64) hb
 . rename_i hs1 hs2;split at hb
   . rename_i e;subst e;simp only[ab];rw[Sem.run_bind,wL];exact KN hb t ⟨fun e=>hs1 e,fun e=>hs2 e⟩
   grind
 . simp only[ab];rw[Sem.run_bind,KM]
   cases op<;>exact Lh (P:=P) hb
 . obtain⟨b,hb',hb⟩:=ai.1 hb
   cases hb;obtain⟨h1,h2⟩:=Fp ok H hb';rw[Sem.run_bind,h2 .eql ox oy (.inl rfl),Result.andThen_ok];rw[(yL (E:=E) t x y (fun k j a b e1 e2=>by grind) (fun a b e1 e2=>by grind) (tI hb').1 (tI hb').2).1,Sem.run_bind,h1];simp[ab]
 . obtain⟨b,hb',hb⟩:=ai.1 hb
   cases hb;obtain⟨h1,h2⟩:=Fp ok H hb';rw[Sem.run_bind,h2 .neq ox oy (.inr rfl),Result.andThen_ok];rw[(yL (E:=E) t x y (fun k j a b e1 e2=>by grind) (fun a b e1 e2=>by grind) (tI hb').1 (tI hb').2).2,Sem.run_bind,h1];simp[ab]
 grind
end
end
section
variable [Inhabited aI]
def gy (n:Nat) (l:List Value):List Value:=
 match n with
 |0=>[]
 |n+1=>l++gy n l
theorem rl (E:Env) (n:Nat) (l:List AV):aV E (rep n l)=gy n (aV E l):=by
 induction n with
 |zero=>rfl
 |succ n ih=>simp[rep,gy,ih]
theorem vU (n:Nat) (l:List Value):(gy n l).length=n*l.length:=by
 induction n with
 |zero=>simp[gy]
 |succ n ih=>grind [gy]
theorem FW (c:Nat) (l:List Value) (k:Nat) (hk:l.length=k) (h0:0<k):
  (List.range (c*k)).map (fun i=>l.toArray[i % k]!)=gy c l:=by
 induction c with
 |zero=>simp[gy]
 |succ c ih=>
  rw[show(c+1)*k=k+c*k from by rw[Be];omega,List.range_add,AF,B6];congr 1
  . grind [List.ext_getElem,List.length_map,Nat.mod_eq_of_lt]
  simp_all[BH]
theorem yU (n:Nat) (l:List Value) (h0:0<l.length):Builtin.zeroCells l.toArray n=(gy n l).toArray:=by
 grind [Builtin.zeroCells,Array.toList_range,FW]
theorem yQ (n:Nat) (l:List Value) (h0:0<l.length):madeCells l.toArray (n*l.length)=(gy n l).toArray:=by
 unfold madeCells;apply Array.ext';rw[Array.toList_map,Array.toList_range];exact FW n l l.length rfl h0
def rv (cs:List Value) (off:Nat) (vs:List Value):List Value:=cs.take off++(vs++cs.drop (off+vs.length))
theorem Is (E:Env) (cs:List AV) (off:Nat) (vs:List AV):aV E (lP cs off vs)=rv (aV E cs) off (aV E vs):=by
 simp[lP,rv,qV,wh]
theorem MF (off:Nat):∀(vs:List Value) (j:Nat) (cs:Array Value),off+j+vs.length<=cs.size->
  ((vs.zipIdx j).foldl (fun cs (x:Value×Nat)=>cs.setIfInBounds (off+x.2) x.1) cs)=(rv cs.toList (off+j) vs).toArray:=by
 intro vs;induction vs with
 |nil=>simp_all[rv]
 |cons v vs ih=>
  intro j cs h;simp only[List.zipIdx_cons,Bw];rw[ih (j+1) _ (by grind)];have:=list_seg_step cs.toList (off+j) v vs (by omega);simp only[rv,Et,AX];rw[show off+(j+1)=off+j+1 from by omega];rw[<-BC,this];simp
section
variable {P:Program} {tab:bc} (ok:bD P tab) {E:Env} {h:AH} {K:KS} {w:World}
theorem wP {place:Nat->Option (Nat×Nat)}:∀(ps:List (Nat×AV)) (qs:List (Nat×Nat×AV)) (cs out:List AV),
  (ps.length=qs.length/\ ∀i,i<ps.length->∀p q,ps[i]? =some p->qs[i]? =some q->place p.1=some (q.1,q.2.1)/\p.2=q.2.2)->
  fill cs qs= .ok out->Instr.fill place (aV E cs).toArray (ps.map fun p=>(p.1,ab E p.2))=some (aV E out).toArray:=by
 intro ps;induction ps with
 |nil=>
  intro qs cs out hq hf;have:qs=[]:=AI hq.1.symm;subst this
  cases hf;rfl
 | cons p ps ih=>
  intro qs cs out hq hf
  cases qs with
  |nil=>grind
  | cons q qs=>
   obtain⟨off,n,v⟩:=q;obtain⟨l,hl,hf⟩:=ai.1 hf;obtain⟨_,hc,hf⟩:=ai.1 hf;have hc:=c9.1 hc;rw[Ad]at hc;have hc1:=Ab hc.1;have hc2:=Ak hc.2;obtain⟨h1,h2⟩:=hq.2 0 (by simp) p (off,n,v) rfl rfl;simp only[AZ,Instr.fill,h1,h2,lI hl];rw[Ai (by simp[hc1];omega)];have hz:(aV E l).toArray.zipIdx.foldl (fun cs (x:Value×Nat)=>cs.setIfInBounds (off+x.2) x.1) (aV E cs).toArray=(aV E (lP cs off l)).toArray:=by
    have:=MF off (aV E l) 0 (aV E cs).toArray (by simp_all);rw[Is,<-Array.foldl_toList];grind
   rw[hz];refine ih qs _ out ⟨by simpa using hq.1,fun i hi p' q' hp' hq'=>?_⟩ hf;exact hq.2 (i+1) (by simpa using hi) p' q' (by simpa using hp') (by grind)
include ok
theorem Ia {fs:Array Field}:∀(ps:List (Nat×AV)) (qs:List (Nat×Nat×AV)),pD tab fs ps= .ok qs->
  (ps.length=qs.length/\ ∀i,i<ps.length->∀p q,ps[i]? =some p->qs[i]? =some q->
   (∃f i,fs[p.1]? =some f/\P.info? f.type=some i/\q.1=f.offset/\q.2.1=i.size)/\p.2=q.2.2):=by
 intro ps;induction ps with
 |nil=>grind [pD]
 | cons p ps ih=>
  intro qs hq;obtain⟨i,v⟩:=p;obtain⟨f,hf,hq⟩:=ai.1 hq;obtain⟨n,hn,hq⟩:=ai.1 hq;obtain⟨r,hr,hq⟩:=ai.1 hq
  cases hq;obtain⟨h1,h2⟩:=ih r hr;refine⟨by grind,fun j hj p q hp hq=>?_⟩
  cases j with
  |zero=>
   obtain⟨x,hx,rfl⟩:=ok.siz _ _ (cg.1 hn);grind [cg]
  |succ j=>exact h2 j (by simpa using hj) p q (by simpa using hp) (by simpa using hq)
theorem Jc:∀(l:List Field),(∀f∈l,(tab.siz.get f.type).isSome=true)->
  ∃ps:List (Nat×Nat),l.mapM (fun(f:Field)=>(P.info? f.type).map fun i=>(f.offset,i.size))=some ps/\
   ∀(i:Nat) (f:Field) (x:TypeInfo),l[i]? =some f->P.info? f.type=some x->ps[i]? =some (f.offset,x.size):=by
 intro l;induction l with
 |nil=>simp_all
 |cons f l ih=>
  intro hl;obtain⟨ps,h1,h2⟩:=ih (fun f hf=>hl f (by grind));obtain⟨n,hn⟩:=Bz.1 (hl f (by simp));obtain⟨x,hx,rfl⟩:=ok.siz _ _ hn;refine⟨(f.offset,x.size)::ps,?_,?_⟩
  all_goals grind
theorem KV {t:TypeId} {ps:List (Nat×AV)} {v:AV} (hb:build tab t ps= .ok v):
   (Instr.build t (ps.map fun p=>(p.1,ab E p.2)).toArray).run P w= .ok (ab E v) w:=by
 obtain⟨z,hz,hb⟩:=ai.1 hb;obtain⟨zc,hzc,hb⟩:=ai.1 hb;obtain⟨u,hu,hb⟩:=ai.1 hb;have hP:=ok.und t u (cg.1 hu);obtain⟨it,hit,hiz⟩:=ok.jB t z (cg.1 hz);split at hb
 . rename_i fs;obtain⟨_,hs,hb⟩:=ai.1 hb;obtain⟨qs,hq,hb⟩:=ai.1 hb;obtain⟨cs,hc,hb⟩:=ai.1 hb
   cases hb;have hs:=c9.1 hs;obtain⟨pl,hp1,hp2⟩:=Jc ok fs.toList (fun f hf=>Aq.1 hs f hf);obtain⟨hl,hq⟩:=Ia ok ps qs hq;have hfill:=wP (E:=E) (place:=fun i=>pl[i]?) ps qs zc cs ⟨hl,fun i hi p q hp hq'=>by
    grind⟩ hc
   have hbuilt:P.built t (ps.map fun p=>(p.1,ab E p.2))=some (aV E cs).toArray:=by
    unfold Program.built;simp only[hit,hP,hiz E,hp1,lI hzc];grind
   exact run_build w t _ _ (by omega)
 . obtain⟨n,hn,hb⟩:=ai.1 hb;obtain⟨cs,hc,hb⟩:=ai.1 hb
   cases hb;obtain⟨ie,hie,rfl⟩:=ok.siz _ _ (cg.1 hn);have hfill:=wP (E:=E) (place:=fun i=>some (i*ie.size,ie.size)) ps _ zc cs ⟨by simp,fun i hi p q hp hq=>by
    rw[Az,hp]at hq;grind⟩ hc
   have hbuilt:P.built t (ps.map fun p=>(p.1,ab E p.2))=some (aV E cs).toArray:=by
    unfold Program.built;simp only[hit,hP,hiz E,hie,lI hzc];omega
   exact run_build w t _ _ (by omega)
 grind
theorem Il (H:bo E h K w) {t:TypeId} {len:Nat} {ps:List (Nat×AV)} {v:AV} {h':AH} (hb:buildSlice tab h t len ps= .ok (v,h'))
   (hE:E.aN h.next=w.heap.size):
   h'.next=h.next+1/\ ∃w',(Instr.buildSlice t len (ps.map fun p=>(p.1,ab E p.2)).toArray).run P w= .ok (ab E v) w'/\bo E h' K w'/\Kept K w w':=by
 obtain⟨u,hu,hb⟩:=ai.1 hb;have hP:=ok.und t u (cg.1 hu);split at hb
 . rename_i e;obtain⟨n,hn,hb⟩:=ai.1 hb;obtain⟨_,hc,hb⟩:=ai.1 hb;obtain⟨z,hz,hb⟩:=ai.1 hb;obtain⟨zc,hzc,hb⟩:=ai.1 hb;obtain⟨_,hzl,hb⟩:=ai.1 hb;obtain⟨cs,hf,hb⟩:=ai.1 hb;obtain⟨⟨h1,b⟩,hr,hb⟩:=ai.1 hb
   cases hb;have hc:=Ak (c9.1 hc);have hzl:=Ab (c9.1 hzl);obtain⟨n',_,rfl,rfl⟩:=gF hr;have hfill:=wP (E:=E) (place:=fun i=>some (i*n,n)) ps _ (rep len zc) cs ⟨by simp,fun i hi p q hp hq=>by
     rw[Az,hp]at hq;grind⟩ hf
   have hmade:((Array.range (len*n)).map fun i=>(if len*n=0 then #[]else(aV E zc).toArray)[i % (if len*n=0 then #[]else(aV E zc).toArray).size]!)=(aV E (rep len zc)).toArray:=by
     rw[rl];by_cases h0:len*n=0
     . rw[h0];have:gy len (aV E zc)=[]:=AI (by rw[vU,bM,hzl];exact h0);grind
     . simp only[Ai h0];have hn0:0<n:=D5 (fun e=>h0 (by rw[e];simp));have:=yQ len (aV E zc) (by rw[bM,hzl];omega);rw[bM,hzl]at this;exact this
   obtain⟨H',hk⟩:=wv H hE cs e n';refine⟨rfl,_,?_,H',hk⟩;unfold Instr.buildSlice;simp only[Sem.run_bind,underlying,run_program,Result.andThen_ok,hP,Sem.run_pure,iT ok hn];rw[Ai (by omega)];by_cases h0:len*n=0
   . grind [Sem.run_bind,Sem.run_pure,Result.andThen_ok,n9,ab,fk.val]
   . simp only[Ai h0]at hmade⊢;simp only[Sem.run_bind,ot ok hz E,Sem.run_pure,Result.andThen_ok,lI hzc];rw[hmade,hfill];grind [Sem.run_bind,n9,Result.andThen_ok,Sem.run_pure,ab,fk.val]
 grind
theorem IJ (H:bo E h K w) {t:TypeId} {len cap v:AV} {h':AH} (hb:makeSlice tab h t len cap= .ok (v,h')) (hE:E.aN h.next=w.heap.size):
   h'.next=h.next+1/\ ∃w',(Instr.makeSlice t (ab E len) (ab E cap)).run P w= .ok (ab E v) w'/\bo E h' K w'/\Kept K w w':=by
 obtain⟨u,hu,hb⟩:=ai.1 hb;have hP:=ok.und t u (cg.1 hu);split at hb
 . rename_i e;obtain⟨l,hl,hb⟩:=ai.1 hb;obtain⟨c,hc,hb⟩:=ai.1 hb;obtain⟨by_,hby,hb⟩:=ai.1 hb;obtain⟨_,hlim,hb⟩:=ai.1 hb;obtain⟨n,hn,hb⟩:=ai.1 hb;obtain⟨z,hz,hb⟩:=ai.1 hb;obtain⟨zc,hzc,hb⟩:=ai.1 hb;obtain⟨_,hzl,hb⟩:=ai.1 hb;obtain⟨⟨h1,b⟩,hr,hb⟩:=ai.1 hb
   cases hb;have hlim:=c9.1 hlim;simp only[Ad]at hlim;have hl1:=Ak hlim.1.1;have hl2:=Ak hlim.1.2;have hl3:=Ak hlim.2;have hzl:=c9.1 hzl;simp only[Ad]at hzl;have hzl1:=Ab hzl.1;have hn0:0<n:=D5 (by grind);obtain⟨n',_,rfl,rfl⟩:=gF hr;obtain⟨kl,rfl⟩:=mw hl;obtain⟨kc,rfl⟩:=mw hc;obtain⟨i,hi,rfl⟩:=ok.siz _ _ (cg.1 hn);obtain⟨i',hi',hz'⟩:=ok.jB _ _ (cg.1 hz);rw[hi]at hi';cases hi';obtain⟨i',hi',hby'⟩:=ok.byt _ _ (cg.1 hby);rw[hi]at hi';cases hi';obtain⟨H',hk⟩:=wv H hE (rep c zc) e n';refine⟨rfl,_,?_,H',hk⟩;have hbc:(i.bytes:Int)*(c:Int)<=281474976710656:=by
    rw[hby'];have h3:((by_*c:Nat):Int)<=((16777216:Nat):Int):=Int.ofNat_le.2 hl3;rw[Int.natCast_mul]at h3;omega
   have hrun:=run_make (P:=P) w t e i (ab E z) hP hi (hz' E) kl kc l c (by omega) (by omega) hbc (by omega);grind [ab,lI,fk.val,rl,yQ,bM]
 grind
end
end
section
variable [Inhabited aI]
section
variable {P:Program} {tab:bc} (ok:bD P tab) {E:Env} {h:AH} {K:KS} {w:World}
def fo (o:Option Value) (d n:Nat):Prop:=
 match o with
 |none=>n=d
 |some v=>∃k,v= .int k (n:Int)
theorem qS (k:IntKind) (n y:Nat) (code:BoundsCode) (hn:n<=y):(Instr.sliceBound (.int k (n:Int)) y code).run P w= .ok n w:=by
 have:=run_sliceBound (P:=P) w k (n:Int) y code (by omega) (by omega);grind
theorem qT {isSlice:Bool} {len cap l u m:Nat} {lo hi mx:Option Value} (hl:fo lo 0 l) (hu:fo hi len u) (hm:fo mx cap m)
  (hs:mx=none\/ ∃v,hi=some v) (h1:l<=u) (h2:u<=m) (h3:m<=cap):(Instr.sliceBounds isSlice len cap lo hi mx).run P w= .ok (l,u,m) w:=by
 unfold Instr.sliceBounds
 cases mx with
 | none=>
  simp only[fo]at hm
  cases hi with
  |none=>
   simp only[fo]at hu
   cases lo with
   |none=>simp_all[fo]
   |some v=>obtain⟨k,rfl⟩:=hl;simp_all[qS]
  |some v=>
   obtain⟨k,rfl⟩:=hu
   cases lo with
   |none=>simp_all[fo,qS]
   |some v=>obtain⟨k',rfl⟩:=hl;simp_all[qS]
 |some v=>
  obtain⟨km,rfl⟩:=hm;obtain⟨v',rfl⟩:=hs.resolve_left (by simp);obtain⟨k,rfl⟩:=hu
  cases lo with
  |none=>simp_all[fo,qS]
  |some v=>obtain⟨k',rfl⟩:=hl;simp_all[qS]
theorem ka {ts:T AV} {ρ:Operand->Value} (hρ:∀x v,ev ts x= .ok v->ρ x=ab E v) {d:R Nat} {dn:Nat} (hd:d= .ok dn) {o:Option Operand} {n:Nat}
  (hn:eW ts d o= .ok n):fo (o.map ρ) dn n:=by
 cases o with
 |none=>rw[hd]at hn;cases hn;exact rfl
 |some x=>
  obtain⟨v,hv,hn⟩:=ai.1 hn;obtain⟨k,rfl⟩:=mw hn;exact⟨k,by rw[hρ x _ hv];rfl⟩
theorem extract_mk (s:List UInt8) (l u:Nat):(⟨s.toArray⟩:ByteArray).extract l u=⟨((s.drop l).take (u - l)).toArray⟩:=by
 apply ByteArray.ext;simp_all
theorem wA (H:bo E h K w) {b c:Nat} {cap:fk} (hc:capLow h b cap= .ok c):c<=cap.val (E.cap b):=by
 cases cap with
 |lit n=>cases hc;exact Aj _
 | tail k=>
  obtain⟨⟨cs,e,sz,ext,bk⟩,h1,hc⟩:=ai.1 hc;obtain⟨_,h2,hc⟩:=ai.1 hc
  cases hc;have h2:=c9.1 h2;simp only[Ad]at h2;obtain⟨hx,hz⟩:=h2;have hz0:0<sz:=D5 (by rintro rfl;simp_all);obtain⟨arr,fz,_,⟨rest,harr⟩,hsz,_⟩:=H.cells (fR h1);rw[An hx]at hsz;have hl:=Ay List.length harr;simp at hl;have:cs.length / sz<=E.cap b:=by
   rw[Nat.div_le_iff_le_mul_add_pred hz0];have:cs.length<=E.cap b*sz:=by omega
   rw[Nat.mul_comm]at this;omega
  show cs.length / sz - k<=E.cap b - k
  omega
include ok
theorem Jl (H:bo E h K w) {ts:T AV} {ρ:Operand->Value} (hρ:∀x v,ev ts x= .ok v->ρ x=ab E v) {t:TypeId} {x v:AV} {h':AH} {lo hi mx:Option Operand}
   (hs:iA tab ts h t x lo hi mx= .ok (v,h')):
   h'=h/\(Instr.sliceAt t (ab E x) (lo.map ρ) (hi.map ρ) (mx.map ρ)).run P w= .ok (ab E v) w:=by
 unfold iA at hs;obtain⟨d,hd,hs⟩:=ai.1 hs;have hP:=ok.und t d (cg.1 hd);split at hs
 . rename_i s _;obtain⟨_,hm,hs⟩:=ai.1 hs;obtain⟨l,hl,hs⟩:=ai.1 hs;obtain⟨u,hu,hs⟩:=ai.1 hs;obtain⟨_,hb,hs⟩:=ai.1 hs
   cases hs;have hm:=c9.1 hm
   cases mx with
   |some x=>grind
   | none=>
     have hb:=c9.1 hb;rw[Ad]at hb;have hb1:=Ak hb.1;have hb2:=Ak hb.2;refine⟨rfl,?_⟩;rw[run_sliceAt_string (P:=P) w t _ _ _ _ hP];unfold Instr.slice;simp only[Sem.run_bind,underlying,run_program,Result.andThen_ok,hP,Sem.run_pure,ab,Bk,A2,Ao,AP,nu];rw[qT (ka hρ rfl hl) (ka hρ rfl hu) (show fo none s.length s.length from rfl) (.inl rfl) hb1 hb2 (Aj _)];simp[extract_mk]
 . rename_i e _;have hel:P.elem t=e:=by grind [Program.elem]
   obtain⟨n,hn,hs⟩:=ai.1 hs;obtain⟨l,hl,hs⟩:=ai.1 hs;obtain⟨u,hu,hs⟩:=ai.1 hs;obtain⟨m,hm,hs⟩:=ai.1 hs;obtain⟨_,hb,hs⟩:=ai.1 hs
   cases hs;have hb:=c9.1 hb;simp only[Ad,Da]at hb;have hb1:=Ab hb.1.1.1;have hb2:=Ab hb.1.1.2;have hb3:=Ab hb.1.2;subst hb1 hb2 hb3;refine⟨rfl,?_⟩;have hmx:mx.map ρ=none\/ ∃v,hi.map ρ=some v:=by
     rcases hb.2 with h|h
     . simp_all
     . right;cases hi<;>simp_all
   rw[run_sliceAt_slice (P:=P) w t _ _ _ _ (by rw[hel];exact hP)];simp only[ab];rw[run_slice_any (P:=P) w t none 0 0 (by rw[hel];exact hP),hel,
     qT (ka hρ rfl hl) (ka hρ rfl hu) (ka hρ rfl hm) hmx (Aj _) (Aj _) (Aj _),Result.andThen_ok,iT ok hn]
   simp[sliced]
 . rename_i e b off len cap _;have hel:P.elem t=e:=by grind [Program.elem]
   obtain⟨c,hc,hs⟩:=ai.1 hs;obtain⟨n,hn,hs⟩:=ai.1 hs;obtain⟨l,hl,hs⟩:=ai.1 hs;obtain⟨u,hu,hs⟩:=ai.1 hs;have hcap:=wA H hc;have hgo:∀m,fo (mx.map ρ) (cap.val (E.cap b)) m->(mx.map ρ=none\/ ∃v,hi.map ρ=some v)->l<=u->u<=m->m<=cap.val (E.cap b)->
       (Instr.sliceAt t (ab E (.sl b off len cap)) (lo.map ρ) (hi.map ρ) (mx.map ρ)).run P w=
        .ok (.slice (some ⟨E.aN b,if m=l then off else off+l*n,none⟩) (u - l) (m - l)) w:=by
     intro m hm hmx h1 h2 h3;rw[run_sliceAt_slice (P:=P) w t _ _ _ _ (by rw[hel];exact hP)];simp only[ab];rw[run_slice_any (P:=P) w t _ _ _ (by rw[hel];exact hP),hel,
       qT (ka hρ rfl hl) (ka hρ rfl hu) hm hmx h1 h2 h3,Result.andThen_ok,iT ok hn,Result.andThen_ok]
     grind [sliced,add_lit]
   split at hs
   . obtain⟨m,hm,hs⟩:=ai.1 hs;obtain⟨_,hb,hs⟩:=ai.1 hs
     cases hs;have hb:=c9.1 hb;simp only[Ad]at hb;have hb1:=Ak hb.1.1.1;have hb2:=Ak hb.1.1.2;have hb3:=Ak hb.1.2;refine⟨rfl,?_⟩;have hm':fo (Option.map ρ (some ‹Operand›)) (cap.val (E.cap b)) m:=by
       have:=ka hρ rfl hm;exact this
     rw[hgo m hm' (.inr (by cases hi<;>simp_all)) hb1 hb2 (by omega)];simp only[ab,fk.val];by_cases e:m=l
     . simp[e]
     grind [Nat.eq_of_beq_eq_true]
   . cases cap with
     | lit m=>
       obtain⟨_,hb,hs⟩:=ai.1 hs
       cases hs;have hb:=c9.1 hb;simp only[Ad]at hb;have hb1:=Ak hb.1;have hb2:=Ak hb.2;refine⟨rfl,?_⟩;rw[hgo m rfl (.inl rfl) hb1 hb2 (Aj _)];simp only[ab,fk.val];simp_all
     | tail k=>
       obtain⟨_,hb,hs⟩:=ai.1 hs;have hb:=c9.1 hb;simp only[Ad]at hb;have hb1:=Ak hb.1;have hb2:=Ak hb.2;have hcap':c<=E.cap b - k:=hcap;have hgo':=hgo (E.cap b - k) rfl (.inl rfl) hb1 (by omega) (Aj _);grind [Nat.eq_of_beq_eq_true,ab,fk.val,Nat.blt,Nat.le_of_ble_eq_true,Nat.ble_eq_true_of_le]
 . rename_i e a c _;have hel:P.elem t=e:=by grind [Program.elem]
   obtain⟨n,hn,hs⟩:=ai.1 hs;obtain⟨l,hl,hs⟩:=ai.1 hs;obtain⟨u,hu,hs⟩:=ai.1 hs;obtain⟨_,hb,hs⟩:=ai.1 hs
   cases hs;have hb:=c9.1 hb;simp only[Ad]at hb;have hb1:=Ab hb.1.1;have hb2:=Ab hb.1.2;subst hb1 hb2;have hm:mx=none:=by cases mx<;>simp_all
   subst hm;refine⟨rfl,?_⟩;rw[run_sliceAt_slice (P:=P) w t _ _ _ _ (by rw[hel];exact hP)];simp only[ab];rw[run_slice_any (P:=P) w t _ _ _ (by rw[hel];exact hP),hel,
     qT (ka hρ rfl hl) (ka hρ rfl hu) (show fo (Option.map ρ (none:Option Operand)) c c from rfl) (.inl rfl) (Aj _) (Ax _) (Aj _),Result.andThen_ok,iT ok hn]
   cases a<;>simp[sliced,Addr.add]
 . rename_i e b off l0 n0 k _;have hel:P.elem t=e:=by grind [Program.elem]
   obtain⟨n,hn,hs⟩:=ai.1 hs;obtain⟨l,hl,hs⟩:=ai.1 hs;obtain⟨u,hu,hs⟩:=ai.1 hs;obtain⟨_,hb,hs⟩:=ai.1 hs
   cases hs;have hb:=c9.1 hb;simp only[Ad]at hb;have hb1:=Ab hb.1.1;have hb2:=Ab hb.1.2;subst hb1 hb2;have hm:mx=none:=by cases mx<;>simp_all
   subst hm;refine⟨rfl,?_⟩;rw[run_sliceAt_slice (P:=P) w t _ _ _ _ (by rw[hel];exact hP)];simp only[ab];rw[run_slice_any (P:=P) w t _ _ _ (by rw[hel];exact hP),hel,
     qT (ka hρ rfl hl) (ka hρ rfl hu) (show fo (Option.map ρ (none:Option Operand)) (E.cap b - k - l0) (E.cap b - k - l0)from rfl) (.inl rfl) (Aj _) (Ax _) (Aj _),Result.andThen_ok,iT ok hn]
   simp[sliced,Addr.add]
 grind
end
end
section
variable [Inhabited aI]
section
variable {P:Program} {tab:bc} (ok:bD P tab) {E:Env} {h:AH} {K:KS} {w:World}
theorem yA (E:Env) (s:List UInt8):aV E (ofBytes s)=s.map fun b=>Value.int .u8 b.toNat:=by
 simp only[ofBytes,mA,B6];rfl
theorem qU {cs:List AV} {s:List UInt8} (hb:bytesOf cs= .ok s):
  ∃ns:List Int,aV E cs=ns.map (Value.int .u8)/\ns.map (fun n=>UInt8.ofNat n.toNat)=s:=by
 induction cs generalizing s with
 |nil=>simp only[bytesOf]at hb;simp_all
 |cons c cs ih=>
  unfold bytesOf at hb;split at hb
  . grind
  . rename_i n l e
    cases e;obtain⟨r,hr,hb⟩:=ai.1 hb
    cases hb;obtain⟨ns,h1,h2⟩:=ih hr;exact⟨(n:Int)::ns,by simp[h1,ab],by grind⟩
  grind
def uB:AV->Nat
 | .str s=>s.length
 |_=>0
theorem foldl_push (ns:List Int):∀(r:List UInt8),ns.foldl (fun(r:ByteArray) n=>r.push (UInt8.ofNat n.toNat)) ⟨r.toArray⟩=⟨(r++ns.map fun n=>UInt8.ofNat n.toNat).toArray⟩:=by
 induction ns with
 |nil=>grind
 |cons n ns ih=>
  simp_all
theorem Jk (w:World) (arr:Array Value) (e:TypeId) (fz:Nat×Nat):(w.alloc (.cells arr e fz)).shape? w.heap.size=some (e,arr.size):=by
 grind [World.shape?,heap_alloc_new]
theorem Iw (w:World) (arr:Array Value) (e:TypeId) (n:Nat):
  (w.alloc (.cells arr e)).freeze {block:=w.heap.size,off:=n} 1=w.alloc (.cells arr e (n,n+1)):=by
 unfold World.freeze World.alloc;simp only[Nat.one_ne_zero,AP];congr 1
 grind
include ok
theorem IT (H:bo E h K w) {src dst:TypeId} {x v:AV} {h':AH} (hc:convert tab h src dst x= .ok (v,h'))
   (hE:h.next<h'.next->E.aN h.next=w.heap.size/\E.cap h.next=grownCap w (uB x) 0 (P.elem dst)):
   (h.next<=h'.next/\h'.next<=h.next+1)/\ ∃w',(Go.convert src dst (ab E x)).run P w= .ok (ab E v) w'/\bo E h' K w'/\Kept K w w':=by
 unfold convert at hc;obtain⟨a,ha,hc⟩:=ai.1 hc;obtain⟨b,hb,hc⟩:=ai.1 hc;have hPa:=ok.und src a (cg.1 ha);have hPb:=ok.und dst b (cg.1 hb);split at hc
 . cases hc;refine⟨by omega,w,?_,H,Kept.refl K w⟩;simp only[ab];unfold Go.convert;simp[underlying,hPa,hPb,Conv.intToInt]
 . cases hc;refine⟨by omega,w,?_,H,Kept.refl K w⟩;simp only[ab];unfold Go.convert;simp[underlying,hPa,hPb]
 . rename_i e s _ _;obtain⟨d,hd,hc⟩:=ai.1 hc;have hPe:=ok.und e d (cg.1 hd);split at hc
   . obtain⟨n,hn,hc⟩:=ai.1 hc;obtain⟨_,h1,hc⟩:=ai.1 hc;obtain⟨⟨h2,b2⟩,hr,hc⟩:=ai.1 hc
     cases hc;obtain⟨n',hn',rfl,rfl⟩:=gF hr;rw[hn]at hn';cases hn';have h1:=Ab (c9.1 h1);subst h1;have hel:P.elem dst=e:=by grind [Program.elem]
     obtain⟨hE1,hE2⟩:=hE (by simp);rw[hel]at hE2;simp only[uB]at hE2;have hge:=grownCap_ge w s.length 0 e;have hrun:(Go.convert src dst (ab E (.str s))).run P w= .ok (.slice (some ⟨w.heap.size,0,none⟩) s.length (grownCap w s.length 0 e))
         (w.drew.alloc (.cells ((s.map fun b=>Value.int .u8 b.toNat).toArray++Array.replicate (grownCap w s.length 0 e - s.length) (.int .u8 0)) e (grownCap w s.length 0 e,grownCap w s.length 0 e+1))):=by
       simp only[ab];unfold Go.convert;have hq:(Question.appendCap s.length 0 e).cut (w.tape w.drawn (.appendCap s.length 0 e))=grownCap w s.length 0 e:=rfl;simp only[Sem.run_bind,underlying,run_program,Result.andThen_ok,hPa,hPb,hPe,Sem.run_pure,Conv.stringToBytes,run_choose,Question.forced,Ao,AP,n9,markStringish,run_shape,nu,hq,World.drew_eq,World.size_drew];grind [Jk,World.size_drew,run_freeze,Result.andThen_ok,Iw]
     have hv:ab E (.sl h.next 0 s.length (.tail 0))= .slice (some ⟨w.heap.size,0,none⟩) s.length (grownCap w s.length 0 e):=by
       grind [ab,fk.val]
     rw[<-hv]at hrun;refine⟨by simp,_,hrun,H.drew.new (by simp_all) ?_,(Kept.drew K w).trans (Kept.alloc (by simpa using H.kb) _)⟩
     . refine⟨_,_,rfl,⟨_,by rw[Array.toList_append,List.toList_toArray,yA]⟩,?_,?_⟩
       all_goals grind [marks]
   grind
 . rename_i e _ hns;obtain⟨d,hd,hc⟩:=ai.1 hc;have hPe:=ok.und e d (cg.1 hd);split at hc
   . cases hc;refine⟨by omega,w,?_,H,Kept.refl K w⟩;simp only[ab];rw[run_convert_bytes_string w src dst e _ _ _ hPa hPe hPb];simp[Conv.bytesToString];rfl
   . obtain⟨cs,hcs,hc⟩:=ai.1 hc;obtain⟨s,hs,hc⟩:=ai.1 hc
     cases hc;refine⟨by omega,w,?_,H,Kept.refl K w⟩;obtain⟨ns,h1,h2⟩:=qU (E:=E) hs;simp only[ab];rw[run_convert_bytes_string w src dst e _ _ _ hPa hPe hPb,run_bytesToString w _ _ _ ns (by rw[<-h1];exact H.eX hcs)];have:=foldl_push ns [];rw[show(⟨([]:List UInt8).toArray⟩:ByteArray)=ByteArray.empty from rfl]at this;rw[this,h2];rfl
   . cases hc;refine⟨by omega,w,?_,H,Kept.refl K w⟩;simp only[ab];rw[run_convert_bytes_string w src dst e _ _ _ hPa hPe hPb];simp[Conv.bytesToString,loadCells,loadCellsFrom];rfl
   . cases hc;refine⟨by omega,w,?_,H,Kept.refl K w⟩;rename_i a _ _ _;simp only[ab];rw[run_convert_bytes_string w src dst e _ _ _ hPa hPe hPb]
     cases a<;>simp[Conv.bytesToString,loadCells,loadCellsFrom]<;>rfl
   grind
 . rename_i e b off n c _ _;obtain⟨d,hd,hc⟩:=ai.1 hc;have hPe:=ok.und e d (cg.1 hd);split at hc
   . rename_i heq;obtain⟨⟨cs,e',sz,ext,bk⟩,hcs,hc⟩:=ai.1 hc;obtain⟨_,hro,hc⟩:=ai.1 hc
     cases hc;have hro:bk≠ .ro/\bk≠ .cold:=by grind [c9]
     have hcs:=fR hcs;have heq:=Ab heq;subst heq
     cases hPa.symm.trans hPb;obtain⟨arr,fz,hh,hpre,hsz,hm⟩:=H.cells hcs;have hnr:¬(AO.cells cs e' sz ext bk).ro:=by cases bk<;>simp_all[AO.ro]
     have hfz:w.freeze {block:=E.aN b,off:=arr.size} 1=w.put (E.aN b) (.cells arr e' (arr.size,arr.size+1)):=by
       unfold World.freeze World.put;simp only[Nat.one_ne_zero,AP];congr 1
       have he:=(Ac.1 hh).2;apply Array.ext
       . simp
       . intro j h1 h2;rw[Array.getElem_modify,Array.getElem_setIfInBounds (by grind)];by_cases ej:E.aN b=j
         . subst ej;simp only[Bq,he]
           cases bk with
           |rw=>grind [marks]
           |mark=>grind [marks]
           |any=>grind [marks]
           |ro=>grind
           |cold=>grind
         grind
     refine⟨by simp,_,?_,H.put hcs hnr ⟨arr,(arr.size,arr.size+1),rfl,hpre,hsz,rfl⟩,H.bK hcs hnr _⟩;simp only[ab];unfold Go.convert;have hshape:w.shape? (E.aN b)=some (e',arr.size):=by grind [World.shape?]
     simp only[Sem.run_bind,underlying,run_program,Result.andThen_ok,hPa,hPe,Sem.run_pure,Du,markStringish,run_shape,hshape,run_freeze,hfz]
   grind
 grind
end
end
section
variable [Inhabited aI]
section
variable {P:Program} {tab:bc} (ok:bD P tab) {E:Env} {h:AH} {K:KS} {w:World}
theorem zB {n m:Nat} {y:AV} {news:List AV} (hs:source h n y= .ok (m,news)):
  news.length=m*n/\(∀w:World,(Builtin.lenOf (ab E y)).run P w= .ok m w)/\
  ∀w:World,bo E h K w->∀k,k<=m->(Builtin.firstCells n k (ab E y)).run P w= .ok (aV E (news.take (k*n))).toArray w:=by
 cases y<;>simp only[source]at hs<;>(try cases hs)
 case str s=>
  obtain⟨_,h1,hsz⟩:=ai.1 hs;have hs:=hsz;cases hs;have h1:=Ab (c9.1 h1);subst h1;refine⟨by simp[ofBytes],fun w=>by simp[ab,Builtin.lenOf,nu],fun w _ k hk=>?_⟩;grind [ab,Builtin.firstCells,extract_mk,Sem.run_pure,qV,yA,List.map_take]
 case nils=>
  simp_all[ab,Builtin.lenOf,Builtin.firstCells]
 case sl b off len cap=>
  obtain⟨cs,hcs,hsz⟩:=ai.1 hs;have hs:=hsz;cases hs;obtain⟨cs0,e,sz,ext,bk,hc,hl,rfl⟩:=E0 hcs;refine⟨by grind,fun w=>by simp[ab,Builtin.lenOf],fun w H k hk=>?_⟩;simp only[ab,Builtin.firstCells];have hk':k*n<=m*n:=A8 _ hk;have hr:readN h b off (k*n)= .ok ((cs0.drop off).take (k*n)):=by
   grind [readN,iM,ai,c9,Nat.ble_eq_true_of_le]
  rw[H.eX hr];grind
 case emp b off l n' k'=>
  simp_all[ab,Builtin.lenOf,Builtin.firstCells,loadCells,loadCellsFrom]
 case raw v=>
  have key:∃a c,v= .slice a 0 c/\m=0/\news=[]:=by
   grind
  obtain⟨a,c,rfl,rfl,rfl⟩:=key;refine⟨by simp,fun w=>by simp[ab,Builtin.lenOf],fun w _ k hk=>?_⟩;have:k=0:=by omega
  subst this
  cases a<;>simp[ab,Builtin.firstCells,loadCells,loadCellsFrom]
theorem I5 {argTypes:Array TypeId} {t u ty e:TypeId} {du:TypeDesc} {i:TypeInfo} (h0:argTypes[0]? =some t) (h1:argTypes[1]? =some u)
  (ht:P.underlying t=some (.slice e)) (hu:P.underlying u=some du) (hnz:∀k,du≠ .int k) (hi:P.info? e=some i)
  {base:Option Addr} {sLen sCap m:Nat} {Y:Value} {news:Array Value} (hlen:(Builtin.lenOf Y).run P w= .ok m w)
  (hf:(Builtin.firstCells i.size m Y).run P w= .ok news w) (hroom:sLen+m<=sCap):
  (Builtin.append_ argTypes ty #[.slice base sLen sCap,Y]).run P w=
   (match base with
    |none=>(Result.ok () w:Result Unit)
    |some a=>(storeCells (a.add (sLen*i.size)) news.toList).run P w).andThen fun _ w'=> .ok (.slice base (sLen+m) sCap) w':=by
 unfold Builtin.append_;simp only[h0,h1,AR,A5,Bd];simp only[Sem.run_bind,underlying,run_program,Result.andThen_ok,ht,hu,Sem.run_pure,sizeOf,typeInfo,hi,Ao,AP,hlen,Dq,Bq,An hroom,hf]
 cases base<;>simp[Result.andThen]
theorem I4 {argTypes:Array TypeId} {t u ty e:TypeId} {du:TypeDesc} {i:TypeInfo} {z:Value} (h0:argTypes[0]? =some t) (h1:argTypes[1]? =some u)
  (ht:P.underlying t=some (.slice e)) (hu:P.underlying u=some du) (hnz:∀k,du≠ .int k) (hi:P.info? e=some i) (hzero:i.zero=some z)
  {base:Option Addr} {sLen sCap m:Nat} {Y:Value} {olds news:Array Value} (hlen:(Builtin.lenOf Y).run P w= .ok m w)
  (hf:(Builtin.firstCells i.size m Y).run P w.drew= .ok news w.drew) (ho:(Builtin.firstCells i.size sLen (.slice base sLen sCap)).run P w.drew= .ok olds w.drew)
  (hroom:¬sLen+m<=sCap) (h63:sLen+m<=16777216) (hb:(sLen+m)*i.bytes<=16777216):
  (Builtin.append_ argTypes ty #[.slice base sLen sCap,Y]).run P w=
   .ok (.slice (some ⟨w.heap.size,0,none⟩) (sLen+m) (grownCap w (sLen+m) sCap e))
    (w.drew.alloc (.cells (olds++news++Builtin.zeroCells z.cells (grownCap w (sLen+m) sCap e - (sLen+m))) e)):=by
 have hfit:=growslice_fits (need:=sLen+m) (old:=sCap) (bytes:=i.bytes) (by omega) (by omega);have h63':¬(((sLen+m:Nat):Int)>IntKind.i64.max/\(False\/i.bytes=0)):=by
  have:IntKind.i64.max=9223372036854775807:=by decide
  rw[this];omega
 have hfit':¬(Builtin.nextslicecap (sLen+m) sCap*i.bytes>2 ^ 48):=by
  have:(2:Nat) ^ 48=281474976710656:=by decide
  rw[this];omega
 have hq:(Question.appendCap (sLen+m) sCap e).cut (w.tape w.drawn (.appendCap (sLen+m) sCap e))=grownCap w (sLen+m) sCap e:=rfl;unfold Builtin.append_;simp only[h0,h1,AR,A5,Bd];simp only[Sem.run_bind,underlying,run_program,Result.andThen_ok,ht,hu,Sem.run_pure,sizeOf,typeInfo,hi,Ao,AP,hlen,Dq,Bq,Ai hroom];rw[Ai (by omega)];simp only[Sem.run_bind,run_program,Result.andThen_ok,hi,Sem.run_pure];rw[Ai hfit'];simp only[Sem.run_bind,run_choose,Question.forced,Ao,AP,Result.andThen_ok,hq,World.drew_eq,run_askRoom,ho,hf,zeroValue,typeInfo,run_program,hi,hzero,Sem.run_pure,n9,World.size_drew]
theorem Cs (ok:bD P tab) {e:TypeId} {n:Nat} {u:Unit} (hz:kL tab e n= .ok u):
   ∃z,(∀E,∀i,P.info? e=some i->i.zero=some (ab E z))/\ ∀E,(ab E z).cells.size=n:=by
 obtain⟨z,h1,hzz⟩:=ai.1 hz;have hz:=hzz;obtain⟨zc,h2,hzz⟩:=ai.1 hz;have hz:=hzz;have h3:=Ab (c9.1 hz);obtain⟨i,hi,hzz⟩:=ok.jB _ _ (cg.1 h1);refine⟨z,fun E i' hi'=>?_,fun E=>?_⟩
 . rw[hi]at hi';grind
 simp_all[lI]
theorem F5 (H:bo E h K w) (hE:E.aN h.next=w.heap.size) (cs:List AV) (e:TypeId) (n c:Nat) {zs:Array Value} (hc:E.cap h.next=c)
  (hs:cs.length+zs.size=c*n):
  bo E (h.new (.cells cs e n true .rw)) K (w.alloc (.cells ((aV E cs).toArray++zs) e))/\Kept K w (w.alloc (.cells ((aV E cs).toArray++zs) e)):=
 ⟨H.new hE ⟨_,_,rfl,⟨zs.toList,by simp⟩,by simp_all,rfl⟩,Kept.alloc H.kb _⟩
theorem MU (H:bo E h K w) (hE:E.aN h.next=w.heap.size) (cs:List AV) (e:TypeId) (n c:Nat) (bk:BK) (hno:bk≠ .ro) (hbk:∀n,marks bk (0,0) n) {zs:Array Value} (hc:E.cap h.next=c)
  (hs:cs.length+zs.size=c*n):
  bo E (h.new (.cells cs e n true bk)) K (w.alloc (.cells ((aV E cs).toArray++zs) e))/\Kept K w (w.alloc (.cells ((aV E cs).toArray++zs) e)):=
 ⟨H.new hE ⟨_,_,rfl,⟨zs.toList,by simp⟩,by simp_all,hbk _⟩ (by cases bk<;>simp_all[AO.ro]),Kept.alloc H.kb _⟩
def lR (w:World) (X:Value) (m:Nat) (e:TypeId):Nat×Nat:=
 match X with
 | .slice base n c=>if n+m<=c then((base.map (·.block)).getD 0,c)else(w.heap.size,grownCap w (n+m) c e)
 |_=>(0,0)
structure iW (P:Program) (E:Env) (h:AH) (K:KS) (argTypes:Array TypeId) (ty e:TypeId) (i:TypeInfo) (Y:Value) (m:Nat) (news:List AV):Prop where
 len:news.length=m*i.size
 room:∀(w:World),bo E h K w->∀(base:Option Addr) (sLen sCap:Nat),sLen+m<=sCap->
  (Builtin.append_ argTypes ty #[.slice base sLen sCap,Y]).run P w=
   (match base with
    |none=>(Result.ok () w:Result Unit)
    |some a=>(storeCells (a.add (sLen*i.size)) (aV E news)).run P w).andThen fun _ w'=> .ok (.slice base (sLen+m) sCap) w'
 grow:∀(w:World),bo E h K w->∀(base:Option Addr) (sLen sCap:Nat) (olds:Array Value) (z:Value),i.zero=some z->
  (Builtin.firstCells i.size sLen (.slice base sLen sCap)).run P w.drew= .ok olds w.drew->
  ¬sLen+m<=sCap->sLen+m<=16777216->(sLen+m)*i.bytes<=16777216->
  (Builtin.append_ argTypes ty #[.slice base sLen sCap,Y]).run P w=
   .ok (.slice (some ⟨w.heap.size,0,none⟩) (sLen+m) (grownCap w (sLen+m) sCap e))
    (w.drew.alloc (.cells (olds++(aV E news).toArray++Builtin.zeroCells z.cells (grownCap w (sLen+m) sCap e - (sLen+m))) e))
theorem Qo {argTypes:Array TypeId} {t u ty e:TypeId} {du:TypeDesc} {i:TypeInfo} (h0:argTypes[0]? =some t) (h1:argTypes[1]? =some u)
   (ht:P.underlying t=some (.slice e)) (hu:P.underlying u=some du) (hnz:∀k,du≠ .int k) (hi:P.info? e=some i) {n m:Nat} (hin:i.size=n)
   {y:AV} {news:List AV} (hs:source h n y= .ok (m,news)):iW P E h K argTypes ty e i (ab E y) m news:=by
 obtain⟨hnl,hlen,hf⟩:=zB (P:=P) (E:=E) (K:=K) hs;have hfm:∀w:World,bo E h K w->(Builtin.firstCells i.size m (ab E y)).run P w= .ok (aV E news).toArray w:=by
   grind
 refine⟨by rw[hin];omega,?_,?_⟩
 . intro w H base sLen sCap hr;rw[I5 h0 h1 ht hu hnz hi (hlen w) (hfm w H) hr]
 . intro w H base sLen sCap olds z hz ho hr h63 hb;exact I4 h0 h1 ht hu hnz hi hz (hlen w) (hfm w.drew H.drew) ho hr h63 hb
theorem Qs {argTypes:Array TypeId} {t u ty e:TypeId} {k:IntKind} {i:TypeInfo} (h0:argTypes[0]? =some t) (h1:argTypes[1]? =some u)
   (ht:P.underlying t=some (.slice e)) (hu:P.underlying u=some (.int k)) (hi:P.info? e=some i) {z:AV} (hz:i.zero=some (ab E z)) {zc:List AV} (hzc:z.cells= .ok zc)
   (hzl:zc.length=i.size) (hi0:i.size≠0) {y:AV} {m:Nat} (hy:asNat y= .ok m) (hm:m<=1048576) (hmb:m*i.bytes<=16777216):iW P E h K argTypes ty e i (ab E y) m (rep m zc):=by
 obtain⟨ky,rfl⟩:=mw hy;have hzz:Builtin.zeroCells (ab E z).cells m=(aV E (rep m zc)).toArray:=by
   rw[lI hzc,rl];exact yU m _ (by simp;omega)
 have hrl:(rep m zc).length=m*i.size:=by
   have:=Ay List.length (rl E m zc);rw[bM,vU,bM,hzl]at this;omega
 have hwrap:IntKind.i64.wrap (m:Int)=m:=by rw[IntKind.wrap_i64];omega
 have hb48:¬((m:Int)*(i.bytes:Int)>2 ^ 48):=by
   have h3:((m*i.bytes:Nat):Int)<=((16777216:Nat):Int):=Int.ofNat_le.2 hmb;rw[Int.natCast_mul]at h3;omega
 have happ:∀w:World,(if m*i.size=0 then pure #[]else do pure (Builtin.zeroCells (<-zeroValue e).cells m):Sem (Array Value)).run P w= .ok (aV E (rep m zc)).toArray w:=by
   simp_all[AI,zeroValue,typeInfo]
 refine⟨hrl,?_,?_⟩
 . intro w H base sLen sCap hr;unfold Builtin.append_;simp only[h0,h1,AR,A5,Bd];simp only[Sem.run_bind,underlying,run_program,Result.andThen_ok,ht,hu,Sem.run_pure,sizeOf,typeInfo,hi,Bq,ab,Go.asInt,Go.asIntOf,hwrap];rw[Ai (by omega)];simp only[Sem.run_bind,run_program,Result.andThen_ok,hi,Sem.run_pure];rw[Ai hb48];simp only[Sem.run_bind,Sem.run_pure,Result.andThen_ok,DO,An hr,BN,Ao,AP];have:=happ w;simp only[zeroValue,typeInfo]at this;simp only[zeroValue,typeInfo];rw[this]
   cases base<;>simp[Result.andThen]
 . intro w H base sLen sCap olds z' hz' ho hr h63 hb;rw[hz]at hz'
   cases hz';have hfit:=growslice_fits (need:=sLen+m) (old:=sCap) (bytes:=i.bytes) (by omega) (by omega);have h63':¬(((sLen+m:Nat):Int)>IntKind.i64.max/\(True\/i.bytes=0)):=by
    have:IntKind.i64.max=9223372036854775807:=by decide
    rw[this];omega
   have hfit':¬(Builtin.nextslicecap (sLen+m) sCap*i.bytes>2 ^ 48):=by
    have:(2:Nat) ^ 48=281474976710656:=by decide
    rw[this];omega
   have hq:(Question.appendCap (sLen+m) sCap e).cut (w.tape w.drawn (.appendCap (sLen+m) sCap e))=grownCap w (sLen+m) sCap e:=rfl;unfold Builtin.append_;simp only[h0,h1,AR,A5,Bd];simp only[Sem.run_bind,underlying,run_program,Result.andThen_ok,ht,hu,Sem.run_pure,sizeOf,typeInfo,hi,Bq,ab,Go.asInt,Go.asIntOf,hwrap];rw[Ai (by omega)];simp only[Sem.run_bind,run_program,Result.andThen_ok,hi,Sem.run_pure];rw[Ai hb48];simp only[Sem.run_bind,Sem.run_pure,Result.andThen_ok,DO,Ai hr,BN,Ao,AP,run_program,hi];rw[Ai h63'];simp only[Sem.run_bind,run_program,Result.andThen_ok,hi,Sem.run_pure];rw[Ai hfit'];simp only[Sem.run_bind,run_choose,Question.forced,Ao,AP,Result.andThen_ok,hq,World.drew_eq,run_program,hi,Sem.run_pure,run_askRoom,ho];have:=happ w.drew;simp_all[zeroValue,typeInfo,n9]
include ok
theorem yV (H:bo E h K w) {argTypes:Array TypeId} {ty e:TypeId}
   {n by_ m:Nat} (hn:siz tab e= .ok n) (hn0:n≠0) (hby:tab.byt.get e=some by_)
   {x v:AV} {Y:Value} {news:List AV} {h':AH} (hsrc:∀i,P.info? e=some i->iW P E h K argTypes ty e i Y m news) (ha:bu tab h e n by_ x m news= .ok (v,h'))
   (hE:h.next<h'.next->E.aN h.next=(lR w (ab E x) m e).1/\E.cap h.next=(lR w (ab E x) m e).2):
   (h.next<=h'.next/\h'.next<=h.next+1)/\ ∃w',(Builtin.append_ argTypes ty #[ab E x,Y]).run P w= .ok (ab E v) w'/\bo E h' K w'/\Kept K w w':=by
 obtain⟨i,hi,hin⟩:=ok.siz _ _ (cg.1 hn);obtain⟨i',hi',hiby⟩:=ok.byt _ _ hby;rw[hi]at hi';cases hi';have hS:=hsrc i hi;have hnl:news.length=m*n:=by rw[<-hin];exact hS.len
 unfold bu at ha;split at ha
 ·
   by_cases hm:Nat.beq m 0=true
   . rw[hm]at ha
     cases ha;have:=Ab hm;subst this;refine⟨by omega,w,?_,H,Kept.refl K w⟩;simp only[ab];rw[hS.room w H _ _ _ (by omega)];rfl
   . have hm':Nat.beq m 0=false:=AB.2 hm;rw[hm']at ha;obtain⟨_,hc,haz⟩:=ai.1 ha;have ha:=haz;obtain⟨_,hzo,haz⟩:=ai.1 ha;have ha:=haz;obtain⟨⟨h2,b2⟩,hr,haz⟩:=ai.1 ha;have ha:=haz;cases ha;obtain⟨n',hn',rfl,rfl⟩:=gF hr;rw[hn]at hn';cases hn';have hc:=c9.1 hc;rw[Ad]at hc;have hc1:=Ak hc.1;have hc2:=Ak hc.2;have hm0:¬m<=0:=fun h=>hm (by rw[Nat.le_zero.1 h];rfl)
     obtain⟨z,hz,hzl⟩:=Cs ok hzo;have hzi:=hz E i hi;obtain⟨hE1,hE2⟩:=hE (by simp);simp only[ab,lR,AG,Ai hm0]at hE1 hE2;have hrun:=hS.grow w H none 0 0 #[] _ hzi
      (by simp[Builtin.firstCells]) (by omega) (by omega) (by rw[hiby];grind)
     obtain⟨H',hk⟩:=F5 (w:=w.drew) H.drew (by simp_all) news e n (grownCap w m 0 e) (zs:=Builtin.zeroCells (ab E z).cells (grownCap w m 0 e - m))
      (by rw[hE2]) (by
        have:=grownCap_ge w m 0 e;rw[size_zeroCells,hzl E,hnl,<-Be];grind)
     refine⟨by simp,_,?_,H',(Kept.drew K w).trans hk⟩;grind [ab,fk.val]
 . rename_i b off len cap;obtain⟨c,hc,haz⟩:=ai.1 ha;clear ha;have ha:=haz;clear haz;obtain⟨⟨cs,e',sz,ext,bk⟩,hcs,haz⟩:=ai.1 ha;clear ha;have ha:=haz;clear haz;obtain⟨_,hty,haz⟩:=ai.1 ha;clear ha;have ha:=haz;clear haz;obtain⟨_,hsz,haz⟩:=ai.1 ha;clear ha;have ha:=haz;have hcap:=wA H hc;have hcs:=fR hcs;have hty:=c9.1 hty;rw[Ad]at hty;have hty1:=Ab hty.1;have hty2:=Ab hty.2;subst hty1 hty2;have hsz:=c9.1 hsz;rw[Ad]at hsz;have hsz1:=Ak hsz.1;have hsz2:=Ak hsz.2;by_cases hroom:Nat.ble (len+m) c=true
   ·
     rw[hroom]at ha;obtain⟨h2,hw,haz⟩:=ai.1 ha;have ha:=haz;cases ha;have hle:=Ak hroom;obtain⟨w',hst,H',hk⟩:=sS (P:=P) H hw;refine⟨by rw[tf hw];omega,w',?_,H',hk⟩;simp only[ab];rw[hS.room w H _ _ _ (by omega)];simp_all[add_lit]
   . have hroom':Nat.ble (len+m) c=false:=AB.2 hroom;rw[hroom']at ha;obtain⟨_,hold,haz⟩:=ai.1 ha;clear ha;have ha:=haz;obtain⟨_,hzo,haz⟩:=ai.1 ha;have ha:=haz;have hold:=Ak (c9.1 hold);obtain⟨z,hz,hzl⟩:=Cs ok hzo;have hzi:=hz E i hi;have hnr:¬len+m<=c:=fun h=>hroom (DW h)
     have hro:∀w:World,bo E h K w->(Builtin.firstCells i.size len (.slice (some ⟨E.aN b,off,none⟩) len (cap.val (E.cap b)))).run P w= .ok (aV E ((cs.drop off).take (len*sz))).toArray w:=by
      intro w H;rw[hin];have hr:readN h b off (len*sz)= .ok ((cs.drop off).take (len*sz)):=by
        grind [readN,ai,c9]
      exact H.eX hr
     have hol:((cs.drop off).take (len*sz)).length=len*sz:=by grind
     cases cap with
     |lit cn=>
      obtain⟨⟨h2,b2⟩,hr,haz⟩:=ai.1 ha;have ha:=haz;cases ha;obtain⟨n',hn',rfl,rfl⟩:=gF hr;rw[hn]at hn';cases hn';have hcn:c=cn:=by grind [capLow]
      subst hcn;obtain⟨hE1,hE2⟩:=hE (by simp);simp only[ab,lR,fk.val,Ai hnr]at hE1 hE2;have hrun:=hS.grow w H (some ⟨E.aN b,off,none⟩) len c _ _ hzi
        (hro w.drew H.drew) hnr hsz2 (by rw[hiby];omega)
      obtain⟨H',hk⟩:=F5 (w:=w.drew) H.drew (by simp_all) ((cs.drop off).take (len*sz)++news) e sz (grownCap w (len+m) c e) (zs:=Builtin.zeroCells (ab E z).cells (grownCap w (len+m) c e - (len+m)))
        (by rw[hE2]) (by
          have:=grownCap_ge w (len+m) c e;rw[size_zeroCells,hzl E,Bu,hol,hnl,<-Be,<-Be];grind)
      refine⟨by simp,_,?_,H',(Kept.drew K w).trans hk⟩;simp_all[ab,fk.val]
     | tail k=>
      obtain⟨_,htl,haz⟩:=ai.1 ha;have ha:=haz;obtain⟨⟨h2,b2⟩,hr,haz⟩:=ai.1 ha;have ha:=haz;cases ha;obtain⟨n',hn',rfl,rfl⟩:=gF hr;rw[hn]at hn';cases hn';have htl:=c9.1 htl;simp only[Ad]at htl;obtain⟨⟨⟨⟨⟨htl1,htl2⟩,hext⟩,hbk⟩,hbk2⟩,hone⟩:=htl;have htl1:=Ab htl1;have htl2:=Ab htl2;subst htl1 htl2;have hbk:bk≠ .ro/\bk≠ .cold:=⟨by grind,by grind⟩;have hnro:¬(AO.cells cs e sz ext bk).ro:=by cases bk<;>simp_all[AO.ro]
      obtain⟨arr,fz,hh,⟨rest,harr⟩,hasz,hm⟩:=H.cells hcs;rw[An hext]at hasz;have hcl:cs.length<=arr.size:=by
        have:=Ay List.length harr;simp at this;omega
      obtain⟨hE1,hE2⟩:=hE (by simp);simp only[ab,lR,fk.val,Nat.sub_zero]at hE1 hE2;by_cases hfit:len+m<=E.cap b
      . rw[An hfit]at hE1 hE2;have hbound:(len+m)*sz<=arr.size:=by rw[hasz];simp_all[A8]
        rw[Be]at hbound;have hst:=vJ (P:=P) (E.aN b) (len*sz) e fz (aV E news) 0 arr w hh (zS hm hbk) (by simp_all)
          (by
            intro v hv;rw[mA]at hv;obtain⟨u,hu,rfl⟩:=Ar.1 hv;grind [yS])
        have e1:(arr.toList.take (len*sz+0)++aV E news++arr.toList.drop (len*sz+0+(aV E news).length)).length=arr.size:=by
          simp;omega
        refine⟨by simp,_,?_,H.rename (c:= .cells (arr.toList.take (len*sz+0)++aV E news++arr.toList.drop (len*sz+0+(aV E news).length)).toArray e fz) hcs hnro hE1 ?_ (fun hx=>by cases bk<;>exact hx),H.bK hcs hnro _⟩
        . simp only[ab,fk.val,Nat.sub_zero];rw[hS.room w H _ _ _ (by omega)];simp_all[add_lit]
        . refine⟨_,fz,rfl,⟨arr.toList.drop (len*sz+0+(aV E news).length),?_⟩,?_,?_⟩
          . simp_all[qV,Eh]
          . rw[An rfl,Bp,e1,hE2];omega
          . rw[Bp,e1]
            cases bk with
            |rw=>exact hm
            |mark=>exact .inr hm
            |any=>exact hm
            |ro=>grind
            |cold=>grind
      . rw[Ai hfit]at hE1 hE2;have hrun:=hS.grow w H (some ⟨E.aN b,0,none⟩) len (E.cap b) _ _ hzi
          (by have:=hro w.drew H.drew;simpa [fk.val]using this) hfit hsz2 (by rw[hiby];omega)
        obtain⟨H',hk⟩:=MU (w:=w.drew) (h:=h.kill b) (H.drew.kill b) (by simp_all) (cs.take (len*sz)++news) e sz (grownCap w (len+m) (E.cap b) e)
          bk.grown (by cases bk<;>simp[BK.grown]) (by cases bk<;>simp_all[marks,BK.grown])
          (zs:=Builtin.zeroCells (ab E z).cells (grownCap w (len+m) (E.cap b) e - (len+m)))
          (by simp_all) (by
            have:=grownCap_ge w (len+m) (E.cap b) e;rw[size_zeroCells,hzl E,Bu,hnl,Dx,Nat.min_eq_left (by omega),<-Be,<-Be];grind)
        refine⟨by simp,_,?_,H',(Kept.drew K w).trans hk⟩;simp_all[ab,fk.val]
 grind
end
end
section
variable [Inhabited aI]
theorem EZ {w:World} {g:Nat} {o:Obj} (hg:w.heap[g]? =some o):w.put g o=w:=by
 unfold World.put;have hlt:=(Ac.1 hg).1;have he:=(Ac.1 hg).2;have:w.heap.setIfInBounds g o=w.heap:=by
  grind
 rw[this]
section
variable {P:Program} {tab:bc} (ok:bD P tab) {E:Env} {h:AH} {K:KS} {w:World}
theorem kG {b:Nat} {es:List (AV×AV×Nat)} {c:Nat} (hm:jS h b= .ok (es,c)):h.get b=some (.mp es c):=by
 grind [jS]
theorem bo.map (H:bo E h K w) {b:Nat} {es:List (AV×AV×Nat)} {c:Nat} (hm:h.get b=some (.mp es c)):
  w.heap[E.aN b]? =some (.map (es.map (cO E)).toArray c):=by
 obtain⟨o,h1,h2⟩:=H.obj b _ hm;rw[h1,h2]
theorem kF {b c:Nat} {es:Array MapEntry} (hb:w.heap[b]? =some (.map es c)):(getObj b).run P w= .ok (.map es c) w:=by
 grind [getObj,Sem.run]
theorem ni {b c:Nat} {es:Array MapEntry} (hb:w.heap[b]? =some (.map es c)) (o:Obj):(setObj b o).run P w= .ok () (w.put b o):=by
 grind [setObj,Sem.run,World.put]
include ok
theorem IE (d:Nat) (empty:Bool) (ck:TypeId->AV->R Unit)
  (hck:∀t v u,ck t v= .ok u->∀w,(Instr.checkKey empty d t (ab E v)).run P w= .ok () w) (cs:List AV):
  ∀ (fs:List Field) (u:Unit),rC tab ck cs fs= .ok u->∀w,
    (forIn fs PUnit.unit (fun(f:Field) (_:PUnit)=>(do
     if f.name≠ "_" then
      Instr.checkKey empty d f.type (<-Go.part f.type (aV E cs).toArray f.offset)
      pure (ForInStep.yield PUnit.unit)
     else pure (ForInStep.yield PUnit.unit):Sem (ForInStep PUnit)))).run P w= .ok PUnit.unit w:=by
 intro fs;induction fs with
 |nil=>simp_all
 |cons f fs ih=>
  intro u hu w;simp only[rC]at hu;simp only[List.forIn_cons];by_cases hn:f.name≠ "_"
  . rw[An hn]at hu;obtain⟨x,hx,hu⟩:=ai.1 hu;obtain⟨_,hc,hu⟩:=ai.1 hu;simp only[An hn,Sem.run_bind,rz ok hx,Result.andThen_ok,hck _ _ _ hc,Sem.run_pure];grind
  grind
theorem Ki (empty:Bool):∀(d:Nat) (t:TypeId) (v:AV) (u:Unit),uC tab d t v= .ok u->∀(k:Nat) (w:World),
  (Instr.checkKey empty (d+k) t (ab E v)).run P w= .ok () w:=by
 intro d;induction d with
 |zero=>intro t v u hu;cases hu
 |succ d ih=>
  intro t v u hu k w;obtain⟨x,hx,hu⟩:=ai.1 hu;have hP:=ok.und t x (cg.1 hx);rw[show d+1+k=(d+k)+1 from by omega];split at hu
  . cases hu
  . cases hu
  . rename_i fs cs _;unfold Instr.checkKey;simp only[Sem.run_bind,underlying,run_program,Result.andThen_ok,hP,Sem.run_pure,ab];rw[<-Array.forIn_toList];have:=IE ok (d+k) empty (uC tab d) (fun t v u hu w=>ih t v u hu k w) cs fs.toList u hu w;rw[this];rfl
  . cases hu
  . unfold Instr.checkKey;simp only[Sem.run_bind,underlying,run_program,Result.andThen_ok,hP,Sem.run_pure];simp_all
theorem rk {t:TypeId} {v:AV} {u:Unit} (hc:ckKey tab t v 8= .ok u) (empty:Bool) (w:World):(Instr.checkKey empty 10000 t (ab E v)).run P w= .ok () w:=
 Ki ok empty 8 t v u hc 9992 w
theorem Ib {t:TypeId} {k:AV}:∀(es:List (AV×AV×Nat)) (i:Nat) (r:Option (Nat×AV×AV×Nat)),findKey tab t k es i= .ok r->∀w,
  (Instr.findAsking t (ab E k) (es.map (cO E)) i).run P w= .ok (r.map fun x=>(x.1,ab E x.2.2.1)) w:=by
 intro es;induction es with
 |nil=>intro i r hr w;cases hr;rfl
 |cons e es ih=>
  intro i r hr w;obtain⟨a,v,n⟩:=e;obtain⟨b,hb,hr⟩:=ai.1 hr;have he:=ou ok (E:=E) 8 t _ _ b hb 9992 w;simp only[AZ,Instr.findAsking,Sem.run_bind];have he':(Op.equal t (ab E k) (cO E (a,v,n)).key).run P w= .ok b w:=he;rw[he',Result.andThen_ok]
  cases b with
  |true=>cases hr;rfl
  |false=>grind
theorem Ka {t:TypeId} {d:TypeDesc} (hd:P.underlying t=some d) {k a:AV} {b:Bool} (hb:eqT tab 8 t k a= .ok b) {b':Bool}
   (hs:Instr.sameNow d (ab E k) (ab E a)=some b'):b'=b:=by
 have h1:=ou ok (E:=E) 8 t k a b hb 0 default;obtain⟨n,hn⟩:∃n,8+0=n+1:=⟨7,rfl⟩;rw[hn]at h1;generalize ab E k=X at*
 generalize ab E a=Y at*
 unfold Instr.sameNow at hs;split at hs
 . split at hs
   . cases hs;rename_i e;subst e;simp only[Op.equalIn,Sem.run_bind,underlying,run_program,Result.andThen_ok,hd,Sem.run_pure,Bq]at h1;grind
   grind
 . cases hs;simp only[Op.equalIn,Sem.run_bind,underlying,run_program,Result.andThen_ok,hd,Sem.run_pure]at h1;grind
 . cases hs;simp only[Op.equalIn,Sem.run_bind,underlying,run_program,Result.andThen_ok,hd,Sem.run_pure]at h1;grind
 grind
theorem Ko {t:TypeId} {d:TypeDesc} (hd:P.underlying t=some d) {k:AV}:∀(es:List (AV×AV×Nat)) (i:Nat) (r:Option (Nat×AV×AV×Nat)),findKey tab t k es i= .ok r->∀r',
  Instr.findNow d (ab E k) (es.map (cO E)) i=some r'->r'=r.map fun x=>(x.1,ab E x.2.2.1):=by
 intro es;induction es with
 |nil=>grind [findKey,Instr.findNow]
 |cons e es ih=>
  grind [findKey,ai,Instr.findNow,cO,Ka]
theorem mj {t:TypeId} {d:TypeDesc} (hd:P.underlying t=some d) {k:AV} {es:List (AV×AV×Nat)} {r:Option (Nat×AV×AV×Nat)} (hr:findKey tab t k es 0= .ok r) (w:World):
  (Instr.findKey t (ab E k) (es.map (cO E))).run P w= .ok (r.map fun x=>(x.1,ab E x.2.2.1)) w:=by
 unfold Instr.findKey;simp only[Sem.run_bind,underlying,run_program,Result.andThen_ok,hd,Sem.run_pure]
 cases hn:Instr.findNow d (ab E k) (es.map (cO E)) 0 with
 |none=>grind [Ib]
 |some r'=>rw[Ko ok hd es 0 r hr r' hn];rfl
omit ok in
theorem wj {t:TypeId} {k:AV}:∀(es:List (AV×AV×Nat)) (i:Nat) (j:Nat) (a v:AV) (n:Nat),findKey tab t k es i= .ok (some (j,a,v,n))->i<=j/\es[j - i]? =some (a,v,n):=by
 intro es;induction es with
 |nil=>grind [findKey]
 | cons e es ih=>
  intro i j a v n h;obtain⟨a',v',n'⟩:=e;obtain⟨b,hb,h⟩:=ai.1 h
  cases b with
  |true=>simp_all
  |false=>
   grind
omit ok in
theorem Iu (H:bo E h K w) {m:AV} {es:List (AV×AV×Nat)} (he:entriesOf h m= .ok es):
   (ab E m= .map none/\es=[])\/ ∃b c,m= .map b/\h.get b=some (.mp es c)/\w.heap[E.aN b]? =some (.map (es.map (cO E)).toArray c):=by
 unfold entriesOf at he;split at he
 . cases he;exact .inl ⟨rfl,rfl⟩
 . obtain⟨⟨es',c⟩,hm,he⟩:=ai.1 he
   cases he;exact .inr ⟨_,c,rfl,kG hm,H.map (kG hm)⟩
 grind
theorem JY (H:bo E h K w) {t:TypeId} {m k v:AV} {c:Bool} (hl:lookup tab h t m k c= .ok v):
   (Instr.lookup t (ab E m) (ab E k) c).run P w= .ok (ab E v) w:=by
 obtain⟨d,hd,hl⟩:=ai.1 hl;have hP:=ok.und t d (cg.1 hd);split at hl
 . rename_i kt et;obtain⟨es,hes,hl⟩:=ai.1 hl;obtain⟨_,hck,hl⟩:=ai.1 hl;obtain⟨r,hr,hl⟩:=ai.1 hl;have hkd:∃kd,P.underlying kt=some kd:=by
     obtain⟨x,hx,_⟩:=ai.1 hck;exact⟨x,ok.und _ _ (cg.1 hx)⟩
   obtain⟨kd,hkd⟩:=hkd;have hfind:=mj ok (E:=E) hkd hr w;have hck':∀b,(Instr.checkKey b 10000 kt (ab E k)).run P w= .ok () w:=fun b=>rk ok (E:=E) hck b w
   have hend:(match r.map (fun x=>(x.1,ab E x.2.2.1))with
      |some (_,v)=>do
       let x<-pure (v,true)
       pure (if c then Value.tuple #[x.1, .bool x.2]else x.1)
      |none=>do
       let z<-zeroValue et
       let x<-pure (z,false)
       pure (if c then Value.tuple #[x.1, .bool x.2]else x.1):Sem Value).run P w= .ok (ab E v) w:=by
     cases r with
     |some x=>
      obtain⟨i,a,v',n⟩:=x
      cases hl
      cases c<;>rfl
     |none=>
      obtain⟨z,hz,hl⟩:=ai.1 hl
      cases hl;simp only[Bk,Sem.run_bind,Sem.run_pure,Result.andThen_ok,ot ok hz E]
      cases c<;>rfl
   unfold Instr.lookup;simp only[Sem.run_bind,underlying,run_program,Result.andThen_ok,hP,Sem.run_pure];rcases Iu H hes with⟨h1,rfl⟩|⟨b,c',rfl,_,h2⟩
   . rw[h1];grind [Sem.run_bind,Result.andThen_ok]
   . simp only[ab,Sem.run_bind,kF h2,Sem.run_pure,Result.andThen_ok,hck',hfind];omega
 grind
theorem zb {v:AV} (hv:uZ v=true) (n:Nat):Instr.sameBits n (ab E v) (ab E v)=true:=by
 cases v<;>simp only[uZ]at hv<;>(try cases hv)<;>cases n<;>simp[ab,Instr.sameBits,beq_toListBytes]
theorem KU {v:AV} (hv:rP v=true) (n:Nat):Instr.sameBits (n+1) (ab E v) (ab E v)=true:=by
 cases v<;>simp only[rP]at hv<;>(try exact zb ok hv (n+1))
 simp only[ab,Instr.sameBits,Du,A9,Aq];grind [List,mA,zb]
theorem yy {k:AV} (hk:rP k=true) (w:World):(Instr.keyThatStays (ab E k) (ab E k)).run P w= .ok (ab E k) w:=by
 have:Instr.sameBits 10000 (ab E k) (ab E k)=true:=KU ok hk 9999;grind [Instr.keyThatStays,Sem.run_pure]
omit ok in
theorem Lb {es:List (AV×AV×Nat)} {i:Nat} {a v x:AV} {n:Nat} (hi:es[i]? =some (a,v,n)):
  (es.map (cO E)).toArray.modify i (fun e=>{e with key:=ab E a,val:=ab E x})=((setAt es i (a,x,n)).map (cO E)).toArray:=by
 apply Array.ext';rw[De];induction es generalizing i with
 |nil=>grind
 | cons e es ih=>
  cases i with
  |zero=>
   grind [setAt,cO]
  |succ i=>
   grind [setAt]
theorem yG (H:bo E h K w) {t:TypeId} {m k x:AV} {h':AH} (hl:mapUpdate tab h t m k x= .ok h'):
   h'.next=h.next/\ ∃w',(Instr.mapUpdate t (ab E m) (ab E k) (ab E x)).run P w= .ok () w'/\bo E h' K w'/\Kept K w w':=by
 obtain⟨d,hd,hl⟩:=ai.1 hl;have hP:=ok.und t d (cg.1 hd);split at hl
 . rename_i kt et b _;obtain⟨⟨es,c⟩,hm,hl⟩:=ai.1 hl;obtain⟨_,hck,hl⟩:=ai.1 hl;obtain⟨r,hr,hl⟩:=ai.1 hl;have hm:=kG hm;have hw:=H.map hm;have hnr:¬(AO.mp es c).ro:=fun h=>h
   obtain⟨kd,hkd⟩:∃kd,P.underlying kt=some kd:=by
    obtain⟨x,hx,_⟩:=ai.1 hck;exact⟨x,ok.und _ _ (cg.1 hx)⟩
   have hfind:=mj ok (E:=E) hkd hr w;have hck':=rk ok (E:=E) hck false w;have hgo:(Instr.mapUpdate t (ab E (.map b)) (ab E k) (ab E x)).run P w=(match r.map (fun x=>(x.1,ab E x.2.2.1))with
     |some (i,_)=>do
      let key<-Instr.keyThatStays ((((es.map (cO E)).toArray[i]?).map (·.key)).getD (ab E k)) (ab E k)
      setObj (E.aN b) (.map ((es.map (cO E)).toArray.modify i fun e=>{e with key,val:=ab E x}) c)
     |none=>setObj (E.aN b) (.map ((es.map (cO E)).toArray.push {key:=ab E k,val:=ab E x,born:=c}) (c+1)):Sem Unit).run P w:=by
    unfold Instr.mapUpdate;simp only[Sem.run_bind,underlying,run_program,Result.andThen_ok,hP,Sem.run_pure,ab,kF hw,hck',hfind]
    cases r<;>rfl
   rw[hgo]
   cases r with
   | some y=>
    obtain⟨i,a,v,n⟩:=y;obtain⟨_,hb,hl⟩:=ai.1 hl
    cases hl;have hb:=c9.1 hb;rw[Ad]at hb;have:=lE _ _ hb.1;obtain⟨_,hat⟩:=wj es 0 i a v n hr;have hkey:(((es.map (cO E)).toArray[i]?).map (·.key)).getD (ab E a)=ab E a:=by
     grind [cO]
    refine⟨rfl,_,?_,H.put hm hnr (c:= .map ((setAt es i (a,x,n)).map (cO E)).toArray c) rfl,H.bK hm hnr _⟩;grind [Sem.run_bind,yy,Result.andThen_ok,ni,Lb]
   |none=>
    cases hl;refine⟨rfl,_,?_,H.put hm hnr (c:= .map ((es++[(k,x,c)]).map (cO E)).toArray (c+1)) rfl,H.bK hm hnr _⟩;grind [ni,cO]
 grind
theorem I9 (H:bo E h K w) {t:TypeId} {m k v:AV} {h':AH} (hl:mapEntry tab h t m k= .ok (v,h')):
   h'.next=h.next/\ ∃w',(Instr.mapEntry t (ab E m) (ab E k)).run P w= .ok (ab E v) w'/\bo E h' K w'/\Kept K w w':=by
 obtain⟨d,hd,hl⟩:=ai.1 hl;have hP:=ok.und t d (cg.1 hd);split at hl
 . rename_i kt et b _;obtain⟨⟨es,c⟩,hm,hl⟩:=ai.1 hl;obtain⟨_,hck,hl⟩:=ai.1 hl;obtain⟨r,hr,hl⟩:=ai.1 hl;have hm:=kG hm;have hw:=H.map hm;have hnr:¬(AO.mp es c).ro:=fun h=>h
   obtain⟨kd,hkd⟩:∃kd,P.underlying kt=some kd:=by
    obtain⟨x,hx,_⟩:=ai.1 hck;exact⟨x,ok.und _ _ (cg.1 hx)⟩
   have hfind:=mj ok (E:=E) hkd hr w;have hck':=rk ok (E:=E) hck false w
   cases r with
   | some y=>
    obtain⟨i,a,v',n⟩:=y;obtain⟨_,hb,hl⟩:=ai.1 hl
    cases hl;have hb:=c9.1 hb;rw[Ad]at hb;have:=lE _ _ hb.1;subst this;obtain⟨_,hat⟩:=wj es 0 i a v' n hr;refine⟨rfl,w,?_,H,Kept.refl K w⟩;have hsame:(es.map (cO E)).toArray.modify i (fun e=>{e with key:=ab E a})=(es.map (cO E)).toArray:=by
     grind [cO]
    unfold Instr.mapEntry;simp only[Sem.run_bind,underlying,run_program,Result.andThen_ok,hP,Sem.run_pure,ab,kF hw,hck',hfind,A0];have hkey:(((es.map (cO E)).toArray[i]?).map (·.key)).getD (ab E a)=ab E a:=by
     grind
    have hati:(es.map (cO E)).toArray[i]? =some (cO E (a,v',n)):=by grind
    rw[hkey];simp only[yy ok hb.2,Result.andThen_ok,hsame,ni hw,EZ hw,hati,A0,Bl];rfl
   |none=>
    obtain⟨z,hz,hl⟩:=ai.1 hl
    cases hl;refine⟨rfl,_,?_,H.put hm hnr (c:= .map ((es++[(k,z,c)]).map (cO E)).toArray (c+1)) rfl,H.bK hm hnr _⟩;unfold Instr.mapEntry;simp only[Sem.run_bind,underlying,run_program,Result.andThen_ok,hP,Sem.run_pure,ab,kF hw,hck',hfind,Bk,ot ok hz E,ni hw];simp[cO,ab,goInt,Go.goInt]
 grind
omit ok in
theorem Jz {n:Nat} {x:AV}:∀(es es':List (AV×AV×Nat)),rr n x es=some es'->
  ∃ i,(es.map (cO E)).findIdx? (fun e=>(e.born:Int)==(n:Int))=some i/\
    (es.map (cO E)).modify i (fun e=>{e with val:=ab E x})=es'.map (cO E):=by
 intro es;induction es with
 |nil=>grind [rr]
 |cons e es ih=>
  intro es' h;obtain⟨a,v,m⟩:=e;simp only[rr]at h;by_cases hb:Nat.beq m n=true
  . rw[hb]at h
    cases h;have:=Ab hb;simp_all[D6,cO]
  grind [Option.map_eq_some_iff,Int.ofNat.inj,Nat.beq_refl,cO]
theorem Io (H:bo E h K w) {t:TypeId} {m s x:AV} {h':AH} (hl:entryStore h m s x= .ok h'):
   h'.next=h.next/\ ∃w',(Instr.entryStore t (ab E m) (ab E s) (ab E x)).run P w= .ok () w'/\bo E h' K w'/\Kept K w w':=by
 unfold entryStore at hl;split at hl
 . obtain⟨⟨es,c⟩,hm,hl⟩:=ai.1 hl;obtain⟨n,hn,hl⟩:=ai.1 hl;obtain⟨es',he,hl⟩:=ai.1 hl
   cases hl;have hm:=kG hm;have hw:=H.map hm;have hnr:¬(AO.mp es c).ro:=fun h=>h
   obtain⟨k,rfl⟩:=mw hn;obtain⟨i,h1,h2⟩:=Jz (E:=E) es es' (cg.1 he);refine⟨rfl,_,?_,H.put hm hnr (c:= .map (es'.map (cO E)).toArray c) rfl,H.bK hm hnr _⟩;unfold Instr.entryStore;have h1':(es.map (cO E)).toArray.findIdx? (fun e=>(e.born:Int)==(n:Int))=some i:=by
    grind
   have h2':(es.map (cO E)).toArray.modify i (fun e=>{e with val:=ab E x})=(es'.map (cO E)).toArray:=by
    grind
   simp only[ab,Sem.run_bind,kF hw,Result.andThen_ok,Go.asInt,Go.asIntOf,Sem.run_pure,h1',h2',ni hw]
 grind
theorem Kk (H:bo E h K w) {argTypes:Array TypeId} {t ty:TypeId} (h0:argTypes[0]? =some t) {m k:AV} {h':AH} (hl:delete tab h t m k= .ok h'):
   h'.next=h.next/\ ∃w',(Builtin.delete_ argTypes ty #[ab E m,ab E k]).run P w= .ok (.tuple #[]) w'/\bo E h' K w'/\Kept K w w':=by
 obtain⟨d,hd,hl⟩:=ai.1 hl;have hP:=ok.und t d (cg.1 hd);split at hl
 . obtain⟨_,hck,hl⟩:=ai.1 hl
   cases hl;refine⟨rfl,w,?_,H,Kept.refl K w⟩;have hck':=rk ok (E:=E) hck true w;simp_all[Builtin.delete_,underlying,ab]
 . rename_i kt et b _;obtain⟨⟨es,c⟩,hm,hl⟩:=ai.1 hl;obtain⟨_,hck,hl⟩:=ai.1 hl;obtain⟨r,hr,hl⟩:=ai.1 hl;have hm:=kG hm;have hw:=H.map hm;have hnr:¬(AO.mp es c).ro:=fun h=>h
   obtain⟨kd,hkd⟩:∃kd,P.underlying kt=some kd:=by
    obtain⟨x,hx,_⟩:=ai.1 hck;exact⟨x,ok.und _ _ (cg.1 hx)⟩
   have hfind:=mj ok (E:=E) hkd hr w;have hck':=rk ok (E:=E) hck (es.map (cO E)).toArray.isEmpty w
   cases r with
   | some y=>
    obtain⟨i,a,v',n⟩:=y
    cases hl;refine⟨rfl,_,?_,H.put hm hnr (c:= .map ((es.take i++es.drop (i+1)).map (cO E)).toArray c) rfl,H.bK hm hnr _⟩;obtain⟨_,hat⟩:=wj es 0 i a v' n hr;have hlt:i<es.length:=(Ah.1 hat).1;have her:(es.map (cO E)).toArray.eraseIdxIfInBounds i=((es.take i++es.drop (i+1)).map (cO E)).toArray:=by
     grind
    unfold Builtin.delete_;simp only[h0,AR,A5,Bd,Sem.run_bind,underlying,run_program,Result.andThen_ok,hP,Sem.run_pure,ab,hck',kF hw,hfind,A0,ni hw,her]
   |none=>
    cases hl;refine⟨rfl,w,?_,H,Kept.refl K w⟩;unfold Builtin.delete_;simp only[h0,AR,A5,Bd,Sem.run_bind,underlying,run_program,Result.andThen_ok,hP,Sem.run_pure,ab,hck',kF hw,hfind,Bk,ni hw,EZ hw]
 grind
theorem Je (H:bo E h K w) {t:TypeId} {x v:AV} {h':AH} (hl:xr tab h t x= .ok (v,h')) (hE:E.aN h.next=w.heap.size):
   h'.next=h.next+1/\ ∃w',(Instr.range t (ab E x)).run P w= .ok (ab E v) w'/\bo E h' K w'/\Kept K w w':=by
 obtain⟨d,hd,hl⟩:=ai.1 hl;have hP:=ok.und t d (cg.1 hd);split at hl
 . cases hl;refine⟨rfl,_,?_,H.new hE rfl,Kept.alloc H.kb _⟩;simp_all[Instr.range,underlying,ab]
 . cases hl;refine⟨rfl,_,?_,H.new hE rfl,Kept.alloc H.kb _⟩;simp_all[Instr.range,underlying,ab]
 . obtain⟨⟨es,c⟩,hm,hl⟩:=ai.1 hl
   cases hl;have hw:=H.map (kG hm);refine⟨rfl,_,?_,H.new hE rfl,Kept.alloc H.kb _⟩;unfold Instr.range;simp only[Sem.run_bind,underlying,run_program,Result.andThen_ok,hP,Sem.run_pure,ab,kF hw,run_newObj,hE];rfl
 grind
end
end
section
variable [Inhabited aI]
section
variable {P:Program} {tab:bc} (ok:bD P tab) {E:Env} {h:AH} {K:KS} {w:World}
theorem ov {ts:T AV} {ρ:Operand->Value} (hρ:∀x v,ev ts x= .ok v->ρ x=ab E v):∀(l:List Operand) (vs:List AV),iI ts l= .ok vs->l.map ρ=aV E vs:=by
 intro l;induction l with
 |nil=>simp_all[iI]
 |cons x l ih=>
  intro vs h;obtain⟨v,hv,h⟩:=ai.1 h;obtain⟨vs',hvs,h⟩:=ai.1 h
  cases h;simp_all
theorem zl {ts:T AV} {ρ:Operand->Value} (hρ:∀x v,ev ts x= .ok v->ρ x=ab E v):∀(l:List (Nat×Operand)) (vs:List (Nat×AV)),ke ts l= .ok vs->
  l.map (fun p=>(p.1,ρ p.2))=vs.map fun p=>(p.1,ab E p.2):=by
 intro l;induction l with
 |nil=>grind [ke]
 |cons x l ih=>
  grind [ke,ai]
theorem find_born {n:Nat} {x:AV×AV×Nat}:∀(es:List (AV×AV×Nat)),es.find? (fun x=>Nat.beq x.2.2 n)=some x->(es.map (cO E)).find? (fun e=>e.born==n)=some (cO E x):=by
 intro es;induction es with
 |nil=>grind
 |cons e es ih=>
  grind [cO,Nat.eq_of_beq_eq_true]
theorem Jy (H:bo E h K w) {it v:AV} (he:xy h it= .ok v):(Instr.entry (ab E it)).run P w= .ok (ab E v) w:=by
 unfold xy at he;split at he
 . rename_i r;split at he
   . rename_i m since seen stepped hr;obtain⟨⟨es,c⟩,hm,he⟩:=ai.1 he;obtain⟨_,hck,he⟩:=ai.1 he;obtain⟨n,hn,he⟩:=ai.1 he;obtain⟨x,hx,he⟩:=ai.1 he
     cases he;have hw:=H.map (kG hm);obtain⟨o,ho,hoo⟩:=H.obj r _ hr;simp only[kr]at hoo;have hc:=Ab (c9.1 hck);have hn:=cg.1 hn;have hx:=cg.1 hx;have hget:(getObj (E.aN r)).run P w= .ok (.mapIter (some (E.aN m)) since seen.toArray c) w:=by
      grind [getObj,Sem.run]
     have hb:seen.toArray.back? =some n:=by grind
     have hf:(es.map (cO E)).toArray.find? (fun e=>e.born==n)=some (cO E x):=by
      rw[List.find?_toArray];exact find_born es hx
     unfold Instr.entry;simp only[ab,Sem.run_bind,hget,Result.andThen_ok,hb,kF hw,bne_self_eq_false,Ao,AP,hf,Sem.run_pure];rfl
   grind
 grind
theorem J0 {k:IntKind}:∀(l:List AV) (x:Int) (v:AV),qh k x l= .ok v->((aV E l).foldlM Builtin.min2 (.int k x)).run P w= .ok (ab E v) w:=by
 intro l;induction l with
 |nil=>intro x v h;cases h;rfl
 |cons a l ih=>
  intro x v h
  cases a<;>simp only[qh]at h<;>(try cases h)
  grind [bF,ab,Builtin.min2]
theorem JZ {k:IntKind}:∀(l:List AV) (x:Int) (v:AV),qg k x l= .ok v->((aV E l).foldlM Builtin.max2 (.int k x)).run P w= .ok (ab E v) w:=by
 intro l;induction l with
 |nil=>intro x v h;cases h;rfl
 |cons a l ih=>
  intro x v h
  cases a<;>simp only[qg]at h<;>(try cases h)
  grind [bF,ab,Builtin.max2]
theorem IK (H:bo E h K w) {argTypes:Array TypeId} {type:TypeId} {x v:AV} {h':AH} (hs:wy h x= .ok (v,h')):
   h'=h/\(Builtin.unsafeSliceData_ argTypes type #[ab E x]).run P w= .ok (ab E v) w:=by
 unfold wy at hs;split at hs
 . cases hs;exact⟨rfl,rfl⟩
 . rename_i b off n cap;obtain⟨c,hc,hs⟩:=ai.1 hs;obtain⟨_,h0,hs⟩:=ai.1 hs
   cases hs;refine⟨rfl,?_⟩;have hcap:=wA H hc;have h0:=c9.1 h0;have:cap.val (E.cap b)≠0:=by
    intro e;rw[e]at hcap;have:c=0:=by omega
    simp_all
   obtain⟨k,hk⟩:∃k,cap.val (E.cap b)=k+1:=⟨cap.val (E.cap b) - 1,by omega⟩;simp only[ab];rw[hk];rfl
 grind
theorem II:∀(cs:List AV) (s acc:List UInt8) (b off:Nat),bytesOf cs= .ok s->(∀j v,(aV E cs)[j]? =some v->w.cell? ⟨b,off+j,none⟩=some v)->
  (Go.loadBytes ⟨b,off,none⟩ ⟨acc.toArray⟩ cs.length).run P w= .ok ⟨(acc++s).toArray⟩ w:=by
 intro cs;induction cs with
 |nil=>simp_all[bytesOf,Go.loadBytes]
 |cons c cs ih=>
  intro s acc b off hs hc;unfold bytesOf at hs;split at hs
  . grind
  . rename_i n l e
    cases e;obtain⟨r,hr,hs⟩:=ai.1 hs
    cases hs;have h0:=hc 0 (.int .u8 n) rfl;simp only[BJ]at h0;simp only[AX,Go.loadBytes,Sem.run_bind,run_load,h0,Result.andThen_ok,add_lit];have hp:(⟨acc.toArray⟩:ByteArray).push ((Int.toNat (n:Int)).toUInt8)=⟨(acc++[UInt8.ofNat n]).toArray⟩:=by
     grind [ByteArray.push]
    have hp':(⟨acc.toArray⟩:ByteArray).push ((Int.ofNat n).toNat.toUInt8)=⟨(acc++[UInt8.ofNat n]).toArray⟩:=hp;rw[show((n:Int).toNat.toUInt8)=(Int.ofNat n).toNat.toUInt8 from rfl,hp'];rw[ih r (acc++[UInt8.ofNat n]) b (off+1) hr (fun j v hv=>by
     rw[show off+1+j=off+(j+1)from by omega];simp_all)]
    simp
  grind
theorem Ci (P:Program):∃d,P.depth=d+1:=⟨2*(P.types.size+Made.depth)+1,rfl⟩
theorem JG {e count off n:Nat} (hs:P.cellsOf e=1) (hl:off+n<=count):liesAt P P.depth e count off e n=true:=by
 obtain⟨d,hd⟩:=Ci P;have h1:sameLayout P P.depth e e=true:=by
  rw[hd];simp[sameLayout]
 have h2:rowAt P (sameLayout P P.depth · e) P.depth e count off n=true:=by
  simp_all[rowAt,Nat.mod_one]
 grind [liesAt]
theorem Gg (argTypes:Array TypeId) (ty:TypeId) (p:Option Addr) (y:Value):Builtin.unsafeString_ argTypes ty #[.pointer p,y]=(do
 let n<-Go.asInt y
 let some pt:=argTypes[0]? |stuck "unsafe.String: no argument types"
 if n<0 then runtimePanic (.error "unsafe.String: len out of range")
 if n>IntKind.i64.max then unsupported (.unsafePointer "String: a length above the largest int")
 match p with
 |none=>
  if n=0 then pure (.string .empty)
  else runtimePanic (.error "unsafe.String: ptr is nil and len is not zero")
 | some a=>
  if n=0 then pure (.string .empty)
  else if<-variablesAt a (<-elemOf pt) n.toNat then do
   let s<-loadBytes a .empty n.toNat
   freeze a n.toNat
   pure (.string s)
  else unsupported (.unsafePointer "String: not so many bytes at ptr")):=rfl
theorem Gh {argTypes:Array TypeId} {t ty:TypeId} (h0:argTypes[0]? =some t) (p:Option Addr) (k:IntKind):(Builtin.unsafeString_ argTypes ty #[.pointer p, .int k (0:Nat)]).run P w= .ok (.string .empty) w:=by
 rw[Gg];have:¬((0:Int)>IntKind.i64.max):=by decide
 cases p<;>simp[h0,Go.asInt,Go.asIntOf]
theorem NW {argTypes:Array TypeId} {t ty u:TypeId} (h0:argTypes[0]? =some t) (ht:P.underlying t=some (.pointer u)) (a:Addr) (k:IntKind) {n:Nat} (hn:n≠0) (hl:n<=1048576)
  (hv:(variablesAt a u n).run P w= .ok true w) {s:ByteArray} (hs:(Go.loadBytes a .empty n).run P w= .ok s w):
  (Builtin.unsafeString_ argTypes ty #[.pointer (some a), .int k (n:Nat)]).run P w= .ok (.string s) (w.freeze a n):=by
 rw[Gg];have h1:¬((n:Int)>IntKind.i64.max):=by
  have:IntKind.i64.max=9223372036854775807:=by decide
  rw[this];omega
 have h2:¬((n:Int)<0):=by omega
 have h3:¬((n:Int)=0):=by omega
 simp[h0,Go.asInt,Go.asIntOf,hn,elemOf,underlying,ht,hv,hs,Go.freeze,Sem.run];rw[Ai h2,Ai (by omega)]
include ok in
theorem H7 (H:bo E h K w) {argTypes:Array TypeId} {t ty:TypeId} (h0:argTypes[0]? =some t) {x y v:AV} {h':AH} (hs:unsafeString tab h t x y= .ok (v,h')):
   h'.next=h.next/\ ∃w',(Builtin.unsafeString_ argTypes ty #[ab E x,ab E y]).run P w= .ok (ab E v) w'/\bo E h' K w'/\Kept K w w':=by
 obtain⟨n,hn,hs1⟩:=ai.1 hs;obtain⟨_,hl,hs2⟩:=ai.1 hs1;have hl:=Ak (c9.1 hl);obtain⟨k,rfl⟩:=mw hn;split at hs2
 . obtain⟨_,hz,hs3⟩:=ai.1 hs2
   cases hs3;have hz:=Ab (c9.1 hz);subst hz;exact⟨rfl,w,Gh h0 none k,H,Kept.refl K w⟩
 . rename_i b off;by_cases hn0:n=0
   . subst hn0
     cases hs2;exact⟨rfl,w,Gh h0 _ k,H,Kept.refl K w⟩
   . have hnb:Nat.beq n 0=false:=by
       grind [Nat.eq_of_beq_eq_true]
     simp only[hnb,AQ]at hs2;obtain⟨d,hd,hs3⟩:=ai.1 hs2;have hP:=ok.und t d (cg.1 hd);split at hs3
     . obtain⟨⟨cs,e,sz,ext,bk⟩,hca,hs4⟩:=ai.1 hs3;obtain⟨n1,hn1,hs5⟩:=ai.1 hs4;obtain⟨_,hck,hs6⟩:=ai.1 hs5;obtain⟨l,hr,hs7⟩:=ai.1 hs6;obtain⟨s,hbytes,hs8⟩:=ai.1 hs7
       cases hs8;have hck:=c9.1 hck;simp only[Ad]at hck;obtain⟨⟨⟨he,h1⟩,hbk⟩,hbk2⟩:=hck;have he:=Ab he;have h1:=Ab h1;subst he h1;obtain⟨i,hi,hi1⟩:=ok.siz e 1 (cg.1 hn1);have hcells:P.cellsOf e=1:=by grind [Program.cellsOf]
       have hc:=fR hca;obtain⟨arr,fz,hw,hrest,hext,hmk⟩:=H.cells hc;have hnr:¬(AO.cells cs e sz ext bk).ro:=by cases bk<;>simp_all[AO.ro]
       obtain⟨hll,hlc⟩:=H.fO hr;have hlen:l.length=n:=by simp_all
       have hsz:off+n<=arr.size:=by
         have h3:=hlc (n - 1) ((aV E l)[n-1]'(by omega)) (by simp);rw[add_lit,cell_of_row w _ _ arr e fz hw]at h3;have:=(Ac.1 h3).1;omega
       have hat:(variablesAt ⟨E.aN b,off,none⟩ e n).run P w= .ok true w:=by
         simp_all[variablesAt,World.shape?,JG]
       have hld:=II (P:=P) (w:=w) (E:=E) l s [] (E.aN b) off hbytes (fun j v hv=>by rw[<-add_lit];grind);rw[hlen]at hld;have hfz:w.freeze ⟨E.aN b,off,none⟩ n=w.put (E.aN b) (.cells arr e (if fz.1==fz.2 then(off,off+n)else(min fz.1 off,max fz.2 (off+n)))):=by
         obtain⟨lo,hi'⟩:=fz;unfold World.freeze World.put;rw[Ai hn0];congr 1
         grind
       refine⟨rfl,_,NW h0 hP _ k hn0 hl hat hld,?_,?_⟩
       . rw[hfz];exact H.put hc hnr ⟨arr,_,rfl,hrest,hext,trivial⟩
       . rw[hfz];exact H.bK hc hnr _
     grind
 grind
def kx (P:Program) (w:World) (b:Builtin) (argTypes:Array TypeId) (X:Value) (m:Nat):Nat×Nat:=
 match b with
 | .append=>lR w X m (P.elem (argTypes.getD 0 0))
 |_=>(w.heap.size,0)
def rQ:List AV->Nat
 |[_, .str s]=>s.length
 |[_, .sl _ _ n _]=>n
 |[_, .int _ (.ofNat n)]=>n
 |_=>0
include ok
theorem IQ (H:bo E h K w) {b:Builtin} {argTypes:Array TypeId} {args:List AV} {v:AV} {h':AH} (hb:builtin tab b argTypes args h= .ok (v,h'))
   (hE:h.next<h'.next->E.aN h.next=(kx P w b argTypes (((aV E args)[0]?).getD undef) (rQ args)).1/\E.cap h.next=(kx P w b argTypes (((aV E args)[0]?).getD undef) (rQ args)).2)
   (ty:TypeId) (consts:Array Bool):
   (h.next<=h'.next/\h'.next<=h.next+1)/\ ∃w',(Go.builtin b argTypes ty consts (aV E args).toArray).run P w= .ok (.value (ab E v)) w'/\bo E h' K w'/\Kept K w w':=by
 unfold builtin at hb;split at hb
 ·
   rename_i x;obtain⟨t,ht,hb⟩:=ai.1 hb;obtain⟨u,hu,hb⟩:=ai.1 hb;have ht:=cg.1 ht;have hP:=ok.und t u (cg.1 hu);have hgo:∀(n:Nat),(Builtin.len_ argTypes ty (aV E [x]).toArray).run P w= .ok (Go.goInt n) w->
       (Go.builtin .len argTypes ty consts (aV E [x]).toArray).run P w= .ok (.value (ab E (goInt n))) w:=by
     intro n hn;simp only[Go.builtin,Sem.run_bind,hn,Result.andThen_ok,Sem.run_pure];rfl
   split at hb
   . rename_i e;obtain⟨d,hd,hb⟩:=ai.1 hb;have hPe:=ok.und e d (cg.1 hd);split at hb
     . cases hb;refine⟨by omega,w,hgo _ ?_,H,Kept.refl K w⟩;unfold Builtin.len_;simp_all[underlying]
     grind
   . obtain⟨n,hn,hb⟩:=ai.1 hb
     cases hb;refine⟨by omega,w,hgo _ ?_,H,Kept.refl K w⟩;unfold Builtin.len_;unfold lenOf at hn;split at hn<;>(try cases hn)
     case h_7=>
       obtain⟨⟨es,c⟩,hm,hn⟩:=ai.1 hn
       cases hn;have hw:=H.map (kG hm);simp[ht,underlying,hP,ab,kF hw]
     all_goals simp[ht,underlying,hP,ab,nu]
 ·
   rename_i x;obtain⟨t,ht,hb⟩:=ai.1 hb;obtain⟨u,hu,hb⟩:=ai.1 hb;have ht:=cg.1 ht;have hP:=ok.und t u (cg.1 hu);split at hb
   . cases hb;refine⟨by omega,w,?_,H,Kept.refl K w⟩;simp[Go.builtin,Builtin.cap_,ht,underlying,hP,ab,goInt,Go.goInt]
   . cases hb;refine⟨by omega,w,?_,H,Kept.refl K w⟩;simp[Go.builtin,Builtin.cap_,ht,underlying,hP,ab,goInt,Go.goInt,fk.val]
   grind
 ·
   rename_i x y;obtain⟨t,ht,hb⟩:=ai.1 hb;obtain⟨u,hu,hb⟩:=ai.1 hb;have ht:=cg.1 ht;have hu:=cg.1 hu;obtain⟨du,hdu,hb⟩:=ai.1 hb;have hPu:=ok.und u du (cg.1 hdu);split at hb
   . rename_i ki _;obtain⟨dt,hdt,hb⟩:=ai.1 hb;have hPt:=ok.und t dt (cg.1 hdt);split at hb
     . rename_i e;unfold y8 at hb;obtain⟨n,hn,hb⟩:=ai.1 hb;obtain⟨by_,hby,hb⟩:=ai.1 hb;obtain⟨_,hnz,hb⟩:=ai.1 hb;obtain⟨m,hm,hb⟩:=ai.1 hb;obtain⟨_,hlim,hb⟩:=ai.1 hb;obtain⟨z,hz,hb⟩:=ai.1 hb;obtain⟨zc,hzc,hb⟩:=ai.1 hb;obtain⟨_,hzl,hb⟩:=ai.1 hb;have hnz:n≠0:=by
        have:=c9.1 hnz;rintro rfl;simp_all
       have hlim:=c9.1 hlim;rw[Ad]at hlim;have hl1:=Ak hlim.1;have hl2:=Ak hlim.2;have hzl:=Ab (c9.1 hzl);obtain⟨i,hi,hin⟩:=ok.siz _ _ (cg.1 hn);obtain⟨i',hi',hiby⟩:=ok.byt _ _ (cg.1 hby);rw[hi]at hi';cases hi';obtain⟨i',hi',hzi⟩:=ok.jB _ _ (cg.1 hz);rw[hi]at hi';cases hi';have hsl:rQ [x,y]=m:=by
        obtain⟨k,rfl⟩:=mw hm;rfl
       have hel:P.elem (argTypes.getD 0 0)=e:=by
        have:argTypes.getD 0 0=t:=by
          rw[BL,ht];rfl
        rw[this];grind [Program.elem]
       have hE':h.next<h'.next->E.aN h.next=(lR w (ab E x) m e).1/\E.cap h.next=(lR w (ab E x) m e).2:=by
        grind [kx,bF]
       obtain⟨h1,w',h2,h3,h4⟩:=yV ok H (ty:=ty) (argTypes:=argTypes) (Y:=ab E y) hn hnz (cg.1 hby)
        (fun i' hi'=>by
          rw[hi]at hi';cases hi';exact Qs ht hu hPt hPu hi (hzi E) hzc (by rw[hzl,hin]) (by rw[hin];omega) hm hl1 (by rw[hiby];omega)) hb hE'
       refine⟨h1,w',?_,h3,h4⟩;simp only[Go.builtin,Sem.run_bind];have:(aV E [x,y]).toArray=#[ab E x,ab E y]:=rfl;rw[this,h2];rfl
     grind
   . rename_i hni;obtain⟨dt,hdt,hb⟩:=ai.1 hb;have hPt:=ok.und t dt (cg.1 hdt);split at hb
     . rename_i e;obtain⟨n,hn,hb⟩:=ai.1 hb;obtain⟨by_,hby,hb⟩:=ai.1 hb;obtain⟨_,hnz,hb⟩:=ai.1 hb;obtain⟨⟨m,news⟩,hs,hb⟩:=ai.1 hb;have hnz:n≠0:=by
        have:=c9.1 hnz;rintro rfl;simp_all
       have hm:rQ [x,y]=m:=by
        cases y<;>simp only[source]at hs<;>(try cases hs)<;>(try rfl)
        . obtain⟨_,_,hs⟩:=ai.1 hs
          cases hs;rfl
        . obtain⟨_,_,hs⟩:=ai.1 hs
          cases hs;rfl
        . split at hs<;>first|(rename_i hv;cases hv;cases hs;rfl)|(rename_i hv;cases hv;done)|grind|grind
       have hel:P.elem (argTypes.getD 0 0)=e:=by
        have:argTypes.getD 0 0=t:=by
          rw[BL,ht];rfl
        rw[this];grind [Program.elem]
       have hE':h.next<h'.next->E.aN h.next=(lR w (ab E x) m e).1/\E.cap h.next=(lR w (ab E x) m e).2:=by
        grind [kx,bF]
       obtain⟨h1,w',h2,h3,h4⟩:=yV ok H (ty:=ty) (argTypes:=argTypes) (Y:=ab E y) hn hnz (cg.1 hby)
        (fun i hi=>by
          obtain⟨i',hi',hin⟩:=ok.siz _ _ (cg.1 hn);rw[hi]at hi';grind [Qo]) hb hE'
       refine⟨h1,w',?_,h3,h4⟩;simp only[Go.builtin,Sem.run_bind];have:(aV E [x,y]).toArray=#[ab E x,ab E y]:=rfl;rw[this,h2];rfl
     grind
 ·
   rename_i x y;obtain⟨t,ht,hb⟩:=ai.1 hb;obtain⟨u,hu,hb⟩:=ai.1 hb;have ht:=cg.1 ht;have hP:=ok.und t u (cg.1 hu);split at hb
   . rename_i e;obtain⟨n,hn,hb⟩:=ai.1 hb;obtain⟨⟨m,cs⟩,hs,hb⟩:=ai.1 hb;obtain⟨hnl,hlen,hf⟩:=zB (P:=P) (E:=E) (K:=K) hs;have hgo:∀(base:Option Addr) (dLen c:Nat),ab E x= .slice base dLen c->(Builtin.copy_ argTypes ty (aV E [x,y]).toArray).run P w=
        ((match base with
          |none=>(Result.ok () w:Result Unit)
          |some a=>(storeCells a (aV E (cs.take (Nat.min m dLen*n)))).run P w).andThen fun _ w'=> .ok (Go.goInt (Nat.min m dLen)) w'):=by
       intro base dLen c hx;unfold Builtin.copy_;have h2:(aV E [x,y]).toArray=#[ab E x,ab E y]:=rfl;rw[h2];simp only[ht,AR,A5,Bd,Sem.run_bind,underlying,run_program,Result.andThen_ok,hP,Sem.run_pure,hx,hlen,iT ok hn,
        hf w H (Nat.min m dLen) (Nat.min_le_left _ _)]
       cases base<;>simp[Result.andThen]
     cases x with
     | nils=>
       simp only at hb
       cases hb;refine⟨by omega,w,?_,H,Kept.refl K w⟩;simp only[Go.builtin,Sem.run_bind];rw[hgo none 0 0 rfl];simp[Result.andThen,goInt,ab,Go.goInt]
     | emp b off l n' k=>
       simp only at hb
       cases hb;refine⟨by omega,w,?_,H,Kept.refl K w⟩;simp only[Go.builtin,Sem.run_bind];rw[hgo _ 0 _ rfl];simp[Result.andThen,goInt,ab,Go.goInt,storeCells]
     | sl b off len cap=>
       simp only at hb;obtain⟨h2,hw,hb⟩:=ai.1 hb
       cases hb;obtain⟨w',hst,H',hk⟩:=sS (P:=P) H hw;refine⟨by rw[tf hw];omega,w',?_,H',hk⟩;simp only[Go.builtin,Sem.run_bind];rw[hgo _ len _ rfl];simp only[hst,Result.andThen_ok];rfl
     |_=>cases hb
   grind
 ·
   rename_i x;obtain⟨t,ht,hb⟩:=ai.1 hb;obtain⟨u,hu,hb⟩:=ai.1 hb;have ht:=cg.1 ht;have hP:=ok.und t u (cg.1 hu);have h2:(aV E [x]).toArray=#[ab E x]:=rfl;split at hb
   . cases hb;simp_all[Kept.refl,Go.builtin,Builtin.clear_,underlying,ab]
   . cases hb;simp_all[Kept.refl,Go.builtin,Builtin.clear_,underlying,ab]
   . cases hb;simp_all[Kept.refl,Go.builtin,Builtin.clear_,underlying,ab]
   . obtain⟨⟨es,c⟩,hm,hb⟩:=ai.1 hb
     cases hb;have hm:=kG hm;have hw:=H.map hm;have hnr:¬(AO.mp es c).ro:=fun h=>h
     refine⟨by simp,_,?_,H.put hm hnr (c:= .map #[] c) rfl,H.bK hm hnr _⟩;simp only[Go.builtin,Builtin.clear_,h2,ht,AR,A5,Sem.run_bind,underlying,run_program,Result.andThen_ok,hP,Sem.run_pure,ab,kF hw,ni hw];rfl
   . rename_i e b off len cap _ _;obtain⟨z,hz,hb⟩:=ai.1 hb;obtain⟨zc,hzc,hb⟩:=ai.1 hb;obtain⟨h2',hw,hb⟩:=ai.1 hb
     cases hb;obtain⟨w',hst,H',hk⟩:=sS (P:=P) H hw;refine⟨by rw[tf hw];omega,w',?_,H',hk⟩;have hzz:Builtin.zeroCells (ab E z).cells len=(aV E (rep len zc)).toArray:=by
       rw[lI hzc,rl];grind [yU,vU,Builtin.zeroCells]
     simp only[Go.builtin,Builtin.clear_,h2,ht,AR,A5,Sem.run_bind,underlying,run_program,Result.andThen_ok,hP,Sem.run_pure,ab];grind [rep,cW,storeCells,Sem.run_bind,ot,Result.andThen_ok,Sem.run_pure]
   grind
 ·
   rename_i m k;obtain⟨t,ht,hb⟩:=ai.1 hb;obtain⟨h2,hd,hb⟩:=ai.1 hb
   cases hb;obtain⟨h3,w',h4,h5,h6⟩:=Kk ok H (ty:=ty) (cg.1 ht) hd;grind [aV,ab,Go.builtin,Sem.run_bind,Result.andThen_ok,Sem.run_pure]
 ·
   obtain⟨h1,h2⟩:=IK (P:=P) H (type:=ty) (argTypes:=argTypes) hb;subst h1;refine⟨by omega,w,?_,H,Kept.refl K w⟩;simp only[Go.builtin,Sem.run_bind];rw[show ∀x:AV,(aV E [x]).toArray=#[ab E x]from fun _=>rfl,h2];rfl
 ·
   obtain⟨t,ht,hb⟩:=ai.1 hb;obtain⟨h1,w',h2,h3,h4⟩:=H7 ok H (ty:=ty) (cg.1 ht) hb;refine⟨by omega,w',?_,h3,h4⟩;simp only[Go.builtin,Sem.run_bind];rw[show ∀x y:AV,(aV E [x,y]).toArray=#[ab E x,ab E y]from fun _ _=>rfl,h2];rfl
 ·
   obtain⟨v',hv,hb⟩:=ai.1 hb;simp_all[Kept.refl,Go.builtin,Builtin.min_,ab,J0]
 . obtain⟨v',hv,hb⟩:=ai.1 hb;simp_all[Kept.refl,Go.builtin,Builtin.max_,ab,JZ]
 grind
end
end
section
variable [Inhabited aI]
section
variable {P:Program} {tab:bc} (ok:bD P tab) {E:Env} {h:AH} {K:KS} {w:World}
theorem JF {e count s:Nat} (hs:P.cellsOf e=s) (h0:s≠0) (hl:1<=count):liesAt P P.depth e count 0 e 1=true:=by
 obtain⟨d,hd⟩:=Ci P;have h1:sameLayout P P.depth e e=true:=by
  rw[hd];simp[sameLayout]
 have h2:rowAt P (sameLayout P P.depth · e) P.depth e count 0 1=true:=by
  simp_all[rowAt]
 grind [liesAt]
include ok
theorem It (H:bo E h K w) {src dst t:TypeId} (hs:P.underlying src=some (.pointer t)) (hd:P.underlying dst=some .unsafePointer) {x v:AV} {h':AH}
   (hc:wD tab h t x= .ok (v,h')):h'=h/\(Go.convert src dst (ab E x)).run P w= .ok (ab E v) w:=by
 unfold wD at hc;split at hc
 . cases hc;refine⟨rfl,?_⟩;simp[Go.convert,Conv.unsafePointer,underlying,hs,hd,ab]
 . rename_i b off;obtain⟨⟨cs,e,sz,ext,bk⟩,hca,hc1⟩:=ai.1 hc;obtain⟨n,hn,hc2⟩:=ai.1 hc1;obtain⟨_,hck,hc3⟩:=ai.1 hc2
   cases hc3;refine⟨rfl,?_⟩;have hck:=c9.1 hck;simp only[Ad,AA,BP]at hck;have hn0:n≠0:=by
    intro e;simp_all
   have hlt:off<cs.length:=by omega
   obtain⟨arr,fz,hw,⟨rest,hrest⟩,hext,hmk⟩:=H.cells (fR hca);have hsz:cs.length<=arr.size:=by
    have:=Ay List.length hrest;simp at this;omega
   obtain⟨i,hi,hin⟩:=ok.siz t n (cg.1 hn);have:¬(arr.size<=off):=by omega
   simp[Go.convert,Conv.unsafePointer,Conv.seenAt,viewAt,cellsIn,World.shape?,hw,underlying,hs,hd,ab,sizeOf,typeInfo,hi,hin,hn0,this]
 grind
theorem Ir (H:bo E h K w) {src dst u:TypeId} (hs:P.underlying src=some .unsafePointer) (hd:P.underlying dst=some (.pointer u)) {x v:AV} {h':AH}
   (hc:vP tab h u x= .ok (v,h')):h'=h/\(Go.convert src dst (ab E x)).run P w= .ok (ab E v) w:=by
 unfold vP at hc;split at hc
 . cases hc;refine⟨rfl,?_⟩;simp[Go.convert,Conv.unsafePointer,underlying,hs,hd,ab]
 . obtain⟨⟨cs,e,sz,ext,bk⟩,hca,hc1⟩:=ai.1 hc;obtain⟨n,hn,hc2⟩:=ai.1 hc1;obtain⟨_,hck,hc3⟩:=ai.1 hc2
   cases hc3;refine⟨rfl,?_⟩;have hck:=c9.1 hck;simp only[Ad,AA]at hck;obtain⟨⟨⟨he,hn1⟩,ho⟩,hle⟩:=hck;have hn0:n≠0:=by
    intro e;simp_all
   have he:=Ab he;have ho:=Ab ho;have hle:=Ak hle;subst he ho;obtain⟨arr,fz,hw,⟨rest,hrest⟩,hext,hmk⟩:=H.cells (fR hca);have hsz:cs.length<=arr.size:=by
    have:=Ay List.length hrest;simp at this;omega
   obtain⟨i,hi,hin⟩:=ok.siz e n (cg.1 hn);have hcells:P.cellsOf e=n:=by grind [Program.cellsOf]
   have h1:1<=arr.size / n:=by
    rw[EH (by omega)];omega
   have hl:=JF (P:=P) hcells hn0 h1;simp[Go.convert,Conv.unsafePointer,Conv.seenAt,viewAt,World.shape?,hw,underlying,hs,hd,ab,sizeOf,typeInfo,hi,hin,hn0,variablesAt,hcells,hl]
 grind
theorem Im (H:bo E h K w) {src dst:TypeId} {x v:AV} {h':AH} (hc:mn tab h src dst x= .ok (v,h'))
   (hE:h.next<h'.next->E.aN h.next=w.heap.size/\E.cap h.next=grownCap w (uB x) 0 (P.elem dst)):
   (h.next<=h'.next/\h'.next<=h.next+1)/\ ∃w',(Go.convert src dst (ab E x)).run P w= .ok (ab E v) w'/\bo E h' K w'/\Kept K w w':=by
 obtain⟨d,hd,hc1⟩:=ai.1 hc;have hPd:=ok.und dst d (cg.1 hd);split at hc1
 . obtain⟨s,hs,hc2⟩:=ai.1 hc1;have hPs:=ok.und src s (cg.1 hs);split at hc2
   . obtain⟨h1,h2⟩:=It ok H hPs hPd hc2;grind [Kept.refl]
   grind
 . obtain⟨s,hs,hc2⟩:=ai.1 hc1;have hPs:=ok.und src s (cg.1 hs);split at hc2
   . obtain⟨h1,h2⟩:=Ir ok H hPs hPd hc2;grind [Kept.refl]
   grind
 . exact IT ok H hc1 hE
end
end
section
variable [Inhabited aI]
section
variable {P:Program} {tab:bc} (ok:bD P tab) {E:Env} {h:AH} {K:KS} {w:World}
theorem fL {ρ:Operand->Value} {o:Oper} {s:Sem Value} {a:Value} {w w':World} (hx:execOp ρ o=(do pure (.value (<-s)))) (hs:s.run P w= .ok a w'):
  (execOp ρ o).run P w= .ok (.value a) w':=by
 rw[hx];simp_all
theorem vH {ρ:Operand->Value} {o:Oper} {s:Sem Unit} {w w':World} (hx:execOp ρ o=(do s;pure .skip)) (hs:s.run P w= .ok () w'):
  (execOp ρ o).run P w= .ok .skip w':=by
 rw[hx];simp_all
def aC (P:Program) (s:Sem Next) (E:Env) (K:KS) (w:World) (v:AV) (h':AH):Prop:=
 ∃r w',s.run P w= .ok r w'/\Yields r (ab E v)/\bo E h' K w'/\Kept K w w'
theorem aC.value {s:Sem Next} {v:AV} {h':AH} {w':World} (hs:s.run P w= .ok (.value (ab E v)) w') (H:bo E h' K w') (hk:Kept K w w'):aC P s E K w v h':=
 ⟨_,w',hs, .inl rfl,H,hk⟩
theorem aC.same {s:Sem Next} {v:AV} (H:bo E h K w) (hs:s.run P w= .ok (.value (ab E v)) w):aC P s E K w v h:=
 ⟨_,w,hs, .inl rfl,H,Kept.refl K w⟩
theorem aC.unit {s:Sem Next} {h':AH} {w':World} (hs:s.run P w= .ok .skip w') (H:bo E h' K w') (hk:Kept K w w'):aC P s E K w (.bj []) h':=
 ⟨_,w',hs, .inr ⟨rfl,rfl⟩,H,hk⟩
theorem zJ (ok:bD P tab) {t:TypeId} {f:Nat} {fd:Field} (hf:rL tab t f= .ok fd):∃fs,P.underlying t=some (.struct fs)/\fs[f]? =some fd:=by
 obtain⟨d,hd,hf⟩:=ai.1 hf;have hP:=ok.und t d (cg.1 hd);grind [cg]
theorem O0 {s:List UInt8} {i:Nat} {b:UInt8} (h:s[i]? =some b):(⟨s.toArray⟩:ByteArray)[i]? =some b:=by
 obtain⟨hlt,rfl⟩:=Ah.1 h;exact getElem?_pos (⟨s.toArray⟩:ByteArray) i (show i<(⟨s.toArray⟩:ByteArray).size from hlt)
def Good (P:Program) (o:Oper) (ts:T AV) (h:AH) (v:AV) (h':AH) (w:World) (ρ:Operand->Value):Prop:=
 ∃f:Nat×Nat,∀E K,bo E h K w->(∀x u,ev ts x= .ok u->ρ x=ab E u)->
  (h.next<h'.next->E.aN h.next=f.1/\E.cap h.next=f.2)->(h.next<=h'.next/\h'.next<=h.next+1)/\aC P (execOp ρ o) E K w v h'
theorem tz {e:TypeId} {cs:List AV} {ext:Bool} {bk:BK} {h':AH} {b:Nat} (hn:newRow tab h e cs ext bk= .ok (h',b)):h.next<h'.next:=by
 obtain⟨n,hs,rfl,rfl⟩:=gF hn;simp
theorem Iv {t:TypeId} {len:Nat} {ps:List (Nat×AV)} {v:AV} {h':AH} (hb:buildSlice tab h t len ps= .ok (v,h')):h.next<h'.next:=by
 obtain⟨u,hu,hb1⟩:=ai.1 hb;split at hb1
 . obtain⟨n,_,hb2⟩:=ai.1 hb1;obtain⟨_,_,hb3⟩:=ai.1 hb2;obtain⟨_,_,hb4⟩:=ai.1 hb3;obtain⟨_,_,hb5⟩:=ai.1 hb4;obtain⟨_,_,hb6⟩:=ai.1 hb5;obtain⟨_,_,hb7⟩:=ai.1 hb6;obtain⟨⟨h1,b⟩,hn,hb8⟩:=ai.1 hb7
   cases hb8;exact tz hn
 grind
theorem I8 {t:TypeId} {l c v:AV} {h':AH} (hb:makeSlice tab h t l c= .ok (v,h')):h.next<h'.next:=by
 obtain⟨u,hu,hb1⟩:=ai.1 hb;split at hb1
 . obtain⟨n,_,hb2⟩:=ai.1 hb1;obtain⟨_,_,hb3⟩:=ai.1 hb2;obtain⟨_,_,hb4⟩:=ai.1 hb3;obtain⟨_,_,hb5⟩:=ai.1 hb4;obtain⟨_,_,hb6⟩:=ai.1 hb5;obtain⟨_,_,hb7⟩:=ai.1 hb6;obtain⟨_,_,hb8⟩:=ai.1 hb7;obtain⟨_,_,hb9⟩:=ai.1 hb8;obtain⟨⟨h1,b⟩,hn,hb10⟩:=ai.1 hb9
   cases hb10;exact tz hn
 grind
theorem J8 {t:TypeId} {x v:AV} {h':AH} (hb:xr tab h t x= .ok (v,h')):h.next<h'.next:=by
 obtain⟨u,hu,hb1⟩:=ai.1 hb;split at hb1
 . cases hb1;simp
 . cases hb1;simp
 . obtain⟨_,_,hb2⟩:=ai.1 hb1
   cases hb2;simp
 grind
theorem ze (ok:bD P tab) {e:TypeId} {z:AV} {zc:List AV} (hzc:z.cells= .ok zc) {h1:AH} {b:Nat} (hn:newRow tab h e zc= .ok (h1,b)) (H:bo E h K w) (hE:E.aN h.next=w.heap.size):
  b=h.next/\h1.next=h.next+1/\(Go.newVar e (ab E z)).run P w= .ok ⟨E.aN h.next,0,none⟩ (w.alloc (.cells (aV E zc).toArray e))/\bo E h1 K (w.alloc (.cells (aV E zc).toArray e))/\Kept K w (w.alloc (.cells (aV E zc).toArray e)):=by
 obtain⟨n,hs,rfl,rfl⟩:=gF hn;refine⟨rfl,rfl,?_,(wv H hE zc e n).1,Kept.alloc H.kb _⟩;rw[Go.newVar,n9,lI hzc,hE]
set_option maxHeartbeats 1000000 in
include ok in
theorem yT {ts:T AV} {o:Oper} {v:AV} {h':AH} (hp:eu tab ts h o= .ok (v,h')) (w:World) (ρ:Operand->Value):Good P o ts h v h' w ρ:=by
 unfold eu at hp
 cases hop:o.op<;>rw[hop]at hp<;>dsimp only at hp
 case move x=>
  obtain⟨u,hu,hp1⟩:=ai.1 hp
  cases hp1;exact⟨(0,0),fun E K H hρ _=>⟨by omega,aC.same H (by simp_all[execOp])⟩⟩
 case assign x=>
  obtain⟨u,hu,hp1⟩:=ai.1 hp
  cases hp1;exact⟨(0,0),fun E K H hρ _=>⟨by omega,aC.same H (by simp_all[execOp])⟩⟩
 case pick c a b=>
  obtain⟨u,hu,hp1⟩:=ai.1 hp;refine⟨(0,0),fun E K H hρ _=>?_⟩;have hc:=hρ _ _ hu;split at hp1
  . obtain⟨x,hx,hp2⟩:=ai.1 hp1
    cases hp2;exact⟨by omega,aC.same H (by simp_all[execOp,ab,asBool])⟩
  . obtain⟨x,hx,hp2⟩:=ai.1 hp1
    cases hp2;exact⟨by omega,aC.same H (by simp_all[execOp,ab,asBool])⟩
  grind
 case alloc e=>
  obtain⟨z,hz,hp1⟩:=ai.1 hp;obtain⟨zc,hzc,hp2⟩:=ai.1 hp1;obtain⟨⟨h1,b⟩,hn,hp3⟩:=ai.1 hp2
  cases hp3;refine⟨(w.heap.size,0),fun E K H hρ hE=>?_⟩;have hE1:E.aN h.next=w.heap.size:=(hE (tz hn)).1;obtain⟨rfl,h2,h3,h4,h5⟩:=ze ok hzc hn H hE1;exact⟨by grind,aC.value (fL (s:=Instr.alloc e true (.tuple #[])) (by grind [execOp]) (by simp[Instr.alloc,ot ok hz E,h3,ab])) h4 h5⟩
 case box e x=>
  obtain⟨z,hz,hp1⟩:=ai.1 hp;obtain⟨zc,hzc,hp2⟩:=ai.1 hp1;obtain⟨⟨h1,b⟩,hn,hp3⟩:=ai.1 hp2
  cases hp3;refine⟨(w.heap.size,0),fun E K H hρ hE=>?_⟩;have hE1:E.aN h.next=w.heap.size:=(hE (tz hn)).1;obtain⟨rfl,h2,h3,h4,h5⟩:=ze ok hzc hn H hE1;simp_all[aC.value,Instr.box,execOp,ab]
 case build t ps=>
  obtain⟨l,hl,hp1⟩:=ai.1 hp;obtain⟨u,hu,hp2⟩:=ai.1 hp1
  cases hp2;refine⟨(0,0),fun E K H hρ _=>⟨by omega,aC.same H ?_⟩⟩;refine fL (s:=Instr.build t (ps.map fun(i,x)=>(i,ρ x))) (by grind [execOp]) ?_;have:=KV ok (E:=E) (w:=w) hu;rw[<-zl hρ _ _ hl]at this;rw[<-this];congr 2
  grind
 case buildSlice t n ps=>
  obtain⟨l,hl,hp1⟩:=ai.1 hp;refine⟨(w.heap.size,0),fun E K H hρ hE=>?_⟩;obtain⟨h1,w',h2,h3,h4⟩:=Il ok H hp1 (hE (Iv hp1)).1;rw[<-zl hρ _ _ hl]at h2;refine⟨by omega,aC.value (fL (s:=Instr.buildSlice t n (ps.map fun(i,x)=>(i,ρ x))) (by grind [execOp]) ?_) h3 h4⟩;rw[<-h2];congr 2
  grind
 case load t a=>
  obtain⟨x,hx,hp1⟩:=ai.1 hp;split at hp1
  . obtain⟨u,hu,hp2⟩:=ai.1 hp1
    cases hp2;refine⟨(0,0),fun E K H hρ _=>⟨by omega,aC.same H ?_⟩⟩;grind [fL,Instr.loadAt,execOp,ab,Instr.sureAddr,zq]
  grind
 case store t a x=>
  obtain⟨y,hy,hp1⟩:=ai.1 hp;split at hp1
  . obtain⟨u,hu,hp2⟩:=ai.1 hp1;obtain⟨h1,hh,hp3⟩:=ai.1 hp2
    cases hp3;refine⟨(0,0),fun E K H hρ _=>?_⟩;obtain⟨w',h2,h3,h4⟩:=IY ok H hh;refine⟨by have:=IL (tab:=tab) hh;omega,aC.unit (vH (s:=Instr.storeAt t (ρ a) (ρ x)) (by grind [execOp]) ?_) h3 h4⟩;grind [Instr.storeAt,ab,Instr.sureAddr]
  grind
 case nilCheck x=>
  obtain⟨y,hy,hp1⟩:=ai.1 hp;split at hp1
  . cases hp1;exact⟨(0,0),fun E K H hρ _=>⟨by omega,aC.same H (by simp_all[execOp,ab])⟩⟩
  . cases hp1;exact⟨(0,0),fun E K H hρ _=>⟨by omega,aC.same H (by simp_all[execOp,ab])⟩⟩
  grind
 case binOp op t x y yt=>
  obtain⟨a,ha,hp1⟩:=ai.1 hp;obtain⟨b,hb,hp2⟩:=ai.1 hp1;obtain⟨c,hc,hp3⟩:=ai.1 hp2
  cases hp3;refine⟨(0,0),fun E K H hρ _=>⟨by omega,aC.same H ?_⟩⟩;have:=KT ok H hc x y;grind [fL,execOp]
 case unOp op t x=>
  obtain⟨a,ha,hp1⟩:=ai.1 hp;obtain⟨c,hc,hp3⟩:=ai.1 hp1
  cases hp3;refine⟨(0,0),fun E K H hρ _=>⟨by omega,aC.same H ?_⟩⟩;grind [fL,execOp,L4]
 case convert s d x=>
  obtain⟨a,ha,hp1⟩:=ai.1 hp;refine⟨(w.heap.size,grownCap w (uB a) 0 (P.elem d)),fun E K H hρ hE=>?_⟩;obtain⟨h1,w',h2,h3,h4⟩:=Im ok H hp1 hE;refine⟨h1,aC.value (fL (s:=Go.convert s d (ρ x)) (by grind [execOp]) ?_) h3 h4⟩;rw[hρ _ _ ha];exact h2
 case makeInterface t x=>
  obtain⟨d,hd,hp1⟩:=ai.1 hp;have hP:=ok.und t d (cg.1 hd);split at hp1
  . grind
  . rename_i hni;obtain⟨a,ha,hp2⟩:=ai.1 hp1
    cases hp2;refine⟨(0,0),fun E K H hρ _=>⟨by omega,aC.same H ?_⟩⟩;refine fL (s:=Instr.makeInterface t (ρ x)) (by grind [execOp]) ?_;unfold Instr.makeInterface;simp only[Sem.run_bind,underlying,run_program,Result.andThen_ok,hP,Sem.run_pure]
    cases d<;>first|exact absurd rfl (hni _)|(rw[hρ _ _ ha];simp[ab])
 case makeFunc fn fst cap=>
  split at hp
  . rename_i f;obtain⟨a,ha,hp1⟩:=ai.1 hp;obtain⟨b,hb,hp2⟩:=ai.1 hp1
    cases hp2;refine⟨(0,0),fun E K H hρ _=>⟨by omega,aC.same H ?_⟩⟩;refine fL (s:=Instr.makeFunc (.func f) (fst.map ρ) (cap.map ρ)) (by grind [execOp]) ?_;have h1:=ov hρ _ _ ha;have h2:=ov hρ _ _ hb;simp only[Instr.makeFunc,Sem.run_pure,ab,<-h1,<-h2];congr 3<;>simp[<-Array.toList_inj]
  grind
 case makeMap t r=>
  cases r with
  |some x=>cases hp
  | none=>
    cases hp;refine⟨(w.heap.size,0),fun E K H hρ hE=>⟨by simp,?_⟩⟩;refine aC.value (w':=w.alloc (.map #[] 0)) (fL (s:=Instr.makeMap t none) (by grind [execOp]) ?_) (H.new (hE (by simp)).1 (by simp[kr])) (Kept.alloc H.kb _);simp_all[Instr.makeMap,ab]
 case makeSlice t l c=>
  obtain⟨a,ha,hp1⟩:=ai.1 hp;obtain⟨b,hb,hp2⟩:=ai.1 hp1;refine⟨(w.heap.size,0),fun E K H hρ hE=>?_⟩;obtain⟨h1,w',h2,h3,h4⟩:=IJ ok H hp2 (hE (I8 hp2)).1;refine⟨by omega,aC.value (fL (s:=Instr.makeSlice t (ρ l) (ρ c)) (by grind [execOp]) ?_) h3 h4⟩;rw[hρ _ _ ha,hρ _ _ hb];exact h2
 case slice t x lo hi mx=>
  obtain⟨a,ha,hp1⟩:=ai.1 hp;refine⟨(0,0),fun E K H hρ hE=>?_⟩;grind [Jl,aC.same,fL,execOp]
 case fieldAddr st x f=>
  obtain⟨fd,hf,hp1⟩:=ai.1 hp;obtain⟨n,hn,hp2⟩:=ai.1 hp1;obtain⟨_,hck,hp3⟩:=ai.1 hp2;obtain⟨a,ha,hp4⟩:=ai.1 hp3;obtain⟨fs,hP,hfd⟩:=zJ ok hf;have hn0:n≠0:=by
    intro e;simp_all[R.check]
  split at hp4
  . cases hp4;refine⟨(0,0),fun E K H hρ _=>⟨by omega,aC.same H ?_⟩⟩;refine fL (s:=Instr.fieldAt st (ρ x) f) (by grind [execOp]) ?_;unfold Instr.fieldAt;simp[underlying,hP,hfd,hρ _ _ ha,ab,Instr.sureAddr,fieldPlace,iT ok hn,hn0,add_lit]
  grind
 case field t x f=>
  obtain⟨fd,hf,hp1⟩:=ai.1 hp;obtain⟨a,ha,hp2⟩:=ai.1 hp1;obtain⟨fs,hP,hfd⟩:=zJ ok hf;split at hp2
  . obtain⟨u,hu,hp3⟩:=ai.1 hp2
    cases hp3;refine⟨(0,0),fun E K H hρ _=>⟨by omega,aC.same H ?_⟩⟩;refine fL (s:=Instr.field t (ρ x) f) (by grind [execOp]) ?_;unfold Instr.field;simp[underlying,hP,hfd,hρ _ _ ha,ab,asAgg,rz ok hu E w]
  grind
 case indexAddr t x ix=>
  obtain⟨y,hy,hp0⟩:=ai.1 hp;obtain⟨i,hi,hp1⟩:=ai.1 hp0;obtain⟨d,hd,hp2⟩:=ai.1 hp1;obtain⟨a,ha,hp3⟩:=ai.1 hp2;have hP:=ok.und t d (cg.1 hd);obtain⟨k,rfl⟩:=mw hi;split at hp3
  . obtain⟨_,hck,hp4⟩:=ai.1 hp3;obtain⟨n,hn,hp5⟩:=ai.1 hp4
    cases hp5;have hlt:=c9.1 hck;simp only[BP]at hlt;refine⟨(0,0),fun E K H hρ _=>⟨by omega,aC.same H ?_⟩⟩;refine fL (s:=Instr.indexAt t (ρ x) (ρ ix)) (by grind [execOp]) ?_;unfold Instr.indexAt;simp[underlying,hP,hρ _ _ ha,hρ _ _ hy,ab,Go.asIntOf,Instr.sureAddr,iT ok hn,hlt,add_lit]
  . obtain⟨_,hck,hp4⟩:=ai.1 hp3;obtain⟨n,hn,hp5⟩:=ai.1 hp4
    cases hp5;have hlt:=c9.1 hck;simp only[BP]at hlt;refine⟨(0,0),fun E K H hρ _=>⟨by omega,aC.same H ?_⟩⟩;refine fL (s:=Instr.indexAt t (ρ x) (ρ ix)) (by grind [execOp]) ?_;unfold Instr.indexAt;simp[underlying,hP,hρ _ _ ha,hρ _ _ hy,ab,Go.asIntOf,iT ok hn,hlt,add_lit]
  grind
 case index t x ix=>
  obtain⟨y,hy,hp0⟩:=ai.1 hp;obtain⟨i,hi,hp1⟩:=ai.1 hp0;obtain⟨d,hd,hp2⟩:=ai.1 hp1;obtain⟨a,ha,hp3⟩:=ai.1 hp2;have hP:=ok.und t d (cg.1 hd);obtain⟨k,rfl⟩:=mw hi;split at hp3
  . obtain⟨_,hck,hp4⟩:=ai.1 hp3;obtain⟨n,hn,hp5⟩:=ai.1 hp4;obtain⟨u,hu,hp6⟩:=ai.1 hp5
    cases hp6;have hlt:=c9.1 hck;simp only[BP]at hlt;refine⟨(0,0),fun E K H hρ _=>⟨by omega,aC.same H ?_⟩⟩;refine fL (s:=Instr.index t (ρ x) (ρ ix)) (by grind [execOp]) ?_;unfold Instr.index;simp[underlying,hP,hρ _ _ ha,hρ _ _ hy,ab,Go.asIntOf,iT ok hn,hlt,rz ok hu E w]
  . obtain⟨b,hb,hp4⟩:=ai.1 hp3
    cases hp4;have hb:=cg.1 hb;refine⟨(0,0),fun E K H hρ _=>⟨by omega,aC.same H ?_⟩⟩;refine fL (s:=Instr.index t (ρ x) (ρ ix)) (by simp[execOp,hop]) ?_;unfold Instr.index;simp[underlying,hP,hρ _ _ ha,hρ _ _ hy,ab,Go.asIntOf];rw[O0 hb];rfl
  . cases hp3
 case lookup t m k c=>
  obtain⟨a,ha,hp1⟩:=ai.1 hp;obtain⟨b,hb,hp2⟩:=ai.1 hp1;obtain⟨u,hu,hp3⟩:=ai.1 hp2
  cases hp3;refine⟨(0,0),fun E K H hρ _=>⟨by omega,aC.same H ?_⟩⟩;refine fL (s:=Instr.lookup t (ρ m) (ρ k) c) (by simp[execOp,hop]) ?_;rw[hρ _ _ ha,hρ _ _ hb];exact JY ok H hu
 case mapUpdate t m k x=>
  obtain⟨a,ha,hp1⟩:=ai.1 hp;obtain⟨b,hb,hp2⟩:=ai.1 hp1;obtain⟨c,hc,hp3⟩:=ai.1 hp2;obtain⟨h1,hh,hp4⟩:=ai.1 hp3
  cases hp4;refine⟨(0,0),fun E K H hρ _=>?_⟩;obtain⟨h2,w',h3,h4,h5⟩:=yG ok H hh;refine⟨by omega,aC.unit (vH (s:=Instr.mapUpdate t (ρ m) (ρ k) (ρ x)) (by simp[execOp,hop]) ?_) h4 h5⟩;rw[hρ _ _ ha,hρ _ _ hb,hρ _ _ hc];exact h3
 case insert t m k x=>
  obtain⟨a,ha,hp1⟩:=ai.1 hp;obtain⟨b,hb,hp2⟩:=ai.1 hp1;obtain⟨c,hc,hp3⟩:=ai.1 hp2;obtain⟨h1,hh,hp4⟩:=ai.1 hp3
  cases hp4;refine⟨(0,0),fun E K H hρ _=>?_⟩;obtain⟨h2,w',h3,h4,h5⟩:=yG ok H hh;refine⟨by omega,aC.unit (vH (s:=Instr.mapUpdate t (ρ m) (ρ k) (ρ x)) (by grind [execOp]) ?_) h4 h5⟩;rw[hρ _ _ ha,hρ _ _ hb,hρ _ _ hc];exact h3
 case mapEntry t m k=>
  obtain⟨a,ha,hp1⟩:=ai.1 hp;obtain⟨b,hb,hp2⟩:=ai.1 hp1;refine⟨(0,0),fun E K H hρ _=>?_⟩;obtain⟨h2,w',h3,h4,h5⟩:=I9 ok H hp2;refine⟨by omega,aC.value (fL (s:=Instr.mapEntry t (ρ m) (ρ k)) (by grind [execOp]) ?_) h4 h5⟩;rw[hρ _ _ ha,hρ _ _ hb];exact h3
 case entryStore t m s x=>
  obtain⟨a,ha,hp1⟩:=ai.1 hp;obtain⟨b,hb,hp2⟩:=ai.1 hp1;obtain⟨c,hc,hp3⟩:=ai.1 hp2;obtain⟨h1,hh,hp4⟩:=ai.1 hp3
  cases hp4;refine⟨(0,0),fun E K H hρ _=>?_⟩;obtain⟨h2,w',h3,h4,h5⟩:=Io ok (t:=t) H hh;simp_all[aC.unit,execOp]
 case range t x=>
  obtain⟨a,ha,hp1⟩:=ai.1 hp;refine⟨(w.heap.size,0),fun E K H hρ hE=>?_⟩;obtain⟨h2,w',h3,h4,h5⟩:=Je ok H hp1 (hE (J8 hp1)).1;refine⟨by omega,aC.value (fL (s:=Instr.range t (ρ x)) (by simp[execOp,hop]) ?_) h4 h5⟩;rw[hρ _ _ ha];exact h3
 case entry it=>
  obtain⟨a,ha,hp1⟩:=ai.1 hp;obtain⟨u,hu,hp2⟩:=ai.1 hp1
  cases hp2;refine⟨(0,0),fun E K H hρ _=>⟨by omega,aC.same H ?_⟩⟩;refine fL (s:=Instr.entry (ρ it)) (by simp[execOp,hop]) ?_;rw[hρ _ _ ha];exact Jy H hu
 case typeAssert x xt t c=>
  obtain⟨d,hd,hp1⟩:=ai.1 hp;obtain⟨a,ha,hp2⟩:=ai.1 hp1;have hP:=ok.und t d (cg.1 hd);have hx:execOp ρ o=(do pure (.value (<-Instr.typeAssert (ρ x) xt t c))):=by simp[execOp,hop]
  split at hp2
  . grind
  . rename_i u v' hni;split at hp2
    . rename_i hut;subst hut
      cases hp2;refine⟨(0,0),fun E K H hρ _=>⟨by omega,aC.same H (fL hx ?_)⟩⟩;unfold Instr.typeAssert;rw[hρ _ _ ha];simp only[Sem.run_bind,underlying,run_program,Result.andThen_ok,hP,Sem.run_pure,ab]
      cases d<;>first|exact absurd rfl (hni _)|(cases c<;>simp[ab])
    . rename_i hut;obtain⟨_,hck,hp3⟩:=ai.1 hp2;obtain⟨z,hz,hp4⟩:=ai.1 hp3
      cases hp4;have hc:c=true:=c9.1 hck;subst hc;refine⟨(0,0),fun E K H hρ _=>⟨by omega,aC.same H (fL hx ?_)⟩⟩;unfold Instr.typeAssert;rw[hρ _ _ ha];simp only[Sem.run_bind,underlying,run_program,Result.andThen_ok,hP,Sem.run_pure,ab]
      cases d<;>first|exact absurd rfl (hni _)|(simp[ab,hut,ot ok hz E])
  . rename_i hni;obtain⟨_,hck,hp3⟩:=ai.1 hp2;obtain⟨z,hz,hp4⟩:=ai.1 hp3
    cases hp4;have hc:c=true:=c9.1 hck;subst hc;refine⟨(0,0),fun E K H hρ _=>⟨by omega,aC.same H (fL hx ?_)⟩⟩;unfold Instr.typeAssert;rw[hρ _ _ ha];simp only[Sem.run_bind,underlying,run_program,Result.andThen_ok,hP,Sem.run_pure,ab]
    cases d<;>first|exact absurd rfl (hni _)|(simp[ab,ot ok hz E])
  . cases hp2
 case extract t i=>
  obtain⟨a,ha,hp1⟩:=ai.1 hp;split at hp1
  . obtain⟨u,hu,hp2⟩:=ai.1 hp1
    cases hp2;have hu:=cg.1 hu;refine⟨(0,0),fun E K H hρ _=>⟨by omega,aC.same H ?_⟩⟩;simp_all[Instr.extract,execOp,ab,jg]
  . cases hp1
 case call c=>
  split at hp
  . rename_i b hb;obtain⟨l,hl,hp1⟩:=ai.1 hp;refine⟨kx P w b c.argTypes (((c.args.toList.map ρ)[0]?).getD undef) (rQ l),fun E K H hρ hE=>?_⟩;have hmap:=ov hρ _ _ hl;rw[hmap]at hE;obtain⟨h1,w',h2,h3,h4⟩:=IQ ok H hp1 hE o.type (c.args.map fun| .const _=>true|_=>false);refine⟨h1,_,w',?_, .inl rfl,h3,h4⟩;rw[<-h2,<-hmap];have:(c.args.toList.map ρ).toArray=c.args.map ρ:=by simp[<-Array.toList_inj]
    rw[this];grind [execOp,resolve,invoke]
  . cases hp
 all_goals grind
end
end
end Go.Am
namespace Go.Am
section
def af.enter (fn:Func) (f:FuncId) (body:Code) (args:List AV) (kind:CallKind):af:=
 {fn:=f,nt:=Nat.max fn.ntmps args.length,tmps:=T.ofList args,todo:=[.code body],defers:=[],mode:= .run,kind,round:=none}
def af.put (fr:af) (d:Option Tmp) (v:AV):T AV:=
 match d with
 |some d=>bif Nat.blt d fr.nt then fr.tmps.set d (some v)else fr.tmps
 |none=>fr.tmps
def af.finish (fr:af) (v:AV):R af:=
 match fr.todo with
 | .inRegion ops (i::rest)::k=> .ok {fr with tmps:=fr.put ((ops[i]?).bind (·.dst)) v,todo:= .inRegion ops rest::k}
 | .dv l::k=> .ok {fr with todo:= .endRange l::k}
 | .beginRound::k=> .ok {fr with todo:=k}
 |_=> .no "finish"
def af.raise (fr:af) (c:List sD):af:=
 match fr.mode with
 | .panicking d=>{fr with mode:= .panicking (c++d)}
 |_=>{fr with mode:= .panicking c}
def exitTo (id:Nat):List bq->Option (List bq)
 | .inBlock j::k=>bif Nat.beq j id then some k else exitTo id k
 |_::k=>exitTo id k
 |[]=>none
inductive dy where
 |next (m:AM)
 |alts (l:List AM)
 |done (v:AV) (h:AH)
section
variable (tab:bc) (sub:FuncId->List AV->AH->R (List (AV×AH)))
def wanted (ops:Array Oper) (o:Oper) (ts:T AV):R Bool:=
 match o.guard with
 |none=> .ok true
 |some (j,w)=>
  match((ops[j]?).bind (·.dst)).bind ts.get with
  |some (.bool b)=> .ok (b==w)
  |some (.raw _)=> .no "guard"
  |_=> .ok false
def doReturn (fr:af) (cs:List af) (v:AV) (h:AH):R dy:=
 match cs with
 |[]=>
  match fr.kind with
  | .normal=> .ok (.done v h)
  |_=> .no "doReturn: end"
 | c::rest=>
  match fr.kind with
  | .normal=>do .ok (.next {fr:= <-c.finish v,cs:=rest,h})
  | .deferred=>
   match c.mode with
   | .panicking ({recovered:=true, .. }::_)=> .ok (.next {fr:={c with mode:= .returning},cs:=rest,h})
   |_=> .ok (.next {fr:=c,cs:=rest,h})
  |_=> .no "doReturn: kind"
def leave (fr:af) (cs:List af) (h:AH) (jump:Option Code):R dy:=
 match fr.round with
 |none=>
  match jump with
  |none=> .ok (.next {fr:={fr with mode:= .returning},cs,h})
  |some .ret=> .ok (.next {fr:={fr with mode:= .returning},cs,h})
  |_=> .no "leave"
 | some l=>
  match h.get l,cs with
  |some (.loop _ _ fn ts nt ps a b d),_::_=>
   doReturn fr cs (.bool jump.isNone) (h.set l (.loop (if jump.isNone then .ready else .done) jump fn ts nt ps a b d))
  |_,_=> .no "leave: loop"
def xH (b:ByteArray) (c:UInt8):Int:=
 match(List.range b.size).find? fun i=>b[i]! ==c with
 |some i=>(i:Nat)
 |none=> -1
def extern (tag:Nat) (fn:Func) (args:List AV) (h:AH):R (AV×AH):=
 match tag,args with
 |1,[.str a, .str b]=> .ok (.int .i64 (Extern.BytealgCompare.cmp ⟨a.toArray⟩ ⟨b.toArray⟩),h)
 |2,[x]=> .ok (x,h)
 | 3,[.int .i64 (.ofNat n)]=>do
  let t<-R.of "MakeNoZero" fn.resultTypes[0]?
  match<-und tab t with
  | .slice e=>do
   let sz<-siz tab e
   R.check "MakeNoZero" (Nat.ble n 1048576&&Nat.beq sz 1)
   let (h',b)<-newRow tab h e [] true
   .ok (.sl b 0 n (.tail 0),h')
  |_=> .no "MakeNoZero"
 | 4,[x,y]=>do
  let t<-R.of "overlaps" fn.params[0]?
  match<-und tab t with
  | .slice e=>do
   let sz<-siz tab e
   R.check "overlaps: size" (!(Nat.beq sz 0))
   match x,y with
   | .nils, .nils=> .ok (.bool false,h)
   | .nils, .sl .. => .ok (.bool false,h)
   | .sl .., .nils=> .ok (.bool false,h)
   | .sl a i n _, .sl b j m _=>do
    match h.get a,h.get b with
    |some (.cells _ _ _ _ .rw),some (.cells _ _ _ _ .rw)=>
     bif Nat.beq n 0||Nat.beq m 0 then .ok (.bool false,h)
     else .ok (.bool (Nat.beq a b&&Nat.blt i (j+m*sz)&&Nat.blt j (i+n*sz)),h)
    |_,_=> .no "overlaps"
   |_,_=> .no "overlaps"
  |_=> .no "overlaps"
 |5,[.str a, .int .u8 c]=> .ok (.int .i64 (xH ⟨a.toArray⟩ c.toNat.toUInt8),h)
 |6,[.str a, .int .u8 c]=> .ok (.int .i64 (a.count c.toNat.toUInt8:Nat),h)
 |_,_=> .no "extern"
def tJ (f:FuncId) (fn:Func) (args:List AV) (h:AH):R (AV×AH):=
 match tab.ext.get f with
 |some tag=>extern tab tag fn args h
 |none=> .no "extern"
def callFn (fr:af) (cs:List af) (h:AH) (f:FuncId) (args:List AV) (kind:CallKind):R dy:=
 match tab.fns.get f with
 | some fn=>
  match fn.body with
  | some body=>
   bif tab.merge f&&kind== .normal then do
    let outs<-sub f args h
    let ms<-outs.mapM fun(v,h')=>do R.ok {fr:= <-fr.finish v,cs,h:=h':AM}
    .ok (.alts ms)
   else .ok (.next {fr:=af.enter fn f body args kind,cs:=fr::cs,h})
  | none=>
   match kind with
   | .normal=>do
    let (v,h')<-tJ tab f fn args h
    .ok (.next {fr:= <-fr.finish v,cs,h:=h'})
   |_=> .no "callFn: no body"
 |none=> .no "callFn: no function"
def nq (ts:T AV) (nt:Nat):List Tmp->List AV->T AV
 |p::ps,a::as=>nq (bif Nat.blt p nt then ts.set p (some a)else ts) nt ps as
 |_,_=>ts
def wg (fr:af) (cs:List af) (h:AH) (l:Nat) (args:List AV) (kind:CallKind):R dy:=
 match h.get l with
 |some (.loop _ _ fn ts nt ps a b _)=>do
  R.check "yield" (Nat.beq args.length ps.size)
  .ok (.next {fr:={fn,nt,tmps:=nq ts nt ps.toList args,todo:=[.code a, .beginRound, .code b],defers:=[],mode:= .run,kind,round:=some l},cs:=fr::cs,h})
 |_=> .no "yield: loop"
def callTarget (fr:af) (cs:List af) (h:AH) (d:AD) (kind:CallKind):R dy:=
 match d.target with
 | .fn (.func f) captured=>callFn tab sub fr cs h f (d.args++captured) kind
 | .jU l=>wg fr cs h l d.args kind
 |_=> .no "callTarget"
def nj (f:AV) (args:List AV):R AD:=
 match f with
 | .fn fn first captured=> .ok {target:= .fn fn captured,args:=first++args}
 | .jU l=> .ok {target:= .jU l,args}
 |_=> .no "resolve"
def tryRecover (fr:af) (cs:List af):R (Option (AV×List af)):=
 match fr.kind,cs with
 | .deferred,c::rest=>
  match c.mode with
  | .panicking ({v,recovered:=false}::older)=> .ok (some (v,{c with mode:= .panicking ({v,recovered:=true}::older)}::rest))
  |_=> .ok none
 | .normal,_::_=> .ok none
 |_,_=> .no "recover"
def oper (fr:af) (cs:List af) (h:AH) (o:Oper):R dy:=do
 match o.op with
 | .call c=>do
  match c.callee with
  | .value f=>do
   let args<-iI fr.tmps c.args.toList
   let d<-nj (<-ev fr.tmps f) args
   callTarget tab sub fr cs h d .normal
  | .builtin .recover=>
   match fr.round with
   |none=>do
    match<-tryRecover fr cs with
    |some (v,cs')=>do .ok (.next {fr:= <-fr.finish v,cs:=cs',h})
    |none=>do .ok (.next {fr:= <-fr.finish .fu,cs,h})
   |some _=> .no "recover in a round"
  |_=>do
   let (v,h')<-eu tab fr.tmps h o
   .ok (.next {fr:= <-fr.finish v,cs,h:=h'})
 | .defer c=>do
  match c.callee,fr.round with
  | .value f,none=>do
   let args<-iI fr.tmps c.args.toList
   let d<-nj (<-ev fr.tmps f) args
   .ok (.next {fr:= <-af.finish {fr with defers:=d::fr.defers} (.bj []),cs,h})
  |_,_=> .no "defer"
 | .panic x=>do
  match<-ev fr.tmps x with
  | .iface t v=> .ok (.next {fr:=fr.raise [{v:= .iface t v,recovered:=false}],cs,h})
  |_=> .no "panic"
 | .next it s=>do
  let l<-xV h (<-ev fr.tmps it) s
  let ms<-l.mapM fun(v,h')=>do R.ok {fr:= <-fr.finish v,cs,h:=h':AM}
  match ms with
  |[m]=> .ok (.next m)
  |ms=> .ok (.alts ms)
 |_=>do
  let (v,h')<-eu tab fr.tmps h o
  .ok (.next {fr:= <-fr.finish v,cs,h:=h'})
inductive nM where
 |pure|read|alloc|jq
deriving DecidableEq
def cls (tab:bc) (o:Oper):nM:=
 match o.op with
 | .move _| .assign _| .pick .. | .build .. | .unOp .. | .makeInterface .. | .makeFunc .. | .slice .. | .fieldAddr .. | .field .. | .indexAddr .. | .index .. | .extract .. | .nilCheck _| .typeAssert .. => .pure
 | .load .. | .lookup .. | .entry _| .binOp .. => .read
 | .convert a b _=>match tab.und.get a,tab.und.get b with
  |some (.int _),some (.int _)=> .pure
  |_,_=> .jq
 | .alloc _| .box .. | .buildSlice .. | .makeMap .. | .makeSlice .. => .alloc
 | .call c=>match c.callee with
  | .builtin .len=> .read
  | .builtin .cap| .builtin .min| .builtin .max=> .pure
  |_=> .jq
 |_=> .jq
structure DS where
 ts:T AV
 h:AH
 aD:T (List Nat)
 reads:List (Nat×T AV×AV)
 ay:List (Nat×Nat)
def gC (h:AH):List (Nat×Nat)->AH
 |[]=>h
 |(_,b)::l=>gC (h.kill b) l
def restore (h h0:AH):List (Nat×Nat)->AH
 |[]=>h
 |(_,b)::l=>restore {h with t:=h.t.set b (h0.get b)} h0 l
def cF (i:Nat) (l:List Nat):Bool:=l.any (Nat.beq i)
def gx (o:Oper):List Nat:=(o.after.toList.filter (Region.binds .any)).map (·.on)
def l5 (j:Nat) (l:List Nat):List Nat:=bif cF j l then l else j::l
def rV:List Nat->List Nat->List Nat
 |[],l=>l
 |j::m,l=>rV m (l5 j l)
def uj (aD:T (List Nat)):List Nat->List Nat
 |[]=>[]
 |j::l=>l5 j (rV ((aD.get j).getD []) (uj aD l))
def dS (aD:T (List Nat)) (o:Oper):List Nat:=uj aD (gx o)
def isReady (aD:T (List Nat)) (i:Nat) (o:Oper):Bool:=(aD.get i).isNone&&(gx o).all fun j=>(aD.get j).isSome
def looks (ops:Array Oper) (o:Oper):List Tmp:=
  (o.op.operands.toList.filterMap fun| .tmp t=>some t|_=>none)++
  (match o.guard with
   |some (g,_)=>((ops[g]?).bind (·.dst)).toList
   |none=>[])
def tq (aD:T (List Nat)) (t:Tmp) (pre:List Nat):Nat->List Oper->Bool
 |_,[]=>true
 |j,o::l=>(match o.dst with
  |some d=>bif Nat.beq d t&&(aD.get j).isSome then cF j pre else true
  |none=>true)&&tq aD t pre (j+1) l
def tS (aD:T (List Nat)) (ops:Array Oper) (i:Nat) (a:Tmp) (an:List Nat):Nat->List Oper->Bool
 |_,[]=>true
 |j,o::l=>(match o.dst with
  |some d=>bif Nat.beq d a then Nat.beq i j else true
  |none=>true)&&(bif (aD.get j).isSome then cF j an|| !(cF a (looks ops o))else true)&&tS aD ops i a an (j+1) l
def ia (aD:T (List Nat)) (ops:Array Oper) (i:Nat) (o:Oper):Bool:=
  (looks ops o).all (fun t=>tq aD t (gx o) 0 ops.toList)&&
  (match o.dst with
   |some d=>tS aD ops i d (dS aD o) 0 ops.toList
   |none=>true)
def qy (ts:T AV) (h:AH) (o:Oper):R (AV×AH):=do
 match o.op with
 | .call c=>do
  match c.callee with
  | .value f=>do
   let args<-iI ts c.args.toList
   let d<-nj (<-ev ts f) args
   match d.target with
   | .fn (.func f) captured=>do
    match tab.fns.get f with
    | some fn=>
     match fn.body with
     |some _=>do
      match<-sub f (d.args++captured) h with
      |[(v,h')]=> .ok (v,h')
      |_=> .no "draw: more than one end"
     |none=>tJ tab f fn (d.args++captured) h
    |none=> .no "draw: function"
   |_=> .no "draw: target"
  | .builtin .recover=> .no "draw: recover"
  |_=>eu tab ts h o
 | .defer _| .panic _| .next .. | .go _=> .no "draw: effect"
 |_=>eu tab ts h o
def gB (nt:Nat) (ts:T AV) (o:Oper) (v:AV):T AV:=
 match o.dst with
 |some d=>bif Nat.blt d nt then ts.set d (some v)else ts
 |none=>ts
def rm (ops:Array Oper) (nt:Nat) (i:Nat) (o:Oper) (s:DS):R (Option DS):=do
 R.check "draw: temporaries" (ia s.aD ops i o)
 let aD:=s.aD.set i (some (dS s.aD o))
 if !(<-wanted ops o s.ts)then .ok (some {s with ts:=gB nt s.ts o (.bj []),aD})
 else
  match cls tab o with
  | .jq=> .ok none
  | .alloc=>do
   let (v,h1)<-eu tab s.ts {t:= .e,next:=s.h.next} o
   R.check "draw: a block" (Nat.beq h1.next (s.h.next+1))
   let obj<-R.of "draw: block" (h1.get s.h.next)
   .ok (some {s with ts:=gB nt s.ts o v,h:=s.h.new obj,aD,ay:=(i,s.h.next)::s.ay})
  | c=>
   match(match c with| .pure=>eu tab s.ts {t:= .e,next:=0} o|_=> .no "read")with
   | .ok (v,h1)=>do
    R.check "draw: no block" (Nat.beq h1.next 0)
    .ok (some {s with ts:=gB nt s.ts o v,aD})
   | .no _=>
    match eu tab s.ts (gC s.h s.ay) o with
    | .ok (v,_)=> .ok (some {s with ts:=gB nt s.ts o v,aD,reads:=(i,s.ts,v)::s.reads})
    | .no _=> .ok none
def jv (ops:Array Oper) (nt:Nat):Nat->List Oper->DS->R DS
 |_,[],s=> .ok s
 | i,o::l,s=>
  bif isReady s.aD i o then do
   match<-rm tab ops nt i o s with
   |some s'=>jv ops nt (i+1) l s'
   |none=>jv ops nt (i+1) l s
  else jv ops nt (i+1) l s
def ir (aD:T (List Nat)):Nat->List Oper->List (Nat×Oper)
 |_,[]=>[]
 |i,o::l=>bif isReady aD i o then(i,o)::ir aD (i+1) l else ir aD (i+1) l
def reread (ops:Array Oper) (h:AH):List (Nat×T AV×AV)->R Unit
 |[]=> .ok ()
 |(i,ts,v)::l=>do
  let o<-R.of "reread" ops[i]?
  let (u,_)<-eu tab ts h o
  R.check "draw: a read behind an effect" (AV.beq u v)
  reread ops h l
def xx (ops:Array Oper) (nt:Nat) (i:Nat) (o:Oper) (s:DS):R DS:=do
 R.check "draw: temporaries" (ia s.aD ops i o)
 let b<-wanted ops o s.ts
 R.check "draw: not wanted" b
 let an:=dS s.aD o
 let hid:=s.ay.filter fun x=> !(cF x.1 an)
 let (v,h1)<-qy tab sub s.ts (gC s.h hid) o
 R.check "draw: next" (Nat.ble s.h.next h1.next)
 let h2:=restore h1 s.h hid
 let reads:=s.reads.filter fun x=> !(cF x.1 an)
 reread tab ops (gC h2 hid) reads
 .ok {ts:=gB nt s.ts o v,h:=h2,aD:=s.aD.set i (some an),reads,ay:=hid}
def rp (ops:Array Oper) (nt:Nat):Nat->DS->R DS
 |0,_=> .no "draw: fuel"
 | n+1,s=>do
  let s1<-jv tab ops nt 0 ops.toList s
  match ir s1.aD 0 ops.toList with
  |[]=>do
   R.check "draw: not all" ((List.range ops.size).all fun i=>(s1.aD.get i).isSome)
   .ok s1
  |[(i,o)]=>do
   let s2<-xx tab sub ops nt i o s1
   rp ops nt n s2
  |_=> .no "draw: two effects"
def nK:Nat->List Oper->Bool
 |_,[]=>true
 |i,o::l=>(gx o).all (fun p=>Nat.blt p i)&&nK (i+1) l
def draw (ops:Array Oper) (nt:Nat) (ts:T AV) (h:AH):R (T AV×AH):=do
 R.check "draw: order" (nK 0 ops.toList)
 let s<-rp tab sub ops nt (ops.size+1) {ts,h,aD:= .e,reads:=[],ay:=[]}
 .ok (s.ts,s.h)
def results (h:AH) (ts:T AV):List ResultVar->R (List AV)
 |[]=> .ok []
 | .tmp t::l=>do
  let vs<-results h ts l
  .ok ((ts.get t).getD (.bj [])::vs)
 | .cell a t::l=>do
  match ts.get a with
  |some (.ptr b off)=>do
   let v<-loadVar tab h t b off
   let vs<-results h ts l
   .ok (v::vs)
  |_=> .no "results"
def result (vs:List AV):AV:=
 match vs with
 |[v]=>v
 |vs=> .bj vs
def unwind (fr:af) (cs:List af) (h:AH):R dy:=
 match fr.defers with
 |{target:= .collected b, .. }::ds=>
  match h.get b with
  |some (.ng (some calls))=> .ok (.next {fr:={fr with defers:=calls++ds},cs,h:=h.set b (.ng none)})
  |_=> .no "unwind: collected"
 |d::ds=>callTarget tab sub {fr with defers:=ds} cs h d .deferred
 | []=>
  match fr.mode with
  | .run=> .no "unwind"
  | .panicking chain=>
   match cs with
   |c::rest=> .ok (.next {fr:=c.raise chain,cs:=rest,h})
   |[]=> .no "a panic at the end"
  | .returning=>
   match tab.fns.get fr.fn with
   |none=> .no "unwind: function"
   |some fn=>do
    let vs<-results tab h fr.tmps fn.results.toList
    doReturn fr cs (result vs) h
def step (m:AM):R dy:=
 let fr:=m.fr
 let cs:=m.cs
 let h:=m.h
 match fr.mode with
 | .run=>
  match fr.todo with
  |[]=>leave fr cs h none
  | .code .ret::_=>leave fr cs h (some .ret)
  | .code .skip::k=> .ok (.next {fr:={fr with todo:=k},cs,h})
  | .code (.label _)::k=> .ok (.next {fr:={fr with todo:=k},cs,h})
  | .inBlock _::k=> .ok (.next {fr:={fr with todo:=k},cs,h})
  | .inScope _::k=> .ok (.next {fr:={fr with todo:=k},cs,h})
  | .code (.seq a b)::k=> .ok (.next {fr:={fr with todo:= .code a:: .code b::k},cs,h})
  | .code (.cond c a b)::k=>do
   match<-ev fr.tmps c with
   | .bool true=> .ok (.next {fr:={fr with todo:= .code a::k},cs,h})
   | .bool false=> .ok (.next {fr:={fr with todo:= .code b::k},cs,h})
   |_=> .no "cond"
  | .code (.block id b)::k=> .ok (.next {fr:={fr with todo:= .code b:: .inBlock id::k},cs,h})
  | .code (.loop b)::k=> .ok (.next {fr:={fr with todo:= .code b:: .inLoop b::k},cs,h})
  | .inLoop b::k=> .ok (.next {fr:={fr with todo:= .code b:: .inLoop b::k},cs,h})
  | .code (.scope b)::k=> .ok (.next {fr:={fr with todo:= .code b:: .inScope b::k},cs,h})
  | .code (.exit id)::k=>
   match exitTo id k with
   |some k'=> .ok (.next {fr:={fr with todo:=k'},cs,h})
   |none=>leave fr cs h (some (.exit id))
  | .code (.rangeFunc f ps a b)::k=>do
   let d<-nj (<-ev fr.tmps f) [.jU (bif fr.round.isNone then h.next+1 else h.next)]
   match fr.round with
   |none=>
    let h1:=h.new (.ng (some []))
    let h2:=h1.new (.loop .ready none fr.fn fr.tmps fr.nt ps a b h.next)
    callTarget tab sub {fr with todo:= .dv (h.next+1)::k,defers:={target:= .collected h.next,args:=[]}::fr.defers} cs h2 d .normal
   | some l=>
    match h.get l with
    |some (.loop _ _ _ _ _ _ _ _ dd)=>
     let h2:=h.new (.loop .ready none fr.fn fr.tmps fr.nt ps a b dd)
     callTarget tab sub {fr with todo:= .dv h.next::k} cs h2 d .normal
    |_=> .no "rangeFunc: loop"
  | .endRange l::k=>
   match h.get l with
   |some (.loop st pending fn ts nt ps a b d)=>
    match st with
    | .busy=> .no "endRange: busy"
    |_=> .ok (.next {fr:={fr with todo:=(pending.map bq.code).toList++k},cs,h:=h.set l (.loop .exhausted pending fn ts nt ps a b d)})
   |_=> .no "endRange"
  | .beginRound::k=>
   match fr.round with
   |some l=>
    match h.get l with
    |some (.loop .ready pending fn ts nt ps a b d)=> .ok (.next {fr:={fr with todo:=k},cs,h:=h.set l (.loop .busy pending fn ts nt ps a b d)})
    |_=> .no "beginRound"
   |none=> .no "beginRound"
  | .code (.region _ ops false)::k=> .ok (.next {fr:={fr with todo:= .inRegion ops (List.range ops.size)::k},cs,h})
  | .code (.region _ ops true)::k=>do
   let (ts,h')<-draw tab sub ops fr.nt fr.tmps h
   .ok (.next {fr:={fr with tmps:=ts,todo:=k},cs,h:=h'})
  | .inRegion _ []::k=> .ok (.next {fr:={fr with todo:=k},cs,h})
  | .inRegion ops (i::_)::_=>
   match ops[i]? with
   |some o=>do
    if<-wanted ops o fr.tmps then oper tab sub fr cs h o
    else do .ok (.next {fr:= <-fr.finish (.bj []),cs,h})
   |none=> .no "region"
  |_=> .no "item"
 |_=>unwind tab sub fr cs h
end
mutual
def runs (tab:bc):Nat->List AM->R (List (AV×AH))
 |0,_=> .no "fuel"
 |_+1,[]=> .ok []
 |n+1,m::l=>do
  let a<-run tab n m
  let b<-runs tab n l
  .ok (a++b)
def run (tab:bc):Nat->AM->R (List (AV×AH))
 |0,_=> .no "fuel"
 | n+1,m=>
  match step tab (fun f args h=>match tab.fns.get f with
   |some fn=>match fn.body with
    |some body=>run tab n {fr:=af.enter fn f body args .normal,cs:=[],h}
    |none=> .no "run: body"
   |none=> .no "run: function") m with
  | .no w=> .no w
  | .ok (.done v h)=> .ok [(v,h)]
  | .ok (.next m')=>run tab n m'
  | .ok (.alts l)=>runs tab n l
end
end
end Go.Am
namespace Go.Am
open Go.RowKit
section
variable [Inhabited aI]
def dc (E:Env):bq->Item
 | .code c=> .code c
 | .inBlock id=> .inBlock id
 | .inLoop b=> .inLoop b
 | .inScope b=> .inScope b
 | .inRegion ops l=> .inRegion ops l
 | .dv l=> .inRangeFunc (E.aN l)
 | .endRange l=> .endRangeFunc (E.aN l)
 | .beginRound=> .beginRound
def mH (E:Env) (x:sD):PanicEntry:={v:=ab E x.v,recovered:=x.recovered}
def ey (E:Env):nc->FrameMode
 | .run=> .run
 | .returning=> .returning
 | .panicking c=> .panicking (c.map (mH E))
def aZ (E:Env) (fr:af):Frame:=
 {fn:=fr.fn,tmps:=fD E fr.tmps fr.nt,todo:=fr.todo.map (dc E),defers:=fr.defers.map (dF E),mode:=ey E fr.mode,kind:=fr.kind,roundOf:=fr.round.map E.aN}
def af.WF (fr:af):Prop:=∀t,fr.nt<=t->fr.tmps.get t=none
def aj (D:Nat->Prop) (E E':Env):Prop:=∀i,D i->E'.aN i=E.aN i/\E'.cap i=E.cap i
theorem aj.refl (D:Nat->Prop) (E:Env):aj D E E:=fun _ _=>⟨rfl,rfl⟩
theorem aj.trans {D D':Nat->Prop} {E E' E'':Env} (h:aj D E E') (h':aj D' E' E'') (hd:∀i,D i->D' i):aj D E E'':=
 fun i hi=>⟨(h' i (hd i hi)).1.trans (h i hi).1,(h' i (hd i hi)).2.trans (h i hi).2⟩
structure Rel (D:Nat->Prop) (E:Env) (K:KS) (m:AM) (base:List Frame) (fr:Frame) (cs:List Frame) (w:World):Prop where
 all:∀E',aj D E E'->bo E' m.h K w/\aZ E' m.fr=fr/\m.cs.map (aZ E')++base=cs
 dM:∀i,D i->i<m.h.next
 wf:m.fr.WF/\ ∀f∈m.cs,f.WF
def fG (P:Program) (lo:Nat) (M0:Machine) (D:Nat->Prop) (E:Env) (K:KS) (m':AM) (base:List Frame) (w:World):Prop:=
 ∃fr' cs' w' E' D',Steps P M0 (lone fr' cs' w')/\Rel D' E' K m' base fr' cs' w'/\aj D E E'/\(∀i,D i->D' i)/\Kept K w w'/\lo<=m'.h.next/\ ∀i,D' i->D i\/lo<=i
def Ends (P:Program) (lo:Nat) (M0:Machine) (D:Nat->Prop) (E:Env) (K:KS) (v:AV) (h:AH) (base:List Frame) (f:FuncId) (w:World):Prop:=
 ∃fr' w' v' E' D',Steps P M0 (lone fr' base w')/\fr'.fn=f/\fr'.leaving P w' (.returned v')/\(∀E'',aj D' E' E''->bo E'' h K w'/\ab E'' v=v')/\
  aj D E E'/\(∀i,D i->D' i)/\(∀i,D' i->i<h.next)/\Kept K w w'/\lo<=h.next/\ ∀i,D' i->D i\/lo<=i
section
variable {P:Program} {D D1:Nat->Prop} {E E1:Env} {K:KS} {m:AM} {base:List Frame} {M0 M1:Machine} {w w1:World} {v:AV} {h:AH} {f:FuncId}
theorem fG.trans {lo lo1:Nat} (hs:Steps P M0 M1) (ha:aj D E E1) (hd:∀i,D i->D1 i) (hk:Kept K w w1) (hlo:lo<=lo1) (hnew:∀i,D1 i->D i\/lo<=i) (hg:fG P lo1 M1 D1 E1 K m base w1):fG P lo M0 D E K m base w:=by
 obtain⟨fr',cs',w',E',D',h1,h2,h3,h4,h5,h6,h7⟩:=hg;refine⟨fr',cs',w',E',D',hs.trans h1,h2,ha.trans h3 hd,fun i hi=>h4 i (hd i hi),hk.trans h5,AW hlo h6,fun i hi=>?_⟩;grind
theorem Ends.trans {lo lo1:Nat} (hs:Steps P M0 M1) (ha:aj D E E1) (hd:∀i,D i->D1 i) (hk:Kept K w w1) (hlo:lo<=lo1) (hnew:∀i,D1 i->D i\/lo<=i) (hg:Ends P lo1 M1 D1 E1 K v h base f w1):Ends P lo M0 D E K v h base f w:=by
 obtain⟨fr',w',v',E',D',h1,h2,h3,h4,h5,h6,h7,h8,h9',h9⟩:=hg;refine⟨fr',w',v',E',D',hs.trans h1,h2,h3,h4,ha.trans h5 hd,fun i hi=>h6 i (hd i hi),h7,hk.trans h8,AW hlo h9',fun i hi=>?_⟩;grind
end
theorem pS {fr fr':Frame} {cs cs':List Frame} {w w':World} (h:lone fr cs w=lone fr' cs' w'):fr=fr'/\cs=cs'/\w=w':=by
 grind [lone]
def One (P:Program) (M0:Machine) (E:Env) (K:KS) (m':AM) (base:List Frame) (w:World):Prop:=
 ∃w',Go.step P M0= .next (lone (aZ E m'.fr) (m'.cs.map (aZ E)++base) w')/\bo E m'.h K w'/\Kept K w w'
section
variable {P:Program} {D:Nat->Prop} {E:Env} {K:KS} {m m':AM} {base:List Frame} {fr:Frame} {cs:List Frame} {w:World}
theorem Rel.mh (hR:Rel D E K m base fr cs w) (f:Nat->Nat×Nat):∃E1,aj D E E1/\ ∀i,m.h.next<=i->E1.aN i=(f i).1/\E1.cap i=(f i).2:=by
 refine⟨⟨fun i=>if i<m.h.next then E.aN i else(f i).1,fun i=>if i<m.h.next then E.cap i else(f i).2⟩,fun i hi=>?_,fun i hi=>?_⟩
 . have:=hR.dM i hi;grind
 grind
theorem Rel.one (hR:Rel D E K m base fr cs w) (M0:Machine)
   (f:Nat->Nat×Nat) (hn:m.h.next<=m'.h.next) (hwf:m'.fr.WF/\ ∀f∈m'.cs,f.WF)
   (h1:∀E',aj D E E'->bo E' m.h K w->aZ E' m.fr=fr->m.cs.map (aZ E')++base=cs->(∀i,m.h.next<=i->i<m'.h.next->E'.aN i=(f i).1/\E'.cap i=(f i).2)->One P M0 E' K m' base w):
   fG P m.h.next M0 D E K m' base w:=by
 obtain⟨E1,ha,hE⟩:=hR.mh f;let D1:Nat->Prop:=fun i=>D i\/(m.h.next<=i/\i<m'.h.next)
 have hE1:∀E',aj D1 E1 E'->One P M0 E' K m' base w:=by
   intro E' he;have hd:aj D E E':=ha.trans he (fun i hi=> .inl hi);obtain⟨g1,g2,g3⟩:=hR.all E' hd;refine h1 E' hd g1 g2 g3 (fun i hi hj=>?_);have h2:=he i (.inr ⟨hi,hj⟩);have h3:=hE i hi;omega
 obtain⟨w',s1,s2,s3⟩:=hE1 E1 (aj.refl _ _);refine⟨_,_,w',E1,D1, .one s1,⟨?_,?_,hwf⟩,ha,fun i hi=> .inl hi,s3,hn,fun i hi=>hi.elim .inl (fun h=> .inr h.1)⟩
 . intro E' he;obtain⟨w2,t1,t2,t3⟩:=hE1 E' he;rw[s1]at t1;grind [pS]
 . intro i hi;rcases hi with hi|hi
   . have:=hR.dM i hi;omega
   omega
end
end
section
variable [Inhabited aI]
theorem wz (E:Env) (ts:T AV) (nt t:Nat) (hwf:∀t,nt<=t->ts.get t=none):(fD E ts nt).getD t undef=ab E ((ts.get t).getD (.bj [])):=by
 unfold fD;by_cases ht:t<nt
 . simp[Array.getD,ht,sd]
 . simp[Array.getD,ht,hwf t (by omega)];rfl
theorem tmps_get? (E:Env) (ts:T AV) (nt t:Nat):(fD E ts nt)[t]? =if t<nt then some (ab E ((ts.get t).getD (.bj [])))else none:=by
 grind [fD,sd]
theorem K2 (E:Env) (ts:T AV) (nt:Nat):(fD E ts nt).size=nt:=by simp[fD]
def fw (ts:T AV) (nt:Nat) (d:Tmp) (v:AV):T AV:=bif Nat.blt d nt then ts.set d (some v)else ts
theorem xb (ts:T AV) (nt:Nat) (d:Tmp) (v:AV) (t:Nat):(fw ts nt d v).get t=if d<nt/\t=d then some v else ts.get t:=by
 unfold fw;by_cases h:d<nt
 . have:Nat.blt d nt=true:=by simp_all
   grind [T.aT]
 . have:Nat.blt d nt=false:=by
    cases hb:Nat.blt d nt
    . rfl
    . exact absurd (by simp_all) h
   grind
theorem CU (E:Env) (ts:T AV) (nt:Nat) (d:Tmp) (v:AV):(fD E ts nt).setIfInBounds d (ab E v)=fD E (fw ts nt d v) nt:=by
 apply BR
 grind [tmps_get?,K2,xb]
theorem FU {ts:T AV} {nt:Nat} (h:∀t,nt<=t->ts.get t=none) (d:Tmp) (v:AV):∀t,nt<=t->(fw ts nt d v).get t=none:=by
 grind [xb]
theorem ny {fr:af} (hwf:fr.WF) (E:Env) {x:Operand} {u:AV} (h:ev fr.tmps x= .ok u):(aZ E fr).eval x=ab E u:=by
 cases x<;>simp only[ev]at h<;>(try cases h)
 . exact wz E fr.tmps fr.nt _ hwf
 all_goals simp_all[yX,Frame.eval,ab]
theorem vI (fr:af) (d:Option Tmp) (v:AV):fr.put d v=match d with|some d=>fw fr.tmps fr.nt d v|none=>fr.tmps:=by
 cases d<;>rfl
theorem js {fr fr':af} {v:AV} (h:fr.finish v= .ok fr') (E:Env):(aZ E fr).finish (ab E v)=aZ E fr'/\(fr.WF->fr'.WF)/\fr'.fn=fr.fn:=by
 obtain⟨fn,nt,tmps,todo,defers,mode,kind,round⟩:=fr;unfold af.finish at h;grind [vI,Frame.finish,aZ,dc,CU,af.WF,FU]
def bot (fr:af):List af->FuncId
 |[]=>fr.fn
 |c::cs=>bot c cs
theorem gh {fr fr':af} (h:fr'.fn=fr.fn) (cs:List af):bot fr' cs=bot fr cs:=by
 cases cs with
 |nil=>exact h
 |cons c cs=>rfl
theorem zn (E:Env) (id:Nat):∀(k:List bq),Go.exitTo id (k.map (dc E))=(exitTo id k).map (List.map (dc E)):=by
 intro k;induction k with
 |nil=>rfl
 |cons x k ih=>
  cases x<;>simp only[AZ,dc,Go.exitTo,exitTo,ih]
  rename_i j;by_cases h:j=id
  . simp_all
  grind [Nat.eq_of_beq_eq_true]
section
variable {P:Program} {D:Nat->Prop} {E:Env} {K:KS} {m:AM} {base:List Frame} {fr:Frame} {cs:List Frame} {w:World}
theorem Rel.iF (hR:Rel D E K m base fr cs w) (fr':af) (hwf:fr'.WF) (h:∀E' cs',Go.step P (lone (aZ E' m.fr) cs' w)= .next (lone (aZ E' fr') cs' w)):
  fG P m.h.next (lone fr cs w) D E K {fr:=fr',cs:=m.cs,h:=m.h} base w:=
 hR.one (m':={fr:=fr',cs:=m.cs,h:=m.h}) _ (fun _=>(0,0)) (Aj _) ⟨hwf,hR.wf.2⟩
  (fun E' _ H e1 e2 _=>⟨w,by rw[<-e1,<-e2];grind,H,Kept.refl K w⟩)
theorem vO {fr:Frame} {cs:List Frame} {s:Sem Next} {r:Next} {x:Value} {w w':World} (hs:s.run P w= .ok r w') (hr:Yields r x):
  (stepG.apply P true fr cs none s w).bare= .go {frame:=fr.finish x,callers:=cs,status:= .running,dying:=none} w':=by
 rcases hr with rfl|⟨rfl,rfl⟩<;>simp[stepG.apply,hs]
theorem NT {fr:Frame} {cs:List Frame} {ops:Array Oper} {i:Nat} {rest:List Nat} {k:List Item} {o:Oper} (hm:fr.mode= .run) (ht:fr.todo= .inRegion ops (i::rest)::k)
  (ho:ops[i]? =some o) (hw:Region.wanted o (yielded ops fr.tmps)=true) (hd:fr.roundOf=none\/ ∀c,o.op≠ .defer c) (w:World):
  stepG P true {frame:=fr,callers:=cs,status:= .running,dying:=none} w=stepG.apply P true fr cs none (execOp fr.eval o) w:=by
 have:stepG P true {frame:=fr,callers:=cs,status:= .running,dying:=none} w=stepG.oper P true fr cs none w:=by
  grind [stepG,stepG.exec]
 rw[this];grind [stepG.oper,Frame.oper?]
end
end
section
variable [Inhabited aI]
theorem PF {α:Type}:∀(l:List α) (k:Nat) (t:T α) (j:Nat),(T.fv l k t).get j=if k<=j/\j<k+l.length then l[j - k]? else t.get j:=by
 intro l;induction l with
 |nil=>
  grind [T.fv]
 |cons x l ih=>
  grind [T.fv,T.aT]
theorem jV {α:Type} (l:List α) (j:Nat):(T.ofList l).get j=l[j]? :=by
 unfold T.ofList;rw[PF];by_cases h:j<l.length
 . rw[An (by omega)];simp
 . rw[Ai (by omega),Bx (by omega)];rfl
theorem rq (fn:Func) (f:FuncId) (body:Code) (args:List AV) (kind:CallKind):(af.enter fn f body args kind).WF:=by
 intro t ht;grind [af.enter,jV]
theorem mo {P:Program} {fn:Func} {f:FuncId} {body:Code} (hf:P.funcs[f]? =some fn) (hb:fn.body=some body) (E:Env) (args:List AV) (kind:CallKind):
   Frame.enter P f (aV E args).toArray kind=aZ E (af.enter fn f body args kind):=by
 unfold Frame.enter af.enter aZ;simp only[hf,hb,Dv,Bl,A0,AZ,EC,dc,ey,Bk];congr 1
 apply BR
 intro j;rw[tmps_get?,jV,EK,Bp,bM,AR,jg,Ex];by_cases h1:j<args.length
 . have h2:j<Nat.max fn.ntmps args.length:=AK h1 (Nat.le_max_right _ _);rw[An h1,An h2,Af h1];simp
 . rw[Ai h1,Bx (by omega:args.length<=j)];have:Nat.max fn.ntmps args.length=max fn.ntmps args.length:=rfl;rw[this];by_cases h2:j<fn.ntmps
   . rw[An (by omega),An (by omega)];rfl
   grind
theorem yI (E:Env) (nt:Nat):∀(ps:List Tmp) (as:List AV) (ts:T AV),(∀t,nt<=t->ts.get t=none)->
  ((ps.zip (aV E as)).foldl (fun tmps (t,a)=>tmps.setIfInBounds t a) (fD E ts nt))=fD E (nq ts nt ps as) nt/\ ∀t,nt<=t->(nq ts nt ps as).get t=none:=by
 intro ps;induction ps with
 |nil=>intro as ts h;cases as<;>exact⟨rfl,h⟩
 | cons p ps ih=>
  intro as ts h
  cases as with
  |nil=>exact⟨rfl,h⟩
  |cons a as=>
   grind [bF,List.zip_cons_cons,CU,nq,fw,FU]
theorem vY {ops:Array Oper} {o:Oper} {ts:T AV} {nt:Nat} (hwf:∀t,nt<=t->ts.get t=none) {b:Bool} (h:wanted ops o ts= .ok b) (E:Env):
  Region.wanted o (yielded ops (fD E ts nt))=b:=by
 unfold wanted at h;unfold Region.wanted
 cases hg:o.guard with
 |none=>rw[hg]at h;grind
 | some gw=>
  obtain⟨j,u⟩:=gw;rw[hg]at h;simp only at h⊢;unfold yielded
  cases hd:(ops[j]?).bind (·.dst)with
  |none=>
   rw[hd]at h;grind
  |some d=>
   rw[hd]at h;simp only[Dv]at h⊢;rw[tmps_get?];by_cases hlt:d<nt
   . rw[An hlt]
     cases hv:ts.get d with
     |none=>rw[hv]at h;cases h;rfl
     |some v=>
      rw[hv]at h
      cases v<;>simp only at h<;>first|(cases h;done)|(cases h;simp[ab])
   grind
end
section
variable [Inhabited aI]
instance:LawfulMonad R:=LawfulMonad.mk'
 (id_map:=by intro α x;cases x<;>rfl)
 (pure_bind:=by intros;rfl)
 (bind_assoc:=by intro α β γ x f g;cases x<;>rfl)
theorem jL {P:Program} {w:World} {r:Nat} {o:Obj} (h:w.heap[r]? =some o) (hn:∀c e f,o≠ .cells c e f):(getObj r).run P w= .ok o w:=by
 grind [getObj,Sem.run]
theorem mapM_mem {α β:Type} {g:α->R β}:∀{l:List α} {ms:List β},l.mapM g= .ok ms->∀x∈l,∃y∈ms,g x= .ok y:=by
 intro l;induction l with
 |nil=>grind
 |cons a l ih=>
  intro ms h x hx;rw[List.mapM_cons]at h;obtain⟨b,hb,h1⟩:=ai.1 h;obtain⟨bs,hbs,h2⟩:=ai.1 h1
  cases h2;grind
def Out (P:Program) (lo:Nat) (M0:Machine) (D:Nat->Prop) (E:Env) (K:KS) (b:FuncId) (base:List Frame) (w:World):dy->Prop
 | .next m'=>bot m'.fr m'.cs=b/\fG P lo M0 D E K m' base w
 | .alts l=>∃m'∈l,bot m'.fr m'.cs=b/\fG P lo M0 D E K m' base w
 | .done v h=>Ends P lo M0 D E K v h base b w
theorem Out.trans {P:Program} {D D1:Nat->Prop} {E E1:Env} {K:KS} {base:List Frame} {M0 M1:Machine} {w w1:World} {b:FuncId} {out:dy} {lo lo1:Nat}
  (hs:Steps P M0 M1) (ha:aj D E E1) (hd:∀i,D i->D1 i) (hk:Kept K w w1) (hlo:lo<=lo1) (hnew:∀i,D1 i->D i\/lo<=i) (hg:Out P lo1 M1 D1 E1 K b base w1 out):Out P lo M0 D E K b base w out:=by
 cases out with
 |next m'=>exact⟨hg.1,hg.2.trans hs ha hd hk hlo hnew⟩
 |alts l=>
  obtain⟨m',h1,h2,h3⟩:=hg;exact⟨m',h1,h2,h3.trans hs ha hd hk hlo hnew⟩
 |done v h=>exact Ends.trans hs ha hd hk hlo hnew hg
def jy (P:Program) (tab:bc) (sub:FuncId->List AV->AH->R (List (AV×AH))):Prop:=
 ∀f fn body args h outs,tab.fns.get f=some fn->fn.body=some body->sub f args h= .ok outs->∀(D:Nat->Prop) (E:Env) (K:KS) (w:World) (argsC:Array Value),
  (∀E',aj D E E'->bo E' h K w/\(aV E' args).toArray=argsC)->(∀i,D i->i<h.next)->∀cs,∃v h',(v,h')∈outs/\Ends P h.next (lone (Frame.enter P f argsC .normal) cs w) D E K v h' cs f w
def jx (P:Program) (tab:bc):Prop:=
 ∀f fn args h v h',tab.fns.get f=some fn->fn.body=none->tJ tab f fn args h= .ok (v,h')->∀w,∃g:Nat×Nat,∀E K,bo E h K w->(h.next<h'.next->E.aN h.next=g.1/\E.cap h.next=g.2)->
  (h.next<=h'.next/\h'.next<=h.next+1)/\ ∃w',(callFunc f (aV E args).toArray).run P w= .ok (.value (ab E v)) w'/\bo E h' K w'/\Kept K w w'
structure Ctx (P:Program) (M0:Machine) (frC:Frame) (csC:List Frame) (w:World) (kind:CallKind) (dC:Deferred):Prop where
 enter:∀f a w',(invoke dC.target dC.args).run P w= .ok (.enter f a) w'->Go.step P M0= .next (lone (Frame.enter P f a kind) (frC::csC) w')
 round:∀l f t a b w',(invoke dC.target dC.args).run P w= .ok (.round l f t a b) w'->Go.step P M0= .next (lone (Frame.round l f t a b kind) (frC::csC) w')
 value:∀v w',(invoke dC.target dC.args).run P w= .ok (.value v) w'->kind= .normal->Go.step P M0= .next (lone (frC.finish v) csC w')
section
variable {P:Program} {tab:bc} (ok:bD P tab) {sub:FuncId->List AV->AH->R (List (AV×AH))} (hsub:jy P tab sub) (hext:jx P tab)
variable {D:Nat->Prop} {E:Env} {K:KS} {base:List Frame} {frC:Frame} {csC:List Frame} {w:World}
include ok hsub hext in
theorem IC {fr:af} {cs:List af} {h:AH} {f:FuncId} {args:List AV} {kind:CallKind} {out:dy} (hc:callFn tab sub fr cs h f args kind= .ok out)
   (hR:Rel D E K {fr,cs,h} base frC csC w) (M0:Machine) {dC:Deferred} (hctx:Ctx P M0 frC csC w kind dC)
   (hinv:∀E',aj D E E'->invoke dC.target dC.args=callFunc f (aV E' args).toArray):Out P h.next M0 D E K (bot fr cs) base w out:=by
 unfold callFn at hc;split at hc
 . rename_i fn hfn;have hP:=ok.fns f fn hfn;have hn:fn.name≠ "runtime.NumGoroutine" :=by simpa using ok.sI f fn hfn
   split at hc
   . rename_i body hb;have hrun:∀a,(callFunc f a).run P w= .ok (.enter f a) w:=by
       simp_all[callFunc]
     have hstep:∀E',aj D E E'->Go.step P M0= .next (lone (Frame.enter P f (aV E' args).toArray kind) (frC::csC) w):=fun E' he=>
       hctx.enter _ _ _ (by rw[hinv E' he,hrun])
     by_cases hm:(tab.merge f&&kind== .normal)=true
     . simp only[hm,Bv]at hc;obtain⟨outs,ho,hc1⟩:=ai.1 hc;obtain⟨ms,hms,hc2⟩:=ai.1 hc1
       cases hc2;have hk:kind= .normal:=eq_of_beq ((Ad _ _▸hm).2:(kind== .normal)=true);subst hk;have hargs:∀E',aj D E E'->(aV E' args).toArray=(aV E args).toArray:=by
         grind [aj.refl]
       obtain⟨v,h',hmem,he⟩:=hsub f fn body args h outs hfn hb ho D E K w (aV E args).toArray (fun E' he=>⟨(hR.all E' he).1,hargs E' he⟩) hR.dM (frC::csC);obtain⟨fr',w',v',E',D',s1,s2,s3,s4,s5,s6,s7,s8,s9,s10⟩:=he;obtain⟨y,hy,hg⟩:=mapM_mem hms _ hmem;obtain⟨fr1,hfin,hg1⟩:=ai.1 hg
       cases hg1;have hfc:=js hfin;refine⟨_,hy,gh (hfc E).2.2 cs,frC.finish v',csC,w',E',D',?_,⟨?_,s7,?_⟩,s5,s6,s8,s9,s10⟩
       . exact(Steps.head (hstep E (aj.refl _ _)) s1).trans (.one (step_leave_returned s3))
       . intro E'' he';obtain⟨g1,g2⟩:=s4 E'' he';obtain⟨k1,k2,k3⟩:=hR.all E'' (s5.trans he' s6);grind
       . exact⟨(hfc E).2.1 hR.wf.1,hR.wf.2⟩
     . have hm':(tab.merge f&&kind== .normal)=false:=by grind
       simp only[hm',AQ]at hc
       cases hc;refine⟨rfl,?_⟩;refine hR.one (m':={fr:=af.enter fn f body args kind,cs:=fr::cs,h}) M0 (fun _=>(0,0)) (Aj _) ⟨rq _ _ _ _ _,?_⟩ ?_
       . intro g hg;rcases Al.1 hg with rfl|hg
         . exact hR.wf.1
         . exact hR.wf.2 g hg
       . intro E' he H e1 e2 _;refine⟨w,?_,H,Kept.refl K w⟩;rw[hstep E' he,mo hP hb];grind
   . rename_i hb;split at hc
     . obtain⟨⟨v,h'⟩,hx,hc1⟩:=ai.1 hc;obtain⟨fr1,hfin,hc2⟩:=ai.1 hc1
       cases hc2;obtain⟨g,hg⟩:=hext f fn args h v h' hfn hb hx w;have hfc:=js hfin;refine⟨gh (hfc E).2.2 cs,?_⟩;obtain⟨E1,ha1,hE1⟩:=hR.mh (fun _=>g);have hn:=(hg E1 K (hR.all E1 ha1).1 (fun _=>hE1 h.next (Aj _))).1;refine hR.one (m':={fr:=fr1,cs,h:=h'}) M0 (fun _=>g) hn.1 ⟨(hfc E).2.1 hR.wf.1,hR.wf.2⟩ ?_;intro E' he H e1 e2 hE';obtain⟨_,w',s1,s2,s3⟩:=hg E' K H (fun hlt=>hE' h.next (Aj _) hlt);refine⟨w',?_,s2,s3⟩;rw[hctx.value (ab E' v) w' (by rw[hinv E' he,s1]) rfl,<-e1,<-e2,(hfc E').1]
     grind
 grind
omit ok hsub hext in
theorem H6 {fr:af} {cs:List af} {h:AH} {l:Nat} {args:List AV} {kind:CallKind} {out:dy} (hc:wg fr cs h l args kind= .ok out)
   (hR:Rel D E K {fr,cs,h} base frC csC w) (M0:Machine) {dC:Deferred} (hctx:Ctx P M0 frC csC w kind dC)
   (hinv:∀E',aj D E E'->invoke dC.target dC.args=Instr.yield (E'.aN l) (aV E' args).toArray):Out P h.next M0 D E K (bot fr cs) base w out:=by
 unfold wg at hc;split at hc
 . rename_i st pd fn ts nt ps a b d hl;obtain⟨_,hck,hc1⟩:=ai.1 hc
   cases hc1;have hck:=Ab (c9.1 hck);have hwf:∀t,nt<=t->ts.get t=none:=by
     obtain⟨o,_,_,hw⟩:=(hR.all E (aj.refl _ _)).1.obj l _ hl;exact hw
   refine⟨rfl,?_⟩;refine hR.one (m':={fr:={fn,nt,tmps:=nq ts nt ps.toList args,todo:=[.code a, .beginRound, .code b],defers:=[],mode:= .run,kind,round:=some l},cs:=fr::cs,h}) M0 (fun _=>(0,0)) (Aj _)
     ⟨(yI E nt ps.toList args ts hwf).2,?_⟩ ?_
   . intro g hg;rcases Al.1 hg with rfl|hg
     . exact hR.wf.1
     . exact hR.wf.2 g hg
   . intro E' he H e1 e2 _;refine⟨w,?_,H,Kept.refl K w⟩;obtain⟨o,ho,hoo,_⟩:=H.obj l _ hl;have hp:=(yI E' nt ps.toList args ts hwf).1;have hrun:(Instr.yield (E'.aN l) (aV E' args).toArray).run P w= .ok (.round (E'.aN l) fn (fD E' (nq ts nt ps.toList args) nt) a b) w:=by
       have hsz:(aV E' args).toArray.size=ps.size:=by simp_all
       have hz:(ps.zip (aV E' args).toArray).foldl (fun tmps (t,a)=>tmps.setIfInBounds t a) (fD E' ts nt)=fD E' (nq ts nt ps.toList args) nt:=by
        rw[<-hp,<-Array.foldl_toList,Array.toList_zip]
       simp_all[Instr.yield,Instr.getLoop,jL]
     rw[hctx.round _ _ _ _ _ w (by rw[hinv E' he,hrun])];grind [Frame.round,aZ,dc,ey]
 grind
include ok hsub hext in
theorem sK {fr:af} {cs:List af} {h:AH} {d:AD} {kind:CallKind} {out:dy} (hc:callTarget tab sub fr cs h d kind= .ok out)
  (hR:Rel D E K {fr,cs,h} base frC csC w) (M0:Machine) {dC:Deferred} (hctx:Ctx P M0 frC csC w kind dC) (hd:∀E',aj D E E'->dF E' d=dC):Out P h.next M0 D E K (bot fr cs) base w out:=by
 unfold callTarget at hc;grind [IC,dF,lY,invoke,dB,H6]
end
end
section
variable [Inhabited aI]
theorem Jt {P:Program} (w:World) (n:Nat) (hn:1<n):(choose (.mapNext n)).run P w= .ok (w.tape w.drawn (.mapNext n) % n) w.drew:=by
 have:(Question.mapNext n).forced=false:=by grind [Question.forced]
 simp_all[Question.cut]
theorem yZ {P:Program} (w:World) (n:Nat) (hn:n<=1):(choose (.mapNext n)).run P w= .ok 0 w:=by
 have:(Question.mapNext n).forced=true:=by grind [Question.forced]
 simp_all
theorem pT {P:Program} {w:World} {r:Nat} {o:Obj} (h:w.heap[r]? =some o) (hn:∀c e f,o≠ .cells c e f) (o':Obj):(setObj r o').run P w= .ok () (w.put r o'):=by
 simp only[setObj,Sem.run,h];rfl
section
variable {P:Program} {h:AH}
theorem Ct (E:Env) (es:List (AV×AV×Nat)) (seen:List Nat):
  (es.map (cO E)).toArray.filter (fun e=> !seen.toArray.contains e.born)=((es.filter fun x=> !(seen.any (Nat.beq x.2.2))).map (cO E)).toArray:=by
 apply Array.toList_inj.1;simp only[Df,List.filter_map];congr 1
 apply List.filter_congr;intro x _;simp only[Function.comp,cO,List.contains_toArray];congr 1
 rw[AE];simp_all
theorem J4 {it:AV} {s:Bool} {l:List (AV×AH)} (hn:xV h it s= .ok l) (w:World) (ty:TypeId):
   ∃j:Nat,∀E K,bo E h K w->∃(v:AV) (h':AH),l[j]? =some (v,h')/\h'.next=h.next/\ ∃w',(Instr.next (ab E it) s ty).run P w= .ok (ab E v) w'/\bo E h' K w'/\Kept K w w':=by
 unfold xV at hn;split at hn
 . rename_i r;split at hn
   . rename_i hr
     cases hn;refine⟨0,fun E K H=>⟨_,_,rfl,rfl,w,?_,H,Kept.refl K w⟩⟩;obtain⟨o,ho,hoo⟩:=H.obj r _ hr;subst hoo;unfold Instr.next;simp only[ab,Sem.run_bind,jL ho (by simp),Result.andThen_ok,Bk];rfl
   . rename_i str pos hr;by_cases hlt:Nat.blt pos str.length=true
     . simp only[hlt,Bv]at hn
       cases hn;refine⟨0,fun E K H=>?_⟩;obtain⟨o,ho,hoo⟩:=H.obj r _ hr;subst hoo;have hp:pos<(⟨str.toArray⟩:ByteArray).size:=by rw[nu];simp_all
       refine⟨_,_,rfl,rfl,w.put (E.aN r) (.stringIter ⟨str.toArray⟩ (pos+(Utf8.decode ⟨str.toArray⟩ pos).2)),?_,H.put hr (by simp[AO.ro]) (by simp[kr]),H.bK hr (by simp[AO.ro]) _⟩;unfold Instr.next;simp only[ab,Sem.run_bind,jL ho (by simp),Result.andThen_ok,hp,Bq];rw[pT ho (by simp)];simp[ab,goInt,Go.goInt]
     . simp only[hlt,AQ]at hn
       cases hn;refine⟨0,fun E K H=>⟨_,_,rfl,rfl,w,?_,H,Kept.refl K w⟩⟩;obtain⟨o,ho,hoo⟩:=H.obj r _ hr;subst hoo;have hp:¬pos<(⟨str.toArray⟩:ByteArray).size:=by
         intro e;have:Nat.blt pos str.length=true:=by rw[nu]at e;simpa using e
         rw[this]at hlt;grind
       unfold Instr.next;simp only[ab,Sem.run_bind,jL ho (by simp),Result.andThen_ok,hp,AP];rfl
   . rename_i m since seen last hr;obtain⟨⟨es,c⟩,hm,hn1⟩:=ai.1 hn;obtain⟨_,hck,hn2⟩:=ai.1 hn1;have hck:=c9.1 hck;simp only[Ad,Aq]at hck;obtain⟨hcs,hall⟩:=hck;have hcs:=Ab hcs;subst hcs;have hgo:∀E K,bo E h K w->w.heap[E.aN r]? =some (.mapIter (some (E.aN m)) c seen.toArray last)/\w.heap[E.aN m]? =some (.map (es.map (cO E)).toArray c):=by
       intro E K H;obtain⟨o,ho,hoo⟩:=H.obj r _ hr;subst hoo;exact⟨ho,H.map (kG hm)⟩
     have hborn:∀x∈es,x.2.2<c/\x.2.2<last:=by
       intro x hx;have:=hall x hx;simp_all
     have hold:∀(E:Env) (q:List (AV×AV×Nat)),(∀x∈q,x∈es)->((q.map (cO E)).toArray.filter fun e=>decide (e.born<c))=(q.map (cO E)).toArray/\((q.map (cO E)).toArray.filter fun e=>decide (e.born>=c))=#[]:=by
       intro E q hq;constructor
       . apply Array.filter_eq_self.2;intro a ha;obtain⟨x,hx,rfl⟩:=Ar.1 (List.mem_toArray.1 ha);have h1:=(hborn _ (hq _ hx)).1;exact A7 h1
       . apply Array.filter_eq_empty_iff.2;intro a ha;obtain⟨x,hx,rfl⟩:=Ar.1 (List.mem_toArray.1 ha);have h1:=(hborn _ (hq _ hx)).1;intro h2;exact Nat.not_le.2 h1 (Bo h2)
     have hchk:∀E:Env,(!seen.toArray.isEmpty&& !(es.map (cO E)).toArray.isEmpty&&(es.map (cO E)).toArray.all (fun e=>decide (e.born>=last)))=false:=by
       intro E
       cases es with
       |nil=>simp
       | cons x t=>
         have:=(hborn x Ap).2;have:(((x::t).map (cO E)).toArray.all (fun e=>decide (e.born>=last)))=false:=by
           grind [cO]
         rw[this,BA]
     generalize hL:(es.filter fun x=> !(seen.any (Nat.beq x.2.2)))=L at hn2
     have hLm:∀x∈L,x∈es:=by
       grind
     cases L with
     | nil=>
       cases hn2;refine⟨0,fun E K H=>⟨_,_,rfl,rfl,w,?_,H,Kept.refl K w⟩⟩;obtain⟨h1,h2⟩:=hgo E K H;obtain⟨h3,h4⟩:=hold E [] (by simp);unfold Instr.next;simp only[ab,Sem.run_bind,jL h1 (by simp),jL h2 (by simp),Result.andThen_ok,hchk E,Ao,AP,Ct,hL,h3,h4];rw[yZ _ _ (by simp)];simp[ab]
     | cons a t=>
       cases hn2;let L:List (AV×AV×Nat):=a::t
       have hj:∃j:Nat,j<(a::t).length/\ ∃w1,w1.heap=w.heap/\Kept ⟨fun _=>False,0⟩ w w1/\(w1=w\/w1=w.drew)/\(choose (.mapNext (a::t).length)).run P w= .ok j w1:=by
         by_cases h1:(a::t).length<=1
         . exact⟨0,by simp,w,rfl,Kept.refl _ w, .inl rfl,yZ w _ h1⟩
         . exact⟨_,Eo _ (by simp),w.drew,rfl,Kept.drew _ w, .inr rfl,Jt w _ (by omega)⟩
       obtain⟨j,hlt,w1,hh,_,hw1,hrun⟩:=hj;refine⟨j,fun E K H=>?_⟩;obtain⟨h1,h2⟩:=hgo E K H;obtain⟨h3,h4⟩:=hold E (a::t) hLm;have H1:bo E h K w1:=by
         rcases hw1 with rfl|rfl
         . exact H
         . exact H.drew
       have k1:Kept K w w1:=by
         rcases hw1 with rfl|rfl
         all_goals grind [Kept.refl,Kept.drew]
       refine⟨.bj [.bool true,(a::t)[j].1,(a::t)[j].2.1],h.set r (.fK (some m) c (seen++[(a::t)[j].2.2]) c),?_,rfl,w1.put (E.aN r) (.mapIter (some (E.aN m)) c (seen++[(a::t)[j].2.2]).toArray c),?_,
         H1.put hr (by simp[AO.ro]) (by simp[kr]),k1.trans (H1.bK hr (by simp[AO.ro]) _)⟩
       . rw[Az,Af hlt];rfl
       . unfold Instr.next;simp only[ab,Sem.run_bind,jL h1 (by simp),jL h2 (by simp),Result.andThen_ok,hchk E,Ao,AP,Ct,hL,h3,h4];have hc:((if((a::t).map (cO E)).toArray.isEmpty=true then #[none]else #[])++((((a::t).map (cO E)).toArray++ #[]).map some):Array (Option MapEntry))=((a::t).map (fun x=>some (cO E x))).toArray:=by
           simp
         rw[hc];have hsz:((a::t).map (fun x=>some (cO E x))).toArray.size=(a::t).length:=by simp
         rw[hsz,hrun];have hget:((a::t).map (fun x=>some (cO E x))).toArray[j]? =some (some (cO E (a::t)[j])):=by
           rw[AR,Az,Af hlt];rfl
         simp only[Result.andThen_ok,hget,Sem.run_bind];have ho1:w1.heap[E.aN r]? =some (.mapIter (some (E.aN m)) c seen.toArray last):=by rw[hh];exact h1
         rw[pT ho1 (by simp)];simp[cO,ab]
   grind
 grind
end
end
section
variable [Inhabited aI]
section
variable {P:Program} {tab:bc} (ok:bD P tab) {sub:FuncId->List AV->AH->R (List (AV×AH))} (hsub:jy P tab sub) (hext:jx P tab)
variable {D:Nat->Prop} {E:Env} {K:KS} {base:List Frame} {frC:Frame} {csC:List Frame} {w:World}
variable {fr:af} {cs:List af} {h:AH} {ops:Array Oper} {i:Nat} {rest:List Nat} {k:List bq} {o:Oper}
structure gG (frC:Frame) (ops:Array Oper) (i:Nat) (rest:List Nat) (o:Oper):Prop where
 mode:frC.mode= .run
 todo:∃k,frC.todo= .inRegion ops (i::rest)::k
 op:ops[i]? =some o
 wanted:Region.wanted o (yielded ops frC.tmps)=true
theorem ku (hR:Rel D E K {fr,cs,h} base frC csC w) (hm:fr.mode= .run) (ht:fr.todo= .inRegion ops (i::rest)::k) (ho:ops[i]? =some o) (hw:wanted ops o fr.tmps= .ok true):gG frC ops i rest o:=by
 obtain⟨_,e,_⟩:=hR.all E (aj.refl _ _);subst e;refine⟨by grind [aZ,ey],⟨k.map (dc E),by grind [aZ,dc]⟩,ho,?_⟩;exact vY hR.wf.1 hw E
theorem gG.step (a:gG frC ops i rest o) (hd:frC.roundOf=none\/ ∀c,o.op≠ .defer c) (csC:List Frame) (w:World):
  stepG P true {frame:=frC,callers:=csC,status:= .running,dying:=none} w=stepG.apply P true frC csC none (execOp frC.eval o) w:=by
 obtain⟨k,hk⟩:=a.todo;exact NT a.mode hk a.op a.wanted hd w
theorem gG.value (a:gG frC ops i rest o) (hd:frC.roundOf=none\/ ∀c,o.op≠ .defer c) (csC:List Frame) {w w':World} {r:Next} {x:Value} (hs:(execOp frC.eval o).run P w= .ok r w') (hr:Yields r x):
  Go.step P (lone frC csC w)= .next (lone (frC.finish x) csC w'):=
 step_lone_go (by rw[a.step hd,vO hs hr])
theorem CH {ts:T AV} {v:AV} {h':AH} (hp:eu tab ts h o= .ok (v,h')):∀c,o.op≠ .defer c:=by
 grind [eu]
include ok in
theorem Lw (hR:Rel D E K {fr,cs,h} base frC csC w) (a:gG frC ops i rest o) {v:AV} {h':AH} (hp:eu tab fr.tmps h o= .ok (v,h')) {fr':af} (hf:fr.finish v= .ok fr'):
  Out P h.next (lone frC csC w) D E K (bot fr cs) base w (.next {fr:=fr',cs,h:=h'}):=by
 obtain⟨f,hgood⟩:=yT ok hp w frC.eval;have hfc:=js hf;have hρ:∀E',aj D E E'->∀x u,ev fr.tmps x= .ok u->frC.eval x=ab E' u:=by
  intro E' he x u hx;rw[<-(hR.all E' he).2.1];exact ny hR.wf.1 E' hx
 obtain⟨E1,ha1,hE1⟩:=hR.mh (fun _=>f);have hn:=(hgood E1 K (hR.all E1 ha1).1 (hρ E1 ha1) (fun _=>hE1 h.next (Aj _))).1;refine⟨gh (hfc E).2.2 cs,?_⟩;refine hR.one (m':={fr:=fr',cs,h:=h'}) _ (fun _=>f) hn.1 ⟨(hfc E).2.1 hR.wf.1,hR.wf.2⟩ ?_;intro E' he H e1 e2 hE';obtain⟨_,r,w',s1,s2,s3,s4⟩:=hgood E' K H (hρ E' he) (fun hlt=>hE' h.next (Aj _) hlt);refine⟨w',?_,s3,s4⟩;rw[a.value (.inr (CH hp)) csC s1 s2,<-e1,<-e2,(hfc E').1]
theorem pC {u:AV} {args:List AV} {d:AD} (hd:nj u args= .ok d) (E:Env):Deferred.ofValue (ab E u) (aV E args).toArray=pure (dF E d):=by
 unfold nj at hd;split at hd
 . cases hd;simp[Deferred.ofValue,ab,dF,lY]
 all_goals grind [Deferred.ofValue,ab,dF,lY]
theorem qR {f:Value} {a:Array Value} {d:AD} (h:∀E',aj D E E'->Deferred.ofValue f a=pure (dF E' d)):∀E',aj D E E'->dF E' d=dF E d:=by
 intro E' he;have h1:=h E' he;rw[h E (aj.refl _ _)]at h1;have h2:(pure (dF E d):Sem Deferred).run default default=(pure (dF E' d):Sem Deferred).run default default:=by rw[h1]
 simpa using h2.symm
theorem wE (a:gG frC ops i rest o) (hd:frC.roundOf=none\/ ∀c,o.op≠ .defer c) {dC:Deferred} (hx:(execOp frC.eval o).run P w=(invoke dC.target dC.args).run P w):
   Ctx P (lone frC csC w) frC csC w .normal dC:=by
 obtain⟨k,hk⟩:=a.todo;refine⟨fun f x w' hr=>?_,fun l f t x b w' hr=>?_,fun v w' hr _=>?_⟩
 . refine step_lone_go ?_;rw[a.step hd];simp_all[stepG.apply]
 . refine step_lone_go ?_;rw[a.step hd];simp_all[stepG.apply]
 . exact a.value hd csC (by rw[hx,hr]) (.inl rfl)
theorem Ii {r:Option (AV×List af)} (hr:tryRecover fr cs= .ok r) (E:Env) (base:List Frame):
   Go.tryRecover (aZ E fr) (cs.map (aZ E)++base)=r.map (fun x=>(ab E x.1,x.2.map (aZ E)++base)):=by
 unfold tryRecover at hr;split at hr
 . rename_i _ c rest hk;have hk':(aZ E fr).kind= .deferred:=hk;split at hr
   . grind [aZ,mH,ey,Go.tryRecover]
   . cases hr;simp only[AZ,BO,Go.tryRecover,hk',Bk];split
     . rename_i heq;simp only[aZ,ey]at heq;split at heq
       . grind
       . grind
       . rename_i chain hch
         cases chain with
         |nil=>grind
         |cons p older=>
          obtain⟨v',rc⟩:=p;simp_all[mH]
     . rfl
 all_goals grind [aZ,Go.tryRecover]
theorem IM {v:AV} {cs':List af} (hr:tryRecover fr cs= .ok (some (v,cs'))):(∀f∈cs,f.WF)->(∀f∈cs',f.WF)/\(∀fr',fr'.fn=fr.fn->bot fr' cs'=bot fr cs):=by
 intro hwf;unfold tryRecover at hr;split at hr
 . rename_i _ c rest hk;split at hr
   . cases hr;refine⟨fun f hf=>?_,fun fr' hf=>?_⟩
     . rcases Al.1 hf with rfl|hf
       . exact hwf c Ap
       grind
     grind [bot,gh]
   grind
 all_goals grind
include ok hsub hext in
theorem J6 {out:dy} (hop:oper tab sub fr cs h o= .ok out) (hR:Rel D E K {fr,cs,h} base frC csC w) (hm:fr.mode= .run) (ht:fr.todo= .inRegion ops (i::rest)::k)
   (ho:ops[i]? =some o) (hw:wanted ops o fr.tmps= .ok true):Out P h.next (lone frC csC w) D E K (bot fr cs) base w out:=by
 have a:=ku hR hm ht ho hw;have hρ:∀E',aj D E E'->∀x u,ev fr.tmps x= .ok u->frC.eval x=ab E' u:=by
   intro E' he x u hx;rw[<-(hR.all E' he).2.1];exact ny hR.wf.1 E' hx
 have hpure:∀{out:dy},(do let (v,h')<-eu tab fr.tmps h o;R.ok (dy.next {fr:= <-fr.finish v,cs,h:=h'}):R dy)= .ok out->Out P h.next (lone frC csC w) D E K (bot fr cs) base w out:=by
   grind [ai,Lw]
 unfold oper at hop;split at hop
 . rename_i c hc;split at hop
   ·
     rename_i f hf;obtain⟨args,hargs,hop1⟩:=ai.1 hop;obtain⟨u,hu,hop2⟩:=ai.1 hop1;obtain⟨d,hd,hop3⟩:=ai.1 hop2;have hres:∀E',aj D E E'->Deferred.ofValue (frC.eval f) (c.args.map frC.eval)=pure (dF E' d):=by
       intro E' he;rw[<-pC hd E',hρ E' he _ _ hu,<-ov (hρ E' he) _ _ hargs];congr 1
       simp[<-Array.toList_inj]
     have hrob:=qR hres;refine sK ok hsub hext hop3 hR _ (dC:=dF E d) (wE a (.inr (by rw[hc];intro c' e;cases e)) ?_) hrob;grind [execOp,resolve,aj.refl]
   ·
     rename_i hb;split at hop
     . rename_i hround;have hr0:frC.roundOf=none:=by
         rw[<-(hR.all E (aj.refl _ _)).2.1];simp[aZ,hround]
       obtain⟨r,hr,hop1⟩:=ai.1 hop;have hnd:frC.roundOf=none\/ ∀c,o.op≠ .defer c:= .inl hr0;have hrun:(execOp frC.eval o).run P w= .ok .recover w:=by
         simp[execOp,hc,resolve,hb,invoke,Go.builtin]
       have hstep:∀E',aj D E E'->(stepG P true {frame:=frC,callers:=csC,status:= .running,dying:=none} w).bare=
          (match r.map (fun x=>(ab E' x.1,x.2.map (aZ E')++base))with
           |some (v,callers)=> .go {frame:=frC.finish v,callers,status:= .running,dying:=none} w
           |none=> .go {frame:=frC.finish .nilIface,callers:=csC,status:= .running,dying:=none} w):=by
         intro E' he;obtain⟨_,e1,e2⟩:=hR.all E' he;rw[<-Ii hr E' base,e1,e2,a.step hnd];simp only[stepG.apply,hrun,hr0,Sem.runT_eq,Bq]
         cases Go.tryRecover frC csC<;>simp
       split at hop1
       . rename_i v cs';obtain⟨fr',hf,hop2⟩:=ai.1 hop1
         cases hop2;have hfc:=js hf;obtain⟨g1,g2⟩:=IM hr hR.wf.2;refine⟨g2 _ (hfc E).2.2,?_⟩;refine hR.one (m':={fr:=fr',cs:=cs',h}) _ (fun _=>(0,0)) (Aj _) ⟨(hfc E).2.1 hR.wf.1,g1⟩ ?_;intro E' he H e1 e2 _;refine⟨w,step_lone_go ?_,H,Kept.refl K w⟩;rw[hstep E' he,<-(hfc E').1,e1];rfl
       . obtain⟨fr',hf,hop2⟩:=ai.1 hop1
         cases hop2;have hfc:=js hf;refine⟨gh (hfc E).2.2 cs,?_⟩;refine hR.one (m':={fr:=fr',cs,h}) _ (fun _=>(0,0)) (Aj _) ⟨(hfc E).2.1 hR.wf.1,hR.wf.2⟩ ?_;intro E' he H e1 e2 _;refine⟨w,step_lone_go ?_,H,Kept.refl K w⟩;rw[hstep E' he,<-(hfc E').1,e1,e2];rfl
     . cases hop
   grind
 ·
   rename_i c hc;split at hop
   . rename_i f hf hround;have hr0:frC.roundOf=none:=by
       rw[<-(hR.all E (aj.refl _ _)).2.1];simp[aZ,hround]
     obtain⟨args,hargs,hop1⟩:=ai.1 hop;obtain⟨u,hu,hop2⟩:=ai.1 hop1;obtain⟨d,hd,hop3⟩:=ai.1 hop2;obtain⟨fr',hfin,hop4⟩:=ai.1 hop3
     cases hop4;have hres:∀E',aj D E E'->Deferred.ofValue (frC.eval f) (c.args.map frC.eval)=pure (dF E' d):=by
       intro E' he;rw[<-pC hd E',hρ E' he _ _ hu,<-ov (hρ E' he) _ _ hargs];congr 1
       simp[<-Array.toList_inj]
     have hfc:=js hfin;refine⟨(gh (hfc E).2.2 cs).trans (gh (by rfl) cs),?_⟩;refine hR.one (m':={fr:=fr',cs,h}) _ (fun _=>(0,0)) (Aj _) ⟨(hfc E).2.1 hR.wf.1,hR.wf.2⟩ ?_;intro E' he H e1 e2 _;refine⟨w,step_lone_go ?_,H,Kept.refl K w⟩;have hrun:(execOp frC.eval o).run P w= .ok (.defer (dF E' d)) w:=by
       simp[execOp,hc,resolve,hf,hres E' he]
     rw[a.step (.inl hr0),<-(hfc E').1,<-e2];simp only[stepG.apply,hrun,Sem.runT_eq,Bq,GStep.bare_after,GStep.bare_go];rw[<-e1];rfl
   . cases hop
 ·
   rename_i x hx;obtain⟨u,hu,hop1⟩:=ai.1 hop;split at hop1
   . rename_i t v
     cases hop1;have hnd:∀c,o.op≠ .defer c:=by rw[hx];intro c e;cases e
     refine⟨gh (by unfold af.raise;split<;>rfl) cs,?_⟩;refine hR.one (m':={fr:=fr.raise [{v:= .iface t v,recovered:=false}],cs,h}) _ (fun _=>(0,0)) (Aj _) ⟨by unfold af.raise;split<;>exact hR.wf.1,hR.wf.2⟩ ?_;intro E' he H e1 e2 _;refine⟨w,step_lone_go ?_,H,Kept.refl K w⟩;have hrun:(execOp frC.eval o).run P w= .halt (.panic (ab E' (.iface t v))) w:=by
       simp[execOp,hx,hρ E' he _ _ hu,ab,Instr.panic,goPanic,Sem.run,Result.andThen]
     rw[a.step (.inr hnd),<-e2];simp only[stepG.apply,hrun,Sem.runT_eq,Bq,GStep.bare_after,GStep.bare_go];rw[<-e1];simp[Frame.raise,af.raise,aZ,hm,ey,mH]
   . cases hop1
 ·
   rename_i it s hn;obtain⟨u,hu,hop1⟩:=ai.1 hop;obtain⟨l,hl,hop2⟩:=ai.1 hop1;obtain⟨ms,hms,hop3⟩:=ai.1 hop2;have hnd:∀c,o.op≠ .defer c:=by rw[hn];intro c e;cases e
   obtain⟨j,hj⟩:=J4 (P:=P) hl w o.type;obtain⟨v,h',hv,hh,_⟩:=hj E K (hR.all E (aj.refl _ _)).1;obtain⟨y,hy,hg⟩:=mapM_mem hms _ (BV hv);obtain⟨fr',hfin,hg1⟩:=ai.1 hg
   cases hg1;have hfc:=js hfin;have hgets:bot fr' cs=bot fr cs/\fG P h.next (lone frC csC w) D E K {fr:=fr',cs,h:=h'} base w:=by
     refine⟨gh (hfc E).2.2 cs,?_⟩;refine hR.one (m':={fr:=fr',cs,h:=h'}) _ (fun _=>(0,0)) (by simp only;omega) ⟨(hfc E).2.1 hR.wf.1,hR.wf.2⟩ ?_;intro E' he H e1 e2 _;obtain⟨v2,h2,hv2,_,w',s1,s2,s3⟩:=hj E' K H;rw[hv]at hv2
     cases hv2;refine⟨w',?_,s2,s3⟩;rw[a.value (.inr hnd) csC (fL (s:=Instr.next (frC.eval it) s o.type) (by simp[execOp,hn]) (by rw[hρ E' he _ _ hu];exact s1)) (.inl rfl),<-e1,<-e2,(hfc E').1]
   split at hop3
   . cases hop3;rcases Al.1 hy with rfl|hy
     . exact hgets
     . cases hy
   . cases hop3;exact⟨_,hy,hgets⟩
 grind
end
end
section
variable [Inhabited aI]
section
variable {P:Program} {tab:bc} (ok:bD P tab) {sub:FuncId->List AV->AH->R (List (AV×AH))} (hsub:jy P tab sub) (hext:jx P tab)
variable {D:Nat->Prop} {E:Env} {K:KS} {base:List Frame} {frC:Frame} {csC:List Frame} {w:World}
variable {fr:af} {cs:List af} {h:AH}
theorem Jw (E:Env) (l:List sD):(l.map (mH E)).dropWhile (fun e=> !e.goexit)=[]:=by
 induction l with
 |nil=>rfl
 |cons a l ih=>simp_all[mH]
theorem vM {v:AV} {m':AM} (hd:doReturn fr cs v h= .ok (.next m')) (hwf:∀f∈cs,f.WF) (w:World):
   m'.h=h/\bot m'.fr m'.cs=bot fr cs/\(m'.fr.WF/\ ∀f∈m'.cs,f.WF)/\
   ∀ E base,(Go.doReturn P true (aZ E fr) (cs.map (aZ E)++base) none (ab E v) w).bare=
     .go {frame:=aZ E m'.fr,callers:=m'.cs.map (aZ E)++base,status:= .running,dying:=none} w:=by
 unfold doReturn at hd;split at hd
 . split at hd<;>cases hd
 . rename_i c rest;have hc:=hwf c Ap;have hrest:∀f∈rest,f.WF:=fun f hf=>hwf f (Aw _ hf)
   split at hd
   . rename_i hk;obtain⟨fr1,hf,hd1⟩:=ai.1 hd
     cases hd1;have hfc:=js hf;refine⟨rfl,gh (hfc ⟨fun _=>0,fun _=>0⟩).2.2 rest,⟨(hfc ⟨fun _=>0,fun _=>0⟩).2.1 hc,hrest⟩,fun E base=>?_⟩;have hk':(aZ E fr).kind= .normal:=hk;simp_all[Go.doReturn]
   . rename_i hk;split at hd
     . cases hd;refine⟨rfl,gh (by rfl) rest,⟨hc,hrest⟩,fun E base=>?_⟩;have hk':(aZ E fr).kind= .deferred:=hk;simp_all[Go.doReturn,aZ,ey,mH,Jw]
     . cases hd;refine⟨rfl,rfl,⟨hc,hrest⟩,fun E base=>?_⟩;have hk':(aZ E fr).kind= .deferred:=hk;simp only[AZ,BO,Go.doReturn,hk'];split
       . rename_i heq;simp only[aZ,ey]at heq;split at heq
         . grind
         . grind
         . rename_i chain hch
           cases chain with
           |nil=>grind
           |cons p older=>
            obtain⟨v',rc⟩:=p;simp_all[mH]
       . rfl
   grind
include ok in
theorem Jh {ts:T AV} {nt:Nat} (hwf:∀t,nt<=t->ts.get t=none) (H:bo E h K w):∀(l:List ResultVar) (vs:List AV),results tab h ts l= .ok vs->
  (l.mapM (m:=Sem) fun
   | .tmp t=>pure ((fD E ts nt).getD t undef)
   | .cell a t=>do Go.loadVar t (<-asAddr ((fD E ts nt).getD a undef))).run P w= .ok (aV E vs) w:=by
 intro l;induction l with
 |nil=>simp_all[results]
 | cons x l ih=>
  intro vs hr;rw[List.mapM_cons]
  cases x with
  |tmp t=>
   grind [results,ai,Sem.run_bind,Sem.run_pure,Result.andThen_ok,wz,bF]
  |cell a t=>
   simp only[results]at hr;split at hr
   . rename_i b off ha;obtain⟨v,h1,h2⟩:=ai.1 hr;obtain⟨vs1,h3,h4⟩:=ai.1 h2
     cases h4;have hv:=zq ok H h1;have hva:asAddr (ab E (.ptr b off))=pure ⟨E.aN b,off,none⟩:=rfl;grind [Sem.run_bind,Sem.run_pure,Result.andThen_ok,wz,bF]
   grind
include ok in
theorem Jb {fn:Func} {ts:T AV} {nt:Nat} (hwf:∀t,nt<=t->ts.get t=none) (H:bo E h K w) {vs:List AV} (hr:results tab h ts fn.results.toList= .ok vs):
  (Go.results fn (fD E ts nt)).run P w= .ok (ab E (result vs)) w:=by
 have h1:=Jh ok hwf H _ _ hr;unfold Go.results;rw[Array.mapM_eq_mapM_toList,map_eq_pure_bind,Sem.run_bind,Sem.run_bind];erw[h1]
 cases vs with
 |nil=>simp[result,ab]
 |cons v vs=>
  cases vs with
  |nil=>simp[result]
  |cons u vs=>simp[result,ab]
end
end
section
variable [Inhabited aI]
section
variable {P:Program} {tab:bc} (ok:bD P tab) {sub:FuncId->List AV->AH->R (List (AV×AH))} (hsub:jy P tab sub) (hext:jx P tab)
variable {D:Nat->Prop} {E:Env} {K:KS} {base:List Frame} {frC:Frame} {csC:List Frame} {w:World}
variable {fr:af} {cs:List af} {h:AH}
theorem tt {E E':Env} (e:aZ E' fr=aZ E fr):fD E' fr.tmps fr.nt=fD E fr.tmps fr.nt/\fr.todo.map (dc E')=fr.todo.map (dc E)/\
  fr.defers.map (dF E')=fr.defers.map (dF E)/\ey E' fr.mode=ey E fr.mode/\fr.round.map E'.aN=fr.round.map E.aN:=by
 grind [aZ]
def lV (P:Program) (fr:Frame) (callers:List Frame) (w:World) (jump:Option Code):GStep:=
 match fr.roundOf with
 |none=>if jump matches none|some .ret then .go {frame:={fr with mode:= .returning},callers,status:= .running,dying:=none} w else .ended (.stuck "exit, goto: no such block or label" (fr.pos P)) w
 |some l=>
  let (r,es):=(Instr.endRound l jump).runT P w #[]
  GStep.after (seen P fr.fn es)<|match r with
  | .ok v w=>Go.doReturn P true fr callers none v w
  | .halt _ w=> .ended (.stuck "range over a function: no such loop" (fr.pos P)) w
theorem yB {c:af} {rest:List af} {v:AV} {out:dy} (hd:doReturn fr (c::rest) v h= .ok out):∃m',out= .next m':=by
 grind [doReturn,ai]
theorem vS {jump:Option Code} {out:dy} (hl:leave fr cs h jump= .ok out) (hR:Rel D E K {fr,cs,h} base frC csC w)
   (hx:stepG P true {frame:=frC,callers:=csC,status:= .running,dying:=none} w=lV P frC csC w jump):Out P h.next (lone frC csC w) D E K (bot fr cs) base w out:=by
 unfold leave at hl;split at hl
 . have hret:(jump=none\/jump=some .ret)->Out P h.next (lone frC csC w) D E K (bot fr cs) base w (.next {fr:={fr with mode:= .returning},cs,h}):=by
     intro hj;refine⟨gh (by rfl) cs,?_⟩;refine hR.one (m':={fr:={fr with mode:= .returning},cs,h}) _ (fun _=>(0,0)) (Aj _) ⟨hR.wf.1,hR.wf.2⟩ ?_;intro E' he H e1 e2 _;refine⟨w,step_lone_go ?_,H,Kept.refl K w⟩;rw[hx];have hr0:frC.roundOf=none:=by rw[<-e1];grind [aZ]
     have hgo:(lV P frC csC w jump).bare= .go {frame:={frC with mode:= .returning},callers:=csC,status:= .running,dying:=none} w:=by
       unfold lV;rw[hr0];rcases hj with rfl|rfl<;>rfl
     rw[hgo,<-e1,<-e2];grind [aZ,ey]
   grind
 . rename_i l hround;split at hl
   . rename_i _ st pd fn ts nt ps a b d c rest hg;obtain⟨m',rfl⟩:=yB hl
     . obtain⟨h1,h2,h3,h4⟩:=vM (P:=P) hl hR.wf.2 w;refine⟨h2,?_⟩;refine hR.one _ (fun _=>(0,0)) (by rw[h1];simp_all) h3 ?_;intro E' he H e1 e2 _;obtain⟨o,ho,hoo,hw⟩:=H.obj l _ hg;subst hoo;let o':Obj:= .loop {state:=if jump.isNone then .ready else .done,pending:=jump,fn,tmps:=fD E' ts nt,params:=ps,assign:=a,body:=b,defers:=E'.aN d}
       have hrun:(Instr.endRound (E'.aN l) jump).run P w= .ok (.bool jump.isNone) (w.put (E'.aN l) o'):=by
         unfold Instr.endRound Instr.getLoop;simp only[Sem.run_bind,jL ho (by simp),Result.andThen_ok,Sem.run_pure,pT ho (by simp)];rfl
       refine⟨w.put (E'.aN l) o',step_lone_go ?_,?_,H.bK hg (by simp[AO.ro]) _⟩
       . rw[hx];have hr0:frC.roundOf=some (E'.aN l):=by rw[<-e1];grind [aZ]
         unfold lV;rw[hr0];simp only[Sem.runT_eq,hrun,GStep.bare_after];have:=(vM (P:=P) hl hR.wf.2 (w.put (E'.aN l) o')).2.2.2 E' base;rw[e1,e2]at this;exact this
       . rw[h1];refine H.put hg (by simp[AO.ro]) ⟨?_,hw⟩;by_cases hj:jump.isNone<;>simp[o',hj]
   grind
theorem IX (hm:frC.mode≠ .run):stepG P true {frame:=frC,callers:=csC,status:= .running,dying:=none} w=Go.unwind P true frC csC none w:=by
 grind [stepG]
include ok hsub hext in
theorem IZ {out:dy} (hu:unwind tab sub fr cs h= .ok out) (hm:∀(_:fr.mode= .run),False) (hR:Rel D E K {fr,cs,h} base frC csC w):Out P h.next (lone frC csC w) D E K (bot fr cs) base w out:=by
 have hmC:frC.mode≠ .run:=by
   rw[<-(hR.all E (aj.refl _ _)).2.1];intro e;simp only[aZ,ey]at e;grind
 have hx:=IX (P:=P) (csC:=csC) (w:=w) hmC;unfold unwind at hu;split at hu
 ·
   rename_i b args ds hds;split at hu
   . rename_i calls hb
     cases hu;refine⟨gh (by rfl) cs,?_⟩;refine hR.one (m':={fr:={fr with defers:=calls++ds},cs,h:=h.set b (.ng none)}) _ (fun _=>(0,0)) (Aj _) ⟨hR.wf.1,hR.wf.2⟩ ?_;intro E' he H e1 e2 _;obtain⟨o,ho,hoo⟩:=H.obj b _ hb;simp only[kr]at hoo;refine⟨w.put (E'.aN b) (.deferred none),step_lone_go ?_,H.put hb (by simp[AO.ro]) (by simp[kr]),H.bK hb (by simp[AO.ro]) _⟩;rw[hx];have hrun:(Instr.takeDeferred (E'.aN b)).run P w= .ok (calls.map (dF E')) (w.put (E'.aN b) (.deferred none)):=by
       simp_all[Instr.takeDeferred,jL,pT]
     have hdef:frC.defers={target:= .collected (E'.aN b),args:=(aV E' args).toArray}::ds.map (dF E'):=by
       rw[<-e1];grind [aZ,dF,lY]
     grind [Go.unwind,Sem.runT_eq,GStep.bare_after,GStep.bare_go,aZ]
   grind
 ·
   rename_i d ds hnc hds;have hR':Rel D E K {fr:={fr with defers:=ds},cs,h} base (aZ E {fr with defers:=ds}) csC w:=by
     refine⟨fun E' he=>?_,hR.dM,hR.wf.1,hR.wf.2⟩;obtain⟨g1,g2,g3⟩:=hR.all E' he;refine⟨g1,?_,g3⟩;obtain⟨h1,h2,h3,h4,h5⟩:=tt (g2.trans (hR.all E (aj.refl _ _)).2.1.symm);rw[hds]at h3;grind [aZ]
   have hdrob:∀E',aj D E E'->dF E' d=dF E d:=by
     intro E' he;obtain⟨g1,g2,g3⟩:=hR.all E' he;obtain⟨h1,h2,h3,h4,h5⟩:=tt (g2.trans (hR.all E (aj.refl _ _)).2.1.symm);rw[hds]at h3;grind
   have hfr:frC=aZ E fr:=(hR.all E (aj.refl _ _)).2.1.symm;have hdef:frC.defers=dF E d::ds.map (dF E):=by
     rw[hfr];grind [aZ]
   have hfr':({frC with defers:=ds.map (dF E)}:Frame)=aZ E {fr with defers:=ds}:=by
     rw[hfr];rfl
   have hux:Go.unwind P true frC csC none w=callDeferred P (aZ E {fr with defers:=ds}) csC none (dF E d) w:=by
     have hnc':∀b,(dF E d).target≠ .collected b:=by
       intro b e;obtain⟨t,a⟩:=d
       cases t with
       |fn f c=>grind [dF,lY]
       |jU l=>grind [dF,lY]
       |collected r=>grind
     grind [Go.unwind]
   obtain⟨tg,tc,htgt⟩:∃g c,(dF E d).target= .fn g c:=by
     obtain⟨t,a⟩:=d
     cases t with
     |fn f c=>exact⟨_,_,rfl⟩
     |jU l=>exact⟨_,_,rfl⟩
     |collected r=>grind
   rw[<-gh (fr:=fr) (fr':={fr with defers:=ds}) rfl cs];refine(sK ok hsub hext hu hR' (lone frC csC w) (dC:=dF E d) ⟨fun f x w' hr=>?_,fun l f t x b w' hr=>?_,fun v w' hr hk=>?_⟩ hdrob)
   all_goals grind [step_lone_go,callDeferred,Sem.runT_eq,GStep.bare_after,GStep.bare_go]
 . have hdef:frC.defers=[]:=by
     rw[<-(hR.all E (aj.refl _ _)).2.1];grind [aZ]
   split at hu
   . cases hu
   ·
     rename_i chain hmode;split at hu
     . rename_i c rest
       cases hu;refine⟨gh (by grind [af.raise]) rest,?_⟩;refine hR.one (m':={fr:=c.raise chain,cs:=rest,h}) _ (fun _=>(0,0)) (Aj _)
        ⟨by have:=hR.wf.2 c Ap;unfold af.raise;split<;>exact this,fun f hf=>hR.wf.2 f (Aw _ hf)⟩ ?_
       intro E' he H e1 e2 _;refine⟨w,step_lone_go ?_,H,Kept.refl K w⟩;have hmd:frC.mode= .panicking (chain.map (mH E')):=by rw[<-e1];grind [aZ,ey]
       have hcat:frC.catches P=false:=by
        unfold Frame.catches;rw[<-e1]
        cases P.funcs[(aZ E' fr).fn]? with
        |some _=>rfl
        | none=>
          cases htd:fr.todo with
          |nil=>grind [aZ]
          |cons x l=>cases x<;>simp[aZ,htd,dc]
       rw[hx];unfold Go.unwind;simp only[hdef,hmd,hcat,Ao,AP];rw[<-e2];unfold Frame.raise af.raise
       cases hcm:c.mode<;>simp[aZ,hcm,ey]
     grind
   ·
     split at hu
     . cases hu
     . rename_i fn hfn;obtain⟨vs,hvs,hu1⟩:=ai.1 hu;have hP:=ok.fns _ _ hfn;have hmd:frC.mode= .returning:=by rw[<-(hR.all E (aj.refl _ _)).2.1];grind [aZ,ey]
       have hres:∀E',aj D E E'->(Go.results fn frC.tmps).run P w= .ok (ab E' (result vs)) w:=by
        intro E' he;obtain⟨g1,g2,g3⟩:=hR.all E' he;rw[<-g2];exact Jb ok hR.wf.1 g1 hvs
       have hfn':frC.fn=fr.fn:=by rw[<-(hR.all E (aj.refl _ _)).2.1];rfl
       have hP':P.funcs[frC.fn]? =some fn:=by rw[hfn'];exact hP
       have hxx:∀E',aj D E E'->(stepG P true {frame:=frC,callers:=csC,status:= .running,dying:=none} w).bare=(Go.doReturn P true frC csC none (ab E' (result vs)) w).bare:=by
        grind [Go.unwind,Sem.runT_eq,GStep.bare_after]
       cases cs with
       |cons c rest=>
        obtain⟨m',rfl⟩:=yB hu1;obtain⟨h1,h2,h3,h4⟩:=vM (P:=P) hu1 hR.wf.2 w;refine⟨h2,?_⟩;refine hR.one _ (fun _=>(0,0)) (by rw[h1];grind) h3 ?_;intro E' he H e1 e2 _;refine⟨w,step_lone_go ?_,by rw[h1];exact H,Kept.refl K w⟩;rw[hxx E' he];have:=h4 E' base;grind
       |nil=>
        unfold doReturn at hu1;simp only at hu1;split at hu1
        . rename_i hk
          cases hu1;have hk':frC.kind= .normal:=by rw[<-(hR.all E (aj.refl _ _)).2.1];exact hk
          have hcs:csC=base:=by rw[<-(hR.all E (aj.refl _ _)).2.2];rfl
          subst hcs;refine⟨frC,w,ab E (result vs),E,D,Steps.refl P _,hfn',⟨hmd,hdef,hk',fn,hP',hres E (aj.refl _ _)⟩,?_,aj.refl _ _,fun _ hi=>hi,hR.dM,Kept.refl K w,Aj _,fun _ hi=> .inl hi⟩;intro E'' he;refine⟨(hR.all E'' he).1,?_⟩;have h1:=hres E'' he;rw[hres E (aj.refl _ _)]at h1;grind
        grind
end
end
section
variable [Inhabited aI]
section
variable {P:Program} {tab:bc} (ok:bD P tab) {sub:FuncId->List AV->AH->R (List (AV×AH))} (hsub:jy P tab sub) (hext:jx P tab)
variable {D:Nat->Prop} {E:Env} {K:KS} {base:List Frame} {frC:Frame} {csC:List Frame} {w:World}
variable {fr:af} {cs:List af} {h:AH}
theorem Rel.grow {m:AM} (hR:Rel D E K m base frC csC w) (m':AM) (fr':Frame) (w':World) (f:Nat->Nat×Nat) (hn:m.h.next<=m'.h.next) (hwf:m'.fr.WF/\ ∀f∈m'.cs,f.WF) (hcs:m'.cs=m.cs)
   (h1:∀E',aj D E E'->bo E' m.h K w->aZ E' m.fr=frC->(∀i,m.h.next<=i->i<m'.h.next->E'.aN i=(f i).1/\E'.cap i=(f i).2)->bo E' m'.h K w'/\aZ E' m'.fr=fr'):
   ∃D1 E1,Rel D1 E1 K m' base fr' csC w'/\aj D E E1/\(∀i,D i->D1 i)/\(∀i,m.h.next<=i->i<m'.h.next->∀E',aj D1 E1 E'->E'.aN i=(f i).1)/\(∀i,D1 i->D i\/m.h.next<=i):=by
 obtain⟨E1,ha,hE⟩:=hR.mh f;let D1:Nat->Prop:=fun i=>D i\/(m.h.next<=i/\i<m'.h.next)
 have hnew:∀i,m.h.next<=i->i<m'.h.next->∀E',aj D1 E1 E'->E'.aN i=(f i).1/\E'.cap i=(f i).2:=by
   intro i hi hj E' he;have h2:=he i (.inr ⟨hi,hj⟩);have h3:=hE i hi;omega
 refine⟨D1,E1,⟨fun E' he=>?_,fun i hi=>?_,hwf⟩,ha,fun i hi=> .inl hi,fun i hi hj E' he=>(hnew i hi hj E' he).1,fun i hi=>hi.elim .inl (fun h=> .inr h.1)⟩
 . have hd:aj D E E':=ha.trans he (fun i hi=> .inl hi);obtain⟨g1,g2,g3⟩:=hR.all E' hd;grind
 . rcases hi with hi|hi
   . have:=hR.dM i hi;omega
   omega
theorem yY {M0:Machine} {frC':Frame} {fr0:Frame} {w0:World} {s:Sem Next} {dC:Deferred} (hM:M0=lone fr0 csC w0)
   (hx:(stepG P true {frame:=fr0,callers:=csC,status:= .running,dying:=none} w0).bare=(stepG.apply P true frC' csC none s w).bare)
   (ht:∃l k,frC'.todo= .inRangeFunc l::k) (hs:s.run P w=(invoke dC.target dC.args).run P w):Ctx P M0 frC' csC w .normal dC:=by
 subst hM;obtain⟨l,k,ht⟩:=ht;refine⟨fun f x w' hr=>?_,fun l f t x b w' hr=>?_,fun v w' hr _=>?_⟩
 . refine step_lone_go ?_;rw[hx];simp_all[stepG.apply]
 . refine step_lone_go ?_;rw[hx];simp_all[stepG.apply]
 . refine step_lone_go ?_;rw[hx,vO (by rw[hs,hr]) (.inl rfl)]
def xG (P:Program) (tab:bc) (sub:FuncId->List AV->AH->R (List (AV×AH))):Prop:=
 ∀ (fr:af) (cs:List af) (h:AH) (id:Nat) (ops:Array Oper) (k:List bq) (ts:T AV) (h':AH),fr.mode= .run->fr.todo= .code (.region id ops true)::k->draw tab sub ops fr.nt fr.tmps h= .ok (ts,h')->
  ∀(D:Nat->Prop) (E:Env) (K:KS) (base:List Frame) (frC:Frame) (csC:List Frame) (w:World),Rel D E K {fr,cs,h} base frC csC w->
   fG P h.next (lone frC csC w) D E K {fr:={fr with tmps:=ts,todo:=k},cs,h:=h'} base w
include ok hsub hext in
theorem Jg {f:Operand} {ps:Array Tmp} {a b:Code} {k:List bq} {out:dy} (hm:fr.mode= .run) (ht:fr.todo= .code (.rangeFunc f ps a b)::k) (hR:Rel D E K {fr,cs,h} base frC csC w)
   (hs : (do
     let d<-nj (<-ev fr.tmps f) [.jU (bif fr.round.isNone then h.next+1 else h.next)]
     match fr.round with
     | none=>
       let h1:=h.new (.ng (some []))
       let h2:=h1.new (.loop .ready none fr.fn fr.tmps fr.nt ps a b h.next)
       callTarget tab sub {fr with todo:= .dv (h.next+1)::k,defers:={target:= .collected h.next,args:=[]}::fr.defers} cs h2 d .normal
     | some l=>
       match h.get l with
       | some (.loop _ _ _ _ _ _ _ _ dd)=>
         let h2:=h.new (.loop .ready none fr.fn fr.tmps fr.nt ps a b dd)
         callTarget tab sub {fr with todo:= .dv h.next::k} cs h2 d .normal
       |_=> .no "rangeFunc: loop" :R dy)= .ok out):Out P h.next (lone frC csC w) D E K (bot fr cs) base w out:=by
 obtain⟨u,hu,hs1⟩:=ai.1 hs;obtain⟨d,hd,hs2⟩:=ai.1 hs1;have hρ:∀E',aj D E E'->∀x u,ev fr.tmps x= .ok u->frC.eval x=ab E' u:=by
   intro E' he x u hx;rw[<-(hR.all E' he).2.1];exact ny hR.wf.1 E' hx
 have hmC:frC.mode= .run:=by rw[<-(hR.all E (aj.refl _ _)).2.1];grind [aZ,ey]
 have htC:frC.todo= .code (.rangeFunc f ps a b)::k.map (dc E):=by rw[<-(hR.all E (aj.refl _ _)).2.1];grind [aZ,dc]
 have hfnC:frC.fn=fr.fn:=by rw[<-(hR.all E (aj.refl _ _)).2.1];rfl
 have hrob:∀E',aj D E E'->aZ E' fr=aZ E fr:=fun E' he=>(hR.all E' he).2.1.trans (hR.all E (aj.refl _ _)).2.1.symm
 split at hs2
 . have hr0:frC.roundOf=none:=by rw[<-(hR.all E (aj.refl _ _)).2.1];grind [aZ]
   let N:=w.heap.size
   let w1:=w.alloc (.deferred (some []))
   let w2:=w1.alloc (.loop {state:= .ready,pending:=none,fn:=fr.fn,tmps:=frC.tmps,params:=ps,assign:=a,body:=b,defers:=N})
   let frC':Frame:={frC with todo:= .inRangeFunc (N+1)::k.map (dc E),defers:={target:= .collected N,args:=#[]}::frC.defers,mode:= .run}
   have hparts:∀E',aj D E E'->fD E' fr.tmps fr.nt=frC.tmps/\k.map (dc E')=k.map (dc E)/\fr.defers.map (dF E')=frC.defers/\ey E' fr.mode=frC.mode/\fr.kind=frC.kind/\fr.round.map E'.aN=frC.roundOf:=by
     intro E' he;have e1:=(hR.all E' he).2.1;obtain⟨_,g2,_⟩:=tt (hrob E' he);simp only[ht,AZ,BU]at g2;exact⟨by rw[<-e1];rfl,g2.2,by rw[<-e1];rfl,by rw[<-e1];rfl,by rw[<-e1];rfl,by rw[<-e1];rfl⟩
   obtain⟨D1,E1,hR1,ha1,hd1,hb1,hw1⟩:=hR.grow {fr:={fr with todo:= .dv (h.next+1)::k,defers:={target:= .collected h.next,args:=[]}::fr.defers},cs,h:=(h.new (.ng (some []))).new (.loop .ready none fr.fn fr.tmps fr.nt ps a b h.next)}
     frC' w2 (fun i=>(N+(i - h.next),0)) (by grind [AH.cm]) ⟨hR.wf.1,hR.wf.2⟩ rfl (by
       intro E' he H e1 hE';have b1:E'.aN h.next=N:=by have:=(hE' h.next (Aj _) (by grind [AH.cm])).1;omega
       have b2:E'.aN (h.next+1)=N+1:=by have:=(hE' (h.next+1) (by simp) (by simp_all)).1;omega
       have H1:bo E' (h.new (.ng (some []))) K w1:=H.new b1 (by simp[kr]);have hsz:w1.heap.size=N+1:=by simp[w1,N]
       obtain⟨p1,p2,p3,p4,p5,p6⟩:=hparts E' he;refine⟨H1.new (by simp_all) ⟨?_,hR.wf.1⟩,?_⟩
       all_goals grind [aZ,dc,dF,lY,cW])
   have hrun:(Instr.enterLoop frC.fn frC.tmps ps a b frC.roundOf).run P w= .ok (N+1,[{target:= .collected N,args:=#[]}]) w2:=by
     rw[hr0,hfnC];unfold Instr.enterLoop;simp[N];rfl
   have hresv:∀E',aj D1 E1 E'->Deferred.ofValue (frC.eval f) #[.func (.yield (N+1)) #[] #[]]=pure (dF E' d):=by
     intro E' he;rw[<-pC hd E',hρ E' (ha1.trans he hd1) _ _ hu];have h3:E'.aN (h.next+1)=N+1:=by
       have:=hb1 (h.next+1) (by simp) (by simp_all) E' he;omega
     grind [bF,cW,ab]
   have hdrob:=qR hresv;rw[<-gh (fr:=fr) (fr':={fr with todo:= .dv (h.next+1)::k,defers:={target:= .collected h.next,args:=[]}::fr.defers}) rfl cs];refine Out.trans (Steps.refl P _) ha1 hd1 ?_ (by grind [AH.cm]) hw1 (sK ok hsub hext hs2 hR1 (lone frC csC w) (dC:=dF E1 d) ?_ hdrob)
   . exact(Kept.alloc (hR.all E (aj.refl _ _)).1.kb _).trans (Kept.alloc (fun b hb=>by have:=(hR.all E (aj.refl _ _)).1.kb b hb;simp[w1];omega) _)
   . refine yY (s:=do let d<-resolve frC'.eval {callee:= .value f,args:=#[.const (.func (.yield (N+1)) #[] #[])],argTypes:=#[]} 0;invoke d.target d.args) rfl ?_ ⟨N+1,_,rfl⟩ ?_
     . grind [stepG,stepG.exec,Sem.runT_eq,GStep.bare_after]
     . have he:frC'.eval f=frC.eval f:=by cases f<;>rfl
       have h2:=hresv E1 (aj.refl _ _);grind [resolve,Frame.eval]
 . rename_i l hround;split at hs2
   . rename_i st pd fn' ts nt ps' a' b' dd hl;let N:=w.heap.size
     let blkL:=E.aN l
     have hloop:∀E',aj D E E'->∃o,w.heap[E'.aN l]? =some (.loop o)/\o.defers=E'.aN dd:=by
       intro E' he;obtain⟨o,ho,hoo,_⟩:=(hR.all E' he).1.obj l _ hl;grind
     have hr0:∀E',aj D E E'->frC.roundOf=some (E'.aN l):=by
       intro E' he;rw[<-(hR.all E' he).2.1];grind [aZ]
     obtain⟨o,ho,hod⟩:=hloop E (aj.refl _ _);have hdd:∀E',aj D E E'->E'.aN dd=o.defers:=by
       grind [aj.refl]
     let w2:=w.alloc (.loop {state:= .ready,pending:=none,fn:=fr.fn,tmps:=frC.tmps,params:=ps,assign:=a,body:=b,defers:=o.defers})
     let frC':Frame:={frC with todo:= .inRangeFunc N::k.map (dc E),mode:= .run}
     have hparts:∀E',aj D E E'->fD E' fr.tmps fr.nt=frC.tmps/\k.map (dc E')=k.map (dc E)/\fr.defers.map (dF E')=frC.defers/\ey E' fr.mode=frC.mode/\fr.kind=frC.kind/\fr.round.map E'.aN=frC.roundOf:=by
       intro E' he;have e1:=(hR.all E' he).2.1;obtain⟨_,g2,_⟩:=tt (hrob E' he);simp only[ht,AZ,BU]at g2;exact⟨by rw[<-e1];rfl,g2.2,by rw[<-e1];rfl,by rw[<-e1];rfl,by rw[<-e1];rfl,by rw[<-e1];rfl⟩
     obtain⟨D1,E1,hR1,ha1,hd1,hb1,hw1⟩:=hR.grow {fr:={fr with todo:= .dv h.next::k},cs,h:=h.new (.loop .ready none fr.fn fr.tmps fr.nt ps a b dd)}
       frC' w2 (fun _=>(N,0)) (by simp) ⟨hR.wf.1,hR.wf.2⟩ rfl (by
         intro E' he H e1 hE';have b1:E'.aN h.next=N:=(hE' h.next (Aj _) (by simp)).1;obtain⟨p1,p2,p3,p4,p5,p6⟩:=hparts E' he;refine⟨H.new b1 ⟨?_,hR.wf.1⟩,?_⟩
         all_goals grind [aZ,dc])
     have hrun:(Instr.enterLoop frC.fn frC.tmps ps a b frC.roundOf).run P w= .ok (N,[]) w2:=by
       rw[hr0 E (aj.refl _ _),hfnC];unfold Instr.enterLoop Instr.getLoop;simp only[Sem.run_bind,jL ho (by simp),run_newObj,Result.andThen_ok,Sem.run_pure];rfl
     have hresv:∀E',aj D1 E1 E'->Deferred.ofValue (frC.eval f) #[.func (.yield N) #[] #[]]=pure (dF E' d):=by
       intro E' he;rw[<-pC hd E',hρ E' (ha1.trans he hd1) _ _ hu];have h3:E'.aN h.next=N:=hb1 h.next (Aj _) (by simp) E' he;grind [bF,cW,ab]
     have hdrob:=qR hresv;rw[<-gh (fr:=fr) (fr':={fr with todo:= .dv h.next::k}) rfl cs];refine Out.trans (Steps.refl P _) ha1 hd1 ?_ (by simp only[AH.cm];omega) hw1 (sK ok hsub hext hs2 hR1 (lone frC csC w) (dC:=dF E1 d) ?_ hdrob)
     . exact Kept.alloc (hR.all E (aj.refl _ _)).1.kb _
     . refine yY (s:=do let d<-resolve frC'.eval {callee:= .value f,args:=#[.const (.func (.yield N) #[] #[])],argTypes:=#[]} 0;invoke d.target d.args) rfl ?_ ⟨N,_,rfl⟩ ?_
       . unfold stepG stepG.exec;simp only[hmC,htC,Sem.runT_eq,hrun,GStep.bare_after];rfl
       . have he:frC'.eval f=frC.eval f:=by cases f<;>rfl
         have h2:=hresv E1 (aj.refl _ _);simp only[Sem.run_bind,resolve,he];have hargs:Array.map frC'.eval #[.const (.func (.yield N) #[] #[])]=#[.func (.yield N) #[] #[]]:=by simp[Frame.eval]
         rw[hargs,h2];simp
   grind
end
end
section
variable [Inhabited aI]
section
variable {P:Program} {tab:bc} (ok:bD P tab) {sub:FuncId->List AV->AH->R (List (AV×AH))} (hsub:jy P tab sub) (hext:jx P tab) (hdraw:xG P tab sub)
variable {D:Nat->Prop} {E:Env} {K:KS} {base:List Frame} {frC:Frame} {csC:List Frame} {w:World}
theorem Ks (hm:frC.mode= .run) (ht:frC.todo=[]):stepG P true {frame:=frC,callers:=csC,status:= .running,dying:=none} w=lV P frC csC w none:=by
 grind [stepG,stepG.exec,lV]
theorem Kt {k:List Item} (hm:frC.mode= .run) (ht:frC.todo= .code .ret::k):stepG P true {frame:=frC,callers:=csC,status:= .running,dying:=none} w=lV P frC csC w (some .ret):=by
 grind [stepG,stepG.exec,lV]
theorem JW {id:Nat} {k:List Item} (hm:frC.mode= .run) (ht:frC.todo= .code (.exit id)::k) (hk:Go.exitTo id k=none):stepG P true {frame:=frC,callers:=csC,status:= .running,dying:=none} w=lV P frC csC w (some (.exit id)):=by
 grind [stepG,stepG.exec,lV]
theorem ju {fr:af} {cs:List af} {h:AH} (hR:Rel D E K {fr,cs,h} base frC csC w) (k:List bq)
  (hx:∀E' cs',Go.step P (lone (aZ E' fr) cs' w)= .next (lone (aZ E' {fr with todo:=k}) cs' w)):
  Out P h.next (lone frC csC w) D E K (bot fr cs) base w (.next {fr:={fr with todo:=k},cs,h}):=
 ⟨gh (by rfl) cs,hR.iF {fr with todo:=k} hR.wf.1 hx⟩
include ok hsub hext hdraw in
theorem wu {m:AM} {out:dy} (hs:step tab sub m= .ok out) (hR:Rel D E K m base frC csC w):Out P m.h.next (lone frC csC w) D E K (bot m.fr m.cs) base w out:=by
 obtain⟨fr,cs,h⟩:=m;unfold step at hs;simp only at hs;split at hs
 . rename_i hm;have hmC:frC.mode= .run:=by rw[<-(hR.all E (aj.refl _ _)).2.1];grind [aZ,ey]
   split at hs
   ·
     have htC:frC.todo=[]:=by rw[<-(hR.all E (aj.refl _ _)).2.1];grind [aZ]
     grind [vS,Ks]
   . rename_i k ht;have htC:frC.todo= .code .ret::k.map (dc E):=by rw[<-(hR.all E (aj.refl _ _)).2.1];grind [aZ,dc]
     grind [vS,Kt]
   . rename_i k ht
     cases hs;exact ju hR k (fun E' cs'=>step_lone_go (by simp_all[stepG,stepG.exec,aZ,ey,dc]))
   . rename_i l k ht
     cases hs;exact ju hR k (fun E' cs'=>step_lone_go (by simp_all[stepG,stepG.exec,aZ,ey,dc]))
   . rename_i l k ht
     cases hs;exact ju hR k (fun E' cs'=>step_lone_go (by simp_all[stepG,stepG.exec,aZ,ey,dc]))
   . rename_i l k ht
     cases hs;exact ju hR k (fun E' cs'=>step_lone_go (by simp_all[stepG,stepG.exec,aZ,ey,dc]))
   . cases hs;exact ju hR _ (fun E' cs'=>step_lone_go (by simp_all[stepG,stepG.exec,aZ,ey,dc]))
   ·
     obtain⟨u,hu,hs1⟩:=ai.1 hs;split at hs1
     . cases hs1;exact ju hR _ (fun E' cs'=>step_lone_go (by
         have:=ny hR.wf.1 E' hu;simp_all[ab,stepG,stepG.exec,aZ,ey,dc]))
     . cases hs1;exact ju hR _ (fun E' cs'=>step_lone_go (by
         have:=ny hR.wf.1 E' hu;simp_all[ab,stepG,stepG.exec,aZ,ey,dc]))
     grind
   . cases hs;exact ju hR _ (fun E' cs'=>step_lone_go (by simp_all[stepG,stepG.exec,aZ,ey,dc]))
   . cases hs;exact ju hR _ (fun E' cs'=>step_lone_go (by simp_all[stepG,stepG.exec,aZ,ey,dc]))
   . cases hs;exact ju hR _ (fun E' cs'=>step_lone_go (by simp_all[stepG,stepG.exec,aZ,ey,dc]))
   . cases hs;exact ju hR _ (fun E' cs'=>step_lone_go (by simp_all[stepG,stepG.exec,aZ,ey,dc]))
   ·
     rename_i id k ht;split at hs
     . cases hs;exact ju hR _ (fun E' cs'=>step_lone_go (by simp_all[stepG,stepG.exec,aZ,ey,dc,zn]))
     . have htC:frC.todo= .code (.exit id)::k.map (dc E):=by rw[<-(hR.all E (aj.refl _ _)).2.1];grind [aZ,dc]
       grind [vS,JW,zn]
   ·
     grind [Jg]
   ·
     rename_i l k ht;split at hs
     . rename_i st pd fn ts nt ps a b d hl;have hbusy:st≠ .busy:=by grind
       have hs1:(R.ok (dy.next {fr:={fr with todo:=(pd.map bq.code).toList++k},cs,h:=h.set l (.loop .exhausted pd fn ts nt ps a b d)}):R dy)= .ok out:=by
         cases st<;>first|exact hs|grind
       cases hs1;refine⟨gh (by rfl) cs,?_⟩;refine hR.one (m':={fr:={fr with todo:=(pd.map bq.code).toList++k},cs,h:=h.set l (.loop .exhausted pd fn ts nt ps a b d)}) _ (fun _=>(0,0)) (Aj _) ⟨hR.wf.1,hR.wf.2⟩ ?_;intro E' he H e1 e2 _;obtain⟨o,ho,hoo,hw⟩:=H.obj l _ hl;subst hoo;let o':Obj:= .loop {state:= .exhausted,pending:=pd,fn,tmps:=fD E' ts nt,params:=ps,assign:=a,body:=b,defers:=E'.aN d}
       have hrun:(Instr.endLoop (E'.aN l)).run P w= .ok pd (w.put (E'.aN l) o'):=by
         unfold Instr.endLoop Instr.getLoop;have:(st==LoopState.busy)=false:=by cases st<;>first|rfl|grind
         simp only[Sem.run_bind,jL ho (by simp),Result.andThen_ok,Sem.run_pure,this,Ao,AP,pT ho (by simp)];rfl
       refine⟨w.put (E'.aN l) o',step_lone_go ?_,H.put hl (by simp[AO.ro]) ⟨rfl,hw⟩,H.bK hl (by simp[AO.ro]) _⟩;have htC:frC.todo= .endRangeFunc (E'.aN l)::k.map (dc E'):=by rw[<-e1];grind [aZ,dc]
       rw[<-e2];have hgoal:aZ E' {fr with todo:=(pd.map bq.code).toList++k}={frC with todo:=(pd.map Item.code).toList++k.map (dc E')}:=by
         rw[<-e1]
         cases pd<;>simp[aZ,dc]
       grind [stepG,stepG.exec,Sem.runT_eq,GStep.bare_after,GStep.bare_go]
     grind
   ·
     rename_i k ht;split at hs
     . rename_i l hround;split at hs
       . rename_i pd fn ts nt ps a b d hl
         cases hs;refine⟨gh (by rfl) cs,?_⟩;refine hR.one (m':={fr:={fr with todo:=k},cs,h:=h.set l (.loop .busy pd fn ts nt ps a b d)}) _ (fun _=>(0,0)) (Aj _) ⟨hR.wf.1,hR.wf.2⟩ ?_;intro E' he H e1 e2 _;obtain⟨o,ho,hoo,hw⟩:=H.obj l _ hl;subst hoo;let o':Obj:= .loop {state:= .busy,pending:=pd,fn,tmps:=fD E' ts nt,params:=ps,assign:=a,body:=b,defers:=E'.aN d}
         have hr0:frC.roundOf=some (E'.aN l):=by rw[<-e1];grind [aZ]
         have htC:frC.todo= .beginRound::k.map (dc E'):=by rw[<-e1];grind [aZ,dc]
         have hrun:(do frC.roundOf.elim (stuck "beginRound: no round") Instr.beginRound;pure .skip:Sem Next).run P w= .ok .skip (w.put (E'.aN l) o'):=by
          rw[hr0];simp only[Option.elim_some,Instr.beginRound,Instr.getLoop];simp only[Sem.run_bind,jL ho (by simp),Result.andThen_ok,Sem.run_pure,pT ho (by simp)];rfl
         refine⟨w.put (E'.aN l) o',step_lone_go ?_,H.put hl (by simp[AO.ro]) ⟨rfl,hw⟩,H.bK hl (by simp[AO.ro]) _⟩;rw[<-e2];have hgoal:aZ E' {fr with todo:=k}={frC with todo:=k.map (dc E')}:=by
          rw[<-e1];rfl
         have hx:stepG P true {frame:=frC,callers:=cs.map (aZ E')++base,status:= .running,dying:=none} w=stepG.apply P true frC (cs.map (aZ E')++base) none (do frC.roundOf.elim (stuck "beginRound: no round") Instr.beginRound;pure .skip) w:=by
          grind [stepG,stepG.exec]
         rw[hx,vO hrun (.inr ⟨rfl,rfl⟩)];grind [Frame.finish]
       grind
     grind
   . cases hs;exact ju hR _ (fun E' cs'=>step_lone_go (by simp_all[stepG,stepG.exec,aZ,ey,dc]))
   . rename_i id ops k ht;obtain⟨⟨ts,h'⟩,hd,hs1⟩:=ai.1 hs
     cases hs1;exact⟨gh (by rfl) cs,hdraw fr cs h id ops k ts h' hm ht hd D E K base frC csC w hR⟩
   . cases hs;exact ju hR _ (fun E' cs'=>step_lone_go (by simp_all[stepG,stepG.exec,aZ,ey,dc]))
   ·
     rename_i ops i rest k ht;split at hs
     . rename_i o ho;obtain⟨b,hb,hs1⟩:=ai.1 hs
       cases b with
       |true=>grind [J6]
       | false=>
         obtain⟨fr',hf,hs2⟩:=ai.1 hs1
         cases hs2;have hfc:=js hf;refine⟨gh (hfc E).2.2 cs,hR.iF fr' ((hfc E).2.1 hR.wf.1) (fun E' cs'=>step_lone_go ?_)⟩;have hw:=vY hR.wf.1 hb E';rw[<-(hfc E').1];have h1:(aZ E' fr).todo= .inRegion ops (i::rest)::k.map (dc E'):=by grind [aZ,dc]
         have h2:(aZ E' fr).mode= .run:=by grind [aZ,ey]
         have h3:Region.wanted o (yielded ops (aZ E' fr).tmps)=false:=hw;unfold stepG stepG.exec;simp[h1,h2,ho,h3];rfl
     grind
   grind
 grind [IZ]
end
end
section
variable [Inhabited aI]
section
variable {P:Program} {tab:bc} (ok:bD P tab) (hext:jx P tab) (hdraw:∀sub,jy P tab sub->xG P tab sub)
def GN (P:Program) (tab:bc) (m:AM) (outs:List (AV×AH)):Prop:=
 ∀(D:Nat->Prop) (E:Env) (K:KS) (base:List Frame) (frC:Frame) (csC:List Frame) (w:World),Rel D E K m base frC csC w->
  ∃v h',(v,h')∈outs/\Ends P m.h.next (lone frC csC w) D E K v h' base (bot m.fr m.cs) w
include ok hext hdraw in
theorem K9:∀n,(∀m outs,run tab n m= .ok outs->GN P tab m outs)/\
  (∀l outs,runs tab n l= .ok outs->∀m∈l,∀outs',(∀x∈outs,x∈outs')->GN P tab m outs'):=by
 intro n;induction n with
 |zero=>
  grind [run,runs]
 |succ n ih=>
  refine⟨fun m outs h=>?_,fun l outs h=>?_⟩
  . let sub:FuncId->List AV->AH->R (List (AV×AH)):=fun f args h=>match tab.fns.get f with
     | some fn=>match fn.body with
       |some body=>run tab n {fr:=af.enter fn f body args .normal,cs:=[],h}
       |none=> .no "run: body"
     |none=> .no "run: function"
    have hsub:jy P tab sub:=by
     intro f fn body args h outs hfn hb ho D E K w argsC hargs hdom cs;simp only[sub,hfn,hb]at ho;have hP:=ok.fns f fn hfn;have hR:Rel D E K {fr:=af.enter fn f body args .normal,cs:=[],h} cs (Frame.enter P f argsC .normal) cs w:=by
       refine⟨fun E' he=>?_,hdom,rq _ _ _ _ _,fun f hf=>by cases hf⟩;grind [mo]
     exact ih.1 _ _ ho D E K cs _ cs w hR
    intro D E K base frC csC w hR;change (match step tab sub m with
     | .no w=>R.no w
     | .ok (.done v h)=> .ok [(v,h)]
     | .ok (.next m')=>run tab n m'
     | .ok (.alts l)=>runs tab n l)= .ok outs at h
    cases hs:step tab sub m with
    |no w=>rw[hs]at h;cases h
    |ok out=>
     rw[hs]at h;have ho:=wu ok hsub hext (hdraw sub hsub) hs hR
     cases out with
     | done v hh=>
       cases h;exact⟨v,hh,Ap,ho⟩
     | next m'=>
       obtain⟨hb,fr',cs',w',E',D',s1,s2,s3,s4,s5,s6,s7⟩:=ho;obtain⟨v,h',hm,he⟩:=ih.1 m' outs h D' E' K base fr' cs' w' s2;rw[hb]at he;grind [Ends.trans]
     | alts l=>
       obtain⟨m',hml,hb,fr',cs',w',E',D',s1,s2,s3,s4,s5,s6,s7⟩:=ho;obtain⟨v,h',hm,he⟩:=ih.2 l outs h m' hml outs (fun _ hx=>hx) D' E' K base fr' cs' w' s2;rw[hb]at he;grind [Ends.trans]
  . intro m hm outs' hsub'
    cases l with
    |nil=>cases hm
    |cons x l=>
     obtain⟨a,ha,h1⟩:=ai.1 h;obtain⟨b,hb,h2⟩:=ai.1 h1
     cases h2;rcases Al.1 hm with rfl|hm
     . intro D E K base frC csC w hR;obtain⟨v,h',hx,he⟩:=ih.1 m a ha D E K base frC csC w hR;grind
     grind
end
end
section
variable [Inhabited aI]
section
variable {tab:bc} {ts ts':T AV} {h:AH}
theorem rf:∀(l:List Operand),(∀x∈l,ev ts x=ev ts' x)->iI ts l=iI ts' l:=by
 intro l;induction l with
 |nil=>intro _;rfl
 |cons x l ih=>
  grind [iI]
theorem yD:∀(l:List (Nat×Operand)),(∀x∈l.map (·.2),ev ts x=ev ts' x)->ke ts l=ke ts' l:=by
 intro l;induction l with
 |nil=>intro _;rfl
 |cons x l ih=>
  grind [ke]
theorem qX (o:Oper) (hx:∀x∈o.op.operands,ev ts x=ev ts' x):eu tab ts h o=eu tab ts' h o:=by
 obtain⟨dst,op,type,pos,after,guard⟩:=o
 cases op<;>simp only[Op.operands]at hx<;>simp only[eu]
 case build t ps=>rw[yD ps.toList fun x hm=>hx x (by grind)]
 case buildSlice t n ps=>rw[yD ps.toList fun x hm=>hx x (by grind)]
 case makeFunc fn first captured=>
  rw[rf first.toList fun x hm=>hx x (by grind),rf captured.toList fun x hm=>hx x (by grind)]
 case call c=>
  grind [rf,Call.operands]
 case slice t x lo hi mx=>
  have h0:ev ts x=ev ts' x:=hx x (by simp);have h1:∀y,lo=some y->ev ts y=ev ts' y:=fun y e=>hx y (by simp[e])
  have h2:∀y,hi=some y->ev ts y=ev ts' y:=fun y e=>hx y (by simp[e])
  have h3:∀y,mx=some y->ev ts y=ev ts' y:=fun y e=>hx y (by simp[e])
  rw[h0]
  cases lo<;>cases hi<;>cases mx<;>simp_all[iA,eW]
 case makeMap t r=>cases r<;>rfl
 all_goals grind
theorem Jx {sub:FuncId->List AV->AH->R (List (AV×AH))} (o:Oper) (hx:∀x∈o.op.operands,ev ts x=ev ts' x):qy tab sub ts h o=qy tab sub ts' h o:=by
 have hp:=qX (tab:=tab) (h:=h) o hx;unfold qy
 cases hop:o.op
 case call c=>
  rw[hop]at hx;simp only
  cases hc:c.callee with
  |builtin b=>cases b<;>simp only[hp]
  |value f=>
   have h1:ev ts f=ev ts' f:=hx f (by grind [Op.operands,Call.operands]);have h2:iI ts c.args.toList=iI ts' c.args.toList:=rf c.args.toList fun x hm=>hx x (by grind [Op.operands,Call.operands])
   grind
  |invoke r m=>omega
 all_goals grind
theorem wk {ops:Array Oper} {o:Oper} (h:∀t∈looks ops o,ts.get t=ts'.get t):(∀x∈o.op.operands,ev ts x=ev ts' x)/\wanted ops o ts=wanted ops o ts':=by
 constructor
 . intro x hx
   cases x with
   |tmp t=>
    have:=h t (EO _ (List.mem_filterMap.2 ⟨.tmp t,by grind,rfl⟩));grind [ev]
   |const v=>rfl
   |func f=>rfl
   |global g=>rfl
 . unfold wanted
   cases hg:o.guard with
   |none=>rfl
   | some gw=>
    obtain⟨g,want⟩:=gw;simp only
    cases hd:(ops[g]?).bind (·.dst)with
    |none=>rfl
    |some d=>
     have:=h d (DY _ (by grind));grind
end
end
section
variable [Inhabited aI]
theorem ig:∀(l:List (Nat×Nat)) (h:AH),(gC h l).next=h.next:=by
 intro l;induction l with
 |nil=>intro h;rfl
 |cons x l ih=>grind [gC,AH.fH]
theorem gE:∀(l:List (Nat×Nat)) (h:AH) (i:Nat),(gC h l).get i=if ∃x∈l,x.2=i then none else h.get i:=by
 intro l;induction l with
 |nil=>grind [gC]
 |cons x l ih=>
  intro h i;simp only[gC,ih,ly];by_cases h1:∃y∈l,y.2=i
  . rw[An h1,An (by grind)]
  . rw[Ai h1];by_cases h2:i=x.2
    . rw[An h2,An ⟨x,Ap,h2.symm⟩]
    grind
theorem sN:∀(l:List (Nat×Nat)) (h h0:AH),(restore h h0 l).next=h.next:=by
 intro l;induction l with
 |nil=>intro h h0;rfl
 |cons x l ih=>grind [restore]
theorem ml:∀(l:List (Nat×Nat)) (h h0:AH) (i:Nat),(restore h h0 l).get i=if ∃x∈l,x.2=i then h0.get i else h.get i:=by
 intro l;induction l with
 |nil=>grind [restore]
 |cons x l ih=>
  intro h h0 i;simp only[restore,ih];have hg:({h with t:=h.t.set x.2 (h0.get x.2)}:AH).get i=if i=x.2 then h0.get x.2 else h.get i:=T.aT _ _ _ _
  rw[hg];by_cases h1:∃y∈l,y.2=i
  . rw[An h1,An (by grind)]
  . rw[Ai h1];by_cases h2:i=x.2
    . rw[An h2,An ⟨x,Ap,h2.symm⟩,h2]
    grind
section
variable {E:Env} {h h0 h1 h2:AH} {K:KS} {w w':World}
def Rest (E:Env) (h h0:AH) (K:KS):KS:=⟨fun b=>K b\/ ∃i o,h.get i=some o/\h0.get i=none/\b=E.aN i,K.b⟩
theorem bo.part (H:bo E h K w) (hs:∀i o,h0.get i=some o->h.get i=some o) (hd:∀i o,h0.get i=some o->i<h0.next):bo E h0 (Rest E h h0 K) w:=by
 refine⟨fun i o hi=>H.obj i o (hs i o hi),?_,fun i j oi oj hi hj=>H.inj i j oi oj (hs i oi hi) (hs j oj hj),hd,?_,fun i o hi=>H.im i o (hs i o hi),fun b hb=> .inl (H.k0 b hb)⟩
 . rintro i o hi hr (hk|⟨j,oj,hj,hn,e⟩)
   . exact H.nk i o (hs i o hi) hr hk
   . have:=H.inj i j o oj (hs i o hi) hj hr e;grind
 . rintro b (hk|⟨j,oj,hj,hn,e⟩)
   . exact H.kb b hk
   . subst e;exact H.lt hj
theorem bo.join (H:bo E h K w) (H1:bo E h1 (Rest E h h0 K) w') (hk:Kept (Rest E h h0 K) w w')
   (hg:∀i o,h2.get i=some o->h1.get i=some o\/(h.get i=some o/\h0.get i=none)) (hd:∀i o,h2.get i=some o->i<h2.next):bo E h2 K w':=by
 refine⟨?_,?_,?_,hd,?_,?_,H.k0⟩
 . intro i o hi;rcases hg i o hi with g|⟨g,n⟩
   . exact H1.obj i o g
   . obtain⟨c,hc,ho⟩:=H.obj i o g;refine⟨c,?_,ho⟩;rw[<-hc];exact hk.block _ (.inr ⟨i,o,g,n,rfl⟩)
 . intro i o hi hr hK;rcases hg i o hi with g|⟨g,n⟩
   . exact H1.nk i o g hr (.inl hK)
   . exact H.nk i o g hr hK
 . intro i j oi oj hi hj hr e;rcases hg i oi hi with g|⟨g,n⟩<;>rcases hg j oj hj with g'|⟨g',n'⟩
   . exact H1.inj i j oi oj g g' hr e
   . exact absurd (.inr ⟨j,oj,g',n',e⟩) (H1.nk i oi g hr)
   . by_cases hrj:oj.ro
     . exact absurd (H.k0 _ (H1.im j oj g' hrj)) (by rw[<-e];exact H.nk i oi g hr)
     . exact absurd (.inr ⟨i,oi,g,n,e.symm⟩) (H1.nk j oj g' hrj)
   . exact H.inj i j oi oj g g' hr e
 . intro b hb;exact H1.kb b (.inl hb)
 . intro i o hi hr;rcases hg i o hi with g|⟨g,n⟩
   . exact H1.im i o g hr
   . exact H.im i o g hr
theorem Kept.part (hk:Kept (Rest E h h0 K) w w'):Kept K w w':=
 ⟨hk.os,hk.tape,hk.output,hk.size,fun b hb=>hk.block b (.inl hb),hk.drawn⟩
end
end
section
variable [Inhabited aI]
section
variable {P:Program} {tab:bc} (ok:bD P tab) {sub:FuncId->List AV->AH->R (List (AV×AH))} (hsub:jy P tab sub) (hext:jx P tab)
variable {D:Nat->Prop} {E:Env} {K:KS} {base:List Frame} {frC:Frame} {csC:List Frame} {w:World}
def rU (P:Program) (M0:Machine) (D N:Nat->Prop) (E:Env) (K:KS) (m':AM) (base:List Frame) (w:World):Prop:=
 ∃fr' cs' w' E',Steps P M0 (lone fr' cs' w')/\Rel (fun i=>D i\/N i) E' K m' base fr' cs' w'/\aj D E E'/\Kept K w w'
open Classical in
theorem Rel.nZ {m m':AM} (hR:Rel D E K m base frC csC w) (M0:Machine) (N:Nat->Prop) (f:Nat->Nat×Nat) (hN:∀i,N i->¬D i) (hlt:∀i,D i\/N i->i<m'.h.next) (hwf:m'.fr.WF/\ ∀f∈m'.cs,f.WF)
  (h1:∀E',aj D E E'->bo E' m.h K w->aZ E' m.fr=frC->m.cs.map (aZ E')++base=csC->(∀i,N i->E'.aN i=(f i).1/\E'.cap i=(f i).2)->One P M0 E' K m' base w):
  rU P M0 D N E K m' base w:=by
 let E1:Env:=⟨fun i=>if N i then(f i).1 else E.aN i,fun i=>if N i then(f i).2 else E.cap i⟩
 have ha:aj D E E1:=by
  intro i hi;have:¬N i:=fun hn=>hN i hn hi
  grind
 have hE:∀i,N i->E1.aN i=(f i).1/\E1.cap i=(f i).2:=by
  grind
 have hE1:∀E',aj (fun i=>D i\/N i) E1 E'->One P M0 E' K m' base w:=by
  intro E' he;have hd:aj D E E':=ha.trans he (fun i hi=> .inl hi);obtain⟨g1,g2,g3⟩:=hR.all E' hd;refine h1 E' hd g1 g2 g3 (fun i hi=>?_);have h2:=he i (.inr hi);have h3:=hE i hi;omega
 obtain⟨w',s1,s2,s3⟩:=hE1 E1 (aj.refl _ _);refine⟨_,_,w',E1, .one s1,⟨?_,hlt,hwf⟩,ha,s3⟩;intro E' he;obtain⟨w2,t1,t2,t3⟩:=hE1 E' he;rw[s1]at t1;grind [pS]
variable {fr fr':af} {cs:List af} {h h0 h1 h2:AH} {ops:Array Oper} {i:Nat} {rest:List Nat} {k:List bq} {o:Oper} {v:AV}
theorem Rel.live (hR:Rel D E K {fr,cs,h} base frC csC w) {i:Nat} {ob:AO} (hi:h.get i=some ob):D i:=by
 by_cases hd:D i
 . exact hd
 . have ha:aj D E ⟨fun j=>if j=i then w.heap.size else E.aN j,E.cap⟩:=by
    intro j hj;have:¬j=i:=fun e=>hd (e▸hj)
    grind
   have:=(hR.all _ ha).1.lt hi;grind
include ok in
theorem qW (hR:Rel D E K {fr,cs,h} base frC csC w) (a:gG frC ops i rest o) (hp:eu tab fr.tmps h0 o= .ok (v,h1)) (hf:fr.finish v= .ok fr')
  (hs:∀i o,h0.get i=some o->h.get i=some o) (hd0:∀i o,h0.get i=some o->i<h0.next)
  (hg:∀i o,h2.get i=some o->h1.get i=some o\/(h.get i=some o/\h0.get i=none)) (hd2:∀i o,h2.get i=some o->i<h2.next\/(h1.get i=some o/\h1.next<=h2.next))
  (N:Nat->Prop) (hN1:h0.next<h1.next->N h0.next) (hN:∀i,N i->i=h0.next/\ ¬D i) (hlt:∀i,D i\/N i->i<h2.next):
  rU P (lone frC csC w) D N E K {fr:=fr',cs,h:=h2} base w:=by
 obtain⟨f,hgood⟩:=yT ok hp w frC.eval;have hfc:=js hf;have hρ:∀E',aj D E E'->∀x u,ev fr.tmps x= .ok u->frC.eval x=ab E' u:=by
  intro E' he x u hx;rw[<-(hR.all E' he).2.1];exact ny hR.wf.1 E' hx
 refine hR.nZ (m':={fr:=fr',cs,h:=h2}) _ N (fun _=>f) (fun i hi=>(hN i hi).2) hlt ⟨(hfc E).2.1 hR.wf.1,hR.wf.2⟩ ?_;intro E' he H e1 e2 hE';obtain⟨_,r,w',s1,s2,s3,s4⟩:=hgood E' _ (H.part hs hd0) (hρ E' he) (fun hlt=>hE' h0.next (hN1 hlt));refine⟨w',?_,H.join s3 s4 hg (fun i o hi=>(hd2 i o hi).elim id (fun h=>AK (s3.dM i o h.1) h.2)),s4.part⟩;rw[a.value (.inr (CH hp)) csC s1 s2,<-e1,<-e2,(hfc E').1]
theorem ym {M0:Machine} {N:Nat->Prop} {m':AM} {lo:Nat} (hg:rU P M0 D N E K m' base w) (hlo:lo<=m'.h.next) (hN:∀i,N i->lo<=i):fG P lo M0 D E K m' base w:=by
 obtain⟨fr',cs',w',E',h1,h2,h3,h4⟩:=hg;exact⟨fr',cs',w',E',_,h1,h2,h3,fun i hi=> .inl hi,h4,hlo,fun i hi=>hi.elim .inl (fun h=> .inr (hN i h))⟩
theorem Rel.eG (hR:Rel D E K {fr,cs,h} base frC csC w) {E':Env} (he:aj D E E'):Rest E' h h0 K=Rest E h h0 K:=by
 unfold Rest;congr 1
 funext b
 apply propext;constructor
 . rintro(hk|⟨i,o,h1,h2,e⟩)
   . grind
   . exact .inr ⟨i,o,h1,h2,by rw[e,(he i (hR.live h1)).1]⟩
 . rintro(hk|⟨i,o,h1,h2,e⟩)
   . grind
   . exact .inr ⟨i,o,h1,h2,by rw[e,(he i (hR.live h1)).1]⟩
include ok hsub hext in
theorem LS (hR :Rel D E K {fr,cs,h} base frC csC w) (a:gG frC ops i rest o) (hp:qy tab sub fr.tmps h0 o= .ok (v,h1)) (hf:fr.finish v= .ok fr')
   (hs:∀i o,h0.get i=some o->h.get i=some o) (hd0:∀i o,h0.get i=some o->i<h0.next)
   (hg:∀i o,h2.get i=some o->h1.get i=some o\/(h.get i=some o/\h0.get i=none)) (hd2:∀i o,h2.get i=some o->i<h2.next\/(h1.get i=some o/\h1.next<=h2.next))
   (hle:h0.next<=h1.next) (hnx:h2.next=h1.next) (hltD:∀i,D i->i<h0.next):
   fG P h0.next (lone frC csC w) D E K {fr:=fr',cs,h:=h2} base w:=by
 have hpure:eu tab fr.tmps h0 o= .ok (v,h1)->fG P h0.next (lone frC csC w) D E K {fr:=fr',cs,h:=h2} base w:=by
   intro hp;refine ym (qW ok hR a hp hf hs hd0 hg hd2 (fun i=>i=h0.next/\h0.next<h1.next) (fun h=>⟨rfl,h⟩) (fun i hi=>⟨hi.1,fun hd=>by have:=hltD i hd;omega⟩) ?_) (by grind) (fun i hi=>by omega);grind
 have hfc:=js hf;have hρ:∀E',aj D E E'->∀x u,ev fr.tmps x= .ok u->frC.eval x=ab E' u:=by
   intro E' he x u hx;rw[<-(hR.all E' he).2.1];exact ny hR.wf.1 E' hx
 unfold qy at hp;split at hp
 . rename_i c hc;split at hp
   . rename_i f hcf;obtain⟨args,hargs,hp1⟩:=ai.1 hp;obtain⟨u,hu,hp2⟩:=ai.1 hp1;obtain⟨d,hd,hp3⟩:=ai.1 hp2;have hres:∀E',aj D E E'->Deferred.ofValue (frC.eval f) (c.args.map frC.eval)=pure (dF E' d):=by
       intro E' he;rw[<-pC hd E',hρ E' he _ _ hu,<-ov (hρ E' he) _ _ hargs];congr 1
       grind
     have hrob:=qR hres;have hnd:∀c',o.op≠ .defer c':=by rw[hc];grind
     have hctx:Ctx P (lone frC csC w) frC csC w .normal (dF E d):=wE a (.inr hnd) (by grind [execOp,resolve,aj.refl]);split at hp3
     . rename_i g captured htg;have hinv:∀E',aj D E E'->invoke (dF E d).target (dF E d).args=callFunc g (aV E' (d.args++captured)).toArray:=by
         grind [dF,lY,invoke,dB]
       split at hp3
       . rename_i fn hfn;have hP:=ok.fns g fn hfn;have hn:fn.name≠ "runtime.NumGoroutine" :=by simpa using ok.sI g fn hfn
         split at hp3
         . rename_i body hb;obtain⟨outs,ho,hp4⟩:=ai.1 hp3;split at hp4
           . cases hp4;have hrun:∀a,(callFunc g a).run P w= .ok (.enter g a) w:=by
               intro a;simp[callFunc,hP,hn,hb]
             have hstep:∀E',aj D E E'->Go.step P (lone frC csC w)= .next (lone (Frame.enter P g (aV E' (d.args++captured)).toArray .normal) (frC::csC) w):=fun E' he=>
               hctx.enter _ _ _ (by rw[hinv E' he,hrun])
             have hargsC:∀E',aj D E E'->(aV E' (d.args++captured)).toArray=(aV E (d.args++captured)).toArray:=by
               grind [aj.refl]
             obtain⟨v2,h2',hmem,he2⟩:=hsub g fn body _ h0 _ hfn hb ho D E (Rest E h h0 K) w (aV E (d.args++captured)).toArray
               (fun E' he=>⟨by rw[<-hR.eG he];exact(hR.all E' he).1.part hs hd0,hargsC E' he⟩) hltD (frC::csC)
             rcases Al.1 hmem with e|hmem
             . cases e;obtain⟨fr1,w',vC,E',D',s1,s2,s3,s4,s5,s6,s7,s8,s9,s10⟩:=he2;refine⟨frC.finish vC,csC,w',E',D',?_,⟨?_,?_,?_⟩,s5,s6,s8.part,by grind,s10⟩
               . exact(Steps.head (hstep E (aj.refl _ _)) s1).trans (.one (step_leave_returned s3))
               . intro E'' he';obtain⟨g1,g2⟩:=s4 E'' he';have hag:=s5.trans he' s6;obtain⟨k1,k2,k3⟩:=hR.all E'' hag;refine⟨k1.join (by rw[hR.eG hag];exact g1) (by rw[hR.eG hag];exact s8) hg (fun i o hi=>(hd2 i o hi).elim id (fun h=>AK (g1.dM i o h.1) h.2)),?_,k3⟩;rw[<-(hfc E'').1,<-g2,<-k2]
               . grind
               . exact⟨(hfc E).2.1 hR.wf.1,hR.wf.2⟩
             grind
           grind
         . rename_i hb;obtain⟨gg,hgg⟩:=hext g fn _ h0 v h1 hfn hb hp3 w;refine ym (N:=fun i=>i=h0.next/\h0.next<h1.next) (hR.nZ (m':={fr:=fr',cs,h:=h2}) _ _ (fun _=>gg) (fun i hi hd=>by have:=hltD i hd;omega) ?_ ⟨(hfc E).2.1 hR.wf.1,hR.wf.2⟩ ?_) (by grind) (fun i hi=>by omega)
           . grind
           . intro E' he H e1 e2 hE';obtain⟨_,w',s1,s2,s3⟩:=hgg E' _ (H.part hs hd0) (fun hlt=>hE' h0.next ⟨rfl,hlt⟩);refine⟨w',?_,H.join s2 s3 hg (fun i o hi=>(hd2 i o hi).elim id (fun h=>AK (s2.dM i o h.1) h.2)),s3.part⟩;rw[hctx.value (ab E' v) w' (by rw[hinv E' he,s1]) rfl,<-e1,<-e2,(hfc E').1]
       grind
     grind
   all_goals grind
 all_goals grind
end
end
section
variable [Inhabited aI]
section
variable {tab:bc} {ts:T AV} {h h':AH} {v:AV}
theorem IV {t:TypeId} {x:AV} {lo hi mx:Option Operand} (hp:iA tab ts h t x lo hi mx= .ok (v,h')):h'=h:=by
 unfold iA at hp;simp only[cond_eq_ite]at hp
 repeat' (first
  |(cases hp;done)
  |(cases hp;rfl)
  |(obtain⟨_,_,hp⟩:=ai.1 hp)
  |split at hp)
theorem IB {b:Builtin} {l:List AV} {at_:Array TypeId} (hb:b= .len\/b= .cap\/b= .min\/b= .max) (hp:builtin tab b at_ l h= .ok (v,h')):h'=h:=by
 unfold builtin at hp;rcases hb with rfl|rfl|rfl|rfl
 all_goals (repeat' (first
  |contradiction
  |(cases hp;done)
  |(cases hp;rfl)
  |(obtain⟨_,_,hp⟩:=ai.1 hp)
  |split at hp))
theorem L0 {src dst:TypeId} (h:(match tab.und.get src,tab.und.get dst with
  |some (.int _),some (.int _)=>nM.pure
  |_,_=>nM.jq)=nM.pure\/(match tab.und.get src,tab.und.get dst with
  |some (.int _),some (.int _)=>nM.pure
  |_,_=>nM.jq)=nM.read):∃k j,tab.und.get src=some (.int k)/\tab.und.get dst=some (.int j):=by
 grind
theorem FC {src dst:TypeId} {k j:IntKind} (h1:tab.und.get src=some (.int k)) (h2:tab.und.get dst=some (.int j)) {x:AV} (hp:mn tab h src dst x= .ok (v,h')):∃i n,x= .int i n/\v= .int j (j.wrap n)/\h'=h:=by
 have e1:und tab src= .ok (.int k):=cg.2 h1;have e2:und tab dst= .ok (.int j):=cg.2 h2;grind [mn,ai,convert]
theorem zH {src dst:TypeId} {k j:IntKind} (h1:tab.und.get src=some (.int k)) (h2:tab.und.get dst=some (.int j)) (i:IntKind) (n:Int) (h:AH):mn tab h src dst (.int i n)= .ok (.int j (j.wrap n),h):=by
 have e1:und tab src= .ok (.int k):=cg.2 h1;have e2:und tab dst= .ok (.int j):=cg.2 h2;unfold mn;rw[e2];unfold convert;rw[e1,e2];rfl
theorem tb {o:Oper} (hc:cls tab o≠ .jq/\cls tab o≠ .alloc) (hp:eu tab ts h o= .ok (v,h')):h'=h:=by
 obtain⟨dst,op,type,pos,after,guard⟩:=o;unfold eu at hp
 cases op<;>simp only[cls]at hc<;>simp only at hp
 case slice t x lo hi mx=>
  grind [ai,IV]
 case call c=>
  grind [ai,IB]
 case convert src dst x=>
  grind [ai,FC]
 all_goals first
  |exact absurd rfl hc.1
  |exact absurd rfl hc.2
  |(repeat' (first
   |(cases hp;done)
   |(cases hp;rfl)
   |(obtain⟨_,_,hp⟩:=ai.1 hp)
   |split at hp))
end
end
section
variable [Inhabited aI]
def Kind (tab:bc) (ops:Array Oper) (s:DS) (j:Nat) (o:Oper) (tj:T AV) (v:AV):Prop:=
  (wanted ops o tj= .ok false/\v= .bj []/\ ∀x∈s.ay,x.1≠j)\/
  (wanted ops o tj= .ok true/\
    (((∃h1,eu tab tj {t:= .e,next:=0} o= .ok (v,h1)/\h1.next=0)/\ ∀x∈s.ay,x.1≠j)\/
     (∃b h1 ob,((j,b)∈s.ay/\ ∀x∈s.ay,x.1=j->x.2=b)/\eu tab tj {t:= .e,next:=b} o= .ok (v,h1)/\h1.next=b+1/\h1.get b=some ob/\s.h.get b=some ob)\/
     (((j,tj,v)∈s.reads/\ ∀x∈s.ay,x.1≠j)/\cls tab o≠ .jq/\cls tab o≠ .alloc/\ ∃hr,eu tab tj hr o= .ok (v,hr)/\ ∀b ob,hr.get b=some ob->b<hr.next/\s.h.get b=some ob/\ ∀x∈s.ay,x.2≠b)))
def bQ (ops:Array Oper) (ts0:T AV) (s:DS) (j:Nat) (o:Oper) (tj:T AV):Prop:=
 ∀t∈looks ops o,(∃i oi,ops[i]? =some oi/\oi.dst=some t/\i∈gx o/\(s.aD.get i).isSome/\tj.get t=s.ts.get t)\/
  (tj.get t=ts0.get t/\ ∀i oi a,ops[i]? =some oi->oi.dst=some t->s.aD.get i=some a->i=j\/j∈a)
def vr (tab:bc) (ops:Array Oper) (nt:Nat) (ts0:T AV) (s:DS) (j:Nat):Prop:=
 ∃o tj v,ops[j]? =some o/\(∀d,o.dst=some d->d<nt->s.ts.get d=some v)/\bQ ops ts0 s j o tj/\Kind tab ops s j o tj v
structure cP (tab:bc) (ops:Array Oper) (nt:Nat) (ts0:T AV) (lo:Nat) (s:DS) (X:Nat->Prop):Prop where
 cx:∀j,X j->(s.aD.get j).isSome
 oI:∀j a,X j->s.aD.get j=some a->∀i∈a,X i
 op:∀j,(s.aD.get j).isSome->∃o,ops[j]? =some o
 shape:∀j a o,s.aD.get j=some a->ops[j]? =some o->(∀i∈gx o,i∈a/\(s.aD.get i).isSome)/\ ∀i∈a,i∈gx o\/ ∃p∈gx o,∃ap,s.aD.get p=some ap/\i∈ap
 uniq:∀i j oi oj d,(s.aD.get i).isSome->ops[i]? =some oi->ops[j]? =some oj->oi.dst=some d->oj.dst=some d->i=j
 nL:∀t,(∀j o,(s.aD.get j).isSome->ops[j]? =some o->o.dst≠some t)->s.ts.get t=ts0.get t
 jH:∀j,(s.aD.get j).isSome->¬X j->vr tab ops nt ts0 s j
 al:∀x∈s.ay,x.2<s.h.next/\(s.aD.get x.1).isSome/\lo<=x.2
 nx:lo<=s.h.next
 qB:∀t,nt<=t->s.ts.get t=none
 pz:∀x∈s.ay,∀y∈s.ay,x.2=y.2->x=y
 hd:∀i o,s.h.get i=some o->i<s.h.next
theorem dP {i:Nat} {l:List Nat}:cF i l=true↔i∈l:=by
 grind [cF,Nat.eq_of_beq_eq_true,Nat.beq_refl]
theorem I3 {aD:T (List Nat)} {t:Tmp} {pre:List Nat}:∀(l:List Oper) (k:Nat),tq aD t pre k l=true->∀j o,l[j]? =some o->o.dst=some t->(aD.get (k+j)).isSome->k+j∈pre:=by
 intro l;induction l with
 |nil=>grind
 | cons x l ih=>
  intro k h j o hj hd hc;simp only[tq,Ad]at h
  cases j with
  |zero=>
   grind [Nat.beq_refl,dP]
  |succ j=>
   have:=ih (k+1) h.2 j o (by grind) hd (by rw[show k+1+j=k+(j+1)from by omega];exact hc);rw[show k+1+j=k+(j+1)from by omega]at this;omega
theorem Kn {aD:T (List Nat)} {ops:Array Oper} {i:Nat} {a:Tmp} {an:List Nat}:∀(l:List Oper) (k:Nat),tS aD ops i a an k l=true->∀j o,l[j]? =some o->
  (o.dst=some a->i=k+j)/\((aD.get (k+j)).isSome->a∈looks ops o->k+j∈an):=by
 intro l;induction l with
 |nil=>grind
 | cons x l ih=>
  intro k h j o hj;simp only[tS,Ad]at h;obtain⟨⟨h1,h2⟩,h3⟩:=h
  cases j with
  |zero=>
   grind [Nat.beq_refl,Nat.eq_of_beq_eq_true,dP]
  |succ j=>
   have:=ih (k+1) h3 j o (by grind);rw[show k+1+j=k+(j+1)from by omega]at this;omega
theorem uc {aD:T (List Nat)} {ops:Array Oper} {i:Nat} {o:Oper} (h:ia aD ops i o=true):
   (∀t∈looks ops o,∀j oj,ops[j]? =some oj->oj.dst=some t->(aD.get j).isSome->j∈gx o)/\
   (∀d,o.dst=some d->∀j oj,ops[j]? =some oj->(oj.dst=some d->i=j)/\((aD.get j).isSome->d∈looks ops oj->j∈dS aD o)):=by
 unfold ia at h;simp only[Ad,Aq]at h;constructor
 . intro t ht j oj hj hd hc;have:=I3 ops.toList 0 (h.1 t ht) j oj (by grind) hd (by grind);grind
 . intro d hd j oj hj;have h2:=h.2;rw[hd]at h2;have:=Kn ops.toList 0 h2 j oj (by grind);grind
theorem nh {aD:T (List Nat)} {i:Nat} {o:Oper} (h:isReady aD i o=true):aD.get i=none/\ ∀j∈gx o,(aD.get j).isSome:=by
 simp_all[isReady]
end
section
variable [Inhabited aI]
theorem jr (nt:Nat) (ts:T AV) (o:Oper) (v:AV) (t:Nat):(gB nt ts o v).get t=if o.dst=some t/\t<nt then some v else ts.get t:=by
 unfold gB
 cases hd:o.dst with
 |none=>simp
 |some d=>
  have:=xb ts nt d v t;grind [fw]
theorem MP {i:Nat} {l:List Nat}:cF i l=true↔i∈l:=by
 grind [cF,Nat.eq_of_beq_eq_true,Nat.beq_refl]
theorem C6 {i j:Nat} {l:List Nat}:i∈l5 j l↔i=j\/i∈l:=by
 grind [l5,MP]
theorem Lj {i:Nat}:∀{m l:List Nat},i∈rV m l↔i∈m\/i∈l:=by
 intro m;induction m with
 |nil=>grind [rV]
 |cons j m ih=>
  grind [rV,C6]
theorem eV {aD:T (List Nat)} {o:Oper} {i:Nat}:i∈dS aD o↔i∈gx o\/ ∃p∈gx o,∃ap,aD.get p=some ap/\i∈ap:=by
 unfold dS;induction gx o with
 |nil=>simp[uj]
 |cons j l ih=>
  simp only[uj,C6,Lj,ih,Al];constructor
  . rintro(rfl|h|h|⟨p,hp,ap,h1,h2⟩)
    . omega
    . cases ha:aD.get j with
      |none=>rw[ha]at h;cases h
      |some ap=>rw[ha]at h;grind
    all_goals grind
  grind
section
variable {tab:bc} {ops:Array Oper} {nt lo:Nat} {ts0:T AV} {s s':DS} {X:Nat->Prop} {i:Nat} {o:Oper} {v:AV}
theorem cP.float (H:cP tab ops nt ts0 lo s X) (hi:ops[i]? =some o) (hr:isReady s.aD i o=true) (hok:ia s.aD ops i o=true)
   (e1:s'.ts=gB nt s.ts o v) (e2:s'.aD=s.aD.set i (some (dS s.aD o))) (eh:∀b ob,s.h.get b=some ob->s'.h.get b=some ob) (en:s.h.next<=s'.h.next)
   (ea:s'.ay=s.ay\/(s'.ay=(i,s.h.next)::s.ay/\s'.h.next=s.h.next+1)) (er:∀x∈s.reads,x∈s'.reads) (hd':∀b ob,s'.h.get b=some ob->b<s'.h.next)
   (hk:Kind tab ops s' i o s.ts v):cP tab ops nt ts0 lo s' X:=by
 obtain⟨hnone,hpre⟩:=nh hr;obtain⟨hok1,hok2⟩:=uc hok;have hanc:∀j,s'.aD.get j=if j=i then some (dS s.aD o)else s.aD.get j:=by
   grind [T.aT]
 have hold:∀j,(s.aD.get j).isSome->j≠i/\s'.aD.get j=s.aD.get j:=by
   grind
 have hnd:∀j oj d,(s.aD.get j).isSome->ops[j]? =some oj->oj.dst=some d->o.dst≠some d:=by
   grind
 have hts:∀t,o.dst≠some t->s'.ts.get t=s.ts.get t:=by
   grind [jr]
 refine⟨?_,?_,?_,?_,?_,?_,?_,?_,AW H.nx en,?_,?_,hd'⟩
 . intro j hj;rw[(hold j (H.cx j hj)).2];exact H.cx j hj
 . intro j a hj ha;rw[(hold j (H.cx j hj)).2]at ha;exact H.oI j a hj ha
 . intro j hj;rw[hanc]at hj;by_cases h1:j=i
   . grind
   . rw[Ai h1]at hj;exact H.op j hj
 . intro j a oj ha hoj;rw[hanc]at ha;by_cases h1:j=i
   . grind [eV]
   . rw[Ai h1]at ha;obtain⟨g1,g2⟩:=H.shape j a oj ha hoj;grind
 . intro a b oa ob d ha hoa hob hda hdb;rw[hanc]at ha;by_cases h1:a=i
   . grind
   . rw[Ai h1]at ha;exact H.uniq a b oa ob d ha hoa hob hda hdb
 . intro t ht;have h1:o.dst≠some t:=ht i o (by rw[hanc,An rfl];rfl) hi;rw[hts t h1];exact H.nL t (fun j oj hj hoj=>ht j oj (by rw[(hold j hj).2];exact hj) hoj)
 . intro j hj hx;by_cases h1:j=i
   . subst h1;refine⟨o,s.ts,v,hi,?_,?_,hk⟩
     . grind [jr]
     . intro t ht;by_cases hw:∃jj oj,ops[jj]? =some oj/\oj.dst=some t/\(s.aD.get jj).isSome
       . obtain⟨jj,oj,g1,g2,g3⟩:=hw;refine .inl ⟨jj,oj,g1,g2,hok1 t ht jj oj g1 g2 g3,by rw[(hold jj g3).2];exact g3,?_⟩;exact(hts t (hnd jj oj t g3 g1 g2)).symm
       . refine .inr ⟨H.nL t (fun jj oj g3 g1 g2=>hw ⟨jj,oj,g1,g2,g3⟩),?_⟩;grind
   . have hj':(s.aD.get j).isSome:=by rw[hanc,Ai h1]at hj;exact hj
     obtain⟨oj,tj,vj,g1,g2,g3,g4⟩:=H.jH j hj' hx;refine⟨oj,tj,vj,g1,?_,?_,?_⟩
     . intro d hd hlt;rw[hts d (hnd j oj d hj' g1 hd)];exact g2 d hd hlt
     . intro t ht;rcases g3 t ht with⟨i1,oi1,k1,k2,k3,k4,k5⟩|⟨k1,k2⟩
       . refine .inl ⟨i1,oi1,k1,k2,k3,by rw[(hold i1 k4).2];exact k4,?_⟩;rw[k5,hts t (hnd i1 oi1 t k4 k1 k2)]
       . refine .inr ⟨k1,?_⟩;intro i' oi a q1 q2 q3;rw[hanc]at q3;by_cases h2:i'=i
         . subst h2;rw[An rfl]at q3;rw[hi]at q1
           cases q1;cases q3;exact .inr ((hok2 t q2 j oj g1).2 hj' ht)
         . rw[Ai h2]at q3;exact k2 i' oi a q1 q2 q3
     . have hnoA:(∀x∈s.ay,x.1≠j)->∀x∈s'.ay,x.1≠j:=by
         intro hx x hm;rcases ea with ea|⟨ea,_⟩<;>rw[ea]at hm
         . exact hx x hm
         . rcases Al.1 hm with rfl|hm
           . exact fun e=>h1 e.symm
           . exact hx x hm
       rcases g4 with⟨k1,k2,k3⟩|⟨k1,k2⟩
       . exact .inl ⟨k1,k2,hnoA k3⟩
       . refine .inr ⟨k1,?_⟩;rcases k2 with k2|⟨b,h1',ob,m1,m2,m3,m4,m5⟩|⟨m1,m2,m3,hr',m4,m5⟩
         . exact .inl ⟨k2.1,hnoA k2.2⟩
         . refine .inr (.inl ⟨b,h1',ob,?_,m2,m3,m4,eh _ _ m5⟩);rcases ea with ea|⟨ea,_⟩<;>rw[ea]
           . exact m1
           . refine⟨Aw _ m1.1,fun x hm e=>?_⟩;rcases Al.1 hm with rfl|hm
             . exact absurd e.symm h1
             . exact m1.2 x hm e
         . refine .inr (.inr ⟨⟨er _ m1.1,hnoA m1.2⟩,m2,m3,hr',m4,?_⟩);intro b ob hb;obtain⟨n1,n2,n3⟩:=m5 b ob hb;refine⟨n1,eh _ _ n2,?_⟩;intro x hx';rcases ea with ea|⟨ea,_⟩<;>rw[ea]at hx'
           . exact n3 x hx'
           . rcases Al.1 hx' with rfl|hx'
             . have:=H.hd b ob n2;omega
             . exact n3 x hx'
 . intro x hx;rcases ea with ea|⟨ea,hnx⟩<;>rw[ea]at hx
   . have:=H.al x hx;exact⟨by omega,by rw[(hold _ this.2.1).2];exact this.2.1,this.2.2⟩
   . rcases Al.1 hx with rfl|hx
     . exact⟨by omega,by rw[hanc,An rfl];rfl,H.nx⟩
     . have:=H.al x hx;exact⟨by omega,by rw[(hold _ this.2.1).2];exact this.2.1,this.2.2⟩
 . intro t ht;rw[e1,jr,Ai (fun h=>absurd h.2 (Nat.not_lt.2 ht))];exact H.qB t ht
 . intro x hx y hy e;rcases ea with ea|⟨ea,hnx⟩<;>rw[ea]at hx hy
   . exact H.pz x hx y hy e
   . rcases Al.1 hx with rfl|hx<;>rcases Al.1 hy with rfl|hy
     . rfl
     . have:=(H.al y hy).1;omega
     . have:=(H.al x hx).1;omega
     . exact H.pz x hx y hy e
end
end
section
variable [Inhabited aI]
section
variable {tab:bc} {ops:Array Oper} {nt lo:Nat} {ts0:T AV} {s s':DS} {X:Nat->Prop} {i:Nat} {o:Oper} {v:AV}
theorem y6 (hf:rm tab ops nt i o s= .ok (some s')) (hi:ops[i]? =some o) (hr:isReady s.aD i o=true) (H:cP tab ops nt ts0 lo s X):cP tab ops nt ts0 lo s' X:=by
 obtain⟨_,hck,hf1⟩:=ai.1 hf;have hok:=c9.1 hck;obtain⟨b,hb,hf2⟩:=ai.1 hf1;have hnoA:∀x∈s.ay,x.1≠i:=by
  intro x hx e;have:=(H.al x hx).2.1;rw[e,(nh hr).1]at this;grind
 cases b with
 |false=>
  cases hf2;exact H.float hi hr hok rfl rfl (fun _ _ h=>h) (Aj _) (.inl rfl) (fun _ h=>h) H.hd (.inl ⟨hb,rfl,hnoA⟩)
 | true =>
  simp only[BN,Ao,AP]at hf2;split at hf2
  . grind
  ·
    obtain⟨⟨u,h1⟩,hp,hf3⟩:=ai.1 hf2;obtain⟨_,hn,hf4⟩:=ai.1 hf3;obtain⟨ob,hob,hf5⟩:=ai.1 hf4
    cases hf5;have hn:=Ab (c9.1 hn);have hob:=cg.1 hob;refine H.float (v:=u) hi hr hok rfl rfl ?_ (by simp) (.inr ⟨rfl,rfl⟩) (fun _ h=>h) ?_ (.inr ⟨hb, .inr (.inl ⟨s.h.next,h1,ob,⟨Ap,?_⟩,hp,hn,hob,?_⟩)⟩)
    . intro b ob' hg;have:=H.hd b ob' hg;grind [AH.aO]
    . intro b ob' hg;rw[AH.aO]at hg;split at hg
      . simp_all
      . have:=H.hd b ob' hg;grind [AH.cm]
    all_goals grind [AH.aO]
  ·
    rename_i hne hna;split at hf2
    . rename_i u h1 hm;obtain⟨_,hn,hf3⟩:=ai.1 hf2
      cases hf3;have hn:=Ab (c9.1 hn);have hp:eu tab s.ts {t:= .e,next:=0} o= .ok (u,h1):=by
        grind
      exact H.float (v:=u) hi hr hok rfl rfl (fun _ _ h=>h) (Aj _) (.inl rfl) (fun _ h=>h) H.hd (.inr ⟨hb, .inl ⟨⟨h1,hp,hn⟩,hnoA⟩⟩)
    . split at hf2
      . rename_i u h1 hp
        cases hf2;have hsame:=tb (tab:=tab) (o:=o) ⟨fun e=>hne (by rw[e]),fun e=>hna (by rw[e])⟩ hp;subst hsame;refine H.float (v:=u) hi hr hok rfl rfl (fun _ _ h=>h) (Aj _) (.inl rfl) (fun _ h=>Aw _ h) H.hd
          (.inr ⟨hb, .inr (.inr ⟨⟨Ap,hnoA⟩,fun e=>hne (by rw[e]),fun e=>hna (by rw[e]),_,hp,?_⟩)⟩)
        intro b ob hg;rw[gE]at hg;split at hg
        . cases hg
        . rename_i hnx;refine⟨by rw[ig];exact H.hd b ob hg,hg,fun x hx e=>hnx ⟨x,hx,e⟩⟩
      grind
theorem sY:∀(l:List Oper) (k:Nat) (s s':DS),(∀j o,l[j]? =some o->ops[k+j]? =some o)->jv tab ops nt k l s= .ok s'->cP tab ops nt ts0 lo s X->cP tab ops nt ts0 lo s' X:=by
 intro l;induction l with
 |nil=>grind [jv]
 |cons o l ih=>
  intro k s s' hl h H;have hl':∀j o',l[j]? =some o'->ops[k+1+j]? =some o':=by
    intro j o' hj;have:=hl (j+1) o' (by grind);rw[show k+1+j=k+(j+1)from by omega];omega
  simp only[jv]at h;by_cases hr:isReady s.aD k o=true
  . simp only[hr,Bv]at h;obtain⟨x,hx,h1⟩:=ai.1 h
    cases x with
    |none=>grind
    |some s1=>exact ih (k+1) s1 s' hl' h1 (y6 hx (by simpa using hl 0 o rfl) hr H)
  grind
theorem E5:∀(l:List Oper) (k:Nat) (aD:T (List Nat)) (j:Nat) (o:Oper),l[j]? =some o->isReady aD (k+j) o=true->(k+j,o)∈ir aD k l:=by
 intro l;induction l with
 |nil=>grind
 | cons x l ih=>
  intro k aD j o hj hr;simp only[ir]
  cases j with
  |zero=>
   grind
  |succ j=>
   have h1:=ih (k+1) aD j o (by grind) (by rw[show k+1+j=k+(j+1)from by omega];exact hr);rw[show k+1+j=k+(j+1)from by omega]at h1;grind
theorem yO:∀(l:List Oper) (k:Nat) (aD:T (List Nat)) (j:Nat) (o:Oper),(j,o)∈ir aD k l->∃j',j=k+j'/\l[j']? =some o/\isReady aD j o=true:=by
 intro l;induction l with
 |nil=>grind [ir]
 | cons x l ih=>
  intro k aD j o h;simp only[ir]at h
  cases hr:isReady aD k x with
  |true=>
   rw[hr]at h;rcases Al.1 h with e|h
   . simp_all
   . obtain⟨j',h1,h2,h3⟩:=ih (k+1) aD j o h;exact⟨j'+1,by omega,by grind,h3⟩
  |false=>
   rw[hr]at h;obtain⟨j',h1,h2,h3⟩:=ih (k+1) aD j o h;exact⟨j'+1,by omega,by grind,h3⟩
end
end
section
variable [Inhabited aI]
structure dX (ops:Array Oper) (fr0:af) (cs:List af) (k:List bq) (base:List Frame) (s:DS) (X:Nat->Prop) (D:Nat->Prop) (E:Env) (K:KS)
  (tsR:T AV) (hR:AH) (l:List Nat) (frC:Frame) (csC:List Frame) (w:World):Prop where
 rel:Rel D E K {fr:={fr0 with tmps:=tsR,todo:= .inRegion ops l::k},cs,h:=hR} base frC csC w
 hr:∀i ob,hR.get i=some ob↔s.h.get i=some ob/\ ∀x∈s.ay,x.2=i->X x.1
 hn:hR.next=s.h.next
 mP:∀j o t,X j->ops[j]? =some o->o.dst=some t->tsR.get t=s.ts.get t
 mO:∀t,(∀j o,X j->ops[j]? =some o->o.dst≠some t)->tsR.get t=fr0.tmps.get t
 dp:∀x∈s.ay,¬X x.1->¬D x.2
section
variable {P:Program} {tab:bc} (ok:bD P tab)
variable {D:Nat->Prop} {E:Env} {K:KS} {base:List Frame} {frC:Frame} {csC:List Frame} {w:World}
variable {ops:Array Oper} {fr0:af} {cs:List af} {k:List bq} {lo:Nat} {s:DS} {X:Nat->Prop} {tsR:T AV} {hR:AH} {j:Nat} {l:List Nat} {o:Oper} {v:AV}
theorem Ld {fr fr':af} {h:AH} {i:Nat} {rest:List Nat} {k:List bq} (hR:Rel D E K {fr,cs,h} base frC csC w) (hm:fr.mode= .run) (ht:fr.todo= .inRegion ops (i::rest)::k) (ho:ops[i]? =some o) (hw:wanted ops o fr.tmps= .ok false)
  (hf:fr.finish (.bj [])= .ok fr'):rU P (lone frC csC w) D (fun _=>False) E K {fr:=fr',cs,h} base w:=by
 have hfc:=js hf;refine hR.nZ (m':={fr:=fr',cs,h}) _ _ (fun _=>(0,0)) (fun _ h=>h.elim) (fun i hi=>hi.elim (hR.dM i) False.elim) ⟨(hfc E).2.1 hR.wf.1,hR.wf.2⟩ ?_;intro E' he H e1 e2 _;refine⟨w,step_lone_go ?_,H,Kept.refl K w⟩;have hw':=vY hR.wf.1 hw E';rw[<-(hfc E').1,<-e1,<-e2];have h1:(aZ E' fr).todo= .inRegion ops (i::rest)::k.map (dc E'):=by grind [aZ,dc]
 have h2:(aZ E' fr).mode= .run:=by grind [aZ,ey]
 have h3:Region.wanted o (yielded ops (aZ E' fr).tmps)=false:=hw';unfold stepG stepG.exec;simp[h1,h2,ho,h3];rfl
theorem Kv (H:cP tab ops fr0.nt fr0.tmps lo s X) (R:dX ops fr0 cs k base s X D E K tsR hR l frC csC w) {tj:T AV} (hl:bQ ops fr0.tmps s j o tj) (hx:¬X j) (hready:∀p∈gx o,X p):
   ∀t∈looks ops o,tsR.get t=tj.get t:=by
 intro t ht;rcases hl t ht with⟨i,oi,h1,h2,h3,_,h5⟩|⟨h1,h2⟩
 . rw[h5,R.mP i oi t (hready i h3) h1 h2]
 . rw[h1];refine R.mO t (fun i oi hi hoi hd=>?_);have hc:=H.cx i hi
   cases ha:s.aD.get i with
   |none=>rw[ha]at hc;cases hc
   |some a=>
    rcases h2 i oi a hoi hd ha with e|hm
    . grind
    . exact hx (H.oI i a hi ha j hm)
theorem cP.qE (H:cP tab ops fr0.nt fr0.tmps lo s X) (hC:(s.aD.get j).isSome) (ho:ops[j]? =some o) (hready:∀p∈gx o,X p):cP tab ops fr0.nt fr0.tmps lo s (fun i=>X i\/i=j):=by
 refine⟨?_,?_,H.op,H.shape,H.uniq,H.nL,fun i hi hx=>H.jH i hi (fun h=>hx (.inl h)),H.al,H.nx,H.qB,H.pz,H.hd⟩
 . rintro i (hi|rfl)
   . exact H.cx i hi
   omega
 . rintro i a (hi|rfl) ha x hx
   . exact .inl (H.oI i a hi ha x hx)
   . obtain⟨g1,g2⟩:=H.shape i a o ha ho;rcases g2 x hx with hp|⟨p,hp,ap,h1,h2⟩
     . grind
     . exact .inl (H.oI p ap (hready p hp) h1 x h2)
theorem Pc (H:cP tab ops fr0.nt fr0.tmps lo s X) (R:dX ops fr0 cs k base s X D E K tsR hR l frC csC w) (hC:(s.aD.get j).isSome) (ho:ops[j]? =some o) (hdst:∀d,o.dst=some d->d<fr0.nt->s.ts.get d=some v):
   (∀i oi t,(X i\/i=j)->ops[i]? =some oi->oi.dst=some t->(gB fr0.nt tsR o v).get t=s.ts.get t)/\
   (∀t,(∀i oi,(X i\/i=j)->ops[i]? =some oi->oi.dst≠some t)->(gB fr0.nt tsR o v).get t=fr0.tmps.get t):=by
 constructor
 . intro i oi t hi hoi hd;rw[jr];by_cases h1:o.dst=some t/\t<fr0.nt
   . rw[An h1,hdst t h1.1 h1.2]
   . rw[Ai h1];rcases hi with hi|rfl
     . exact R.mP i oi t hi hoi hd
     . rw[ho]at hoi
       cases hoi;have hge:fr0.nt<=t:=DR (fun hlt=>h1 ⟨hd,hlt⟩);rw[H.qB t hge];exact R.rel.wf.1 t hge
 . intro t ht;rw[jr,Ai (fun h=>ht j o (.inr rfl) ho h.1)];exact R.mO t (fun i oi hi hoi=>ht i oi (.inl hi) hoi)
theorem vR (ho:ops[j]? =some o) (v:AV):af.finish {fr0 with tmps:=tsR,todo:= .inRegion ops (j::l)::k} v= .ok {fr0 with tmps:=gB fr0.nt tsR o v,todo:= .inRegion ops l::k}:=by
 unfold af.finish;simp only[ho,Dv];congr 1
end
end
end Go.Am
