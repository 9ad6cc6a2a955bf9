/- Part 0: an evaluator, proved sound, and its use at this seat; no condition. -/
import GoSem.Step
import Derived.WalkKit
import Derived.Laws.MakeOwn
import Derived.Laws.Sem
import Derived.Calls
import Derived.Orders
set_option linter.unusedSimpArgs false
set_option linter.unusedVariables false
set_option linter.unusedSectionVars false
set_option linter.deprecated false
abbrev Aa:=@Nat.eq_of_beq_eq_true
abbrev Ab:=@Bool.and_eq_true
abbrev Ac:=@List.getElem?_eq_some_iff
abbrev Ad:=@Array.getElem?_eq_some_iff
abbrev Ae:=@if_neg
abbrev Af:=@List.getElem?_eq_getElem
abbrev Ag:=@Nat.le_of_ble_eq_true
abbrev Ah:=@Bool.false_eq_true
abbrev Ai:=@if_pos
abbrev Aj:=@Nat.le_refl
abbrev Ak:=@Int.ofNat_eq_natCast
abbrev Al:=@List.mem_cons_self
abbrev An:=@List.mem_cons
abbrev Ao:=@decide_eq_true_eq
abbrev Ap:=@List.mem_cons_of_mem
abbrev Aq:=@Option.map_eq_some_iff
abbrev Ar:=@Bool.eq_false_iff
abbrev As:=@decide_eq_false_iff_not
abbrev Au:=@List.getElem?_map
abbrev Av:=@List.all_eq_true
abbrev Aw:=@List.getElem?_cons_zero
abbrev Ax:=@if_false
abbrev Ay:=@List.map_cons
abbrev Az:=@Option.some.injEq
abbrev AA:=@Option.getD_some
abbrev AB:=@cond_false
abbrev AE:=@List.getElem?_toArray
abbrev AF:=@List.eq_nil_of_length_eq_zero
abbrev AG:=@Nat.le_trans
abbrev AI:=@List.getElem?_append_left
abbrev AJ:=@List.getElem?_cons_succ
abbrev AK:=@if_true
abbrev AL:=@List.mem_filter
abbrev AN:=@congrArg
abbrev AP:=@List.take_succ_eq_append_getElem
abbrev AQ:=@List.getElem?_append_right
abbrev AR:=@List.length_cons
abbrev AS:=@Option.map_some
abbrev AU:=@Array.getElem?_eq_getElem
abbrev AW:=@Bool.not_eq_true'
abbrev AX:=@List.getElem_mem
abbrev AY:=@cond_true
abbrev AZ:=@not_false_eq_true
abbrev A1:=@List.mem_map
abbrev A2:=@List.take_of_length_le
abbrev A3:=@Bool.eq_iff_iff
abbrev A4:=@Nat.zero_add
abbrev A5:=@List.toList_toArray
abbrev A6:=@Nat.mul_le_mul_right
abbrev A7:=@Nat.add_mul
abbrev A8:=@List.mem_iff_getElem?
abbrev A9:=@Nat.add_zero
abbrev Ba:=@List.map_append
abbrev Bb:=@List.cons.injEq
abbrev Bc:=@List.cons_append
abbrev Bd:=@Nat.lt_of_lt_of_le
abbrev Be:=@Nat.ble_eq
abbrev Bf:=@List.length_nil
abbrev Bg:=@List.takeWhile_cons
abbrev Bh:=@List.getElem?_eq_none
abbrev Bi:=@of_decide_eq_true
abbrev Bj:=@List.size_toArray
abbrev Bk:=@List.length_eq_zero_iff
abbrev Bl:=@Nat.zero_le
abbrev Bn:=@List.getElem?_take
abbrev Bo:=@Nat.beq_refl
abbrev Bp:=@List.map_map
abbrev Bq:=@Array.getElem?_setIfInBounds
abbrev Br:=@List.mem_of_getElem?
abbrev Bt:=@List.length_drop
abbrev Bu:=@Nat.sub_zero
abbrev Bv:=@Option.map_none
abbrev Bw:=@Option.bind_some
abbrev Bx:=@List.getElem?_drop
abbrev By:=@Array.ext_getElem?
abbrev Bz:=@Option.isSome_iff_exists
abbrev BA:=@List.append_assoc
abbrev BB:=@Nat.blt_eq
abbrev BC:=@List.nil_append
abbrev BD:=@List.length_map
abbrev BE:=@Array.getD_eq_getD_getElem?
abbrev BF:=@Bool.true_and
abbrev BG:=@List.length_append
abbrev BH:=@Array.getElem?_toList
abbrev BJ:=@Decidable.byContradiction
abbrev BL:=@decide_eq_false
abbrev BM:=@Bool.or_eq_true
abbrev BN:=@not_true_eq_false
abbrev BO:=@Function.comp_def
abbrev BP:=@Nat.add_assoc
abbrev BQ:=@Bool.not_true
abbrev BR:=@List.length_pos_iff
abbrev BS:=@ne_eq
abbrev BT:=@Option.some.inj
abbrev BU:=@List.mem_append
abbrev BV:=@List.mem_append_right
abbrev BW:=@Array.getElem_setIfInBounds
abbrev BX:=@Nat.le_of_not_lt
abbrev BZ:=@List.length_take
abbrev B0:=@List.filter_cons
abbrev B5:=@List.pairwise_iff_getElem
abbrev B6:=@List.getElem_of_mem
abbrev B7:=@Array.toList_modify
abbrev B8:=@Array.toList_filter
abbrev B9:=@Prod.mk.injEq
abbrev Da:=@List.append_nil
abbrev Db:=@Option.isSome_none
abbrev Dc:=@List.pairwise_cons
abbrev Dd:=@Nat.one_mul
abbrev De:=@decide_eq_true
abbrev Df:=@List.head?_eq_getElem?
abbrev Dg:=@List.ext_getElem?
abbrev Dh:=@Array.getElem?_eq_none
abbrev Di:=@Nat.ble_eq_true_of_le
abbrev Dj:=@List.length_filter_le
abbrev Dk:=@beq_self_eq_true
abbrev Dl:=@List.mem_append_left
abbrev Dm:=@Array.getElem_modify
abbrev Dn:=@Nat.not_lt_zero
abbrev Dp:=@List.foldl_cons
abbrev Dq:=@List.getElem?_range
abbrev Dr:=@beq_iff_eq
abbrev Ds:=@List.findIdx?_cons
abbrev Dt:=@List.drop_drop
abbrev Du:=@Bool.not_false
abbrev Dv:=@Bool.false_and
abbrev Dw:=@List.getElem?_eq_none_iff
abbrev Dx:=@Int.toNat_natCast
abbrev Dy:=@Int.lt_trichotomy
abbrev Dz:=@Array.toList_push
abbrev DA:=@and_true
abbrev DB:=@Option.bind_eq_some_iff
abbrev DC:=@List.not_mem_nil
abbrev DD:=@Bool.not_eq_true
abbrev DE:=@Nat.zero_mul
abbrev DG:=@List.take_append_drop
abbrev DH:=@List.takeWhile_prefix
abbrev DI:=@List.singleton_append
abbrev DJ:=@Array.getElem?_modify
abbrev DK:=@List.mem_range
abbrev DM:=@List.getElem?_modify
abbrev DN:=@Array.replicate_zero
abbrev DO:=@Array.replicate_succ
abbrev DP:=@Array.ext
abbrev DQ:=@beq_eq_false_iff_ne
abbrev DR:=@List.append_toArray
abbrev DT:=@ByteArray.ext
abbrev DU:=@Nat.pos_of_ne_zero
abbrev DV:=@List.mem_singleton
abbrev DW:=@Array.ext'
abbrev DX:=@List.findIdx?_eq_some_iff_getElem
abbrev DY:=@or_false
abbrev DZ:=@List.push_toArray
abbrev D2:=@List.map_nil
abbrev D3:=@List.takeWhile_append_dropWhile
abbrev D4:=@Nat.lt_succ_self
abbrev D5:=@List.take_length
abbrev D6:=@List.any_eq_true
abbrev D7:=@List.take_append_of_le_length
abbrev D8:=@UInt8.toNat_inj
abbrev D9:=@List.find?_cons
abbrev Ea:=@List.countP_eq_length_filter
abbrev Eb:=@Nat.mod_lt
abbrev Ec:=@List.mapM_cons
abbrev Ed:=@List.exists_cons_of_ne_nil
abbrev Ee:=@Array.toList_setIfInBounds
abbrev Ef:=@List.getLast?_eq_getElem?
abbrev Eg:=@List.extract_eq_take_drop
abbrev Eh:=@List.map_take
abbrev Ei:=@Array.size_setIfInBounds
abbrev Ej:=@Array.getElem?_replicate
abbrev Ek:=@Classical.axiomOfChoice
abbrev El:=@getElem!_pos
abbrev Em:=@decide_false
abbrev En:=@Ne.symm
abbrev Eo:=@List.reverse_singleton
abbrev Ep:=@List.getElem_cons_zero
abbrev Er:=@List.getElem_cons_succ
abbrev Es:=@List.filter_eq_nil_iff
abbrev Et:=@List.drop_eq_nil_of_le
abbrev Eu:=@UInt8.lt_iff_toNat_lt
abbrev Ew:=@Nat.le_div_iff_mul_le
abbrev Ex:=@List.modify_succ_cons
abbrev Ey:=@List.length_singleton
abbrev Ez:=@Array.getElem?_append
abbrev EA:=@Nat.le_zero
abbrev EB:=@List.pairwise_append
abbrev EC:=@Nat.pred_eq_sub_one
abbrev ED:=@List.map_congr_left
abbrev EE:=@List.filter_eq_self
abbrev EG:=@Array.getElem?_push
namespace Go.Am
inductive R (α:Type) where
 |ok (a:α)
 |no (why:String)
namespace R
def bind {α β:Type}:R α->(α->R β)->R β
 | .ok a,f=>f a
 | .no w,_=> .no w
instance:Monad R where
 pure:=R.ok
 bind:=R.bind
def of {α:Type} (why:String):Option α->R α
 |some a=> .ok a
 |none=> .no why
def check (why:String):Bool->R Unit
 |true=> .ok ()
 |false=> .no why
end R
inductive T (α:Type) where
 |e
 |n (v:Option α) (l r:T α)
namespace T
def get {α:Type}:T α->Nat->Option α
 | .e,_=>none
 | .n v l r,k=>bif Nat.beq k 0 then v else bif Nat.beq (Nat.mod k 2) 1 then l.get (Nat.div k 2)else r.get (Nat.pred (Nat.div k 2))
def fE {α:Type}:Nat->T α->Nat->Option α->T α
 |0,t,_,_=>t
 |f+1, .e,k,x=>
  bif Nat.beq k 0 then .n x .e .e else bif Nat.beq (Nat.mod k 2) 1 then .n none (fE f .e (Nat.div k 2) x) .e else .n none .e (fE f .e (Nat.pred (Nat.div k 2)) x)
 |f+1, .n v l r,k,x=>
  bif Nat.beq k 0 then .n x l r else bif Nat.beq (Nat.mod k 2) 1 then .n v (fE f l (Nat.div k 2) x) r else .n v l (fE f r (Nat.pred (Nat.div k 2)) x)
def set {α:Type} (t:T α) (k:Nat) (x:Option α):T α:=fE (k+1) t k x
def ee {α:Type}:List α->Nat->T α->T α
 |[],_,t=>t
 |x::l,k,t=>ee l (k+1) (t.set k (some x))
def ofList {α:Type} (l:List α):T α:=ee l 0 .e
end T
inductive dX where
 |lit (n:Nat)
 |tail (k:Nat)
deriving DecidableEq
inductive AV where
 |bool (b:Bool)
 |int (k:IntKind) (n:Int)
 |str (s:List UInt8)
 |aA
 |ptr (b off:Nat)
 |nils
 |sl (b off len:Nat) (cap:dX)
 |emp (b off l n k:Nat)
 |aQ
 |map (b:Nat)
 |ah
 |fn (f:Fn) (first captured:List AV)
 |gY (l:Nat)
 |dV
 |iface (t:TypeId) (v:AV)
 |agg (cs:List AV)
 |aO (vs:List AV)
 |raw (v:Value)
inductive BK where
 |rw|mark|any|ro|cold
deriving DecidableEq
def BK.grown:BK->BK
 | .rw=> .rw
 |_=> .any
inductive AT where
 |fn (f:Fn) (captured:List AV)
 |gY (l:Nat)
 |collected (r:Nat)
structure AD where
 target:AT
 args:List AV
inductive AO where
 |cells (cs:List AV) (elem:TypeId) (sz:Nat) (ext:Bool) (bk:BK)
 |mp (es:List (AV×AV×Nat)) (clock:Nat)
 |ey (m:Option Nat) (since:Nat) (seen:List Nat) (stepped:Nat)
 |gB (s:List UInt8) (pos:Nat)
 |loop (st:LoopState) (pending:Option Code) (fn:FuncId) (tmps:T AV) (nt:Nat) (params:Array Tmp) (assign body:Code) (defers:Nat)
 |kn (calls:Option (List AD))
structure AH where
 t:T AO
 next:Nat
namespace AH
def get (h:AH) (b:Nat):Option AO:=h.t.get b
def set (h:AH) (b:Nat) (o:AO):AH:={h with t:=h.t.set b (some o)}
def new (h:AH) (o:AO):AH:={t:=h.t.set h.next (some o),next:=h.next+1}
def kill (h:AH) (b:Nat):AH:={h with t:=h.t.set b none}
end AH
inductive aT where
 |code (c:Code)
 |inBlock (id:Nat)
 |inLoop (body:Code)
 |inScope (body:Code)
 |inRegion (ops:Array Oper) (l:List Nat)
 |cA (l:Nat)
 |endRange (l:Nat)
 |beginRound
structure oU where
 v:AV
 recovered:Bool
inductive kf where
 |run
 |returning
 |panicking (chain:List oU)
structure ae where
 fn:FuncId
 nt:Nat
 tmps:T AV
 todo:List aT
 defers:List AD
 mode:kf
 kind:CallKind
 round:Option Nat
structure AM where
 fr:ae
 cs:List ae
 h:AH
structure aM where
 und:T TypeDesc
 siz:T Nat
 byt:T Nat
 gD:T AV
 agg:T Bool
 cmp:T Bool
 held:T Bool
 gK:T Bool
 fns:T Func
 ext:T Nat
 merge:FuncId->Bool
def jL:Value->AV
 | .bool b=> .bool b
 | .int k n=> .int k n
 | .string s=> .str s.data.toList
 | .pointer none=> .aA
 | .slice none 0 0=> .nils
 | .map none=> .aQ
 | .nilFunc=> .ah
 | .nilIface=> .dV
 |v=> .raw v
def ofConst:Value->AV
 | .agg cs=> .agg (cs.toList.map jL)
 | .tuple vs=> .aO (vs.toList.map jL)
 |v=>jL v
def ev (ts:T AV):Operand->R AV
 | .tmp t=> .ok ((ts.get t).getD (.aO []))
 | .const v=> .ok (ofConst v)
 | .func f=> .ok (.fn (.func f) [] [])
 | .global _=> .no "global"
def fm (ts:T AV):List Operand->R (List AV)
 |[]=> .ok []
 |x::l=>do
  let v<-ev ts x
  let vs<-fm ts l
  .ok (v::vs)
def AV.cells:AV->R (List AV)
 | .agg cs=> .ok cs
 | .raw (.agg _)=> .no "cells of a raw value"
 | .raw (.tuple _)=> .no "cells of a raw value"
 | .raw v=> .ok [.raw v]
 |v=> .ok [v]
mutual
def AV.beq:AV->AV->Bool
 | .bool a, .bool b=>a==b
 | .int k a, .int j b=>k==j&&a==b
 | .str a, .str b=>a==b
 | .aA, .aA=>true
 | .ptr a i, .ptr b j=>Nat.beq a b&&Nat.beq i j
 | .nils, .nils=>true
 | .sl a i n c, .sl b j m d=>Nat.beq a b&&Nat.beq i j&&Nat.beq n m&&c==d
 | .emp a i n c e, .emp b j m d f=>Nat.beq a b&&Nat.beq i j&&Nat.beq n m&&Nat.beq c d&&Nat.beq e f
 | .aQ, .aQ=>true
 | .map a, .map b=>Nat.beq a b
 | .ah, .ah=>true
 | .fn f a b, .fn g c d=>f==g&&eK a c&&eK b d
 | .gY a, .gY b=>Nat.beq a b
 | .dV, .dV=>true
 | .iface t v, .iface u w=>Nat.beq t u&&AV.beq v w
 | .agg a, .agg b=>eK a b
 | .aO a, .aO b=>eK a b
 | .raw (.slice a n c), .raw (.slice b m d)=>decide (a=b)&&Nat.beq n m&&Nat.beq c d
 | .raw (.pointer (some a)), .raw (.pointer (some b))=>decide (a=b)
 |_,_=>false
def eK:List AV->List AV->Bool
 |[],[]=>true
 |a::l,b::m=>AV.beq a b&&eK l m
 |_,_=>false
end
section
variable (tab:aM)
def und (t:TypeId):R TypeDesc:=R.of "und" (tab.und.get t)
def siz (t:TypeId):R Nat:=R.of "siz" (tab.siz.get t)
def zero (t:TypeId):R AV:=R.of "zero" (tab.gD.get t)
def isAgg (t:TypeId):R Bool:=R.of "isAgg" (tab.agg.get t)
def part (t:TypeId) (cs:List AV) (off:Nat):R AV:=do
 if<-isAgg tab t then
  let n<-siz tab t
  .ok (.agg ((cs.drop off).take n))
 else R.of "part" cs[off]?
def fv (h:AH) (b:Nat):R (List AV×TypeId×Nat×Bool×BK):=
 match h.get b with
 |some (.cells cs e sz ext bk)=> .ok (cs,e,sz,ext,bk)
 |_=> .no "cells"
def readN (h:AH) (b off n:Nat):R (List AV):=do
 let (cs,_)<-fv h b
 R.check "readN" (Nat.ble (off+n) cs.length)
 .ok ((cs.drop off).take n)
def iY (cs:List AV) (off:Nat) (vs:List AV):List AV:=cs.take off++(vs++cs.drop (off+vs.length))
def ia:AV->Bool
 | .raw (.slice _ _ _)=>true
 | .raw (.int _ _)=>true
 | .raw (.string _)=>true
 | .raw (.bool _)=>true
 | .raw (.pointer (some _))=>true
 | .agg _| .aO _| .raw _=>false
 |_=>true
def writeN (h:AH) (b off:Nat) (vs:List AV):R AH:=
 match vs with
 |[]=> .ok h
 |_=>do
  let (cs,e,sz,ext,bk)<-fv h b
  R.check "writeN: ro" (bk != .ro&&bk != .cold)
  R.check "writeN: range" (Nat.ble (off+vs.length) cs.length)
  R.check "writeN: cell" (vs.all ia)
  .ok (h.set b (.cells (iY cs off vs) e sz ext bk))
def loadVar (h:AH) (t:TypeId) (b off:Nat):R AV:=do
 if<-isAgg tab t then
  let n<-siz tab t
  let cs<-readN h b off n
  .ok (.agg cs)
 else
  let (cs,_)<-fv h b
  R.of "load" cs[off]?
def storeVar (h:AH) (t:TypeId) (b off:Nat) (v:AV):R AH:=do
 let n<-siz tab t
 let l<-v.cells
 R.check "store: size" (Nat.beq l.length n)
 writeN h b off l
def newRow (h:AH) (elem:TypeId) (cs:List AV) (ext:Bool:=false) (bk:BK:= .rw):R (AH×Nat):=do
 let n<-siz tab elem
 .ok (h.new (.cells cs elem n ext bk),h.next)
def asInt:AV->R (IntKind×Int)
 | .int k n=> .ok (k,n)
 |_=> .no "asInt"
def asNat (v:AV):R Nat:=do
 let (_,n)<-asInt v
 match n with
 | .ofNat k=> .ok k
 | .negSucc _=> .no "asNat"
def goInt (n:Nat):AV:= .int .i64 (.ofNat n)
def intOp (op:BinOp) (k:IntKind) (x y:Int):R AV:=
 match op with
 | .add=> .ok (.int k (k.wrap (x+y)))
 | .sub=> .ok (.int k (k.wrap (x - y)))
 | .mul=> .ok (.int k (k.wrap (x*y)))
 | .quo=>if y=0 then .no "div" else .ok (.int k (k.wrap (x.tdiv y)))
 | .rem=>if y=0 then .no "div" else .ok (.int k (x.tmod y))
 | .and=> .ok (.int k (k.wrap (BitVec.ofInt k.bits x&&&BitVec.ofInt k.bits y).toNat))
 | .or=> .ok (.int k (k.wrap (BitVec.ofInt k.bits x|||BitVec.ofInt k.bits y).toNat))
 | .xor=> .ok (.int k (k.wrap (BitVec.ofInt k.bits x ^^^ BitVec.ofInt k.bits y).toNat))
 | .andNot=> .ok (.int k (k.wrap (BitVec.ofInt k.bits x&&& ~~~ BitVec.ofInt k.bits y).toNat))
 | .eql=> .ok (.bool (x==y))
 | .neq=> .ok (.bool (x !=y))
 | .lss=> .ok (.bool (decide (x<y)))
 | .leq=> .ok (.bool (decide (x<=y)))
 | .gtr=> .ok (.bool (decide (x>y)))
 | .geq=> .ok (.bool (decide (x>=y)))
 |_=> .no "intOp"
def shiftOp (op:BinOp) (k:IntKind) (x y:Int):R AV:=
 if y<0 then .no "shift" else
 match op with
 | .shl=> .ok (.int k (k.wrap (x*2 ^ (min y.toNat k.bits))))
 | .shr=> .ok (.int k (x.fdiv (2 ^ (min y.toNat k.bits))))
 |_=> .no "shiftOp"
def strOp (op:BinOp) (x y:List UInt8):R AV:=
 match op with
 | .add=>if x.length+y.length<=1048576 then .ok (.str (x++y))else .no "string too long"
 | .eql=> .ok (.bool (x==y))
 | .neq=> .ok (.bool (!(x==y)))
 | .lss=> .ok (.bool (Op.bytesLess x y))
 | .leq=> .ok (.bool (Op.bytesLess x y||x==y))
 | .gtr=> .ok (.bool (!(Op.bytesLess x y||x==y)))
 | .geq=> .ok (.bool (!Op.bytesLess x y))
 |_=> .no "strOp"
def eqFields (eq:TypeId->AV->AV->R Bool) (xs ys:List AV):List Field->R Bool
 |[]=> .ok true
 | f::fs=>
  if f.name≠ "_" then do
   let a<-part tab f.type xs f.offset
   let b<-part tab f.type ys f.offset
   if<-eq f.type a b then eqFields eq xs ys fs else .ok false
  else eqFields eq xs ys fs
def eqT:Nat->TypeId->AV->AV->R Bool
 |0,_,_,_=> .no "eqT"
 | d+1,t,x,y=>do
  match<-und tab t,x,y with
  | .bool, .bool a, .bool b=> .ok (a==b)
  | .int _, .int k a, .int j b=>if k=j then .ok (a==b)else .no "eqT kinds"
  | .string, .str a, .str b=> .ok (a==b)
  | .pointer _, .aA, .aA=> .ok true
  | .pointer _, .aA, .ptr _ _=> .ok false
  | .pointer _, .ptr _ _, .aA=> .ok false
  | .pointer _, .raw (.pointer (some _)), .aA=> .ok false
  | .pointer _, .aA, .raw (.pointer (some _))=> .ok false
  | .slice _, .nils, .nils=> .ok true
  | .slice _, .nils, .sl .. => .ok false
  | .slice _, .sl .., .nils=> .ok false
  | .slice _, .nils, .emp .. => .ok false
  | .slice _, .emp .., .nils=> .ok false
  | .map _ _, .aQ, .aQ=> .ok true
  | .map _ _, .aQ, .map _=> .ok false
  | .map _ _, .map _, .aQ=> .ok false
  | .func _ _ _, .ah, .ah=> .ok true
  | .func _ _ _, .ah, .fn .. => .ok false
  | .func _ _ _, .fn .., .ah=> .ok false
  | .interface _, .dV, .iface _ _=> .ok false
  | .interface _, .iface _ _, .dV=> .ok false
  | .struct fs, .agg xs, .agg ys=>do
   match tab.held.get t with
   |some false=>eqFields tab (eqT d) xs ys fs.toList
   |_=> .no "eqT held"
  |_,_,_=> .no "eqT"
def eqOp (h:AH) (t:TypeId) (x y:AV):R Bool:=do
 match x,y with
 | .ptr a i, .ptr b j=>
  match<-und tab t with
  | .pointer e=>do
   let n<-siz tab e
   R.check "eqOp: size 0" (!(Nat.beq n 0))
   if Nat.beq a b then .ok (Nat.beq i j)else
    match h.get a,h.get b with
    |some (.cells _ _ _ _ .rw),some (.cells _ _ _ _ .rw)=> .ok false
    |_,_=> .no "eqOp: blocks"
  |_=> .no "eqOp"
 | .agg _, .agg _=>
  match tab.gK.get t with
  |some false=>eqT tab 8 t x y
  |_=> .no "eqOp: guard"
 | .dV, .dV=> .no "eqOp: nil, nil"
 |_,_=>eqT tab 8 t x y
def binOp (h:AH) (op:BinOp) (t:TypeId) (x y:AV):R AV:=
 match op,x,y with
 | .shl, .int k a, .int _ b=>shiftOp .shl k a b
 | .shr, .int k a, .int _ b=>shiftOp .shr k a b
 |_, .int k a, .int j b=>if k=j then intOp op k a b else .no "binOp kinds"
 |_, .str a, .str b=>strOp op a b
 | .eql,x,y=>do .ok (.bool (<-eqOp tab h t x y))
 | .neq,x,y=>do .ok (.bool (!(<-eqOp tab h t x y)))
 |_,_,_=> .no "binOp"
def unOp (op:UnOp) (x:AV):R AV:=
 match op,x with
 | .neg, .int k n=> .ok (.int k (k.wrap (0 - n)))
 | .xor, .int k n=> .ok (.int k (k.wrap (BitVec.ofInt k.bits (if k.signed then -1 else k.max) ^^^ BitVec.ofInt k.bits n).toNat))
 | .not, .bool b=> .ok (.bool (!b))
 |_,_=> .no "unOp"
def bytesOf:List AV->R (List UInt8)
 |[]=> .ok []
 | .int .u8 (.ofNat n)::l=>do
  let r<-bytesOf l
  .ok (UInt8.ofNat n::r)
 |_=> .no "bytesOf"
def ofBytes (s:List UInt8):List AV:=s.map fun b=> .int .u8 (.ofNat b.toNat)
def convert (h:AH) (src dst:TypeId) (x:AV):R (AV×AH):=do
 match<-und tab src,<-und tab dst,x with
 |_, .int k, .int _ n=> .ok (.int k (k.wrap n),h)
 |_, .string, .str s=> .ok (.str s,h)
 | _, .slice e, .str s=>do
  match<-und tab e with
  | .int .u8=>do
   let n<-siz tab e
   R.check "convert: size" (Nat.beq n 1)
   let (h',b)<-newRow tab h e (ofBytes s) true .mark
   .ok (.sl b 0 s.length (.tail 0),h')
  |_=> .no "convert to a slice"
 | .slice e, .string,x=>do
  match<-und tab e,x with
  | .int .u8, .nils=> .ok (.str [],h)
  | .int .u8, .sl b off n _=>do
   let s<-bytesOf (<-readN h b off n)
   .ok (.str s,h)
  | .int .u8, .emp .. => .ok (.str [],h)
  | .int .u8, .raw (.slice _ 0 _)=> .ok (.str [],h)
  |_,_=> .no "convert of a slice"
 | .slice _, .slice e, .sl b off n c=>do
  match Nat.beq src dst,<-und tab e with
  |true, .int .u8=>do
   let (cs,e',sz,ext,bk)<-fv h b
   R.check "convert: ro" (bk != .ro&&bk != .cold)
   .ok (.sl b off n c,h.set b (.cells cs e' sz ext .mark))
  |_,_=> .no "convert slices"
 |_,_,_=> .no "convert"
def sb (h:AH) (t:TypeId) (x:AV):R (AV×AH):=do
 match x with
 | .aA=> .ok (.aA,h)
 | .ptr b off=>do
  let (cs,_,_,_,_)<-fv h b
  let n<-siz tab t
  R.check "convert to unsafe.Pointer" (!(Nat.beq n 0)&&Nat.blt off cs.length)
  .ok (.ptr b off,h)
 |_=> .no "convert to unsafe.Pointer"
def rz (h:AH) (u:TypeId) (x:AV):R (AV×AH):=do
 match x with
 | .aA=> .ok (.aA,h)
 | .ptr b off=>do
  let (cs,e,_,_,_)<-fv h b
  let sz<-siz tab u
  R.check "convert from unsafe.Pointer" (Nat.beq e u&& !(Nat.beq sz 0)&&Nat.beq off 0&&Nat.ble sz cs.length)
  .ok (.ptr b off,h)
 |_=> .no "convert from unsafe.Pointer"
def iX (h:AH) (src dst:TypeId) (x:AV):R (AV×AH):=do
 match<-und tab dst with
 | .unsafePointer=>do
  match<-und tab src with
  | .pointer t=>sb tab h t x
  |_=> .no "convert to unsafe.Pointer"
 | .pointer u=>do
  match<-und tab src with
  | .unsafePointer=>rz tab h u x
  |_=> .no "convert to a pointer"
 |_=>convert tab h src dst x
def fill (cs:List AV):List (Nat×Nat×AV)->R (List AV)
 |[]=> .ok cs
 |(off,n,v)::rest=>do
  let l<-v.cells
  R.check "fill" (Nat.beq l.length n&&Nat.ble (off+n) cs.length)
  fill (iY cs off l) rest
def lh (fs:Array Field):List (Nat×AV)->R (List (Nat×Nat×AV))
 |[]=> .ok []
 |(i,v)::rest=>do
  let f<-R.of "field" fs[i]?
  let n<-siz tab f.type
  let r<-lh fs rest
  .ok ((f.offset,n,v)::r)
def build (t:TypeId) (parts:List (Nat×AV)):R AV:=do
 let z<-zero tab t
 let zc<-z.cells
 match<-und tab t with
 | .struct fs=>do
  R.check "build: sizes" (fs.toList.all fun f=>(tab.siz.get f.type).isSome)
  let ps<-lh tab fs parts
  let cs<-fill zc ps
  .ok (.agg cs)
 | .array _ e=>do
  let n<-siz tab e
  let cs<-fill zc (parts.map fun(i,v)=>(i*n,n,v))
  .ok (.agg cs)
 |_=> .no "build"
def rep (n:Nat) (l:List AV):List AV:=
 match n with
 |0=>[]
 |n+1=>l++rep n l
def buildSlice (h:AH) (t:TypeId) (len:Nat) (parts:List (Nat×AV)):R (AV×AH):=do
 match<-und tab t with
 | .slice e=>do
  let n<-siz tab e
  R.check "buildSlice" (Nat.ble (len*n) 16777216)
  let z<-zero tab e
  let zc<-z.cells
  R.check "buildSlice: zero" (Nat.beq zc.length n)
  let cs<-fill (rep len zc) (parts.map fun(i,v)=>(i*n,n,v))
  let (h',b)<-newRow tab h e cs
  .ok (.sl b 0 len (.lit len),h')
 |_=> .no "buildSlice"
def hZ (ts:T AV):List (Nat×Operand)->R (List (Nat×AV))
 |[]=> .ok []
 |(i,x)::l=>do
  let v<-ev ts x
  let r<-hZ ts l
  .ok ((i,v)::r)
def makeSlice (h:AH) (t:TypeId) (len cap:AV):R (AV×AH):=do
 match<-und tab t with
 | .slice e=>do
  let l<-asNat len
  let c<-asNat cap
  let by_<-R.of "byt" (tab.byt.get e)
  R.check "makeSlice" (Nat.ble l c&&Nat.ble c 4194304&&Nat.ble (by_*c) 16777216)
  let n<-siz tab e
  let z<-zero tab e
  let zc<-z.cells
  R.check "makeSlice: zero" (Nat.beq zc.length n&& !(Nat.beq n 0))
  let (h',b)<-newRow tab h e (rep c zc)
  .ok (.sl b 0 l (.lit c),h')
 |_=> .no "makeSlice"
def capLow (h:AH) (b:Nat):dX->R Nat
 | .lit n=> .ok n
 | .tail k=>do
  let (cs,_,sz,ext,_)<-fv h b
  R.check "capLow" (ext&& !(Nat.beq sz 0))
  .ok (Nat.div cs.length sz - k)
def dD (ts:T AV) (d:R Nat):Option Operand->R Nat
 |none=>d
 |some x=>do asNat (<-ev ts x)
def fG (ts:T AV) (h:AH) (t:TypeId) (x:AV) (lo hi mx:Option Operand):R (AV×AH):=do
 match<-und tab t,x with
 | .string, .str s=>do
  R.check "slice: max" mx.isNone
  let l<-dD ts (.ok 0) lo
  let u<-dD ts (.ok s.length) hi
  R.check "slice: bounds" (Nat.ble l u&&Nat.ble u s.length)
  .ok (.str ((s.drop l).take (u - l)),h)
 | .slice e, .nils=>do
  let _<-siz tab e
  let l<-dD ts (.ok 0) lo
  let u<-dD ts (.ok 0) hi
  let m<-dD ts (.ok 0) mx
  R.check "slice: nil" (Nat.beq l 0&&Nat.beq u 0&&Nat.beq m 0&&(mx.isNone||hi.isSome))
  .ok (.nils,h)
 | .slice e, .sl b off len cap=>do
  let c<-capLow h b cap
  let n<-siz tab e
  let l<-dD ts (.ok 0) lo
  let u<-dD ts (.ok len) hi
  match mx with
  |some _=>do
   let m<-dD ts (.ok 0) mx
   R.check "slice: bounds" (Nat.ble l u&&Nat.ble u m&&Nat.ble m c&&hi.isSome)
   .ok (.sl b (bif Nat.beq m l then off else off+l*n) (u - l) (.lit (m - l)),h)
  | none=>
   match cap with
   | .lit m=>do
    R.check "slice: bounds" (Nat.ble l u&&Nat.ble u m)
    .ok (.sl b (bif Nat.beq m l then off else off+l*n) (u - l) (.lit (m - l)),h)
   | .tail k=>do
    R.check "slice: bounds" (Nat.ble l u&&Nat.ble u c)
    bif Nat.beq l 0 then .ok (.sl b off u (.tail k),h)
    else bif Nat.blt l c then .ok (.sl b (off+l*n) (u - l) (.tail (k+l)),h)
    else .ok (.emp b off l n k,h)
 | .slice e, .raw (.slice a 0 c)=>do
  let _<-siz tab e
  let l<-dD ts (.ok 0) lo
  let u<-dD ts (.ok 0) hi
  R.check "slice: raw" (Nat.beq l 0&&Nat.beq u 0&&mx.isNone)
  .ok (.raw (.slice a 0 c),h)
 | .slice e, .emp b off l0 n0 k=>do
  let _<-siz tab e
  let l<-dD ts (.ok 0) lo
  let u<-dD ts (.ok 0) hi
  R.check "slice: emp" (Nat.beq l 0&&Nat.beq u 0&&mx.isNone)
  .ok (.emp b off l0 n0 k,h)
 |_,_=> .no "slice"
def ib (e:TypeId) (n:Nat):R Unit:=do
 let z<-zero tab e
 let zc<-z.cells
 R.check "append: zero" (Nat.beq zc.length n)
def aW (h:AH) (e:TypeId) (n by_:Nat) (x:AV) (m:Nat) (news:List AV):R (AV×AH):=do
 match x with
 | .nils=>
  bif Nat.beq m 0 then .ok (.nils,h)
  else do
   R.check "append: size" (Nat.ble (m*by_) 16777216&&Nat.ble m 16777216)
   ib tab e n
   let (h',b)<-newRow tab h e news true
   .ok (.sl b 0 m (.tail 0),h')
 | .sl b off len cap=>do
  let c<-capLow h b cap
  let (cs,e',sz,ext,bk)<-fv h b
  R.check "append: type" (Nat.beq e e'&&Nat.beq sz n)
  let need:=len+m
  R.check "append: size" (Nat.ble (need*by_) 16777216&&Nat.ble need 16777216)
  bif Nat.ble need c then do
   let h'<-writeN h b (off+len*n) news
   .ok (.sl b off need cap,h')
  else
   R.check "append: old" (Nat.ble (off+len*n) cs.length)>>=fun _=>
   ib tab e n>>=fun _=>
   match cap with
   | .lit _=>do
    let (h',b')<-newRow tab h e ((cs.drop off).take (len*n)++news) true
    .ok (.sl b' 0 need (.tail 0),h')
   | .tail k=>do
    R.check "append: tail" (Nat.beq k 0&&Nat.beq off 0&&ext&&bk != .ro&&bk != .cold&&news.all ia)
    let (h',b')<-newRow tab (h.kill b) e (cs.take (len*n)++news) true bk.grown
    .ok (.sl b' 0 need (.tail 0),h')
 |_=> .no "append"
def source (h:AH) (n:Nat):AV->R (Nat×List AV)
 | .nils=> .ok (0,[])
 | .emp .. => .ok (0,[])
 | .sl b off len _=>do
  let cs<-readN h b off (len*n)
  .ok (len,cs)
 | .str s=>do
  R.check "source: size" (Nat.beq n 1)
  .ok (s.length,ofBytes s)
 | .raw (.slice _ 0 _)=> .ok (0,[])
 |_=> .no "source"
def nO (ck:TypeId->AV->R Unit) (cs:List AV):List Field->R Unit
 |[]=> .ok ()
 | f::fs=>
  if f.name≠ "_" then do
   let x<-part tab f.type cs f.offset
   ck f.type x
   nO ck cs fs
  else nO ck cs fs
def jO:Nat->TypeId->AV->R Unit
 |0,_,_=> .no "ckKey"
 |d+1,t,v=>do
  match<-und tab t,v with
  | .interface _,_=> .no "ckKey"
  | .array _ _,_=> .no "ckKey"
  | .struct fs, .agg cs=>nO tab (jO d) cs fs.toList
  | .struct _,_=> .no "ckKey"
  |_,_=> .ok ()
def ckKey (t:TypeId) (v:AV) (d:Nat):R Unit:=jO tab d t v
def findKey (t:TypeId) (k:AV):List (AV×AV×Nat)->Nat->R (Option (Nat×AV×AV×Nat))
 |[],_=> .ok none
 |(a,v,n)::es,i=>do
  if<-eqT tab 8 t k a then .ok (some (i,a,v,n))else findKey t k es (i+1)
def gU (h:AH) (b:Nat):R (List (AV×AV×Nat)×Nat):=
 match h.get b with
 |some (.mp es c)=> .ok (es,c)
 |_=> .no "map"
def entriesOf (h:AH):AV->R (List (AV×AV×Nat))
 | .aQ=> .ok []
 | .map b=>do
  let (es,_)<-gU h b
  .ok es
 |_=> .no "entries"
def lookup (h:AH) (t:TypeId) (m k:AV) (ok:Bool):R AV:=do
 match<-und tab t with
 | .map kt et=>do
  let es<-entriesOf h m
  ckKey tab kt k 8
  let r<-findKey tab kt k es 0
  match r with
  |some (_,_,v,_)=> .ok (if ok then .aO [v, .bool true]else v)
  |none=>do
   let z<-zero tab et
   .ok (if ok then .aO [z, .bool false]else z)
 |_=> .no "lookup"
def setAt {α:Type} (l:List α) (i:Nat) (x:α):List α:=
 match l,i with
 |[],_=>[]
 |_::l,0=>x::l
 |a::l,i+1=>a::setAt l i x
def qF:AV->Bool
 | .bool _| .int _ _| .str _| .aA| .ptr _ _| .dV=>true
 |_=>false
def oh:AV->Bool
 | .agg cs=>cs.all qF
 |v=>qF v
def mapUpdate (h:AH) (t:TypeId) (m k x:AV):R AH:=do
 match<-und tab t,m with
 | .map kt _, .map b=>do
  let (es,c)<-gU h b
  ckKey tab kt k 8
  match<-findKey tab kt k es 0 with
  |some (i,a,_,n)=>do
   R.check "map: key" (AV.beq a k&&oh k)
   .ok (h.set b (.mp (setAt es i (a,x,n)) c))
  |none=> .ok (h.set b (.mp (es++[(k,x,c)]) (c+1)))
 |_,_=> .no "mapUpdate"
def mapEntry (h:AH) (t:TypeId) (m k:AV):R (AV×AH):=do
 match<-und tab t,m with
 | .map kt et, .map b=>do
  let (es,c)<-gU h b
  ckKey tab kt k 8
  match<-findKey tab kt k es 0 with
  |some (_,a,v,n)=>do
   R.check "map: key" (AV.beq a k&&oh k)
   .ok (.aO [v,goInt n],h)
  |none=>do
   let z<-zero tab et
   .ok (.aO [z,goInt c],h.set b (.mp (es++[(k,z,c)]) (c+1)))
 |_,_=> .no "mapEntry"
def nQ (n:Nat) (x:AV):List (AV×AV×Nat)->Option (List (AV×AV×Nat))
 |[]=>none
 |(a,v,m)::es=>bif Nat.beq m n then some ((a,x,m)::es)else(nQ n x es).map ((a,v,m):: ·)
def entryStore (h:AH) (m s x:AV):R AH:=do
 match m with
 | .map b=>do
  let (es,c)<-gU h b
  let n<-asNat s
  let es'<-R.of "entryStore" (nQ n x es)
  .ok (h.set b (.mp es' c))
 |_=> .no "entryStore"
def delete (h:AH) (t:TypeId) (m k:AV):R AH:=do
 match<-und tab t,m with
 | .map kt _, .aQ=>do
  ckKey tab kt k 8
  .ok h
 | .map kt _, .map b=>do
  let (es,c)<-gU h b
  ckKey tab kt k 8
  match<-findKey tab kt k es 0 with
  |some (i,_)=> .ok (h.set b (.mp (es.take i++es.drop (i+1)) c))
  |none=> .ok h
 |_,_=> .no "delete"
def nY (h:AH) (t:TypeId) (x:AV):R (AV×AH):=do
 match<-und tab t,x with
 | .string, .str s=> .ok (.ptr h.next 0,h.new (.gB s 0))
 | .map _ _, .aQ=> .ok (.ptr h.next 0,h.new (.ey none 0 [] 0))
 | .map _ _, .map b=>do
  let (_,c)<-gU h b
  .ok (.ptr h.next 0,h.new (.ey (some b) c [] c))
 |_,_=> .no "range"
def tB (h:AH) (it:AV) (isString:Bool):R (List (AV×AH)):=do
 match it with
 | .ptr r 0=>
  match h.get r,isString with
  |some (.ey none _ _ _),false=> .ok [(.aO [.bool false],h)]
  | some (.gB s pos),true=>
   bif Nat.blt pos s.length then
    let d:=Utf8.decode ⟨s.toArray⟩ pos
    .ok [(.aO [.bool true,goInt pos, .int .i32 d.1],h.set r (.gB s (pos+d.2)))]
   else .ok [(.aO [.bool false],h)]
  |some (.ey (some m) since seen last),false=>do
   let (es,c)<-gU h m
   R.check "next: clock" (Nat.beq c since&&es.all fun x=>Nat.blt x.2.2 since&&Nat.blt x.2.2 last)
   let left:=es.filter fun x=> !(seen.any (Nat.beq x.2.2))
   match left with
   |[]=> .ok [(.aO [.bool false],h)]
   |l=> .ok (l.map fun x=>(.aO [.bool true,x.1,x.2.1],h.set r (.ey (some m) since (seen++[x.2.2]) c)))
  |_,_=> .no "next"
 |_=> .no "next"
def sP (h:AH) (it:AV):R AV:=do
 match it with
 | .ptr r 0=>
  match h.get r with
  |some (.ey (some m) _ seen stepped)=>do
   let (es,c)<-gU h m
   R.check "entry: clock" (Nat.beq c stepped)
   let n<-R.of "entry: step" seen.getLast?
   let x<-R.of "entry" (es.find? fun x=>Nat.beq x.2.2 n)
   .ok (.aO [x.1,x.2.1])
  |_=> .no "entry"
 |_=> .no "entry"
def mE (t:TypeId) (f:Nat):R Field:=do
 match<-und tab t with
 | .struct fs=>R.of "field" fs[f]?
 |_=> .no "struct"
def lz (k:IntKind):Int->List AV->R AV
 |x,[]=> .ok (.int k x)
 |x, .int _ y::l=>lz k (if y<x then y else x) l
 |_,_=> .no "min"
def ly (k:IntKind):Int->List AV->R AV
 |x,[]=> .ok (.int k x)
 |x, .int _ y::l=>ly k (if y>x then y else x) l
 |_,_=> .no "max"
def lenOf (h:AH):TypeDesc->AV->R Nat
 | .string, .str s=> .ok s.length
 | .slice _, .nils=> .ok 0
 | .slice _, .emp .. => .ok 0
 | .slice _, .sl _ _ n _=> .ok n
 | .slice _, .raw (.slice _ n _)=> .ok n
 | .map _ _, .aQ=> .ok 0
 | .map _ _, .map b=>do
  let (es,_)<-gU h b
  .ok es.length
 | .array n _,_=> .ok n
 |_,_=> .no "len"
def vQ (h:AH) (e:TypeId) (x y:AV):R (AV×AH):=do
 let n<-siz tab e
 let by_<-R.of "byt" (tab.byt.get e)
 R.check "append: cells" (!(Nat.beq n 0))
 let m<-asNat y
 R.check "append of make: size" (Nat.ble m 1048576&&Nat.ble (m*by_) 16777216)
 let z<-zero tab e
 let zc<-z.cells
 R.check "append of make: zero" (Nat.beq zc.length n)
 aW tab h e n by_ x m (rep m zc)
def sB (h:AH) (x:AV):R (AV×AH):=
 match x with
 | .nils=> .ok (.aA,h)
 | .sl b off _ cap=>do
  let c<-capLow h b cap
  R.check "unsafe.SliceData" (!(Nat.beq c 0))
  .ok (.ptr b off,h)
 |_=> .no "unsafe.SliceData"
def unsafeString (h:AH) (t:TypeId) (x y:AV):R (AV×AH):=do
 let n<-asNat y
 R.check "unsafe.String: length" (Nat.ble n 1048576)
 match x with
 | .aA=>do
  R.check "unsafe.String" (Nat.beq n 0)
  .ok (.str [],h)
 | .ptr b off=>
  bif Nat.beq n 0 then .ok (.str [],h)
  else do
   match<-und tab t with
   | .pointer u=>do
    let (cs,e,sz,ext,bk)<-fv h b
    let n1<-siz tab e
    R.check "unsafe.String: type" (Nat.beq e u&&Nat.beq n1 1&&bk != .ro&&bk != .cold)
    let s<-bytesOf (<-readN h b off n)
    .ok (.str s,h.set b (.cells cs e sz ext .cold))
   |_=> .no "unsafe.String"
 |_=> .no "unsafe.String"
def builtin (b:Builtin) (argTypes:Array TypeId) (args:List AV) (h:AH):R (AV×AH):=do
 match b,args with
 | .len,[x]=>do
  let t<-R.of "len" argTypes[0]?
  let u<-und tab t
  match u with
  | .pointer e=>do
   match<-und tab e with
   | .array n _=> .ok (goInt n,h)
   |_=> .no "len"
  |u=>do
   let n<-lenOf h u x
   .ok (goInt n,h)
 | .cap,[x]=>do
  let t<-R.of "cap" argTypes[0]?
  match<-und tab t,x with
  | .slice _, .nils=> .ok (goInt 0,h)
  | .slice _, .sl _ _ _ (.lit n)=> .ok (goInt n,h)
  |_,_=> .no "cap"
 | .append,[x,y]=>do
  let t<-R.of "append" argTypes[0]?
  let u<-R.of "append" argTypes[1]?
  match<-und tab u with
  | .int _=>do
   match<-und tab t with
   | .slice e=>vQ tab h e x y
   |_=> .no "append"
  | _=>do
   match<-und tab t with
   | .slice e=>do
    let n<-siz tab e
    let by_<-R.of "byt" (tab.byt.get e)
    R.check "append: cells" (!(Nat.beq n 0))
    let (m,news)<-source h n y
    aW tab h e n by_ x m news
   |_=> .no "append"
 | .copy,[x,y]=>do
  let t<-R.of "copy" argTypes[0]?
  match<-und tab t with
  | .slice e=>do
   let n<-siz tab e
   let (m,cs)<-source h n y
   match x with
   | .nils=> .ok (goInt 0,h)
   | .emp .. => .ok (goInt 0,h)
   | .sl b off len _=>do
    let k:=Nat.min m len
    let h'<-writeN h b off (cs.take (k*n))
    .ok (goInt k,h')
   |_=> .no "copy"
  |_=> .no "copy"
 | .clear,[x]=>do
  let t<-R.of "clear" argTypes[0]?
  match<-und tab t,x with
  |_, .aQ=> .ok (.aO [],h)
  |_, .nils=> .ok (.aO [],h)
  |_, .emp .. => .ok (.aO [],h)
  |_, .map b=>do
   let (_,c)<-gU h b
   .ok (.aO [],h.set b (.mp [] c))
  | .slice e, .sl b off len _=>do
   let z<-zero tab e
   let zc<-z.cells
   let h'<-writeN h b off (rep len zc)
   .ok (.aO [],h')
  |_,_=> .no "clear"
 | .delete,[m,k]=>do
  let t<-R.of "delete" argTypes[0]?
  let h'<-delete tab h t m k
  .ok (.aO [],h')
 | .unsafeSliceData,[x]=>sB h x
 | .unsafeString,[x,y]=>do
  let t<-R.of "unsafe.String" argTypes[0]?
  unsafeString tab h t x y
 | .min, .int k x::l=>do
  let v<-lz k x l
  .ok (v,h)
 | .max, .int k x::l=>do
  let v<-ly k x l
  .ok (v,h)
 |_,_=> .no "builtin"
def df (ts:T AV) (h:AH) (o:Oper):R (AV×AH):=do
 match o.op with
 | .move x=>do .ok (<-ev ts x,h)
 | .assign x=>do .ok (<-ev ts x,h)
 | .pick c a b=>do
  match<-ev ts c with
  | .bool true=>do .ok (<-ev ts a,h)
  | .bool false=>do .ok (<-ev ts b,h)
  |_=> .no "pick"
 | .alloc e=>do
  let z<-zero tab e
  let zc<-z.cells
  let (h',b)<-newRow tab h e zc
  .ok (.ptr b 0,h')
 | .box e x=>do
  let v<-ev ts x
  let vc<-v.cells
  let (h',b)<-newRow tab h e vc
  .ok (.ptr b 0,h')
 | .build t ps=>do
  let l<-hZ ts ps.toList
  .ok (<-build tab t l,h)
 | .buildSlice t n ps=>do
  let l<-hZ ts ps.toList
  buildSlice tab h t n l
 | .load t a=>do
  match<-ev ts a with
  | .ptr b off=>do .ok (<-loadVar tab h t b off,h)
  |_=> .no "load"
 | .store t a x=>do
  match<-ev ts a with
  | .ptr b off=>do
   let h'<-storeVar tab h t b off (<-ev ts x)
   .ok (.aO [],h')
  |_=> .no "store"
 | .nilCheck x=>do
  match<-ev ts x with
  | .ptr b off=> .ok (.ptr b off,h)
  | .fn (.func f) a b=> .ok (.fn (.func f) a b,h)
  |_=> .no "nilCheck"
 | .binOp op t x y _=>do .ok (<-binOp tab h op t (<-ev ts x) (<-ev ts y),h)
 | .unOp op _ x=>do .ok (<-unOp op (<-ev ts x),h)
 | .convert s d x=>do iX tab h s d (<-ev ts x)
 | .makeInterface t x=>do
  match<-und tab t with
  | .interface _=> .no "makeInterface"
  |_=>do .ok (.iface t (<-ev ts x),h)
 | .makeFunc fn first captured=>do
  match fn with
  | .func _=>do .ok (.fn fn (<-fm ts first.toList) (<-fm ts captured.toList),h)
  |_=> .no "makeFunc"
 | .makeMap _ none=> .ok (.map h.next,h.new (.mp [] 0))
 | .makeSlice t l c=>do makeSlice tab h t (<-ev ts l) (<-ev ts c)
 | .slice t x lo hi mx=>do fG tab ts h t (<-ev ts x) lo hi mx
 | .fieldAddr s x f=>do
  let fd<-mE tab s f
  let n<-siz tab fd.type
  R.check "fieldAddr: size 0" (!(Nat.beq n 0))
  match<-ev ts x with
  | .ptr b off=> .ok (.ptr b (off+fd.offset),h)
  |_=> .no "fieldAddr"
 | .field t x f=>do
  let fd<-mE tab t f
  match<-ev ts x with
  | .agg cs=>do .ok (<-part tab fd.type cs fd.offset,h)
  |_=> .no "field"
 | .indexAddr t x ix=>do
  let i<-asNat (<-ev ts ix)
  match<-und tab t,<-ev ts x with
  | .array len e, .ptr b off=>do
   R.check "indexAddr" (Nat.blt i len)
   let n<-siz tab e
   .ok (.ptr b (off+i*n),h)
  | .slice e, .sl b off len _=>do
   R.check "indexAddr" (Nat.blt i len)
   let n<-siz tab e
   .ok (.ptr b (off+i*n),h)
  |_,_=> .no "indexAddr"
 | .index t x ix=>do
  let i<-asNat (<-ev ts ix)
  match<-und tab t,<-ev ts x with
  | .array len e, .agg cs=>do
   R.check "index" (Nat.blt i len)
   let n<-siz tab e
   .ok (<-part tab e cs (i*n),h)
  | .string, .str s=>do
   let b<-R.of "index" s[i]?
   .ok (.int .u8 (.ofNat b.toNat),h)
  |_,_=> .no "index"
 | .lookup t m k ok=>do .ok (<-lookup tab h t (<-ev ts m) (<-ev ts k) ok,h)
 | .mapUpdate t m k x| .insert t m k x=>do
  let h'<-mapUpdate tab h t (<-ev ts m) (<-ev ts k) (<-ev ts x)
  .ok (.aO [],h')
 | .mapEntry t m k=>do mapEntry tab h t (<-ev ts m) (<-ev ts k)
 | .entryStore _ m s x=>do
  let h'<-entryStore h (<-ev ts m) (<-ev ts s) (<-ev ts x)
  .ok (.aO [],h')
 | .range t x=>do nY tab h t (<-ev ts x)
 | .entry it=>do .ok (<-sP h (<-ev ts it),h)
 | .typeAssert x xt t ok=>do
  let _:=xt
  match<-und tab t,<-ev ts x with
  | .interface _,_=> .no "typeAssert"
  | _, .iface u v=>if u=t then .ok ((if ok then .aO [v, .bool true]else v),h)else do
    R.check "typeAssert" ok
    let z<-zero tab t
    .ok (.aO [z, .bool false],h)
  | _, .dV=>do
    R.check "typeAssert" ok
    let z<-zero tab t
    .ok (.aO [z, .bool false],h)
  |_,_=> .no "typeAssert"
 | .extract t i=>do
  match<-ev ts t with
  | .aO vs=>do .ok (<-R.of "extract" vs[i]?,h)
  |_=> .no "extract"
 | .call c=>do
  match c.callee with
  | .builtin b=>do
   let l<-fm ts c.args.toList
   builtin tab b c.argTypes l h
  |_=> .no "call"
 |_=> .no "op"
end
end Go.Am
namespace Go.Am
open Go.RowKit
section
theorem af {α β:Type} {x:R α} {f:α->R β} {b:β}:(x>>=f)= .ok b↔∃a,x= .ok a/\f a= .ok b:=by
 cases x with
 |ok a=>exact⟨fun h=>⟨a,rfl,h⟩,fun⟨_,h1,h2⟩=>by cases h1;exact h2⟩
 |no w=>exact⟨fun h=>(nomatch h),fun⟨_,h1,_⟩=>(nomatch h1)⟩
theorem bw {α:Type} {s:String} {x:Option α} {a:α}:R.of s x= .ok a↔x=some a:=by
 cases x<;>simp[R.of]
theorem bY {s:String} {b:Bool} {u:Unit}:R.check s b= .ok u↔b=true:=by
 cases b<;>simp[R.check]
theorem fF {α:Type} (k:Nat):(T.e:T α).get k=none:=rfl
theorem fT {α:Type} (v:Option α) (l r:T α) (k:Nat):
  (T.n v l r).get k=if k=0 then v else if k % 2=1 then l.get (k / 2)else r.get (k / 2 - 1):=by
 have h1:(Nat.beq k 0)=decide (k=0):=by
  by_cases h:k=0<;>simp[h,Nat.beq_eq]
  cases k<;>simp_all[Nat.beq]
 have h2:(Nat.beq (Nat.mod k 2) 1)=decide (k % 2=1):=by
  by_cases h:k % 2=1
  . simp[h];exact h
  . simp only[h,Em];exact Ar.2 fun e=>h (Aa e)
 conv=>lhs;unfold T.get
 rw[h1,h2];simp only[cond_eq_ite,Ao];rfl
theorem JD {α:Type} (f:Nat):∀(t:T α) (k j:Nat) (x:Option α),k<f->(T.fE f t k x).get j=if j=k then x else t.get j:=by
 induction f with
 |zero=>intro t k j x h;omega
 | succ f ih=>
  intro t k j x h;have h1:(Nat.beq k 0)=decide (k=0):=by
   by_cases h:k=0<;>simp[h]
   cases k<;>simp_all[Nat.beq]
  have h2:(Nat.beq (Nat.mod k 2) 1)=decide (k % 2=1):=by
   by_cases h:k % 2=1
   . simp[h];exact h
   . simp only[h,Em];exact Ar.2 fun e=>h (Aa e)
  have e1:Nat.div k 2=k / 2:=rfl
  cases t with
  |e=>
   unfold T.fE;rw[h1,h2,e1,EC];simp only[cond_eq_ite,Ao];by_cases k0:k=0
   . simp only[Ai k0,fT,fF];subst k0;split<;>simp
   . by_cases k1:k % 2=1
     . simp only[Ae k0,Ai k1,fT,fF];rw[ih _ _ _ _ (by omega)];simp only[fF];by_cases j0:j=0
       . simp[j0];intro e;omega
       . by_cases j1:j % 2=1
         . simp only[Ae j0,Ai j1];by_cases e:j=k
           . subst e;simp
           . rw[Ae (by omega),Ae e]
         . simp only[Ae j0,Ae j1];rw[Ae (by intro e;subst e;exact j1 k1)]
     . simp only[Ae k0,Ae k1,fT,fF];rw[ih _ _ _ _ (by omega)];simp only[fF];by_cases j0:j=0
       . simp[j0];intro e;omega
       . by_cases j1:j % 2=1
         . simp only[Ae j0,Ai j1];rw[Ae (by intro e;subst e;exact k1 j1)]
         . simp only[Ae j0,Ae j1];by_cases e:j=k
           . subst e;simp
           . rw[Ae (by omega),Ae e]
  |n v l r=>
   unfold T.fE;rw[h1,h2,e1,EC];simp only[cond_eq_ite,Ao];by_cases k0:k=0
   . simp only[Ai k0,fT];subst k0;split<;>simp_all
   . by_cases k1:k % 2=1
     . simp only[Ae k0,Ai k1,fT];rw[ih _ _ _ _ (by omega)];by_cases j0:j=0
       . simp only[Ai j0];rw[Ae (by omega)]
       . by_cases j1:j % 2=1
         . simp only[Ae j0,Ai j1];by_cases e:j=k
           . subst e;simp
           . rw[Ae (by omega),Ae e]
         . simp only[Ae j0,Ae j1];rw[Ae (by intro e;subst e;exact j1 k1)]
     . simp only[Ae k0,Ae k1,fT];rw[ih _ _ _ _ (by omega)];by_cases j0:j=0
       . simp only[Ai j0];rw[Ae (by omega)]
       . by_cases j1:j % 2=1
         . simp only[Ae j0,Ai j1];rw[Ae (by intro e;subst e;exact k1 j1)]
         . simp only[Ae j0,Ae j1];by_cases e:j=k
           . subst e;simp
           . rw[Ae (by omega),Ae e]
theorem T.aI {α:Type} (t:T α) (k j:Nat) (x:Option α):(t.set k x).get j=if j=k then x else t.get j:=
 JD (k+1) t k j x (D4 k)
structure Env where
 aG:Nat->Nat
 cap:Nat->Nat
def dX.val (c:dX) (n:Nat):Nat:=
 match c with
 | .lit m=>m
 | .tail k=>n - k
mutual
def aa (E:Env):AV->Value
 | .bool b=> .bool b
 | .int k n=> .int k n
 | .str s=> .string ⟨s.toArray⟩
 | .aA=> .pointer none
 | .ptr b off=> .pointer (some ⟨E.aG b,off,none⟩)
 | .nils=> .slice none 0 0
 | .sl b off len cap=> .slice (some ⟨E.aG b,off,none⟩) len (cap.val (E.cap b))
 | .emp b off l n k=> .slice (some ⟨E.aG b,if E.cap b - k=l then off else off+l*n,none⟩) 0 (E.cap b - k - l)
 | .aQ=> .map none
 | .map b=> .map (some (E.aG b))
 | .ah=> .nilFunc
 | .fn f xs ys=> .func f (aJ E xs).toArray (aJ E ys).toArray
 | .gY l=> .func (.yield (E.aG l)) #[] #[]
 | .dV=> .nilIface
 | .iface t v=> .iface t (aa E v)
 | .agg cs=> .agg (aJ E cs).toArray
 | .aO vs=> .tuple (aJ E vs).toArray
 | .raw v=>v
def aJ (E:Env):List AV->List Value
 |[]=>[]
 |v::l=>aa E v::aJ E l
end
theorem jE (E:Env) (l:List AV):aJ E l=l.map (aa E):=by
 induction l with
 |nil=>rfl
 |cons v l ih=>simp[aJ,ih]
@[simp] theorem bH (E:Env):aJ E []=[]:=rfl
@[simp] theorem aP (E:Env) (v:AV) (l:List AV):aJ E (v::l)=aa E v::aJ E l:=rfl
@[simp] theorem bG (E:Env) (l m:List AV):aJ E (l++m)=aJ E l++aJ E m:=by simp[jE]
@[simp] theorem aX (E:Env) (l:List AV):(aJ E l).length=l.length:=by simp[jE]
theorem nv (E:Env) (l:List AV) (n:Nat):aJ E (l.take n)=(aJ E l).take n:=by simp[jE,Eh]
theorem rO (E:Env) (l:List AV) (n:Nat):aJ E (l.drop n)=(aJ E l).drop n:=by simp[jE,List.map_drop]
theorem gO (E:Env) (l:List AV) (i:Nat):(aJ E l)[i]? =(l[i]?).map (aa E):=by simp[jE]
theorem u5 (E:Env) (v:Value):aa E (jL v)=v:=by
 unfold jL;split<;>simp[aa]
theorem uN (E:Env) (l:List Value):aJ E (l.map jL)=l:=by
 induction l with
 |nil=>rfl
 |cons v l ih=>simp[u5,ih]
theorem ve (E:Env) (v:Value):aa E (ofConst v)=v:=by
 unfold ofConst;split
 . simp[aa,uN]
 . simp[aa,uN]
 . exact u5 E v
theorem ja {E:Env} {v:AV} {l:List AV} (h:v.cells= .ok l):(aa E v).cells=(aJ E l).toArray:=by
 cases v
 case raw u=>cases u<;>simp only[AV.cells]at h<;>(try cases h)<;>simp[aa,Value.cells]
 all_goals simp only[AV.cells]at h<;>(try cases h)<;>simp[aa,Value.cells]
theorem vm {E:Env} {v:AV} (h:ia v=true):(aa E v).oneCell'=true:=by
 cases v
 case raw u=>cases u<;>simp_all[ia,aa,Value.oneCell']
 all_goals simp_all[ia,aa,Value.oneCell']
mutual
theorem AV.beq_eq:∀(a b:AV),AV.beq a b=true->a=b
 | .bool a,b,h=>by cases b<;>simp_all[AV.beq]
 | .int k a,b,h=>by cases b<;>simp_all[AV.beq]
 | .str a,b,h=>by cases b<;>simp_all[AV.beq]
 | .aA,b,h=>by cases b<;>simp_all[AV.beq]
 | .ptr x i,b,h=>by
  cases b<;>simp only[AV.beq,Ab]at h<;>(try cases h)
  rename_i h1 h2;rw[Aa h1,Aa h2]
 | .nils,b,h=>by cases b<;>simp_all[AV.beq]
 | .sl x i n c,b,h=>by
  cases b<;>simp only[AV.beq,Ab]at h<;>(try cases h)
  rename_i h1 h2;obtain⟨⟨h3,h4⟩,h5⟩:=h1;rw[Aa h3,Aa h4,Aa h5,eq_of_beq h2]
 | .emp x i n c e,b,h=>by
  cases b<;>simp only[AV.beq,Ab]at h<;>(try cases h)
  rename_i h1 h2;obtain⟨⟨⟨h3,h4⟩,h5⟩,h6⟩:=h1;rw[Aa h3,Aa h4,Aa h5,Aa h6,Aa h2]
 | .aQ,b,h=>by cases b<;>simp_all[AV.beq]
 | .map x,b,h=>by
  cases b<;>simp only[AV.beq]at h<;>(try cases h)
  rw[Aa h]
 | .ah,b,h=>by cases b<;>simp_all[AV.beq]
 | .fn f x y,b,h=>by
  cases b<;>simp only[AV.beq,Ab]at h<;>(try cases h)
  rename_i h1 h2;rw[eq_of_beq h1.1,iT _ _ h1.2,iT _ _ h2]
 | .gY x,b,h=>by
  cases b<;>simp only[AV.beq]at h<;>(try cases h)
  rw[Aa h]
 | .dV,b,h=>by cases b<;>simp_all[AV.beq]
 | .iface t v,b,h=>by
  cases b<;>simp only[AV.beq,Ab]at h<;>(try cases h)
  rename_i h1 h2;rw[Aa h1,AV.beq_eq _ _ h2]
 | .agg x,b,h=>by
  cases b<;>simp only[AV.beq]at h<;>(try cases h)
  rw[iT _ _ h]
 | .aO x,b,h=>by
  cases b<;>simp only[AV.beq]at h<;>(try cases h)
  rw[iT _ _ h]
 | .raw v,b,h=>by
  cases b
  case raw u=>
   unfold AV.beq at h;split at h<;>first|(cases h;done)|skip
   all_goals (rename_i e1 e2;cases e1<;>cases e2)
   . simp only[Ab,Ao]at h;obtain⟨⟨h3,h4⟩,h2⟩:=h;rw[h3,Aa h4,Aa h2]
   . rw[Bi h]
  all_goals (exfalso;revert h;simp[AV.beq])
theorem iT:∀(a b:List AV),eK a b=true->a=b
 |[],b,h=>by cases b<;>simp_all[eK]
 | x::l,b,h=>by
  cases b with
  |nil=>simp[eK]at h
  |cons y m=>
   simp only[eK,Ab]at h;rw[AV.beq_eq _ _ h.1,iT _ _ h.2]
end
def tH:TypeDesc->Bool
 | .struct _| .array _ _=>true
 |_=>false
structure aV (P:Program) (tab:aM):Prop where
 und:∀t d,tab.und.get t=some d->P.underlying t=some d
 siz:∀t n,tab.siz.get t=some n->∃i,P.info? t=some i/\i.size=n
 byt:∀t n,tab.byt.get t=some n->∃i,P.info? t=some i/\i.bytes=n
 gD:∀t z,tab.gD.get t=some z->∃i,P.info? t=some i/\ ∀E,i.zero=some (aa E z)
 agg:∀t b,tab.agg.get t=some b->∃d,P.underlying t=some d/\tH d=b
 held:∀t b,tab.held.get t=some b->P.stoodInHeld t=b
 gK:∀t b,tab.gK.get t=some b->P.eqGuardType P.depth t=b
 fns:∀f fn,tab.fns.get f=some fn->P.funcs[f]? =some fn
 nm:∀f fn,tab.fns.get f=some fn->(fn.name== "runtime.NumGoroutine")=false
section
variable {P:Program} {tab:aM} (ok:aV P tab)
include ok
theorem fV {t:TypeId} {n:Nat} (h:siz tab t= .ok n) (w:World):(sizeOf t).run P w= .ok n w:=by
 obtain⟨i,hi,rfl⟩:=ok.siz t n (bw.1 h);simp[sizeOf,typeInfo,hi]
theorem lu {t:TypeId} {z:AV} (h:zero tab t= .ok z) (E:Env) (w:World):(zeroValue t).run P w= .ok (aa E z) w:=by
 obtain⟨i,hi,hz⟩:=ok.gD t z (bw.1 h);simp[zeroValue,typeInfo,hi,hz E]
theorem vV {t:TypeId} {b:Bool} (h:isAgg tab t= .ok b) (w:World):(Go.isAgg t).run P w= .ok b w:=by
 obtain⟨d,hd,rfl⟩:=ok.agg t b (bw.1 h);simp only[Go.isAgg,underlying,Sem.run_bind,run_program,Result.andThen_ok,hd,Sem.run_pure]
 cases d<;>rfl
theorem nL {t:TypeId} {cs:List AV} {off:Nat} {v:AV} (h:part tab t cs off= .ok v) (E:Env) (w:World):
  (Go.part t (aJ E cs).toArray off).run P w= .ok (aa E v) w:=by
 unfold part at h;obtain⟨b,hb,h⟩:=af.1 h;unfold Go.part;rw[Sem.run_bind,vV ok hb,Result.andThen_ok]
 cases b with
 |true=>
  simp only[AK]at h⊢;obtain⟨n,hn,h⟩:=af.1 h
  cases h;rw[Sem.run_bind,fV ok hn];simp[aa,nv,rO,Eg]
 |false=>
  simp only[Ah,Ax]at h⊢;have h:=bw.1 h;simp[gO,h]
end
end
section
structure aE where
 dr:Prop
 old:Array Obj
variable [Inhabited aE]
def AO.ro:AO->Prop
 | .cells _ _ _ _ .ro=>True
 |_=>False
structure KS where
 p:Nat->Prop
 b:Nat
instance:CoeFun KS (fun _=>Nat->Prop):=⟨KS.p⟩
abbrev KS.old (n:Nat):KS:=⟨fun b=>b<n,n⟩
def ig (E:Env):AT->Target
 | .fn f captured=> .fn f (aJ E captured).toArray
 | .gY l=> .fn (.yield (E.aG l)) #[]
 | .collected r=> .collected (E.aG r)
def cw (E:Env) (d:AD):Deferred:={target:=ig E d.target,args:=(aJ E d.args).toArray}
def ow (E:Env) (ts:T AV) (i:Nat):Value:=aa E ((ts.get i).getD (.aO []))
def dK (E:Env) (ts:T AV) (nt:Nat):Array Value:=((List.range nt).map (ow E ts)).toArray
def bD (E:Env) (x:AV×AV×Nat):MapEntry:={key:=aa E x.1,val:=aa E x.2.1,born:=x.2.2}
def marks:BK->(Nat×Nat)->Nat->Prop
 | .rw,fz,_=>fz=(0,0)
 | .mark,fz,n=>fz=(n,n+1)
 | .any,fz,n=>fz=(0,0)\/fz=(n,n+1)
 | .ro,_,_=>True
 | .cold,_,_=>True
def ga (E:Env) (i:Nat):AO->Obj->Prop
 | .cells cs e sz ext bk,o=>∃arr fz,o= .cells arr e fz/\(∃rest,arr.toList=aJ E cs++rest)/\
  (if ext then arr.size=E.cap i*sz else arr.size=cs.length)/\marks bk fz arr.size
 | .mp es c,o=>o= .map (es.map (bD E)).toArray c
 | .ey m since seen st,o=>o= .mapIter (m.map E.aG) since seen.toArray st
 | .gB s pos,o=>o= .stringIter ⟨s.toArray⟩ pos
 | .loop st pending fn ts nt ps a b d,o=>o= .loop {state:=st,pending,fn,tmps:=dK E ts nt,params:=ps,assign:=a,body:=b,defers:=E.aG d}/\ ∀t,nt<=t->ts.get t=none
 | .kn calls,o=>o= .deferred (calls.map (List.map (cw E)))
structure aU (E:Env) (h:AH) (K:KS) (w:World):Prop where
 obj:∀i o,h.get i=some o->∃c,w.heap[E.aG i]? =some c/\ga E i o c
 nk:∀i o,h.get i=some o->¬o.ro->¬K (E.aG i)
 inj:∀i j oi oj,h.get i=some oi->h.get j=some oj->¬oi.ro->E.aG i=E.aG j->i=j
 cN:∀i o,h.get i=some o->i<h.next
 kb:∀b,K b->b<w.heap.size
 im:∀i o,h.get i=some o->o.ro->E.aG i<K.b
 k0:∀b,b<K.b->K b
structure Kept (K:KS) (w w':World):Prop where
 os:w'.os=w.os
 tape:w'.tape=w.tape
 output:w'.output=w.output
 size:w.heap.size<=w'.heap.size
 block:∀b,K b->w'.heap[b]? =w.heap[b]?
 drawn:(default:aE).dr->w.drawn<=w'.drawn
theorem Kept.refl (K:KS) (w:World):Kept K w w:=⟨rfl,rfl,rfl,Aj _,fun _ _=>rfl,fun _=>Aj _⟩
theorem Kept.trans {K:KS} {a b c:World} (h:Kept K a b) (k:Kept K b c):Kept K a c:=
 ⟨k.os.trans h.os,k.tape.trans h.tape,k.output.trans h.output,AG h.size k.size,fun i hi=>(k.block i hi).trans (h.block i hi),fun hd=>AG (h.drawn hd) (k.drawn hd)⟩
def cW (K:KS) (w:World):Prop:=∀b,b<(default:aE).old.size->K b/\w.heap[b]? =(default:aE).old[b]?
theorem cW.kept {K:KS} {w w':World} (h:cW K w) (k:Kept K w w'):cW K w':=fun b hb=>⟨(h b hb).1,(k.block b (h b hb).1).trans (h b hb).2⟩
theorem AH.aI (h:AH) (b i:Nat) (o:AO):(h.set b o).get i=if i=b then some o else h.get i:=T.aI _ _ _ _
theorem AH.aF (h:AH) (i:Nat) (o:AO):(h.new o).get i=if i=h.next then some o else h.get i:=T.aI _ _ _ _
theorem iP (h:AH) (b i:Nat):(h.kill b).get i=if i=b then none else h.get i:=T.aI _ _ _ _
@[simp] theorem AH.cQ (h:AH) (b:Nat) (o:AO):(h.set b o).next=h.next:=rfl
@[simp] theorem AH.bg (h:AH) (o:AO):(h.new o).next=h.next+1:=rfl
@[simp] theorem AH.dg (h:AH) (b:Nat):(h.kill b).next=h.next:=rfl
theorem vW (w:World) (o:Obj) {i:Nat} (h:i<w.heap.size):(w.alloc o).heap[i]? =w.heap[i]? :=by
 unfold World.alloc;rw[EG,Ae (by omega)]
def _root_.Go.World.put (w:World) (g:Nat) (o:Obj):World:={w with heap:=w.heap.setIfInBounds g o}
theorem mq (w:World) (g i:Nat) (o:Obj):(w.put g o).heap[i]? =if i=g then(if g<w.heap.size then some o else none)else w.heap[i]? :=by
 unfold World.put;rw[Bq];by_cases h:g=i
 . subst h;simp
 . rw[Ae h,Ae (En h)]
section
variable {E:Env} {h:AH} {K:KS} {w:World}
theorem aU.lt (H:aU E h K w) {i:Nat} {o:AO} (hi:h.get i=some o):E.aG i<w.heap.size:=by
 obtain⟨c,hc,_⟩:=H.obj i o hi;exact(Ad.1 hc).1
theorem aU.drew (H:aU E h K w):aU E h K w.drew:=⟨H.obj,H.nk,H.inj,H.cN,H.kb,H.im,H.k0⟩
theorem Kept.drew (K:KS) (w:World):Kept K w w.drew:=⟨rfl,rfl,rfl,Aj _,fun _ _=>rfl,fun _=>Nat.le_succ _⟩
theorem aU.new (H:aU E h K w) {o:AO} {c:Obj} (hE:E.aG h.next=w.heap.size) (ho:ga E h.next o c) (hno:¬o.ro:=by simp[AO.ro]):aU E (h.new o) K (w.alloc c):=by
 have hnew:∀i o',(h.new o).get i=some o'->i≠h.next->h.get i=some o':=by
   intro i o' hi hne;rw[AH.aF,Ae hne]at hi;exact hi
 have hne:∀i o',h.get i=some o'->E.aG i≠E.aG h.next:=by
   intro i o' hi e;have:=H.lt hi;omega
 refine⟨?_,?_,?_,?_,?_,?_,H.k0⟩
 . intro i o' hi;by_cases e:i=h.next
   . subst e;rw[AH.aF,Ai rfl]at hi
     cases hi;exact⟨c,by rw[hE];exact heap_alloc_new w c,ho⟩
   . obtain⟨c',hc',hk⟩:=H.obj i o' (hnew i o' hi e);exact⟨c',(vW w c (H.lt (hnew i o' hi e))).trans hc',hk⟩
 . intro i o' hi hr hK;by_cases e:i=h.next
   . subst e;have:=H.kb _ hK;omega
   . exact H.nk i o' (hnew i o' hi e) hr hK
 . intro i j oi oj hi hj hr e;by_cases ei:i=h.next
   . by_cases ej:j=h.next
     . rw[ei,ej]
     . exact absurd (ei▸e.symm) (hne j oj (hnew j oj hj ej))
   . by_cases ej:j=h.next
     . exact absurd (ej▸e) (hne i oi (hnew i oi hi ei))
     . exact H.inj i j oi oj (hnew i oi hi ei) (hnew j oj hj ej) hr e
 . intro i o' hi;by_cases e:i=h.next
   . subst e;simp
   . have:=H.cN i o' (hnew i o' hi e);simp;omega
 . intro b hb;have:=H.kb b hb;simp;omega
 . intro i o' hi hr;by_cases e:i=h.next
   . subst e;rw[AH.aF,Ai rfl]at hi
     cases hi;exact absurd hr hno
   . exact H.im i o' (hnew i o' hi e) hr
theorem Kept.alloc (hkb:∀b,K b->b<w.heap.size) (c:Obj):Kept K w (w.alloc c):=
 ⟨rfl,rfl,rfl,by simp,fun b hb=>vW w c (hkb b hb),fun _=>Aj _⟩
theorem aU.put (H:aU E h K w) {b:Nat} {o o':AO} {c:Obj} (hb:h.get b=some o) (hr:¬o.ro) (ho:ga E b o' c) (hno:¬o'.ro:=by simp[AO.ro]):aU E (h.set b o') K (w.put (E.aG b) c):=by
 have hold:∀i o1,(h.set b o').get i=some o1->i≠b->h.get i=some o1:=by
   intro i o1 hi hne;rw[AH.aI,Ae hne]at hi;exact hi
 refine⟨?_,?_,?_,?_,?_,?_,H.k0⟩
 . intro i o1 hi;by_cases e:i=b
   . subst e;rw[AH.aI,Ai rfl]at hi
     cases hi;exact⟨c,by rw[mq,Ai rfl,Ai (H.lt hb)],ho⟩
   . obtain⟨c',hc',hk⟩:=H.obj i o1 (hold i o1 hi e);refine⟨c',?_,hk⟩;rw[mq,Ae (fun e'=>e (H.inj b i o o1 hb (hold i o1 hi e) hr e'.symm).symm)];exact hc'
 . intro i o1 hi hr1;by_cases e:i=b
   . subst e;exact H.nk i o hb hr
   . exact H.nk i o1 (hold i o1 hi e) hr1
 . intro i j oi oj hi hj hri e;by_cases ei:i=b
   . subst ei;by_cases ej:j=i
     . exact ej.symm
     . exact H.inj i j o oj hb (hold j oj hj ej) hr e
   . by_cases ej:j=b
     . subst ej;exact H.inj i j oi o (hold i oi hi ei) hb hri e
     . exact H.inj i j oi oj (hold i oi hi ei) (hold j oj hj ej) hri e
 . intro i o1 hi;by_cases e:i=b
   . subst e;exact H.cN i o hb
   . exact H.cN i o1 (hold i o1 hi e)
 . intro g hg;have:=H.kb g hg;simp only[World.put,Ei];exact this
 . intro i o1 hi hr1;by_cases e:i=b
   . subst e;rw[AH.aI,Ai rfl]at hi
     cases hi;exact absurd hr1 hno
   . exact H.im i o1 (hold i o1 hi e) hr1
theorem aU.bj (H:aU E h K w) {b:Nat} {o:AO} (hb:h.get b=some o) (hr:¬o.ro) (c:Obj):Kept K w (w.put (E.aG b) c):=
 ⟨rfl,rfl,rfl,by simp[World.put],fun g hg=>by rw[mq];exact Ae (fun e=>H.nk b o hb hr (by rw[<-e];exact hg)),fun _=>Aj _⟩
theorem aU.kill (H:aU E h K w) (b:Nat):aU E (h.kill b) K w:=by
 have hold:∀i o1,(h.kill b).get i=some o1->h.get i=some o1:=by
  intro i o1 hi;rw[iP]at hi;split at hi
  . cases hi
  . exact hi
 exact⟨fun i o hi=>H.obj i o (hold i o hi),fun i o hi=>H.nk i o (hold i o hi),fun i j oi oj hi hj=>H.inj i j oi oj (hold i oi hi) (hold j oj hj),
  fun i o hi=>H.cN i o (hold i o hi),H.kb,fun i o hi=>H.im i o (hold i o hi),H.k0⟩
theorem aU.rename (H:aU E h K w) {b:Nat} {o o':AO} {c:Obj} (hb:h.get b=some o) (hr:¬o.ro) (hE:E.aG h.next=E.aG b) (ho:ga E h.next o' c) (hno:¬o'.ro:=by simp[AO.ro]):
   aU E ((h.kill b).new o') K (w.put (E.aG b) c):=by
 have hold:∀i o1,((h.kill b).new o').get i=some o1->i≠h.next->i≠b/\h.get i=some o1:=by
   intro i o1 hi hne;rw[AH.aF,AH.dg,Ae hne,iP]at hi;split at hi
   . cases hi
   . exact⟨‹_›,hi⟩
 have hnx:∀o1,((h.kill b).new o').get h.next=some o1->o1=o':=by
   intro o1 hi;rw[AH.aF,AH.dg,Ai rfl]at hi
   cases hi;rfl
 have hne:∀i o1,h.get i=some o1->i≠b->E.aG i≠E.aG b:=fun i o1 hi hib e=>hib (H.inj b i o o1 hb hi hr e.symm).symm
 refine⟨?_,?_,?_,?_,?_,?_,H.k0⟩
 . intro i o1 hi;by_cases e:i=h.next
   . subst e;rw[hnx o1 hi];exact⟨c,by rw[mq,Ai hE,Ai (H.lt hb)],ho⟩
   . obtain⟨h1,h2⟩:=hold i o1 hi e;obtain⟨c',hc',hk⟩:=H.obj i o1 h2;exact⟨c',by rw[mq,Ae (hne i o1 h2 h1)];exact hc',hk⟩
 . intro i o1 hi hr1;by_cases e:i=h.next
   . subst e;rw[hE];exact H.nk b o hb hr
   . exact H.nk i o1 (hold i o1 hi e).2 hr1
 . intro i j oi oj hi hj hri e;by_cases ei:i=h.next
   . by_cases ej:j=h.next
     . rw[ei,ej]
     . obtain⟨h1,h2⟩:=hold j oj hj ej;rw[ei,hE]at e;exact absurd e.symm (hne j oj h2 h1)
   . obtain⟨h1,h2⟩:=hold i oi hi ei;by_cases ej:j=h.next
     . rw[ej,hE]at e;exact absurd e (hne i oi h2 h1)
     . exact H.inj i j oi oj h2 (hold j oj hj ej).2 hri e
 . intro i o1 hi;by_cases e:i=h.next
   . subst e;simp
   . have:=H.cN i o1 (hold i o1 hi e).2;simp;omega
 . intro g hg;have:=H.kb g hg;simp only[World.put,Ei];exact this
 . intro i o1 hi hr1;by_cases e:i=h.next
   . subst e;rw[hnx o1 hi]at hr1;exact absurd hr1 hno
   . exact H.im i o1 (hold i o1 hi e).2 hr1
theorem eJ {b:Nat} {cs:List AV} {e:TypeId} {sz:Nat} {ext:Bool} {bk:BK} (hc:fv h b= .ok (cs,e,sz,ext,bk)):h.get b=some (.cells cs e sz ext bk):=by
 unfold fv at hc;split at hc
 . rename_i heq;cases hc;exact heq
 . cases hc
theorem aU.cells (H:aU E h K w) {b:Nat} {cs:List AV} {e:TypeId} {sz:Nat} {ext:Bool} {bk:BK} (hc:h.get b=some (.cells cs e sz ext bk)):
  ∃arr fz,w.heap[E.aG b]? =some (.cells arr e fz)/\(∃rest,arr.toList=aJ E cs++rest)/\(if ext then arr.size=E.cap b*sz else arr.size=cs.length)/\marks bk fz arr.size:=by
 obtain⟨c,h1,arr,fz,rfl,h2⟩:=H.obj b _ hc;exact⟨arr,fz,h1,h2⟩
theorem aU.cell (H:aU E h K w) {b:Nat} {cs:List AV} {e:TypeId} {sz:Nat} {ext:Bool} {bk:BK} (hc:h.get b=some (.cells cs e sz ext bk)) {i:Nat} {v:AV} (hv:cs[i]? =some v):
  w.cell? ⟨E.aG b,i,none⟩=some (aa E v):=by
 obtain⟨arr,fz,h1,⟨rest,h2⟩,_⟩:=H.cells hc;rw[cell_of_row w _ i arr e fz h1];rw[<-BH,h2,AI (by rw[aX];exact(Ac.1 hv).1),gO,hv];rfl
theorem add_lit (b o j:Nat):(⟨b,o,none⟩:Addr).add j=⟨b,o+j,none⟩:=by
 unfold Addr.add;split<;>simp_all
theorem xx {b off n:Nat} {cs:List AV} (hr:readN h b off n= .ok cs):
  ∃cs0 e sz ext bk,h.get b=some (.cells cs0 e sz ext bk)/\off+n<=cs0.length/\cs=(cs0.drop off).take n:=by
 unfold readN at hr;obtain⟨⟨cs0,e,sz,ext,bk⟩,h1,hr⟩:=af.1 hr;obtain⟨_,h2,hr⟩:=af.1 hr
 cases hr;exact⟨cs0,e,sz,ext,bk,eJ h1,Ag (bY.1 h2),rfl⟩
theorem aU.eC (H:aU E h K w) {b off n:Nat} {cs:List AV} (hr:readN h b off n= .ok cs):
   (aJ E cs).length=n/\ ∀j v,(aJ E cs)[j]? =some v->w.cell? ((⟨E.aG b,off,none⟩:Addr).add j)=some v:=by
 obtain⟨cs0,e,sz,ext,bk,hc,hl,rfl⟩:=xx hr;refine⟨by simp;omega,fun j v hv=>?_⟩;rw[gO,Bn]at hv;split at hv
 . rw[Bx]at hv
   cases hx:cs0[off+j]? with
   |none=>rw[hx]at hv;cases hv
   |some u=>
    rw[hx]at hv
    cases hv;rw[add_lit];exact H.cell hc hx
 . cases hv
theorem aU.dL (H:aU E h K w) {P:Program} {b off n:Nat} {cs:List AV} (hr:readN h b off n= .ok cs):
  (loadCells ⟨E.aG b,off,none⟩ n).run P w= .ok (aJ E cs).toArray w:=by
 obtain⟨hl,hc⟩:=H.eC hr;have:=run_loadCells_list (P:=P) w ⟨E.aG b,off,none⟩ (aJ E cs) hc;rw[hl]at this;exact this
theorem rv {P:Program} (g o:Nat) (t:TypeId) (fz:Nat×Nat):∀(vs:List Value) (i:Nat) (cur:Array Value) (w:World),w.heap[g]? =some (.cells cur t fz)->
  (∀j,j<cur.size->¬(fz.1<=j/\j<fz.2))->o+i+vs.length<=cur.size->(∀v∈vs,v.oneCell'=true)->
  (storeCells ⟨g,o,none⟩ vs i).run P w= .ok () (w.put g (.cells (cur.toList.take (o+i)++vs++cur.toList.drop (o+i+vs.length)).toArray t fz))
 | [], i,cur,w,hg,_,_,_=>by
  simp only[storeCells,Da,Bf,A9,DG,Array.toArray_toList];have:w.put g (.cells cur t fz)=w:=by
   unfold World.put;have hlt:=(Ad.1 hg).1;have he:=(Ad.1 hg).2;have:w.heap.setIfInBounds g (.cells cur t fz)=w.heap:=by
     apply DP
     . simp
     . intro i h1 h2;rw[BW (by simpa using h2)];split
       . rename_i e;subst e;exact he.symm
       . rfl
   rw[this]
  rw[this];rfl
 | v ::rest,i,cur,w,hg,hf,hl,h1=>by
  have hi:o+i<cur.size:=by simp at hl;omega
  have hlt:=(Ad.1 hg).1;have hcell:w.cell? ⟨g,o+i,none⟩=some cur[o+i]:=by simp[World.cell?,hg,hi]
  have hfro:w.frozen? ⟨g,o+i,none⟩=false:=by
   have:=hf (o+i) hi;obtain⟨lo,hi'⟩:=fz;simp only[World.frozen?,hg];simpa using this
  have hset:w.setCell ⟨g,o+i,none⟩ v=w.put g (.cells (cur.setIfInBounds (o+i) v) t fz):=by
   unfold World.setCell World.put;congr 1
   apply DP
   . simp
   . intro j h1 h2;rw[Dm,BW (by simpa using h2)];have he:w.heap[g]= .cells cur t fz:=(Ad.1 hg).2;by_cases e:g=j
     . subst e;simp[he]
     . simp[e]
  have hst:(store ((⟨g,o,none⟩:Addr).add i) v).run P w= .ok () (w.put g (.cells (cur.setIfInBounds (o+i) v) t fz)):=by
   rw[add_lit,run_store P w _ v _ (h1 v (by simp)),hcell];simp[hfro,hset]
  have hg':(w.put g (.cells (cur.setIfInBounds (o+i) v) t fz)).heap[g]? =some (.cells (cur.setIfInBounds (o+i) v) t fz):=by
   rw[mq,Ai rfl,Ai hlt]
  simp only[storeCells,Sem.run_bind];rw[hst,Result.andThen_ok,rv g o t fz rest (i+1) _ _ hg' (by simpa using hf) (by simp at hl⊢;omega) (fun v hv=>h1 v (by simp[hv]))];have hL:(cur.setIfInBounds (o+i) v).toList.take (o+(i+1))++rest++(cur.setIfInBounds (o+i) v).toList.drop (o+(i+1)+rest.length)=cur.toList.take (o+i)++(v::rest)++cur.toList.drop (o+i+(v::rest).length):=by
   have:=list_seg_step cur.toList (o+i) v rest (by simp at hl⊢;omega);simp only[Ee,AR];rw[show o+(i+1)=o+i+1 from by omega];exact this
  rw[hL];unfold World.put;simp only[Array.setIfInBounds_setIfInBounds]
end
end
section
variable [Inhabited aE]
def Yields (r:Next) (x:Value):Prop:=r= .value x\/(r= .skip/\x=undef)
section
variable {P:Program} {tab:aM} (ok:aV P tab) {E:Env} {h:AH} {K:KS} {w:World}
include ok
theorem vd (H:aU E h K w) {t:TypeId} {b off:Nat} {v:AV} (hl:loadVar tab h t b off= .ok v):
  (Go.loadVar t ⟨E.aG b,off,none⟩).run P w= .ok (aa E v) w:=by
 unfold loadVar at hl;obtain⟨g,hg,hl⟩:=af.1 hl;unfold Go.loadVar;rw[Sem.run_bind,vV ok hg,Result.andThen_ok]
 cases g with
 |true=>
  simp only[AK]at hl⊢;obtain⟨n,hn,hl⟩:=af.1 hl;obtain⟨cs,hc,hl⟩:=af.1 hl
  cases hl;rw[Sem.run_bind,fV ok hn,Result.andThen_ok,Sem.run_bind,H.dL hc];simp[aa]
 |false=>
  simp only[Ah,Ax]at hl⊢;obtain⟨⟨cs,e,sz,ext,bk⟩,hc,hl⟩:=af.1 hl;have hl:=bw.1 hl;rw[run_load,H.cell (eJ hc) hl]
omit ok in
theorem pj {b off:Nat} {vs:List AV} {h':AH} (hw:writeN h b off vs= .ok h'):h'.next=h.next:=by
 unfold writeN at hw;split at hw
 . cases hw;rfl
 . obtain⟨⟨cs,e,sz,ext,bk⟩,hc,hw⟩:=af.1 hw;obtain⟨_,_,hw⟩:=af.1 hw;obtain⟨_,_,hw⟩:=af.1 hw;obtain⟨_,_,hw⟩:=af.1 hw
   cases hw;rfl
omit ok in
theorem vD {bk:BK} {fz:Nat×Nat} {n:Nat} (hm:marks bk fz n) (hr:bk≠ .ro/\bk≠ .cold):∀j,j<n->¬(fz.1<=j/\j<fz.2):=by
 intro j hj
 cases bk with
 |rw=>simp only[marks]at hm;subst hm;simp
 |mark=>simp only[marks]at hm;subst hm;simp;omega
 |any=>
  simp only[marks]at hm;rcases hm with hm|hm
  . subst hm;simp
  . subst hm;simp;omega
 |ro=>exact absurd rfl hr.1
 |cold=>exact absurd rfl hr.2
omit ok in
theorem pc (H:aU E h K w) {b off:Nat} {vs:List AV} {h':AH} (hw:writeN h b off vs= .ok h'):
   ∃w',(storeCells ⟨E.aG b,off,none⟩ (aJ E vs)).run P w= .ok () w'/\aU E h' K w'/\Kept K w w':=by
 unfold writeN at hw;split at hw
 . cases hw;exact⟨w,rfl,H,Kept.refl K w⟩
 . obtain⟨⟨cs,e,sz,ext,bk⟩,hc,hw⟩:=af.1 hw;obtain⟨_,h1,hw⟩:=af.1 hw;obtain⟨_,h2,hw⟩:=af.1 hw;obtain⟨_,h3,hw⟩:=af.1 hw
   cases hw;have hc:=eJ hc;have hro:bk≠ .ro/\bk≠ .cold:=by simpa using bY.1 h1
   have hlen:off+vs.length<=cs.length:=Ag (bY.1 h2);have hone:=bY.1 h3;obtain⟨arr,fz,hh,⟨rest,harr⟩,hsz,hm⟩:=H.cells hc;have hasz:cs.length<=arr.size:=by
     have:=AN List.length harr;simp at this;omega
   have hrun:=rv (P:=P) (E.aG b) off e fz (aJ E vs) 0 arr w hh (vD hm hro) (by simp;omega)
     (by
      intro v hv;rw[jE]at hv;obtain⟨u,hu,rfl⟩:=A1.1 hv;exact vm (Av.1 hone u hu))
   refine⟨_,hrun,H.put hc (by cases bk<;>simp_all[AO.ro]) ?_ (by cases bk<;>simp_all[AO.ro]),H.bj hc (by cases bk<;>simp_all[AO.ro]) _⟩;refine⟨_,fz,rfl,⟨rest,?_⟩,?_,?_⟩
   . simp only[iY,A9,bG,nv,rO,aX,harr];rw[D7 (by simp;omega),List.drop_append_of_le_length (by simp;omega)];simp
   . have e1:(arr.toList.take (off+0)++aJ E vs++arr.toList.drop (off+0+(aJ E vs).length)).length=arr.size:=by
      simp;omega
     cases ext with
     |true=>simp only[AK]at hsz⊢;rw[Bj,e1];exact hsz
     |false=>
      simp only[Ah,Ax]at hsz⊢;rw[Bj,e1,hsz];simp[iY];omega
   . have e1:(arr.toList.take (off+0)++aJ E vs++arr.toList.drop (off+0+(aJ E vs).length)).length=arr.size:=by
      simp;omega
     rw[Bj,e1];exact hm
theorem Ce (H:aU E h K w) {t:TypeId} {b off:Nat} {v:AV} {h':AH} (hs:storeVar tab h t b off v= .ok h'):
  ∃w',(Go.storeVar t ⟨E.aG b,off,none⟩ (aa E v)).run P w= .ok () w'/\aU E h' K w'/\Kept K w w':=by
 unfold storeVar at hs;obtain⟨n,hn,hs⟩:=af.1 hs;obtain⟨l,hl,hs⟩:=af.1 hs;obtain⟨_,hc,hs⟩:=af.1 hs;have hc:=Aa (bY.1 hc);obtain⟨w',hw,H',hk⟩:=pc (P:=P) H hs;refine⟨w',?_,H',hk⟩;unfold Go.storeVar;rw[Sem.run_bind,fV ok hn,Result.andThen_ok,ja hl];simp only[Bj,aX,hc,BS,not_true,Ax];exact hw
omit ok in
theorem z1 {t:TypeId} {b off:Nat} {v:AV} {h':AH} (hs:storeVar tab h t b off v= .ok h'):h'.next=h.next:=by
 unfold storeVar at hs;obtain⟨n,hn,hs⟩:=af.1 hs;obtain⟨l,hl,hs⟩:=af.1 hs;obtain⟨_,hc,hs⟩:=af.1 hs;exact pj hs
omit ok in
theorem eW {e:TypeId} {cs:List AV} {ext:Bool} {bk:BK} {h':AH} {b:Nat} (hn:newRow tab h e cs ext bk= .ok (h',b)):
  ∃n,siz tab e= .ok n/\h'=h.new (.cells cs e n ext bk)/\b=h.next:=by
 unfold newRow at hn;obtain⟨n,h1,hn⟩:=af.1 hn
 cases hn;exact⟨n,h1,rfl,rfl⟩
omit ok in
theorem rW (H:aU E h K w) (hE:E.aG h.next=w.heap.size) (cs:List AV) (e:TypeId) (n:Nat):
  aU E (h.new (.cells cs e n false .rw)) K (w.alloc (.cells (aJ E cs).toArray e))/\Kept K w (w.alloc (.cells (aJ E cs).toArray e)):=
 ⟨H.new hE ⟨_,_,rfl,⟨[],by simp⟩,by simp,rfl⟩,Kept.alloc H.kb _⟩
omit ok in
theorem lk (e:TypeId) (cs:Array Value):(Go.newRow e cs).run P w= .ok ⟨w.heap.size,0,none⟩ (w.alloc (.cells cs e)):=by
 simp only[Go.newRow,Sem.run_bind,run_newObj,Result.andThen_ok,Sem.run_pure];rfl
omit ok in
theorem GS {v:AV} {k:IntKind} {n:Int} (ha:asInt v= .ok (k,n)):v= .int k n:=by
 cases v<;>simp only[asInt]at ha<;>cases ha
 rfl
omit ok in
theorem jC {v:AV} {n:Nat} (ha:asNat v= .ok n):∃k,v= .int k (n:Int):=by
 unfold asNat at ha;obtain⟨⟨k,m⟩,h1,ha⟩:=af.1 ha
 cases m with
 |ofNat m=>cases ha;exact⟨k,GS h1⟩
 |negSucc m=>cases ha
omit ok in
theorem toList_mk (l:List UInt8):(⟨l.toArray⟩:ByteArray).toList=l:=by
 simp
omit ok in
theorem kv (l:List UInt8):(⟨l.toArray⟩:ByteArray).size=l.length:=rfl
omit ok in
theorem Gk (l m:List UInt8):(⟨l.toArray⟩:ByteArray)++⟨m.toArray⟩=⟨(l++m).toArray⟩:=by
 apply DT;simp
omit ok in
theorem Gc {op:BinOp} {k:IntKind} {x y:Int} {v:AV} (hi:intOp op k x y= .ok v) (t:TypeId) (hs:op≠ .shl/\op≠ .shr):
  (Go.binOp op t (.int k x) (.int k y)).run P w= .ok (aa E v) w:=by
 cases op<;>simp only[intOp]at hi<;>(try (split at hi<;>try cases hi))<;>(try cases hi)<;>
  simp_all[Go.binOp,Op.intArith,Op.intDiv,Op.intBits,Op.intCmp,aa]
omit ok in
theorem vN {op:BinOp} {k yk:IntKind} {x y:Int} {v:AV} (hi:shiftOp op k x y= .ok v):
   (Op.shift op k x yk y).run P w= .ok (aa E v) w:=by
 unfold shiftOp at hi;split at hi
 . cases hi
 . rename_i hy
   cases op<;>simp only at hi<;>cases hi<;>simp[Op.shift,hy,aa]
omit ok in
theorem FU {op:BinOp} {x y:List UInt8} {v:AV} (hi:strOp op x y= .ok v):
   (Op.stringOp op ⟨x.toArray⟩ ⟨y.toArray⟩).run P w= .ok (aa E v) w:=by
 cases op<;>simp only[strOp]at hi<;>(try cases hi)<;>(try simp only[Op.stringOp,toList_mk,Sem.run_pure,aa])
 split at hi
 . cases hi;rename_i hl;have:¬((((⟨x.toArray⟩:ByteArray).size+(⟨y.toArray⟩:ByteArray).size:Nat):Int)>IntKind.i64.max):=by
    rw[kv,kv];have:IntKind.i64.max=9223372036854775807:=by decide
    rw[this];omega
   simp only[Ae this,Sem.run_pure,Gk,aa]
 . cases hi
omit ok in
theorem xh {op:UnOp} {x v:AV} (hu:unOp op x= .ok v):(Op.unary op (aa E x)).run P w= .ok (aa E v) w:=by
 cases op<;>cases x<;>simp only[unOp]at hu<;>cases hu<;>simp[Op.unary,aa,Op.intArith,Op.intBits]
end
end
section
variable [Inhabited aE]
section
variable {P:Program} {tab:aM} (ok:aV P tab) {E:Env} {h:AH} {K:KS} {w:World}
include ok
theorem zQ (d:Nat) (eq:TypeId->AV->AV->R Bool)
  (heq:∀t x y b,eq t x y= .ok b->∀w,(Op.equalIn d t (aa E x) (aa E y)).run P w= .ok b w) (xs ys:List AV):
  ∀(fs:List Field) (b:Bool),eqFields tab eq xs ys fs= .ok b->∀w,(Op.eqFields d (aJ E xs).toArray (aJ E ys).toArray fs).run P w= .ok b w:=by
 intro fs;induction fs with
 |nil=>intro b hb w;simp only[eqFields]at hb;cases hb;rfl
 |cons f fs ih=>
  intro b hb w;simp only[eqFields]at hb;by_cases hn:f.name≠ "_"
  . rw[Ai hn]at hb;obtain⟨a,ha,hb⟩:=af.1 hb;obtain⟨c,hc,hb⟩:=af.1 hb;obtain⟨r,hr,hb⟩:=af.1 hb;simp only[Op.eqFields,Ai hn,Sem.run_bind,nL ok ha,nL ok hc,heq _ _ _ _ hr,Result.andThen_ok]
    cases r with
    |true=>simp only[AK]at hb;simpa using ih b hb w
    |false=>simp only[Ah,Ax]at hb;cases hb;simp
  . rw[Ae hn]at hb;simp only[Op.eqFields,Ae hn];exact ih b hb w
theorem nV :∀(d:Nat) (t:TypeId) (x y:AV) (b:Bool),eqT tab d t x y= .ok b->∀(k:Nat) (w:World),
    (Op.equalIn (d+k) t (aa E x) (aa E y)).run P w= .ok b w:=by
  intro d;induction d with
  |zero=>intro t x y b hb;cases hb
  | succ d ih=>
    intro t x y b hb k w;simp only[eqT]at hb;obtain⟨u,hu,hb⟩:=af.1 hb;have hP:=ok.und t u (bw.1 hu);rw[show d+1+k=(d+k)+1 from by omega];have hagg:∀xs ys fs,x= .agg xs->y= .agg ys->u= .struct fs->tab.held.get t=some false->eqFields tab (eqT tab d) xs ys fs.toList= .ok b->
        (Op.equalIn (d+k+1) t (aa E x) (aa E y)).run P w= .ok b w:=by
      intro xs ys fs hx hy hu' hheld hb2;subst hx hy hu';have hf:P.fieldsOf t=fs:=by simp[Program.fieldsOf,hP]
      simp only[aa];rw[run_equalIn_struct w (d+k) t _ _ (by rw[hf];exact hP) (ok.held t false hheld),hf];exact zQ ok (d+k) (eqT tab d) (fun t x y b h w=>ih t x y b h k w) xs ys fs.toList b hb2 w
    split at hb
    case h_22=>
      split at hb
      . exact hagg _ _ _ rfl rfl rfl (by assumption) hb
      . cases hb
    all_goals
      clear hagg ih;simp only[Op.equalIn,underlying,Sem.run_bind,run_program,Result.andThen_ok,hP,Sem.run_pure,aa]
    all_goals
      first
      |(cases hb;done)
      |(cases hb;rfl)
      | (split at hb
         . cases hb;rename_i e;subst e;rw[Ai rfl]
           try rfl
         . cases hb)
      | (cases hb
         rw[beq_toListBytes,toList_mk,toList_mk])
omit ok in
theorem wK {d:Nat} (t:TypeId) (v:Value) (y:AV) (b:Bool) (hb:eqT tab (d+1) t (.raw v) y= .ok b):(∃a,v= .pointer (some a))/\y= .aA:=by
 simp only[eqT]at hb;obtain⟨u,hu,hb⟩:=af.1 hb;split at hb<;>first|(cases hb;done)|simp_all
omit ok in
theorem wL {d:Nat} (t:TypeId) (v:Value) (x:AV) (b:Bool) (hb:eqT tab (d+1) t x (.raw v)= .ok b):(∃a,v= .pointer (some a))/\x= .aA:=by
 simp only[eqT]at hb;obtain⟨u,hu,hb⟩:=af.1 hb;split at hb<;>first|(cases hb;done)|simp_all
omit ok in
theorem pv (H:aU E h K w) {b:Nat} {cs:List AV} {e:TypeId} {sz:Nat} {ext:Bool} (hc:h.get b=some (.cells cs e sz ext .rw)) (i:Nat):
  w.frozen? ⟨E.aG b,i,none⟩=false:=by
 obtain⟨arr,fz,h1,_,_,hm⟩:=H.cells hc;simp only[marks]at hm;subst hm;simp[World.frozen?,h1]
omit ok in
theorem pP (H:aU E h K w) {b:Nat} {cs:List AV} {e:TypeId} {sz:Nat} {ext:Bool} {bk:BK} (hc:h.get b=some (.cells cs e sz ext bk)):
  ∃n,w.shape? (E.aG b)=some (e,n):=by
 obtain⟨arr,fz,h1,_⟩:=H.cells hc;exact⟨arr.size,by simp[World.shape?,h1]⟩
omit ok in
theorem pb (H:aU E h K w) {b:Nat} {cs:List AV} {e:TypeId} {sz:Nat} {ext:Bool} {bk:BK} (hc:h.get b=some (.cells cs e sz ext bk)) (i:Nat):
  (noView ⟨E.aG b,i,none⟩).run P w= .ok () w:=by
 obtain⟨n,hn⟩:=pP H hc;simp[noView,viewAt,hn]
omit ok in
theorem uR (H:aU E h K w) {b:Nat} {cs:List AV} {e:TypeId} {sz:Nat} {ext:Bool} (hc:h.get b=some (.cells cs e sz ext .rw)) (i:Nat):
  (stringish ⟨E.aG b,i,none⟩).run P w= .ok false w:=by
 obtain⟨n,hn⟩:=pP H hc;simp[stringish,hn,pv H hc]
omit ok in
theorem vl (H:aU E h K w) {b b':Nat} {cs cs':List AV} {e e':TypeId} {sz sz':Nat} {ext ext':Bool}
  (hc:h.get b=some (.cells cs e sz ext .rw)) (hc':h.get b'=some (.cells cs' e' sz' ext' .rw)) (i i':Nat):
  (mayBeOne ⟨E.aG b,i,none⟩ ⟨E.aG b',i',none⟩).run P w= .ok false w:=by
 obtain⟨n,hn⟩:=pP H hc;obtain⟨n',hn'⟩:=pP H hc';simp[mayBeOne,uR H hc,uR H hc',hn']
theorem wJ (H:aU E h K w) {t:TypeId} {x y:AV} {b:Bool} (hb:eqOp tab h t x y= .ok b):
   (Op.equal t (aa E x) (aa E y)).run P w= .ok b w/\
   (∀op ox oy,(op= .eql\/op= .neq)->(eqGuard op t ox oy (aa E x) (aa E y)).run P w= .ok () w):=by
 unfold eqOp at hb;split at hb
 . rename_i a i c j;obtain⟨u,hu,hb⟩:=af.1 hb;have hP:=ok.und t u (bw.1 hu);split at hb
   . rename_i e;obtain⟨n,hn,hb⟩:=af.1 hb;obtain⟨_,hz,hb⟩:=af.1 hb;have hz:=bY.1 hz;have hn0:n≠0:=by
       rintro rfl;simp at hz
     refine⟨?_,fun op ox oy ho=>by rcases ho with rfl|rfl<;>simp[eqGuard,aa]⟩;have hstep:(Op.equal t (aa E (.ptr a i)) (aa E (.ptr c j))).run P w=(sameAddr ⟨E.aG a,i,none⟩ ⟨E.aG c,j,none⟩).run P w:=by
       have key:∀n,(Op.equalIn (n+1) t (aa E (.ptr a i)) (aa E (.ptr c j))).run P w=(sameAddr ⟨E.aG a,i,none⟩ ⟨E.aG c,j,none⟩).run P w:=by
         intro n;simp only[Op.equalIn,underlying,Sem.run_bind,run_program,Result.andThen_ok,hP,Sem.run_pure,aa,fV ok hn,BS,hn0,AZ,AK]
       exact key 9999
     rw[hstep];by_cases hac:Nat.beq a c=true
     . rw[Ai hac]at hb
       cases hb;have:=Aa hac;subst this;simp only[sameAddr,Dk,AK,Sem.run_pure];congr 1
       rw[A3];simp[Nat.beq_eq]
     . rw[Ae hac]at hb;split at hb
       . rename_i h1 h2
         cases hb;have hne:E.aG a≠E.aG c:=fun e'=>hac (by rw[H.inj a c _ _ h1 h2 (by simp[AO.ro]) e'];exact Bo c)
         simp[sameAddr,hne,pv H h1,pb H h1,pb H h2,vl H h1 h2]
       . cases hb
   . cases hb
 . rename_i xs ys;split at hb
   . rename_i hg;refine⟨?_,fun op ox oy ho=>?_⟩
     . have:=nV ok (E:=E) 8 t _ _ b hb 9992 w;exact this
     . simp only[aa];exact run_eqGuard_agg w op t ox oy _ _ (ok.gK t false hg)
   . cases hb
 . cases hb
 . rename_i h1 h2 h3;refine⟨nV ok (E:=E) 8 t _ _ b hb 9992 w,fun op ox oy ho=>?_⟩;have hrx:∀v,x= .raw v->∃a,v= .pointer (some a):=by
     rintro v rfl;exact(wK t v y b hb).1
   have hry:∀v,y= .raw v->∃a,v= .pointer (some a):=by
     rintro v rfl;exact(wL t v x b hb).1
   have hne:∀cs,aa E x= .agg cs->∀ds,aa E y= .agg ds->False:=by
     intro cs hx ds hy
     cases x<;>simp only[aa]at hx<;>(try cases hx)
     . cases y<;>simp only[aa]at hy<;>(try cases hy)
       . exact h2 _ _ rfl rfl
       . obtain⟨_,e⟩:=hry _ rfl;cases e
     . obtain⟨_,e⟩:=hrx _ rfl;cases e
   have hni:aa E x= .nilIface->aa E y= .nilIface->False:=by
     intro hx hy
     cases x<;>simp only[aa]at hx<;>(try cases hx)
     . cases y<;>simp only[aa]at hy<;>(try cases hy)
       . exact h3 rfl rfl
       . obtain⟨_,e⟩:=hry _ rfl;cases e
     . obtain⟨_,e⟩:=hrx _ rfl;cases e
   generalize aa E x=a at hne hni
   generalize aa E y=b at hne hni
   rcases ho with rfl|rfl<;>(unfold eqGuard;split)
   all_goals first
     |(exact absurd rfl (by simp))
     |skip
   all_goals simp_all
omit ok in
theorem sh (op:BinOp) (t:TypeId) (ox oy:Operand) (k j:IntKind) (a b:Int):(eqGuard op t ox oy (.int k a) (.int j b)).run P w= .ok () w:=by
 cases op<;>simp[eqGuard]
omit ok in
theorem Gb (op:BinOp) (t:TypeId) (ox oy:Operand) (a b:ByteArray):(eqGuard op t ox oy (.string a) (.string b)).run P w= .ok () w:=by
 cases op<;>simp[eqGuard]
omit ok in
theorem pM {t:TypeId} {x y:AV} {b:Bool} (hb:eqOp tab h t x y= .ok b):(∀v,x= .raw v->∃a,v= .pointer (some a))/\(∀v,y= .raw v->∃a,v= .pointer (some a)):=by
 constructor
 . rintro v rfl;unfold eqOp at hb;exact(wK t v y b hb).1
 . rintro v rfl;unfold eqOp at hb
   cases x<;>exact(wL t v _ b hb).1
omit ok in
theorem vv {x:AV} (hx:∀v,x= .raw v->∃a,v= .pointer (some a)):(∀k b,aa E x≠ .float k b)/\(∀k a b,aa E x≠ .complex k a b)/\
  (∀k a,aa E x= .int k a->x= .int k a)/\(∀s,aa E x= .string s->∃l,x= .str l):=by
 cases x
 case raw v=>obtain⟨a,rfl⟩:=hx v rfl;simp[aa]
 all_goals simp_all[aa]
omit ok in
theorem uZ (t:TypeId) (x y:AV) (hi:∀k j a b,x= .int k a->y= .int j b->False) (hs:∀a b,x= .str a->y= .str b->False)
   (hx:∀v,x= .raw v->∃a,v= .pointer (some a)) (hy:∀v,y= .raw v->∃a,v= .pointer (some a)):
   Go.binOp .eql t (aa E x) (aa E y)=(do pure (.bool (<-Op.equal t (aa E x) (aa E y))))/\
   Go.binOp .neq t (aa E x) (aa E y)=(do pure (.bool (!(<-Op.equal t (aa E x) (aa E y))))):=by
 obtain⟨x1,x2,x3,x4⟩:=vv (E:=E) hx;obtain⟨y1,y2,y3,y4⟩:=vv (E:=E) hy;generalize aa E x=X at*
 generalize aa E y=Y at*
 constructor
 . unfold Go.binOp;split<;>simp_all
   . exact(hi _ _ _ _ rfl rfl rfl rfl).elim
   . obtain⟨l,rfl⟩:=x4;obtain⟨m,rfl⟩:=y4;exact(hs _ _ rfl rfl).elim
 . unfold Go.binOp;split<;>simp_all
   . exact(hi _ _ _ _ rfl rfl rfl rfl).elim
   . obtain⟨l,rfl⟩:=x4;obtain⟨m,rfl⟩:=y4;exact(hs _ _ rfl rfl).elim
theorem vZ (H:aU E h K w) {op:BinOp} {t:TypeId} {x y v:AV} (hb:binOp tab h op t x y= .ok v) (ox oy:Operand):
   (do eqGuard op t ox oy (aa E x) (aa E y);Go.binOp op t (aa E x) (aa E y)).run P w= .ok (aa E v) w:=by
 unfold binOp at hb;split at hb
 . simp only[aa];rw[Sem.run_bind,sh];exact vN (yk:= .i64) hb
 . simp only[aa];rw[Sem.run_bind,sh];exact vN (yk:= .i64) hb
 . rename_i hs1 hs2;split at hb
   . rename_i e;subst e;simp only[aa];rw[Sem.run_bind,sh];exact Gc hb t ⟨fun e=>hs1 e,fun e=>hs2 e⟩
   . cases hb
 . simp only[aa];rw[Sem.run_bind,Gb]
   cases op<;>exact FU (P:=P) hb
 . obtain⟨b,hb',hb⟩:=af.1 hb
   cases hb;obtain⟨h1,h2⟩:=wJ ok H hb';rw[Sem.run_bind,h2 .eql ox oy (.inl rfl),Result.andThen_ok];rw[(uZ (E:=E) t x y (fun k j a b e1 e2=>by subst e1 e2;simp_all;exact ‹∀(k_1:IntKind) (a_1:Int) (j_1:IntKind) (b_1:Int),k=k_1->a=a_1->j=j_1->¬b=b_1› _ _ _ _ rfl rfl rfl rfl) (fun a b e1 e2=>by subst e1 e2;simp_all) (pM hb').1 (pM hb').2).1,Sem.run_bind,h1];simp[aa]
 . obtain⟨b,hb',hb⟩:=af.1 hb
   cases hb;obtain⟨h1,h2⟩:=wJ ok H hb';rw[Sem.run_bind,h2 .neq ox oy (.inr rfl),Result.andThen_ok];rw[(uZ (E:=E) t x y (fun k j a b e1 e2=>by subst e1 e2;simp_all;exact ‹∀(k_1:IntKind) (a_1:Int) (j_1:IntKind) (b_1:Int),k=k_1->a=a_1->j=j_1->¬b=b_1› _ _ _ _ rfl rfl rfl rfl) (fun a b e1 e2=>by subst e1 e2;simp_all) (pM hb').1 (pM hb').2).2,Sem.run_bind,h1];simp[aa]
 . cases hb
end
end
section
variable [Inhabited aE]
def ew (n:Nat) (l:List Value):List Value:=
 match n with
 |0=>[]
 |n+1=>l++ew n l
theorem nF (E:Env) (n:Nat) (l:List AV):aJ E (rep n l)=ew n (aJ E l):=by
 induction n with
 |zero=>rfl
 |succ n ih=>simp[rep,ew,ih]
theorem rR (n:Nat) (l:List Value):(ew n l).length=n*l.length:=by
 induction n with
 |zero=>simp[ew]
 |succ n ih=>simp[ew,ih,A7];omega
theorem xR (c:Nat) (l:List Value) (k:Nat) (hk:l.length=k) (h0:0<k):
  (List.range (c*k)).map (fun i=>l.toArray[i % k]!)=ew c l:=by
 induction c with
 |zero=>simp[ew]
 |succ c ih=>
  rw[show(c+1)*k=k+c*k from by rw[A7];omega,List.range_add,Ba,Bp];unfold ew;congr 1
  . apply List.ext_getElem
    . simp[hk]
    . intro i h1 h2;simp only[BD,List.length_range]at h1;simp[Nat.mod_eq_of_lt h1,h2]
  . rw[<-ih];apply ED;intro i _;simp
theorem vp (n:Nat) (l:List Value) (h0:0<l.length):Builtin.zeroCells l.toArray n=(ew n l).toArray:=by
 unfold Builtin.zeroCells;apply DW;rw[Array.toList_map,Array.toList_range];exact xR n l l.length rfl h0
theorem vk (n:Nat) (l:List Value) (h0:0<l.length):madeCells l.toArray (n*l.length)=(ew n l).toArray:=by
 unfold madeCells;apply DW;rw[Array.toList_map,Array.toList_range];exact xR n l l.length rfl h0
def nK (cs:List Value) (off:Nat) (vs:List Value):List Value:=cs.take off++(vs++cs.drop (off+vs.length))
theorem zR (E:Env) (cs:List AV) (off:Nat) (vs:List AV):aJ E (iY cs off vs)=nK (aJ E cs) off (aJ E vs):=by
 simp[iY,nK,nv,rO]
theorem Gz (off:Nat):∀(vs:List Value) (j:Nat) (cs:Array Value),off+j+vs.length<=cs.size->
  ((vs.zipIdx j).foldl (fun cs (x:Value×Nat)=>cs.setIfInBounds (off+x.2) x.1) cs)=(nK cs.toList (off+j) vs).toArray:=by
 intro vs;induction vs with
 |nil=>intro j cs h;simp[nK]
 |cons v vs ih=>
  intro j cs h;simp only[List.zipIdx_cons,Dp];rw[ih (j+1) _ (by simp at h⊢;omega)];congr 1
  have:=list_seg_step cs.toList (off+j) v vs (by simp at h⊢;omega);simp only[nK,Ee,AR];rw[show off+(j+1)=off+j+1 from by omega];rw[<-BA,this];simp
section
variable {P:Program} {tab:aM} (ok:aV P tab) {E:Env} {h:AH} {K:KS} {w:World}
theorem sG {place:Nat->Option (Nat×Nat)}:∀(ps:List (Nat×AV)) (qs:List (Nat×Nat×AV)) (cs out:List AV),
  (ps.length=qs.length/\ ∀i,i<ps.length->∀p q,ps[i]? =some p->qs[i]? =some q->place p.1=some (q.1,q.2.1)/\p.2=q.2.2)->
  fill cs qs= .ok out->Instr.fill place (aJ E cs).toArray (ps.map fun p=>(p.1,aa E p.2))=some (aJ E out).toArray:=by
 intro ps;induction ps with
 |nil=>
  intro qs cs out hq hf;have:qs=[]:=AF hq.1.symm;subst this;simp only[fill]at hf
  cases hf;rfl
 | cons p ps ih=>
  intro qs cs out hq hf
  cases qs with
  |nil=>simp at hq
  | cons q qs=>
   obtain⟨off,n,v⟩:=q;simp only[fill]at hf;obtain⟨l,hl,hf⟩:=af.1 hf;obtain⟨_,hc,hf⟩:=af.1 hf;have hc:=bY.1 hc;rw[Ab]at hc;have hc1:=Aa hc.1;have hc2:=Ag hc.2;obtain⟨h1,h2⟩:=hq.2 0 (by simp) p (off,n,v) rfl rfl;simp only at h1 h2;simp only[Ay,Instr.fill,h1,h2,ja hl];rw[Ae (by simp[hc1];omega)];have hz:(aJ E l).toArray.zipIdx.foldl (fun cs (x:Value×Nat)=>cs.setIfInBounds (off+x.2) x.1) (aJ E cs).toArray=(aJ E (iY cs off l)).toArray:=by
    have:=Gz off (aJ E l) 0 (aJ E cs).toArray (by simp;omega);rw[zR,<-Array.foldl_toList];simpa using this
   rw[hz];refine ih qs _ out ⟨by simpa using hq.1,fun i hi p' q' hp' hq'=>?_⟩ hf;exact hq.2 (i+1) (by simpa using hi) p' q' (by simpa using hp') (by simpa using hq')
include ok
theorem zH {fs:Array Field}:∀(ps:List (Nat×AV)) (qs:List (Nat×Nat×AV)),lh tab fs ps= .ok qs->
  (ps.length=qs.length/\ ∀i,i<ps.length->∀p q,ps[i]? =some p->qs[i]? =some q->
   (∃f i,fs[p.1]? =some f/\P.info? f.type=some i/\q.1=f.offset/\q.2.1=i.size)/\p.2=q.2.2):=by
 intro ps;induction ps with
 |nil=>intro qs hq;simp only[lh]at hq;cases hq;simp
 | cons p ps ih=>
  intro qs hq;obtain⟨i,v⟩:=p;simp only[lh]at hq;obtain⟨f,hf,hq⟩:=af.1 hq;obtain⟨n,hn,hq⟩:=af.1 hq;obtain⟨r,hr,hq⟩:=af.1 hq
  cases hq;obtain⟨h1,h2⟩:=ih r hr;refine⟨by simp[h1],fun j hj p q hp hq=>?_⟩
  cases j with
  |zero=>
   simp only[Aw,Az]at hp hq;subst hp hq;obtain⟨x,hx,rfl⟩:=ok.siz _ _ (bw.1 hn);exact⟨⟨f,x,bw.1 hf,hx,rfl,rfl⟩,rfl⟩
  |succ j=>exact h2 j (by simpa using hj) p q (by simpa using hp) (by simpa using hq)
theorem CQ:∀(l:List Field),(∀f∈l,(tab.siz.get f.type).isSome=true)->
  ∃ ps:List (Nat×Nat),l.mapM (fun(f:Field)=>(P.info? f.type).map fun i=>(f.offset,i.size))=some ps/\
    ∀(i:Nat) (f:Field) (x:TypeInfo),l[i]? =some f->P.info? f.type=some x->ps[i]? =some (f.offset,x.size):=by
 intro l;induction l with
 |nil=>intro _;exact⟨[],by simp,by simp⟩
 |cons f l ih=>
  intro hl;obtain⟨ps,h1,h2⟩:=ih (fun f hf=>hl f (by simp[hf]));obtain⟨n,hn⟩:=Bz.1 (hl f (by simp));obtain⟨x,hx,rfl⟩:=ok.siz _ _ hn;refine⟨(f.offset,x.size)::ps,?_,?_⟩
  . simp[Ec,hx,h1]
  . intro j g y hj hy
    cases j with
    |zero=>
     simp only[Aw,Az]at hj;subst hj;rw[hx]at hy
     cases hy;rfl
    |succ j=>simpa using h2 j g y (by simpa using hj) hy
theorem Ff {t:TypeId} {ps:List (Nat×AV)} {v:AV} (hb:build tab t ps= .ok v):
   (Instr.build t (ps.map fun p=>(p.1,aa E p.2)).toArray).run P w= .ok (aa E v) w:=by
 unfold build at hb;obtain⟨z,hz,hb⟩:=af.1 hb;obtain⟨zc,hzc,hb⟩:=af.1 hb;obtain⟨u,hu,hb⟩:=af.1 hb;have hP:=ok.und t u (bw.1 hu);obtain⟨it,hit,hiz⟩:=ok.gD t z (bw.1 hz);split at hb
 . rename_i fs;obtain⟨_,hs,hb⟩:=af.1 hb;obtain⟨qs,hq,hb⟩:=af.1 hb;obtain⟨cs,hc,hb⟩:=af.1 hb
   cases hb;have hs:=bY.1 hs;obtain⟨pl,hp1,hp2⟩:=CQ ok fs.toList (fun f hf=>Av.1 hs f hf);obtain⟨hl,hq⟩:=zH ok ps qs hq;have hfill:=sG (E:=E) (place:=fun i=>pl[i]?) ps qs zc cs ⟨hl,fun i hi p q hp hq'=>by
    obtain⟨⟨f,x,h1,h2,h3,h4⟩,h5⟩:=hq i hi p q hp hq';refine⟨?_,h5⟩;rw[h3,h4];exact hp2 p.1 f x (by simpa using h1) h2⟩ hc
   have hbuilt:P.built t (ps.map fun p=>(p.1,aa E p.2))=some (aJ E cs).toArray:=by
    unfold Program.built;simp only[hit,hP,hiz E,hp1,ja hzc];simpa using hfill
   exact run_build w t _ _ (by simpa using hbuilt)
 . rename_i len e;obtain⟨n,hn,hb⟩:=af.1 hb;obtain⟨cs,hc,hb⟩:=af.1 hb
   cases hb;obtain⟨ie,hie,rfl⟩:=ok.siz _ _ (bw.1 hn);have hfill:=sG (E:=E) (place:=fun i=>some (i*ie.size,ie.size)) ps _ zc cs ⟨by simp,fun i hi p q hp hq=>by
    rw[Au,hp]at hq
    cases hq;exact⟨rfl,rfl⟩⟩ hc
   have hbuilt:P.built t (ps.map fun p=>(p.1,aa E p.2))=some (aJ E cs).toArray:=by
    unfold Program.built;simp only[hit,hP,hiz E,hie,ja hzc];exact hfill
   exact run_build w t _ _ (by simpa using hbuilt)
 . cases hb
theorem zE (H:aU E h K w) {t:TypeId} {len:Nat} {ps:List (Nat×AV)} {v:AV} {h':AH} (hb:buildSlice tab h t len ps= .ok (v,h'))
   (hE:E.aG h.next=w.heap.size):
   h'.next=h.next+1/\ ∃w',(Instr.buildSlice t len (ps.map fun p=>(p.1,aa E p.2)).toArray).run P w= .ok (aa E v) w'/\aU E h' K w'/\Kept K w w':=by
 unfold buildSlice at hb;obtain⟨u,hu,hb⟩:=af.1 hb;have hP:=ok.und t u (bw.1 hu);split at hb
 . rename_i e;obtain⟨n,hn,hb⟩:=af.1 hb;obtain⟨_,hc,hb⟩:=af.1 hb;obtain⟨z,hz,hb⟩:=af.1 hb;obtain⟨zc,hzc,hb⟩:=af.1 hb;obtain⟨_,hzl,hb⟩:=af.1 hb;obtain⟨cs,hf,hb⟩:=af.1 hb;obtain⟨⟨h1,b⟩,hr,hb⟩:=af.1 hb
   cases hb;have hc:=Ag (bY.1 hc);have hzl:=Aa (bY.1 hzl);obtain⟨n',_,rfl,rfl⟩:=eW hr;have hfill:=sG (E:=E) (place:=fun i=>some (i*n,n)) ps _ (rep len zc) cs ⟨by simp,fun i hi p q hp hq=>by
     rw[Au,hp]at hq
     cases hq;exact⟨rfl,rfl⟩⟩ hf
   have hmade:((Array.range (len*n)).map fun i=>(if len*n=0 then #[]else(aJ E zc).toArray)[i % (if len*n=0 then #[]else(aJ E zc).toArray).size]!)=(aJ E (rep len zc)).toArray:=by
     rw[nF];by_cases h0:len*n=0
     . rw[h0];have:ew len (aJ E zc)=[]:=AF (by rw[rR,aX,hzl];exact h0);simp[this]
     . simp only[Ae h0];have hn0:0<n:=DU (fun e=>h0 (by rw[e];simp));have:=vk len (aJ E zc) (by rw[aX,hzl];exact hn0);rw[aX,hzl]at this;exact this
   obtain⟨H',hk⟩:=rW H hE cs e n';refine⟨rfl,_,?_,H',hk⟩;unfold Instr.buildSlice;simp only[Sem.run_bind,underlying,run_program,Result.andThen_ok,hP,Sem.run_pure,fV ok hn];rw[Ae (by omega)];by_cases h0:len*n=0
   . simp only[Ai h0]at hmade⊢;simp only[Sem.run_bind,Sem.run_pure,Result.andThen_ok];rw[hmade,hfill];simp only[Sem.run_bind,lk,Result.andThen_ok,Sem.run_pure,aa,dX.val,hE]
   . simp only[Ae h0]at hmade⊢;simp only[Sem.run_bind,lu ok hz E,Sem.run_pure,Result.andThen_ok,ja hzc];rw[hmade,hfill];simp only[Sem.run_bind,lk,Result.andThen_ok,Sem.run_pure,aa,dX.val,hE]
 . cases hb
theorem zX (H:aU E h K w) {t:TypeId} {len cap v:AV} {h':AH} (hb:makeSlice tab h t len cap= .ok (v,h')) (hE:E.aG h.next=w.heap.size):
   h'.next=h.next+1/\ ∃w',(Instr.makeSlice t (aa E len) (aa E cap)).run P w= .ok (aa E v) w'/\aU E h' K w'/\Kept K w w':=by
 unfold makeSlice at hb;obtain⟨u,hu,hb⟩:=af.1 hb;have hP:=ok.und t u (bw.1 hu);split at hb
 . rename_i e;obtain⟨l,hl,hb⟩:=af.1 hb;obtain⟨c,hc,hb⟩:=af.1 hb;obtain⟨by_,hby,hb⟩:=af.1 hb;obtain⟨_,hlim,hb⟩:=af.1 hb;obtain⟨n,hn,hb⟩:=af.1 hb;obtain⟨z,hz,hb⟩:=af.1 hb;obtain⟨zc,hzc,hb⟩:=af.1 hb;obtain⟨_,hzl,hb⟩:=af.1 hb;obtain⟨⟨h1,b⟩,hr,hb⟩:=af.1 hb
   cases hb;have hlim:=bY.1 hlim;simp only[Ab]at hlim;have hl1:=Ag hlim.1.1;have hl2:=Ag hlim.1.2;have hl3:=Ag hlim.2;have hzl:=bY.1 hzl;simp only[Ab]at hzl;have hzl1:=Aa hzl.1;have hn0:0<n:=DU (by rintro rfl;simp at hzl);obtain⟨n',_,rfl,rfl⟩:=eW hr;obtain⟨kl,rfl⟩:=jC hl;obtain⟨kc,rfl⟩:=jC hc;obtain⟨i,hi,rfl⟩:=ok.siz _ _ (bw.1 hn);obtain⟨i',hi',hz'⟩:=ok.gD _ _ (bw.1 hz);rw[hi]at hi';cases hi';obtain⟨i',hi',hby'⟩:=ok.byt _ _ (bw.1 hby);rw[hi]at hi';cases hi';obtain⟨H',hk⟩:=rW H hE (rep c zc) e n';refine⟨rfl,_,?_,H',hk⟩;have hbc:(i.bytes:Int)*(c:Int)<=281474976710656:=by
    rw[hby'];have h3:((by_*c:Nat):Int)<=((16777216:Nat):Int):=Int.ofNat_le.2 hl3;rw[Int.natCast_mul]at h3;omega
   have hrun:=run_make (P:=P) w t e i (aa E z) hP hi (hz' E) kl kc l c (by omega) (by omega) hbc (by omega);simp only[aa];rw[hrun];simp only[Dx,ja hzc,dX.val,hE,nF];have:=vk c (aJ E zc) (by rw[aX,hzl1];exact hn0);rw[aX,hzl1]at this;rw[this]
 . cases hb
end
end
section
variable [Inhabited aE]
section
variable {P:Program} {tab:aM} (ok:aV P tab) {E:Env} {h:AH} {K:KS} {w:World}
def ec (o:Option Value) (d n:Nat):Prop:=
 match o with
 |none=>n=d
 |some v=>∃k,v= .int k (n:Int)
theorem jB (k:IntKind) (n y:Nat) (code:BoundsCode) (hn:n<=y):(Instr.sliceBound (.int k (n:Int)) y code).run P w= .ok n w:=by
 have:=run_sliceBound (P:=P) w k (n:Int) y code (by omega) (by omega);simpa using this
theorem nr {isSlice:Bool} {len cap l u m:Nat} {lo hi mx:Option Value} (hl:ec lo 0 l) (hu:ec hi len u) (hm:ec mx cap m)
  (hs:mx=none\/ ∃v,hi=some v) (h1:l<=u) (h2:u<=m) (h3:m<=cap):(Instr.sliceBounds isSlice len cap lo hi mx).run P w= .ok (l,u,m) w:=by
 unfold Instr.sliceBounds
 cases mx with
 | none=>
  simp only[ec]at hm;subst hm
  cases hi with
  |none=>
   simp only[ec]at hu;subst hu
   cases lo with
   |none=>simp only[ec]at hl;subst hl;simp
   |some v=>obtain⟨k,rfl⟩:=hl;simp[jB k l u _ h1]
  |some v=>
   obtain⟨k,rfl⟩:=hu
   cases lo with
   |none=>simp only[ec]at hl;subst hl;simp[jB k u m _ h2]
   |some v=>obtain⟨k',rfl⟩:=hl;simp[jB k u m _ h2,jB k' l u _ h1]
 |some v=>
  obtain⟨km,rfl⟩:=hm;obtain⟨v',rfl⟩:=hs.resolve_left (by simp);obtain⟨k,rfl⟩:=hu
  cases lo with
  |none=>simp only[ec]at hl;subst hl;simp[jB km m cap _ h3,jB k u m _ h2]
  |some v=>obtain⟨k',rfl⟩:=hl;simp[jB km m cap _ h3,jB k u m _ h2,jB k' l u _ h1]
theorem hX {ts:T AV} {ρ:Operand->Value} (hρ:∀x v,ev ts x= .ok v->ρ x=aa E v) {d:R Nat} {dn:Nat} (hd:d= .ok dn) {o:Option Operand} {n:Nat}
  (hn:dD ts d o= .ok n):ec (o.map ρ) dn n:=by
 cases o with
 |none=>simp only[dD]at hn;rw[hd]at hn;cases hn;exact rfl
 |some x=>
  simp only[dD]at hn;obtain⟨v,hv,hn⟩:=af.1 hn;obtain⟨k,rfl⟩:=jC hn;exact⟨k,by rw[hρ x _ hv];rfl⟩
theorem extract_mk (s:List UInt8) (l u:Nat):(⟨s.toArray⟩:ByteArray).extract l u=⟨((s.drop l).take (u - l)).toArray⟩:=by
 apply DT;simp[ByteArray.data_extract,Eg]
theorem r8 (H:aU E h K w) {b c:Nat} {cap:dX} (hc:capLow h b cap= .ok c):c<=cap.val (E.cap b):=by
 cases cap with
 |lit n=>simp only[capLow]at hc;cases hc;exact Aj _
 | tail k=>
  simp only[capLow]at hc;obtain⟨⟨cs,e,sz,ext,bk⟩,h1,hc⟩:=af.1 hc;obtain⟨_,h2,hc⟩:=af.1 hc
  cases hc;have h2:=bY.1 h2;simp only[Ab]at h2;obtain⟨hx,hz⟩:=h2;have hz0:0<sz:=DU (by rintro rfl;simp at hz);obtain⟨arr,fz,_,⟨rest,harr⟩,hsz,_⟩:=H.cells (eJ h1);rw[Ai hx]at hsz;have hl:=AN List.length harr;simp at hl;have:cs.length / sz<=E.cap b:=by
   rw[Nat.div_le_iff_le_mul_add_pred hz0];have:cs.length<=E.cap b*sz:=by omega
   rw[Nat.mul_comm]at this;omega
  show cs.length / sz - k<=E.cap b - k
  omega
include ok
theorem CX (H:aU E h K w) {ts:T AV} {ρ:Operand->Value} (hρ:∀x v,ev ts x= .ok v->ρ x=aa E v) {t:TypeId} {x v:AV} {h':AH} {lo hi mx:Option Operand}
   (hs:fG tab ts h t x lo hi mx= .ok (v,h')):
   h'=h/\(Instr.sliceAt t (aa E x) (lo.map ρ) (hi.map ρ) (mx.map ρ)).run P w= .ok (aa E v) w:=by
 unfold fG at hs;obtain⟨d,hd,hs⟩:=af.1 hs;have hP:=ok.und t d (bw.1 hd);split at hs
 . rename_i s _;obtain⟨_,hm,hs⟩:=af.1 hs;obtain⟨l,hl,hs⟩:=af.1 hs;obtain⟨u,hu,hs⟩:=af.1 hs;obtain⟨_,hb,hs⟩:=af.1 hs
   cases hs;have hm:=bY.1 hm
   cases mx with
   |some x=>simp at hm
   | none=>
     have hb:=bY.1 hb;rw[Ab]at hb;have hb1:=Ag hb.1;have hb2:=Ag hb.2;refine⟨rfl,?_⟩;rw[run_sliceAt_string (P:=P) w t _ _ _ _ hP];unfold Instr.slice;simp only[Sem.run_bind,underlying,run_program,Result.andThen_ok,hP,Sem.run_pure,aa,Bv,Db,Ah,Ax,kv];rw[nr (hX hρ rfl hl) (hX hρ rfl hu) (show ec none s.length s.length from rfl) (.inl rfl) hb1 hb2 (Aj _)];simp[extract_mk]
 . rename_i e _;have hel:P.elem t=e:=by simp[Program.elem,hP]
   obtain⟨n,hn,hs⟩:=af.1 hs;obtain⟨l,hl,hs⟩:=af.1 hs;obtain⟨u,hu,hs⟩:=af.1 hs;obtain⟨m,hm,hs⟩:=af.1 hs;obtain⟨_,hb,hs⟩:=af.1 hs
   cases hs;have hb:=bY.1 hb;simp only[Ab,BM]at hb;have hb1:=Aa hb.1.1.1;have hb2:=Aa hb.1.1.2;have hb3:=Aa hb.1.2;subst hb1 hb2 hb3;refine⟨rfl,?_⟩;have hmx:mx.map ρ=none\/ ∃v,hi.map ρ=some v:=by
     rcases hb.2 with h|h
     . left;cases mx<;>simp_all
     . right;cases hi<;>simp_all
   rw[run_sliceAt_slice (P:=P) w t _ _ _ _ (by rw[hel];exact hP)];simp only[aa];rw[run_slice_any (P:=P) w t none 0 0 (by rw[hel];exact hP),hel,
     nr (hX hρ rfl hl) (hX hρ rfl hu) (hX hρ rfl hm) hmx (Aj _) (Aj _) (Aj _),Result.andThen_ok,fV ok hn]
   simp[sliced]
 . rename_i e b off len cap _;have hel:P.elem t=e:=by simp[Program.elem,hP]
   obtain⟨c,hc,hs⟩:=af.1 hs;obtain⟨n,hn,hs⟩:=af.1 hs;obtain⟨l,hl,hs⟩:=af.1 hs;obtain⟨u,hu,hs⟩:=af.1 hs;have hcap:=r8 H hc;have hgo:∀m,ec (mx.map ρ) (cap.val (E.cap b)) m->(mx.map ρ=none\/ ∃v,hi.map ρ=some v)->l<=u->u<=m->m<=cap.val (E.cap b)->
       (Instr.sliceAt t (aa E (.sl b off len cap)) (lo.map ρ) (hi.map ρ) (mx.map ρ)).run P w=
         .ok (.slice (some ⟨E.aG b,if m=l then off else off+l*n,none⟩) (u - l) (m - l)) w:=by
     intro m hm hmx h1 h2 h3;rw[run_sliceAt_slice (P:=P) w t _ _ _ _ (by rw[hel];exact hP)];simp only[aa];rw[run_slice_any (P:=P) w t _ _ _ (by rw[hel];exact hP),hel,
       nr (hX hρ rfl hl) (hX hρ rfl hu) hm hmx h1 h2 h3,Result.andThen_ok,fV ok hn,Result.andThen_ok]
     simp only[sliced];by_cases e:m=l
     . simp[e]
     . simp[e,add_lit]
   split at hs
   . obtain⟨m,hm,hs⟩:=af.1 hs;obtain⟨_,hb,hs⟩:=af.1 hs
     cases hs;have hb:=bY.1 hb;simp only[Ab]at hb;have hb1:=Ag hb.1.1.1;have hb2:=Ag hb.1.1.2;have hb3:=Ag hb.1.2;refine⟨rfl,?_⟩;have hm':ec (Option.map ρ (some ‹Operand›)) (cap.val (E.cap b)) m:=by
       have:=hX hρ rfl hm;exact this
     rw[hgo m hm' (.inr (by cases hi<;>simp_all)) hb1 hb2 (by omega)];simp only[aa,dX.val];by_cases e:m=l
     . simp[e]
     . have:Nat.beq m l=false:=Ar.2 (fun h=>e (Aa h));simp[e,this]
   . cases cap with
     | lit m=>
       obtain⟨_,hb,hs⟩:=af.1 hs
       cases hs;have hb:=bY.1 hb;simp only[Ab]at hb;have hb1:=Ag hb.1;have hb2:=Ag hb.2;refine⟨rfl,?_⟩;rw[hgo m rfl (.inl rfl) hb1 hb2 (Aj _)];simp only[aa,dX.val];by_cases e:m=l
       . simp[e]
       . have:Nat.beq m l=false:=Ar.2 (fun h=>e (Aa h));simp[e,this]
     | tail k=>
       obtain⟨_,hb,hs⟩:=af.1 hs;have hb:=bY.1 hb;simp only[Ab]at hb;have hb1:=Ag hb.1;have hb2:=Ag hb.2;have hcap':c<=E.cap b - k:=hcap;have hgo':=hgo (E.cap b - k) rfl (.inl rfl) hb1 (by omega) (Aj _);by_cases h0:Nat.beq l 0=true
       . rw[h0]at hs
         cases hs;have:=Aa h0;subst this;refine⟨rfl,?_⟩;rw[hgo'];simp[aa,dX.val]
       . have h0':Nat.beq l 0=false:=Ar.2 h0;rw[h0']at hs;by_cases h1:Nat.blt l c=true
         . simp only[AB,h1,AY]at hs
           cases hs;have hlt:l<c:=Ag h1;refine⟨rfl,?_⟩;rw[hgo'];simp only[aa,dX.val];rw[Ae (by omega)];congr 2
           omega
         . have h1':Nat.blt l c=false:=Ar.2 h1;simp only[AB,h1']at hs
           cases hs;have hge:¬l<c:=fun h=>h1 (Di h)
           refine⟨rfl,?_⟩;rw[hgo'];simp only[aa];congr 2
           omega
 . rename_i e a c _;have hel:P.elem t=e:=by simp[Program.elem,hP]
   obtain⟨n,hn,hs⟩:=af.1 hs;obtain⟨l,hl,hs⟩:=af.1 hs;obtain⟨u,hu,hs⟩:=af.1 hs;obtain⟨_,hb,hs⟩:=af.1 hs
   cases hs;have hb:=bY.1 hb;simp only[Ab]at hb;have hb1:=Aa hb.1.1;have hb2:=Aa hb.1.2;subst hb1 hb2;have hm:mx=none:=by cases mx<;>simp_all
   subst hm;refine⟨rfl,?_⟩;rw[run_sliceAt_slice (P:=P) w t _ _ _ _ (by rw[hel];exact hP)];simp only[aa];rw[run_slice_any (P:=P) w t _ _ _ (by rw[hel];exact hP),hel,
     nr (hX hρ rfl hl) (hX hρ rfl hu) (show ec (Option.map ρ (none:Option Operand)) c c from rfl) (.inl rfl) (Aj _) (Bl _) (Aj _),Result.andThen_ok,fV ok hn]
   cases a<;>simp[sliced,Addr.add]
 . rename_i e b off l0 n0 k _;have hel:P.elem t=e:=by simp[Program.elem,hP]
   obtain⟨n,hn,hs⟩:=af.1 hs;obtain⟨l,hl,hs⟩:=af.1 hs;obtain⟨u,hu,hs⟩:=af.1 hs;obtain⟨_,hb,hs⟩:=af.1 hs
   cases hs;have hb:=bY.1 hb;simp only[Ab]at hb;have hb1:=Aa hb.1.1;have hb2:=Aa hb.1.2;subst hb1 hb2;have hm:mx=none:=by cases mx<;>simp_all
   subst hm;refine⟨rfl,?_⟩;rw[run_sliceAt_slice (P:=P) w t _ _ _ _ (by rw[hel];exact hP)];simp only[aa];rw[run_slice_any (P:=P) w t _ _ _ (by rw[hel];exact hP),hel,
     nr (hX hρ rfl hl) (hX hρ rfl hu) (show ec (Option.map ρ (none:Option Operand)) (E.cap b - k - l0) (E.cap b - k - l0)from rfl) (.inl rfl) (Aj _) (Bl _) (Aj _),Result.andThen_ok,fV ok hn]
   simp[sliced,Addr.add]
 . cases hs
end
end
section
variable [Inhabited aE]
section
variable {P:Program} {tab:aM} (ok:aV P tab) {E:Env} {h:AH} {K:KS} {w:World}
theorem uS (E:Env) (s:List UInt8):aJ E (ofBytes s)=s.map fun b=>Value.int .u8 b.toNat:=by
 simp only[ofBytes,jE,Bp];rfl
theorem nu {cs:List AV} {s:List UInt8} (hb:bytesOf cs= .ok s):
  ∃ns:List Int,aJ E cs=ns.map (Value.int .u8)/\ns.map (fun n=>UInt8.ofNat n.toNat)=s:=by
 induction cs generalizing s with
 |nil=>simp only[bytesOf]at hb;cases hb;exact⟨[],rfl,rfl⟩
 |cons c cs ih=>
  unfold bytesOf at hb;split at hb
  . rename_i e;cases e
  . rename_i n l e
    cases e;obtain⟨r,hr,hb⟩:=af.1 hb
    cases hb;obtain⟨ns,h1,h2⟩:=ih hr;exact⟨(n:Int)::ns,by simp[h1,aa],by simp[h2]⟩
  . cases hb
def qk:AV->Nat
 | .str s=>s.length
 |_=>0
theorem foldl_push (ns:List Int):∀(r:List UInt8),ns.foldl (fun(r:ByteArray) n=>r.push (UInt8.ofNat n.toNat)) ⟨r.toArray⟩=⟨(r++ns.map fun n=>UInt8.ofNat n.toNat).toArray⟩:=by
 induction ns with
 |nil=>intro r;simp
 | cons n ns ih=>
  intro r;simp only[Dp];have:(⟨r.toArray⟩:ByteArray).push (UInt8.ofNat n.toNat)=⟨(r++[UInt8.ofNat n.toNat]).toArray⟩:=by
   apply DT;simp[ByteArray.push]
  rw[this,ih];simp
theorem CW (w:World) (arr:Array Value) (e:TypeId) (fz:Nat×Nat):(w.alloc (.cells arr e fz)).shape? w.heap.size=some (e,arr.size):=by
 unfold World.shape?
 rw[heap_alloc_new]
theorem zK (w:World) (arr:Array Value) (e:TypeId) (n:Nat):
   (w.alloc (.cells arr e)).freeze {block:=w.heap.size,off:=n} 1=w.alloc (.cells arr e (n,n+1)):=by
 unfold World.freeze World.alloc;simp only[Nat.one_ne_zero,Ax];congr 1
 apply DP
 . simp
 . intro i h1 h2;rw[Dm,Array.getElem_push,Array.getElem_push];by_cases h:i<w.heap.size
   . simp[h];omega
   . have:i=w.heap.size:=by simp at h2;omega
     simp[this]
include ok
theorem Cq (H:aU E h K w) {src dst:TypeId} {x v:AV} {h':AH} (hc:convert tab h src dst x= .ok (v,h'))
   (hE:h.next<h'.next->E.aG h.next=w.heap.size/\E.cap h.next=grownCap w (qk x) 0 (P.elem dst)):
   (h.next<=h'.next/\h'.next<=h.next+1)/\ ∃w',(Go.convert src dst (aa E x)).run P w= .ok (aa E v) w'/\aU E h' K w'/\Kept K w w':=by
 unfold convert at hc;obtain⟨a,ha,hc⟩:=af.1 hc;obtain⟨b,hb,hc⟩:=af.1 hc;have hPa:=ok.und src a (bw.1 ha);have hPb:=ok.und dst b (bw.1 hb);split at hc
 . cases hc;refine⟨by omega,w,?_,H,Kept.refl K w⟩;simp only[aa];unfold Go.convert;simp[underlying,hPa,hPb,Conv.intToInt]
 . cases hc;refine⟨by omega,w,?_,H,Kept.refl K w⟩;simp only[aa];unfold Go.convert;simp[underlying,hPa,hPb]
 . rename_i e s _ _;obtain⟨d,hd,hc⟩:=af.1 hc;have hPe:=ok.und e d (bw.1 hd);split at hc
   . obtain⟨n,hn,hc⟩:=af.1 hc;obtain⟨_,h1,hc⟩:=af.1 hc;obtain⟨⟨h2,b2⟩,hr,hc⟩:=af.1 hc
     cases hc;obtain⟨n',hn',rfl,rfl⟩:=eW hr;rw[hn]at hn';cases hn';have h1:=Aa (bY.1 h1);subst h1;have hel:P.elem dst=e:=by simp[Program.elem,hPb]
     obtain⟨hE1,hE2⟩:=hE (by simp);rw[hel]at hE2;simp only[qk]at hE2;have hge:=grownCap_ge w s.length 0 e;have hrun:(Go.convert src dst (aa E (.str s))).run P w= .ok (.slice (some ⟨w.heap.size,0,none⟩) s.length (grownCap w s.length 0 e))
         (w.drew.alloc (.cells ((s.map fun b=>Value.int .u8 b.toNat).toArray++Array.replicate (grownCap w s.length 0 e - s.length) (.int .u8 0)) e (grownCap w s.length 0 e,grownCap w s.length 0 e+1))):=by
       simp only[aa];unfold Go.convert;have hq:(Question.appendCap s.length 0 e).cut (w.tape w.drawn (.appendCap s.length 0 e))=grownCap w s.length 0 e:=rfl;simp only[Sem.run_bind,underlying,run_program,Result.andThen_ok,hPa,hPb,hPe,Sem.run_pure,Conv.stringToBytes,run_choose,Question.forced,Ah,Ax,lk,markStringish,run_shape,kv,hq,World.drew_eq,World.size_drew];generalize grownCap w s.length 0 e=cp at*
       have harr:(Array.map (fun b=>Value.int .u8 b.toNat) s.toArray++Array.replicate (cp - s.length) (Value.int .u8 0)).size=cp:=by
         simp;omega
       have harr2:Array.map (fun b=>Value.int .u8 b.toNat) s.toArray=(s.map fun b=>Value.int .u8 b.toNat).toArray:=by simp
       rw[<-harr2];generalize Array.map (fun b=>Value.int .u8 b.toNat) s.toArray++Array.replicate (cp - s.length) (Value.int .u8 0)=arr at*
       have e1:=CW w.drew arr e (0,0);rw[World.size_drew]at e1;rw[e1];simp only[harr,run_freeze,Result.andThen_ok];have e2:=zK w.drew arr e cp;rw[World.size_drew]at e2;rw[e2]
     have hv:aa E (.sl h.next 0 s.length (.tail 0))= .slice (some ⟨w.heap.size,0,none⟩) s.length (grownCap w s.length 0 e):=by
       simp[aa,dX.val,hE1,hE2]
     rw[<-hv]at hrun;refine⟨by simp,_,hrun,H.drew.new (by simpa using hE1) ?_,(Kept.drew K w).trans (Kept.alloc (by simpa using H.kb) _)⟩
     . refine⟨_,_,rfl,⟨_,by rw[Array.toList_append,A5,uS]⟩,?_,?_⟩
       . simp[hE2];omega
       . simp only[marks,Array.size_append,Bj,BD,Array.size_replicate];congr 1<;>omega
   . cases hc
 . rename_i e _ hns;obtain⟨d,hd,hc⟩:=af.1 hc;have hPe:=ok.und e d (bw.1 hd);split at hc
   . cases hc;refine⟨by omega,w,?_,H,Kept.refl K w⟩;simp only[aa];rw[run_convert_bytes_string w src dst e _ _ _ hPa hPe hPb];simp[Conv.bytesToString];rfl
   . obtain⟨cs,hcs,hc⟩:=af.1 hc;obtain⟨s,hs,hc⟩:=af.1 hc
     cases hc;refine⟨by omega,w,?_,H,Kept.refl K w⟩;obtain⟨ns,h1,h2⟩:=nu (E:=E) hs;simp only[aa];rw[run_convert_bytes_string w src dst e _ _ _ hPa hPe hPb,run_bytesToString w _ _ _ ns (by rw[<-h1];exact H.dL hcs)];have:=foldl_push ns [];rw[show(⟨([]:List UInt8).toArray⟩:ByteArray)=ByteArray.empty from rfl]at this;rw[this,h2];rfl
   . cases hc;refine⟨by omega,w,?_,H,Kept.refl K w⟩;simp only[aa];rw[run_convert_bytes_string w src dst e _ _ _ hPa hPe hPb];simp[Conv.bytesToString,loadCells,loadCellsFrom];rfl
   . cases hc;refine⟨by omega,w,?_,H,Kept.refl K w⟩;rename_i a _ _ _;simp only[aa];rw[run_convert_bytes_string w src dst e _ _ _ hPa hPe hPb]
     cases a<;>simp[Conv.bytesToString,loadCells,loadCellsFrom]<;>rfl
   . cases hc
 . rename_i e b off n c _ _;obtain⟨d,hd,hc⟩:=af.1 hc;have hPe:=ok.und e d (bw.1 hd);split at hc
   . rename_i heq;obtain⟨⟨cs,e',sz,ext,bk⟩,hcs,hc⟩:=af.1 hc;obtain⟨_,hro,hc⟩:=af.1 hc
     cases hc;have hro:bk≠ .ro/\bk≠ .cold:=by simpa using bY.1 hro
     have hcs:=eJ hcs;have heq:=Aa heq;subst heq
     cases hPa.symm.trans hPb;obtain⟨arr,fz,hh,hpre,hsz,hm⟩:=H.cells hcs;have hnr:¬(AO.cells cs e' sz ext bk).ro:=by cases bk<;>simp_all[AO.ro]
     have hfz:w.freeze {block:=E.aG b,off:=arr.size} 1=w.put (E.aG b) (.cells arr e' (arr.size,arr.size+1)):=by
       unfold World.freeze World.put;simp only[Nat.one_ne_zero,Ax];congr 1
       have he:=(Ad.1 hh).2;apply DP
       . simp
       . intro j h1 h2;rw[Dm,BW (by simpa using h2)];by_cases ej:E.aG b=j
         . subst ej;simp only[AK,he]
           cases bk with
           |rw=>simp only[marks]at hm;subst hm;simp
           |mark=>simp only[marks]at hm;subst hm;simp
           |any=>simp only[marks]at hm;rcases hm with hm|hm<;>subst hm<;>simp
           |ro=>exact absurd rfl hro.1
           |cold=>exact absurd rfl hro.2
         . simp[ej]
     refine⟨by simp,_,?_,H.put hcs hnr ⟨arr,(arr.size,arr.size+1),rfl,hpre,hsz,rfl⟩,H.bj hcs hnr _⟩;simp only[aa];unfold Go.convert;have hshape:w.shape? (E.aG b)=some (e',arr.size):=by simp[World.shape?,hh]
     simp only[Sem.run_bind,underlying,run_program,Result.andThen_ok,hPa,hPe,Sem.run_pure,Dk,markStringish,run_shape,hshape,run_freeze,hfz]
   . cases hc
 . cases hc
end
end
section
variable [Inhabited aE]
section
variable {P:Program} {tab:aM} (ok:aV P tab) {E:Env} {h:AH} {K:KS} {w:World}
theorem vI {n m:Nat} {y:AV} {news:List AV} (hs:source h n y= .ok (m,news)):
  news.length=m*n/\(∀w:World,(Builtin.lenOf (aa E y)).run P w= .ok m w)/\
  ∀w:World,aU E h K w->∀k,k<=m->(Builtin.firstCells n k (aa E y)).run P w= .ok (aJ E (news.take (k*n))).toArray w:=by
 cases y<;>simp only[source]at hs<;>(try cases hs)
 case str s=>
  obtain⟨_,h1,hsz⟩:=af.1 hs;clear hs;have hs:=hsz;clear hsz
  cases hs;have h1:=Aa (bY.1 h1);subst h1;refine⟨by simp[ofBytes],fun w=>by simp[aa,Builtin.lenOf,kv],fun w _ k hk=>?_⟩;simp only[aa,Builtin.firstCells,extract_mk,Sem.run_pure,Nat.mul_one,List.drop_zero,Bu,nv,uS];simp[Eh]
 case nils=>
  refine⟨by simp,fun w=>by simp[aa,Builtin.lenOf],fun w _ k hk=>by simp[aa,Builtin.firstCells]⟩
 case sl b off len cap=>
  obtain⟨cs,hcs,hsz⟩:=af.1 hs;clear hs;have hs:=hsz;clear hsz
  cases hs;obtain⟨cs0,e,sz,ext,bk,hc,hl,rfl⟩:=xx hcs;refine⟨by simp;omega,fun w=>by simp[aa,Builtin.lenOf],fun w H k hk=>?_⟩;simp only[aa,Builtin.firstCells];have hk':k*n<=m*n:=A6 _ hk;have hr:readN h b off (k*n)= .ok ((cs0.drop off).take (k*n)):=by
   unfold readN fv;rw[hc];simp only[af];exact⟨_,rfl,(),by rw[bY];exact Di (show off+k*n<=cs0.length by omega),rfl⟩
  rw[H.dL hr];congr 2
  rw[List.take_take];congr 1
  rw[Nat.min_eq_left hk']
 case emp b off l n' k'=>
  refine⟨by simp,fun w=>by simp[aa,Builtin.lenOf],fun w _ k hk=>?_⟩;have:k=0:=by omega
  subst this;simp[aa,Builtin.firstCells,loadCells,loadCellsFrom]
 case raw v=>
  have key:∃a c,v= .slice a 0 c/\m=0/\news=[]:=by
   split at hs
   all_goals first
    |(rename_i hv;cases hv;cases hs;exact⟨_,_,rfl,rfl,rfl⟩)
    |(rename_i hv;cases hv;done)
    |(cases hs;done)
  obtain⟨a,c,rfl,rfl,rfl⟩:=key;refine⟨by simp,fun w=>by simp[aa,Builtin.lenOf],fun w _ k hk=>?_⟩;have:k=0:=by omega
  subst this
  cases a<;>simp[aa,Builtin.firstCells,loadCells,loadCellsFrom]
theorem Ci {argTypes:Array TypeId} {t u ty e:TypeId} {du:TypeDesc} {i:TypeInfo} (h0:argTypes[0]? =some t) (h1:argTypes[1]? =some u)
  (ht:P.underlying t=some (.slice e)) (hu:P.underlying u=some du) (hnz:∀k,du≠ .int k) (hi:P.info? e=some i)
  {base:Option Addr} {sLen sCap m:Nat} {Y:Value} {news:Array Value} (hlen:(Builtin.lenOf Y).run P w= .ok m w)
  (hf:(Builtin.firstCells i.size m Y).run P w= .ok news w) (hroom:sLen+m<=sCap):
  (Builtin.append_ argTypes ty #[.slice base sLen sCap,Y]).run P w=
   (match base with
    |none=>(Result.ok () w:Result Unit)
    |some a=>(storeCells (a.add (sLen*i.size)) news.toList).run P w).andThen fun _ w'=> .ok (.slice base (sLen+m) sCap) w':=by
 unfold Builtin.append_;simp only[h0,h1,AE,Aw,AJ];simp only[Sem.run_bind,underlying,run_program,Result.andThen_ok,ht,hu,Sem.run_pure,sizeOf,typeInfo,hi,Ah,Ax,hlen,Du,AK,Ai hroom,hf]
 cases base<;>simp[Result.andThen]
theorem Ch {argTypes:Array TypeId} {t u ty e:TypeId} {du:TypeDesc} {i:TypeInfo} {z:Value} (h0:argTypes[0]? =some t) (h1:argTypes[1]? =some u)
  (ht:P.underlying t=some (.slice e)) (hu:P.underlying u=some du) (hnz:∀k,du≠ .int k) (hi:P.info? e=some i) (hzero:i.zero=some z)
  {base:Option Addr} {sLen sCap m:Nat} {Y:Value} {olds news:Array Value} (hlen:(Builtin.lenOf Y).run P w= .ok m w)
  (hf:(Builtin.firstCells i.size m Y).run P w.drew= .ok news w.drew) (ho:(Builtin.firstCells i.size sLen (.slice base sLen sCap)).run P w.drew= .ok olds w.drew)
  (hroom:¬sLen+m<=sCap) (h63:sLen+m<=16777216) (hb:(sLen+m)*i.bytes<=16777216):
  (Builtin.append_ argTypes ty #[.slice base sLen sCap,Y]).run P w=
   .ok (.slice (some ⟨w.heap.size,0,none⟩) (sLen+m) (grownCap w (sLen+m) sCap e))
    (w.drew.alloc (.cells (olds++news++Builtin.zeroCells z.cells (grownCap w (sLen+m) sCap e - (sLen+m))) e)):=by
 have hfit:=growslice_fits (need:=sLen+m) (old:=sCap) (bytes:=i.bytes) (by omega) (by omega);have h63':¬(((sLen+m:Nat):Int)>IntKind.i64.max/\(False\/i.bytes=0)):=by
  have:IntKind.i64.max=9223372036854775807:=by decide
  rw[this];omega
 have hfit':¬(Builtin.nextslicecap (sLen+m) sCap*i.bytes>2 ^ 48):=by
  have:(2:Nat) ^ 48=281474976710656:=by decide
  rw[this];omega
 have hq:(Question.appendCap (sLen+m) sCap e).cut (w.tape w.drawn (.appendCap (sLen+m) sCap e))=grownCap w (sLen+m) sCap e:=rfl;unfold Builtin.append_;simp only[h0,h1,AE,Aw,AJ];simp only[Sem.run_bind,underlying,run_program,Result.andThen_ok,ht,hu,Sem.run_pure,sizeOf,typeInfo,hi,Ah,Ax,hlen,Du,AK,Ae hroom];rw[Ae (by simpa using h63')];simp only[Sem.run_bind,run_program,Result.andThen_ok,hi,Sem.run_pure];rw[Ae hfit'];simp only[Sem.run_bind,run_choose,Question.forced,Ah,Ax,Result.andThen_ok,hq,World.drew_eq,run_askRoom,ho,hf,zeroValue,typeInfo,run_program,hi,hzero,Sem.run_pure,lk,World.size_drew]
theorem wk (ok:aV P tab) {e:TypeId} {n:Nat} {u:Unit} (hz:ib tab e n= .ok u):
   ∃z,(∀E,∀i,P.info? e=some i->i.zero=some (aa E z))/\ ∀E,(aa E z).cells.size=n:=by
 unfold ib at hz;obtain⟨z,h1,hzz⟩:=af.1 hz;clear hz;have hz:=hzz;clear hzz;obtain⟨zc,h2,hzz⟩:=af.1 hz;clear hz;have hz:=hzz;clear hzz;have h3:=Aa (bY.1 hz);obtain⟨i,hi,hzz⟩:=ok.gD _ _ (bw.1 h1);refine⟨z,fun E i' hi'=>?_,fun E=>?_⟩
 . rw[hi]at hi';cases hi';exact hzz E
 . rw[ja h2];simpa using h3
theorem xZ (H:aU E h K w) (hE:E.aG h.next=w.heap.size) (cs:List AV) (e:TypeId) (n c:Nat) {zs:Array Value} (hc:E.cap h.next=c)
  (hs:cs.length+zs.size=c*n):
  aU E (h.new (.cells cs e n true .rw)) K (w.alloc (.cells ((aJ E cs).toArray++zs) e))/\Kept K w (w.alloc (.cells ((aJ E cs).toArray++zs) e)):=
 ⟨H.new hE ⟨_,_,rfl,⟨zs.toList,by simp⟩,by simp[hc];exact hs,rfl⟩,Kept.alloc H.kb _⟩
theorem Hl (H:aU E h K w) (hE:E.aG h.next=w.heap.size) (cs:List AV) (e:TypeId) (n c:Nat) (bk:BK) (hno:bk≠ .ro) (hbk:∀n,marks bk (0,0) n) {zs:Array Value} (hc:E.cap h.next=c)
  (hs:cs.length+zs.size=c*n):
  aU E (h.new (.cells cs e n true bk)) K (w.alloc (.cells ((aJ E cs).toArray++zs) e))/\Kept K w (w.alloc (.cells ((aJ E cs).toArray++zs) e)):=
 ⟨H.new hE ⟨_,_,rfl,⟨zs.toList,by simp⟩,by simp[hc];exact hs,hbk _⟩ (by cases bk<;>simp_all[AO.ro]),Kept.alloc H.kb _⟩
def jd (w:World) (X:Value) (m:Nat) (e:TypeId):Nat×Nat:=
 match X with
 | .slice base n c=>if n+m<=c then((base.map (·.block)).getD 0,c)else(w.heap.size,grownCap w (n+m) c e)
 |_=>(0,0)
structure fX (P:Program) (E:Env) (h:AH) (K:KS) (argTypes:Array TypeId) (ty e:TypeId) (i:TypeInfo) (Y:Value) (m:Nat) (news:List AV):Prop where
 len:news.length=m*i.size
 room:∀(w:World),aU E h K w->∀(base:Option Addr) (sLen sCap:Nat),sLen+m<=sCap->
  (Builtin.append_ argTypes ty #[.slice base sLen sCap,Y]).run P w=
   (match base with
    |none=>(Result.ok () w:Result Unit)
    |some a=>(storeCells (a.add (sLen*i.size)) (aJ E news)).run P w).andThen fun _ w'=> .ok (.slice base (sLen+m) sCap) w'
 grow:∀(w:World),aU E h K w->∀(base:Option Addr) (sLen sCap:Nat) (olds:Array Value) (z:Value),i.zero=some z->
  (Builtin.firstCells i.size sLen (.slice base sLen sCap)).run P w.drew= .ok olds w.drew->
  ¬sLen+m<=sCap->sLen+m<=16777216->(sLen+m)*i.bytes<=16777216->
  (Builtin.append_ argTypes ty #[.slice base sLen sCap,Y]).run P w=
   .ok (.slice (some ⟨w.heap.size,0,none⟩) (sLen+m) (grownCap w (sLen+m) sCap e))
    (w.drew.alloc (.cells (olds++(aJ E news).toArray++Builtin.zeroCells z.cells (grownCap w (sLen+m) sCap e - (sLen+m))) e))
theorem tZ {argTypes:Array TypeId} {t u ty e:TypeId} {du:TypeDesc} {i:TypeInfo} (h0:argTypes[0]? =some t) (h1:argTypes[1]? =some u)
   (ht:P.underlying t=some (.slice e)) (hu:P.underlying u=some du) (hnz:∀k,du≠ .int k) (hi:P.info? e=some i) {n m:Nat} (hin:i.size=n)
   {y:AV} {news:List AV} (hs:source h n y= .ok (m,news)):fX P E h K argTypes ty e i (aa E y) m news:=by
 obtain⟨hnl,hlen,hf⟩:=vI (P:=P) (E:=E) (K:=K) hs;have hfm:∀w:World,aU E h K w->(Builtin.firstCells i.size m (aa E y)).run P w= .ok (aJ E news).toArray w:=by
   intro w H;have:=hf w H m (Aj _);rw[A2 (by omega)]at this;rw[hin];exact this
 refine⟨by rw[hin];exact hnl,?_,?_⟩
 . intro w H base sLen sCap hr;rw[Ci h0 h1 ht hu hnz hi (hlen w) (hfm w H) hr]
 . intro w H base sLen sCap olds z hz ho hr h63 hb;exact Ch h0 h1 ht hu hnz hi hz (hlen w) (hfm w.drew H.drew) ho hr h63 hb
theorem uf {argTypes:Array TypeId} {t u ty e:TypeId} {k:IntKind} {i:TypeInfo} (h0:argTypes[0]? =some t) (h1:argTypes[1]? =some u)
   (ht:P.underlying t=some (.slice e)) (hu:P.underlying u=some (.int k)) (hi:P.info? e=some i) {z:AV} (hz:i.zero=some (aa E z)) {zc:List AV} (hzc:z.cells= .ok zc)
   (hzl:zc.length=i.size) (hi0:i.size≠0) {y:AV} {m:Nat} (hy:asNat y= .ok m) (hm:m<=1048576) (hmb:m*i.bytes<=16777216):fX P E h K argTypes ty e i (aa E y) m (rep m zc):=by
 obtain⟨ky,rfl⟩:=jC hy;have hzz:Builtin.zeroCells (aa E z).cells m=(aJ E (rep m zc)).toArray:=by
   rw[ja hzc,nF];exact vp m _ (by simp;omega)
 have hrl:(rep m zc).length=m*i.size:=by
   have:=AN List.length (nF E m zc);rw[aX,rR,aX,hzl]at this;exact this
 have hwrap:IntKind.i64.wrap (m:Int)=m:=by rw[IntKind.wrap_i64];omega
 have hb48:¬((m:Int)*(i.bytes:Int)>2 ^ 48):=by
   have h3:((m*i.bytes:Nat):Int)<=((16777216:Nat):Int):=Int.ofNat_le.2 hmb;rw[Int.natCast_mul]at h3;omega
 have happ:∀w:World,(if m*i.size=0 then pure #[]else do pure (Builtin.zeroCells (<-zeroValue e).cells m):Sem (Array Value)).run P w= .ok (aJ E (rep m zc)).toArray w:=by
   intro w;by_cases h00:m*i.size=0
   . rw[Ai h00];have:rep m zc=[]:=AF (by rw[hrl,h00]);rw[this];rfl
   . rw[Ae h00];simp only[Sem.run_bind,zeroValue,typeInfo,run_program,Result.andThen_ok,hi,hz,Sem.run_pure,hzz]
 refine⟨hrl,?_,?_⟩
 . intro w H base sLen sCap hr;unfold Builtin.append_;simp only[h0,h1,AE,Aw,AJ];simp only[Sem.run_bind,underlying,run_program,Result.andThen_ok,ht,hu,Sem.run_pure,sizeOf,typeInfo,hi,AK,aa,Go.asInt,Go.asIntOf,hwrap];rw[Ae (by omega)];simp only[Sem.run_bind,run_program,Result.andThen_ok,hi,Sem.run_pure];rw[Ae hb48];simp only[Sem.run_bind,Sem.run_pure,Result.andThen_ok,Dx,Ai hr,BQ,Ah,Ax];have:=happ w;simp only[zeroValue,typeInfo]at this;simp only[zeroValue,typeInfo];rw[this]
   cases base<;>simp[Result.andThen]
 . intro w H base sLen sCap olds z' hz' ho hr h63 hb;rw[hz]at hz'
   cases hz';have hfit:=growslice_fits (need:=sLen+m) (old:=sCap) (bytes:=i.bytes) (by omega) (by omega);have h63':¬(((sLen+m:Nat):Int)>IntKind.i64.max/\(True\/i.bytes=0)):=by
     have:IntKind.i64.max=9223372036854775807:=by decide
     rw[this];omega
   have hfit':¬(Builtin.nextslicecap (sLen+m) sCap*i.bytes>2 ^ 48):=by
     have:(2:Nat) ^ 48=281474976710656:=by decide
     rw[this];omega
   have hq:(Question.appendCap (sLen+m) sCap e).cut (w.tape w.drawn (.appendCap (sLen+m) sCap e))=grownCap w (sLen+m) sCap e:=rfl;unfold Builtin.append_;simp only[h0,h1,AE,Aw,AJ];simp only[Sem.run_bind,underlying,run_program,Result.andThen_ok,ht,hu,Sem.run_pure,sizeOf,typeInfo,hi,AK,aa,Go.asInt,Go.asIntOf,hwrap];rw[Ae (by omega)];simp only[Sem.run_bind,run_program,Result.andThen_ok,hi,Sem.run_pure];rw[Ae hb48];simp only[Sem.run_bind,Sem.run_pure,Result.andThen_ok,Dx,Ae hr,BQ,Ah,Ax,run_program,hi];rw[Ae h63'];simp only[Sem.run_bind,run_program,Result.andThen_ok,hi,Sem.run_pure];rw[Ae hfit'];simp only[Sem.run_bind,run_choose,Question.forced,Ah,Ax,Result.andThen_ok,hq,World.drew_eq,run_program,hi,Sem.run_pure,run_askRoom,ho];have:=happ w.drew;simp only[zeroValue,typeInfo]at this;simp only[zeroValue,typeInfo];rw[this];simp only[Sem.run_bind,Result.andThen_ok,run_program,hi,hz,Sem.run_pure,lk,World.size_drew]
include ok
theorem uM (H:aU E h K w) {argTypes:Array TypeId} {ty e:TypeId}
   {n by_ m:Nat} (hn:siz tab e= .ok n) (hn0:n≠0) (hby:tab.byt.get e=some by_)
   {x v:AV} {Y:Value} {news:List AV} {h':AH} (hsrc:∀i,P.info? e=some i->fX P E h K argTypes ty e i Y m news) (ha:aW tab h e n by_ x m news= .ok (v,h'))
   (hE:h.next<h'.next->E.aG h.next=(jd w (aa E x) m e).1/\E.cap h.next=(jd w (aa E x) m e).2):
   (h.next<=h'.next/\h'.next<=h.next+1)/\ ∃w',(Builtin.append_ argTypes ty #[aa E x,Y]).run P w= .ok (aa E v) w'/\aU E h' K w'/\Kept K w w':=by
 obtain⟨i,hi,hin⟩:=ok.siz _ _ (bw.1 hn);obtain⟨i',hi',hiby⟩:=ok.byt _ _ hby;rw[hi]at hi';cases hi';have hS:=hsrc i hi;have hnl:news.length=m*n:=by rw[<-hin];exact hS.len
 unfold aW at ha;split at ha
 ·
   by_cases hm:Nat.beq m 0=true
   . rw[hm]at ha
     cases ha;have:=Aa hm;subst this;refine⟨by omega,w,?_,H,Kept.refl K w⟩;simp only[aa];rw[hS.room w H _ _ _ (by omega)];rfl
   . have hm':Nat.beq m 0=false:=Ar.2 hm;rw[hm']at ha;simp only[AB]at ha;obtain⟨_,hc,haz⟩:=af.1 ha;clear ha;have ha:=haz;clear haz;obtain⟨_,hzo,haz⟩:=af.1 ha;clear ha;have ha:=haz;clear haz;obtain⟨⟨h2,b2⟩,hr,haz⟩:=af.1 ha;clear ha;have ha:=haz;clear haz
     cases ha;obtain⟨n',hn',rfl,rfl⟩:=eW hr;rw[hn]at hn';cases hn';have hc:=bY.1 hc;rw[Ab]at hc;have hc1:=Ag hc.1;have hc2:=Ag hc.2;have hm0:¬m<=0:=fun h=>hm (by rw[EA.1 h];rfl)
     obtain⟨z,hz,hzl⟩:=wk ok hzo;have hzi:=hz E i hi;obtain⟨hE1,hE2⟩:=hE (by simp);simp only[aa,jd,A4,Ae hm0]at hE1 hE2;have hrun:=hS.grow w H none 0 0 #[] _ hzi
      (by simp[Builtin.firstCells]) (by omega) (by omega) (by rw[hiby];simpa using hc1)
     simp only[A4,Array.empty_append]at hrun;obtain⟨H',hk⟩:=xZ (w:=w.drew) H.drew (by simpa using hE1) news e n (grownCap w m 0 e) (zs:=Builtin.zeroCells (aa E z).cells (grownCap w m 0 e - m))
      (by rw[hE2]) (by
        have:=grownCap_ge w m 0 e;rw[size_zeroCells,hzl E,hnl,<-A7];congr 1
        omega)
     refine⟨by simp,_,?_,H',(Kept.drew K w).trans hk⟩;simp only[aa,dX.val,hE1,hE2,Bu];exact hrun
 . rename_i b off len cap;obtain⟨c,hc,haz⟩:=af.1 ha;clear ha;have ha:=haz;clear haz;obtain⟨⟨cs,e',sz,ext,bk⟩,hcs,haz⟩:=af.1 ha;clear ha;have ha:=haz;clear haz;obtain⟨_,hty,haz⟩:=af.1 ha;clear ha;have ha:=haz;clear haz;obtain⟨_,hsz,haz⟩:=af.1 ha;clear ha;have ha:=haz;clear haz;have hcap:=r8 H hc;have hcs:=eJ hcs;have hty:=bY.1 hty;rw[Ab]at hty;have hty1:=Aa hty.1;have hty2:=Aa hty.2;subst hty1 hty2;have hsz:=bY.1 hsz;rw[Ab]at hsz;have hsz1:=Ag hsz.1;have hsz2:=Ag hsz.2;by_cases hroom:Nat.ble (len+m) c=true
   ·
     rw[hroom]at ha;simp only[AY]at ha;obtain⟨h2,hw,haz⟩:=af.1 ha;clear ha;have ha:=haz;clear haz
     cases ha;have hle:=Ag hroom;obtain⟨w',hst,H',hk⟩:=pc (P:=P) H hw;refine⟨by rw[pj hw];omega,w',?_,H',hk⟩;simp only[aa];rw[hS.room w H _ _ _ (by omega)];simp only[add_lit,hin];rw[hst];rfl
   . have hroom':Nat.ble (len+m) c=false:=Ar.2 hroom;rw[hroom']at ha;simp only[AB]at ha;obtain⟨_,hold,haz⟩:=af.1 ha;clear ha;have ha:=haz;clear haz;obtain⟨_,hzo,haz⟩:=af.1 ha;clear ha;have ha:=haz;clear haz;have hold:=Ag (bY.1 hold);obtain⟨z,hz,hzl⟩:=wk ok hzo;have hzi:=hz E i hi;have hnr:¬len+m<=c:=fun h=>hroom (Di h)
     have hro:∀w:World,aU E h K w->(Builtin.firstCells i.size len (.slice (some ⟨E.aG b,off,none⟩) len (cap.val (E.cap b)))).run P w= .ok (aJ E ((cs.drop off).take (len*sz))).toArray w:=by
      intro w H;rw[hin];have hr:readN h b off (len*sz)= .ok ((cs.drop off).take (len*sz)):=by
        unfold readN fv;rw[hcs];simp only[af];exact⟨_,rfl,(),by rw[bY];exact Di (show off+len*sz<=cs.length by omega),rfl⟩
      exact H.dL hr
     have hol:((cs.drop off).take (len*sz)).length=len*sz:=by simp;omega
     cases cap with
     |lit cn=>
      simp only at ha;obtain⟨⟨h2,b2⟩,hr,haz⟩:=af.1 ha;clear ha;have ha:=haz;clear haz
      cases ha;obtain⟨n',hn',rfl,rfl⟩:=eW hr;rw[hn]at hn';cases hn';have hcn:c=cn:=by simp only[capLow]at hc;cases hc;rfl
      subst hcn;obtain⟨hE1,hE2⟩:=hE (by simp);simp only[aa,jd,dX.val,Ae hnr]at hE1 hE2;have hrun:=hS.grow w H (some ⟨E.aG b,off,none⟩) len c _ _ hzi
        (hro w.drew H.drew) hnr hsz2 (by rw[hiby];exact hsz1)
      obtain⟨H',hk⟩:=xZ (w:=w.drew) H.drew (by simpa using hE1) ((cs.drop off).take (len*sz)++news) e sz (grownCap w (len+m) c e) (zs:=Builtin.zeroCells (aa E z).cells (grownCap w (len+m) c e - (len+m)))
        (by rw[hE2]) (by
          have:=grownCap_ge w (len+m) c e;rw[size_zeroCells,hzl E,BG,hol,hnl,<-A7,<-A7];congr 1
          omega)
      refine⟨by simp,_,?_,H',(Kept.drew K w).trans hk⟩;simp only[aa,dX.val,hE1,hE2,Bu];rw[hrun];simp
     | tail k=>
      simp only at ha;obtain⟨_,htl,haz⟩:=af.1 ha;clear ha;have ha:=haz;clear haz;obtain⟨⟨h2,b2⟩,hr,haz⟩:=af.1 ha;clear ha;have ha:=haz;clear haz
      cases ha;obtain⟨n',hn',rfl,rfl⟩:=eW hr;rw[hn]at hn';cases hn';have htl:=bY.1 htl;simp only[Ab]at htl;obtain⟨⟨⟨⟨⟨htl1,htl2⟩,hext⟩,hbk⟩,hbk2⟩,hone⟩:=htl;have htl1:=Aa htl1;have htl2:=Aa htl2;subst htl1 htl2;have hbk:bk≠ .ro/\bk≠ .cold:=⟨by simpa using hbk,by simpa using hbk2⟩;have hnro:¬(AO.cells cs e sz ext bk).ro:=by cases bk<;>simp_all[AO.ro]
      obtain⟨arr,fz,hh,⟨rest,harr⟩,hasz,hm⟩:=H.cells hcs;rw[Ai hext]at hasz;have hcl:cs.length<=arr.size:=by
        have:=AN List.length harr;simp at this;omega
      obtain⟨hE1,hE2⟩:=hE (by simp);simp only[aa,jd,dX.val,Bu]at hE1 hE2;by_cases hfit:len+m<=E.cap b
      . rw[Ai hfit]at hE1 hE2;simp only[AS,AA]at hE1 hE2;have hbound:(len+m)*sz<=arr.size:=by rw[hasz];exact A6 _ hfit
        rw[A7]at hbound;have hst:=rv (P:=P) (E.aG b) (len*sz) e fz (aJ E news) 0 arr w hh (vD hm hbk) (by simp;omega)
          (by
            intro v hv;rw[jE]at hv;obtain⟨u,hu,rfl⟩:=A1.1 hv;exact vm (Av.1 hone u hu))
        have e1:(arr.toList.take (len*sz+0)++aJ E news++arr.toList.drop (len*sz+0+(aJ E news).length)).length=arr.size:=by
          simp;omega
        refine⟨by simp,_,?_,H.rename (c:= .cells (arr.toList.take (len*sz+0)++aJ E news++arr.toList.drop (len*sz+0+(aJ E news).length)).toArray e fz) hcs hnro hE1 ?_ (fun hx=>by cases bk<;>exact hx),H.bj hcs hnro _⟩
        . simp only[aa,dX.val,Bu];rw[hS.room w H _ _ _ (by omega)];simp only[add_lit,hin,A4];rw[hst,AH.dg,hE1,hE2];rfl
        . refine⟨_,fz,rfl,⟨arr.toList.drop (len*sz+0+(aJ E news).length),?_⟩,?_,?_⟩
          . simp only[A9,bG,nv,harr];rw[D7 (by simp;omega)]
          . rw[Ai rfl,Bj,e1,hE2];exact hasz
          . rw[Bj,e1]
            cases bk with
            |rw=>exact hm
            |mark=>exact .inr hm
            |any=>exact hm
            |ro=>exact absurd rfl hbk.1
            |cold=>exact absurd rfl hbk.2
      . rw[Ae hfit]at hE1 hE2;have hrun:=hS.grow w H (some ⟨E.aG b,0,none⟩) len (E.cap b) _ _ hzi
          (by have:=hro w.drew H.drew;simpa [dX.val]using this) hfit hsz2 (by rw[hiby];exact hsz1)
        obtain⟨H',hk⟩:=Hl (w:=w.drew) (h:=h.kill b) (H.drew.kill b) (by simpa using hE1) (cs.take (len*sz)++news) e sz (grownCap w (len+m) (E.cap b) e)
          bk.grown (by cases bk<;>simp[BK.grown]) (by cases bk<;>simp_all[marks,BK.grown])
          (zs:=Builtin.zeroCells (aa E z).cells (grownCap w (len+m) (E.cap b) e - (len+m)))
          (by simpa using hE2) (by
            have:=grownCap_ge w (len+m) (E.cap b) e;rw[size_zeroCells,hzl E,BG,hnl,BZ,Nat.min_eq_left (by omega),<-A7,<-A7];congr 1
            omega)
        refine⟨by simp,_,?_,H',(Kept.drew K w).trans hk⟩;simp only[aa,dX.val,AH.dg,hE1,hE2,Bu];rw[hrun];simp
 . cases ha
end
end
section
variable [Inhabited aE]
theorem xw {w:World} {g:Nat} {o:Obj} (hg:w.heap[g]? =some o):w.put g o=w:=by
 unfold World.put;have hlt:=(Ad.1 hg).1;have he:=(Ad.1 hg).2;have:w.heap.setIfInBounds g o=w.heap:=by
  apply DP
  . simp
  . intro i h1 h2;rw[BW (by simpa using h2)];split
    . rename_i e;subst e;exact he.symm
    . rfl
 rw[this]
section
variable {P:Program} {tab:aM} (ok:aV P tab) {E:Env} {h:AH} {K:KS} {w:World}
theorem iD {b:Nat} {es:List (AV×AV×Nat)} {c:Nat} (hm:gU h b= .ok (es,c)):h.get b=some (.mp es c):=by
 unfold gU at hm;split at hm
 . rename_i heq;cases hm;exact heq
 . cases hm
theorem aU.map (H:aU E h K w) {b:Nat} {es:List (AV×AV×Nat)} {c:Nat} (hm:h.get b=some (.mp es c)):
  w.heap[E.aG b]? =some (.map (es.map (bD E)).toArray c):=by
 obtain⟨o,h1,h2⟩:=H.obj b _ hm;rw[h1,h2]
theorem iC {b c:Nat} {es:Array MapEntry} (hb:w.heap[b]? =some (.map es c)):(getObj b).run P w= .ok (.map es c) w:=by
 simp[getObj,Sem.run,hb]
theorem kr {b c:Nat} {es:Array MapEntry} (hb:w.heap[b]? =some (.map es c)) (o:Obj):(setObj b o).run P w= .ok () (w.put b o):=by
 simp[setObj,Sem.run,hb,World.put]
include ok
theorem zP (d:Nat) (empty:Bool) (ck:TypeId->AV->R Unit)
  (hck:∀t v u,ck t v= .ok u->∀w,(Instr.checkKey empty d t (aa E v)).run P w= .ok () w) (cs:List AV):
  ∀ (fs:List Field) (u:Unit),nO tab ck cs fs= .ok u->∀w,
    (forIn fs PUnit.unit (fun(f:Field) (_:PUnit)=>(do
     if f.name≠ "_" then
      Instr.checkKey empty d f.type (<-Go.part f.type (aJ E cs).toArray f.offset)
      pure (ForInStep.yield PUnit.unit)
     else pure (ForInStep.yield PUnit.unit):Sem (ForInStep PUnit)))).run P w= .ok PUnit.unit w:=by
 intro fs;induction fs with
 |nil=>intro u hu w;rfl
 |cons f fs ih=>
  intro u hu w;simp only[nO]at hu;simp only[List.forIn_cons];by_cases hn:f.name≠ "_"
  . rw[Ai hn]at hu;obtain⟨x,hx,hu⟩:=af.1 hu;obtain⟨_,hc,hu⟩:=af.1 hu;simp only[Ai hn,Sem.run_bind,nL ok hx,Result.andThen_ok,hck _ _ _ hc,Sem.run_pure];exact ih u hu w
  . rw[Ae hn]at hu;simp only[Ae hn,Sem.run_bind,Sem.run_pure,Result.andThen_ok];exact ih u hu w
theorem ET (empty:Bool):∀(d:Nat) (t:TypeId) (v:AV) (u:Unit),jO tab d t v= .ok u->∀(k:Nat) (w:World),
  (Instr.checkKey empty (d+k) t (aa E v)).run P w= .ok () w:=by
 intro d;induction d with
 |zero=>intro t v u hu;cases hu
 |succ d ih=>
  intro t v u hu k w;simp only[jO]at hu;obtain⟨x,hx,hu⟩:=af.1 hu;have hP:=ok.und t x (bw.1 hx);rw[show d+1+k=(d+k)+1 from by omega];split at hu
  . cases hu
  . cases hu
  . rename_i fs cs _;unfold Instr.checkKey;simp only[Sem.run_bind,underlying,run_program,Result.andThen_ok,hP,Sem.run_pure,aa];rw[<-Array.forIn_toList];have:=zP ok (d+k) empty (jO tab d) (fun t v u hu w=>ih t v u hu k w) cs fs.toList u hu w;rw[this];rfl
  . cases hu
  . rename_i h1 h2 h3 h4;unfold Instr.checkKey;simp only[Sem.run_bind,underlying,run_program,Result.andThen_ok,hP,Sem.run_pure];clear hx hP
    cases x<;>first|rfl|exact(h1 _ rfl).elim|exact(h2 _ _ rfl).elim|exact(h4 _ rfl).elim|exact(h3 _ rfl).elim
theorem nE {t:TypeId} {v:AV} {u:Unit} (hc:ckKey tab t v 8= .ok u) (empty:Bool) (w:World):(Instr.checkKey empty 10000 t (aa E v)).run P w= .ok () w:=
 ET ok empty 8 t v u hc 9992 w
theorem zI {t:TypeId} {k:AV}:∀(es:List (AV×AV×Nat)) (i:Nat) (r:Option (Nat×AV×AV×Nat)),findKey tab t k es i= .ok r->∀w,
  (Instr.findAsking t (aa E k) (es.map (bD E)) i).run P w= .ok (r.map fun x=>(x.1,aa E x.2.2.1)) w:=by
 intro es;induction es with
 |nil=>intro i r hr w;simp only[findKey]at hr;cases hr;rfl
 |cons e es ih=>
  intro i r hr w;obtain⟨a,v,n⟩:=e;simp only[findKey]at hr;obtain⟨b,hb,hr⟩:=af.1 hr;have he:=nV ok (E:=E) 8 t _ _ b hb 9992 w;simp only[Ay,Instr.findAsking,Sem.run_bind];have he':(Op.equal t (aa E k) (bD E (a,v,n)).key).run P w= .ok b w:=he;rw[he',Result.andThen_ok]
  cases b with
  |true=>simp only[AK]at hr⊢;cases hr;rfl
  |false=>simp only[Ah,Ax]at hr⊢;exact ih (i+1) r hr w
theorem FC {t:TypeId} {d:TypeDesc} (hd:P.underlying t=some d) {k a:AV} {b:Bool} (hb:eqT tab 8 t k a= .ok b) {b':Bool}
   (hs:Instr.sameNow d (aa E k) (aa E a)=some b'):b'=b:=by
 have h1:=nV ok (E:=E) 8 t k a b hb 0 default;obtain⟨n,hn⟩:∃n,8+0=n+1:=⟨7,rfl⟩;rw[hn]at h1;generalize aa E k=X at*
 generalize aa E a=Y at*
 unfold Instr.sameNow at hs;split at hs
 . split at hs
   . cases hs;rename_i e;subst e;simp only[Op.equalIn,Sem.run_bind,underlying,run_program,Result.andThen_ok,hd,Sem.run_pure,AK]at h1
     cases h1;rfl
   . cases hs
 . cases hs;simp only[Op.equalIn,Sem.run_bind,underlying,run_program,Result.andThen_ok,hd,Sem.run_pure]at h1
   cases h1;rfl
 . cases hs;simp only[Op.equalIn,Sem.run_bind,underlying,run_program,Result.andThen_ok,hd,Sem.run_pure]at h1
   cases h1;rfl
 . cases hs
theorem EZ {t:TypeId} {d:TypeDesc} (hd:P.underlying t=some d) {k:AV}:∀(es:List (AV×AV×Nat)) (i:Nat) (r:Option (Nat×AV×AV×Nat)),findKey tab t k es i= .ok r->∀r',
  Instr.findNow d (aa E k) (es.map (bD E)) i=some r'->r'=r.map fun x=>(x.1,aa E x.2.2.1):=by
 intro es;induction es with
 |nil=>intro i r hr r' hr';simp only[findKey]at hr;cases hr;simp only[D2,Instr.findNow]at hr';cases hr';rfl
 | cons e es ih=>
  intro i r hr r' hr';obtain⟨a,v,n⟩:=e;simp only[findKey]at hr;obtain⟨b,hb,hr⟩:=af.1 hr;simp only[Ay,Instr.findNow]at hr'
  cases hsn:Instr.sameNow d (aa E k) (bD E (a,v,n)).key with
  |none=>rw[hsn]at hr';cases hr'
  |some b'=>
   have:=FC ok (E:=E) hd hb hsn;subst this;rw[hsn]at hr'
   cases b' with
   |true=>simp only[AK]at hr hr';cases hr;cases hr';rfl
   |false=>simp only[Ah,Ax]at hr hr';exact ih (i+1) r hr r' hr'
theorem lj {t:TypeId} {d:TypeDesc} (hd:P.underlying t=some d) {k:AV} {es:List (AV×AV×Nat)} {r:Option (Nat×AV×AV×Nat)} (hr:findKey tab t k es 0= .ok r) (w:World):
  (Instr.findKey t (aa E k) (es.map (bD E))).run P w= .ok (r.map fun x=>(x.1,aa E x.2.2.1)) w:=by
 unfold Instr.findKey;simp only[Sem.run_bind,underlying,run_program,Result.andThen_ok,hd,Sem.run_pure]
 cases hn:Instr.findNow d (aa E k) (es.map (bD E)) 0 with
 |none=>exact zI ok es 0 r hr w
 |some r'=>rw[EZ ok hd es 0 r hr r' hn];rfl
omit ok in
theorem rQ {t:TypeId} {k:AV}:∀(es:List (AV×AV×Nat)) (i:Nat) (j:Nat) (a v:AV) (n:Nat),findKey tab t k es i= .ok (some (j,a,v,n))->i<=j/\es[j - i]? =some (a,v,n):=by
 intro es;induction es with
 |nil=>intro i j a v n h;simp only[findKey]at h;cases h
 | cons e es ih=>
  intro i j a v n h;obtain⟨a',v',n'⟩:=e;simp only[findKey]at h;obtain⟨b,hb,h⟩:=af.1 h
  cases b with
  |true=>simp only[AK]at h;cases h;simp
  |false=>
   simp only[Ah,Ax]at h;obtain⟨h1,h2⟩:=ih (i+1) j a v n h;refine⟨by omega,?_⟩;rw[show j - i=(j - (i+1))+1 from by omega];simpa using h2
omit ok in
theorem zU (H:aU E h K w) {m:AV} {es:List (AV×AV×Nat)} (he:entriesOf h m= .ok es):
   (aa E m= .map none/\es=[])\/ ∃b c,m= .map b/\h.get b=some (.mp es c)/\w.heap[E.aG b]? =some (.map (es.map (bD E)).toArray c):=by
 unfold entriesOf at he;split at he
 . cases he;exact .inl ⟨rfl,rfl⟩
 . obtain⟨⟨es',c⟩,hm,he⟩:=af.1 he
   cases he;exact .inr ⟨_,c,rfl,iD hm,H.map (iD hm)⟩
 . cases he
theorem C7 (H:aU E h K w) {t:TypeId} {m k v:AV} {c:Bool} (hl:lookup tab h t m k c= .ok v):
   (Instr.lookup t (aa E m) (aa E k) c).run P w= .ok (aa E v) w:=by
 unfold lookup at hl;obtain⟨d,hd,hl⟩:=af.1 hl;have hP:=ok.und t d (bw.1 hd);split at hl
 . rename_i kt et;obtain⟨es,hes,hl⟩:=af.1 hl;obtain⟨_,hck,hl⟩:=af.1 hl;obtain⟨r,hr,hl⟩:=af.1 hl;have hkd:∃kd,P.underlying kt=some kd:=by
     unfold ckKey at hck;simp only[jO]at hck;obtain⟨x,hx,_⟩:=af.1 hck;exact⟨x,ok.und _ _ (bw.1 hx)⟩
   obtain⟨kd,hkd⟩:=hkd;have hfind:=lj ok (E:=E) hkd hr w;have hck':∀b,(Instr.checkKey b 10000 kt (aa E k)).run P w= .ok () w:=fun b=>nE ok (E:=E) hck b w
   have hend:(match r.map (fun x=>(x.1,aa E x.2.2.1))with
      |some (_,v)=>do
       let x<-pure (v,true)
       pure (if c then Value.tuple #[x.1, .bool x.2]else x.1)
      |none=>do
       let z<-zeroValue et
       let x<-pure (z,false)
       pure (if c then Value.tuple #[x.1, .bool x.2]else x.1):Sem Value).run P w= .ok (aa E v) w:=by
     cases r with
     |some x=>
      obtain⟨i,a,v',n⟩:=x;simp only at hl
      cases hl;simp only[AS,Sem.run_bind,Sem.run_pure,Result.andThen_ok]
      cases c<;>rfl
     |none=>
      simp only at hl;obtain⟨z,hz,hl⟩:=af.1 hl
      cases hl;simp only[Bv,Sem.run_bind,Sem.run_pure,Result.andThen_ok,lu ok hz E]
      cases c<;>rfl
   unfold Instr.lookup;simp only[Sem.run_bind,underlying,run_program,Result.andThen_ok,hP,Sem.run_pure];rcases zU H hes with⟨h1,rfl⟩|⟨b,c',rfl,_,h2⟩
   . rw[h1];simp only[D2]at hfind;simp only[Sem.run_bind,Sem.run_pure,Result.andThen_ok,hck',A5,hfind];exact hend
   . simp only[aa,Sem.run_bind,iC h2,Sem.run_pure,Result.andThen_ok,hck',A5,hfind];exact hend
 . cases hl
theorem vq {v:AV} (hv:qF v=true) (n:Nat):Instr.sameBits n (aa E v) (aa E v)=true:=by
 cases v<;>simp only[qF]at hv<;>(try cases hv)<;>cases n<;>simp[aa,Instr.sameBits,beq_toListBytes]
theorem FL {v:AV} (hv:oh v=true) (n:Nat):Instr.sameBits (n+1) (aa E v) (aa E v)=true:=by
 cases v<;>simp only[oh]at hv<;>(try exact vq ok hv (n+1))
 rename_i cs;simp only[aa,Instr.sameBits,Dk,BF,Av];intro x hx;have:∀(l:List Value) (x:Value×Value),x∈l.zip l->x.1=x.2/\x.1∈l:=by
  intro l;induction l with
  |nil=>intro x hx;cases hx
  |cons a l ih=>
   intro x hx;simp only[List.zip_cons_cons,An]at hx;rcases hx with rfl|hx
   . exact⟨rfl,by simp⟩
   . have:=ih x hx;exact⟨this.1,by simp[this.2]⟩
 obtain⟨h1,h2⟩:=this _ x (by simpa using hx);rw[jE]at h2;obtain⟨u,hu,hu2⟩:=A1.1 h2;rw[<-h1,<-hu2];exact vq ok (Av.1 hv u hu) n
theorem uL {k:AV} (hk:oh k=true) (w:World):(Instr.keyThatStays (aa E k) (aa E k)).run P w= .ok (aa E k) w:=by
 have:Instr.sameBits 10000 (aa E k) (aa E k)=true:=FL ok hk 9999;simp only[Instr.keyThatStays,this,AK,Sem.run_pure]
omit ok in
theorem F9 {es:List (AV×AV×Nat)} {i:Nat} {a v x:AV} {n:Nat} (hi:es[i]? =some (a,v,n)):
  (es.map (bD E)).toArray.modify i (fun e=>{e with key:=aa E a,val:=aa E x})=((setAt es i (a,x,n)).map (bD E)).toArray:=by
 apply DW;rw[B7];simp only;induction es generalizing i with
 |nil=>simp at hi
 | cons e es ih=>
  cases i with
  |zero=>
   simp only[Aw,Az]at hi;subst hi;simp[setAt,bD,List.modify]
  |succ i=>
   simp only[AJ]at hi;have:=ih hi;simp only[Ay,setAt,Ex];rw[this]
theorem uO (H:aU E h K w) {t:TypeId} {m k x:AV} {h':AH} (hl:mapUpdate tab h t m k x= .ok h'):
   h'.next=h.next/\ ∃w',(Instr.mapUpdate t (aa E m) (aa E k) (aa E x)).run P w= .ok () w'/\aU E h' K w'/\Kept K w w':=by
 unfold mapUpdate at hl;obtain⟨d,hd,hl⟩:=af.1 hl;have hP:=ok.und t d (bw.1 hd);split at hl
 . rename_i kt et b _;obtain⟨⟨es,c⟩,hm,hl⟩:=af.1 hl;obtain⟨_,hck,hl⟩:=af.1 hl;obtain⟨r,hr,hl⟩:=af.1 hl;have hm:=iD hm;have hw:=H.map hm;have hnr:¬(AO.mp es c).ro:=fun h=>h
   obtain⟨kd,hkd⟩:∃kd,P.underlying kt=some kd:=by
    unfold ckKey at hck;simp only[jO]at hck;obtain⟨x,hx,_⟩:=af.1 hck;exact⟨x,ok.und _ _ (bw.1 hx)⟩
   have hfind:=lj ok (E:=E) hkd hr w;have hck':=nE ok (E:=E) hck false w;have hgo:(Instr.mapUpdate t (aa E (.map b)) (aa E k) (aa E x)).run P w=(match r.map (fun x=>(x.1,aa E x.2.2.1))with
     |some (i,_)=>do
      let key<-Instr.keyThatStays ((((es.map (bD E)).toArray[i]?).map (·.key)).getD (aa E k)) (aa E k)
      setObj (E.aG b) (.map ((es.map (bD E)).toArray.modify i fun e=>{e with key,val:=aa E x}) c)
     |none=>setObj (E.aG b) (.map ((es.map (bD E)).toArray.push {key:=aa E k,val:=aa E x,born:=c}) (c+1)):Sem Unit).run P w:=by
    unfold Instr.mapUpdate;simp only[Sem.run_bind,underlying,run_program,Result.andThen_ok,hP,Sem.run_pure,aa,iC hw,hck',A5,hfind]
    cases r<;>rfl
   rw[hgo]
   cases r with
   | some y=>
    obtain⟨i,a,v,n⟩:=y;simp only at hl;obtain⟨_,hb,hl⟩:=af.1 hl
    cases hl;have hb:=bY.1 hb;rw[Ab]at hb;have:=AV.beq_eq _ _ hb.1;subst this;obtain⟨_,hat⟩:=rQ es 0 i a v n hr;simp only[Bu]at hat
    have hkey:(((es.map (bD E)).toArray[i]?).map (·.key)).getD (aa E a)=aa E a:=by
     simp[hat,bD]
    refine⟨rfl,_,?_,H.put hm hnr (c:= .map ((setAt es i (a,x,n)).map (bD E)).toArray c) rfl,H.bj hm hnr _⟩;simp only[AS];rw[hkey];simp only[Sem.run_bind,uL ok hb.2,Result.andThen_ok,kr hw,F9 hat]
   |none=>
    simp only at hl
    cases hl;refine⟨rfl,_,?_,H.put hm hnr (c:= .map ((es++[(k,x,c)]).map (bD E)).toArray (c+1)) rfl,H.bj hm hnr _⟩;simp only[Bv,kr hw];simp[bD]
 . cases hl
theorem Cu (H:aU E h K w) {t:TypeId} {m k v:AV} {h':AH} (hl:mapEntry tab h t m k= .ok (v,h')):
   h'.next=h.next/\ ∃w',(Instr.mapEntry t (aa E m) (aa E k)).run P w= .ok (aa E v) w'/\aU E h' K w'/\Kept K w w':=by
 unfold mapEntry at hl;obtain⟨d,hd,hl⟩:=af.1 hl;have hP:=ok.und t d (bw.1 hd);split at hl
 . rename_i kt et b _;obtain⟨⟨es,c⟩,hm,hl⟩:=af.1 hl;obtain⟨_,hck,hl⟩:=af.1 hl;obtain⟨r,hr,hl⟩:=af.1 hl;have hm:=iD hm;have hw:=H.map hm;have hnr:¬(AO.mp es c).ro:=fun h=>h
   obtain⟨kd,hkd⟩:∃kd,P.underlying kt=some kd:=by
    unfold ckKey at hck;simp only[jO]at hck;obtain⟨x,hx,_⟩:=af.1 hck;exact⟨x,ok.und _ _ (bw.1 hx)⟩
   have hfind:=lj ok (E:=E) hkd hr w;have hck':=nE ok (E:=E) hck false w
   cases r with
   | some y=>
    obtain⟨i,a,v',n⟩:=y;simp only at hl;obtain⟨_,hb,hl⟩:=af.1 hl
    cases hl;have hb:=bY.1 hb;rw[Ab]at hb;have:=AV.beq_eq _ _ hb.1;subst this;obtain⟨_,hat⟩:=rQ es 0 i a v' n hr;simp only[Bu]at hat
    refine⟨rfl,w,?_,H,Kept.refl K w⟩;have hsame:(es.map (bD E)).toArray.modify i (fun e=>{e with key:=aa E a})=(es.map (bD E)).toArray:=by
     apply DP
     . simp
     . intro j h1 h2;rw[Dm];split
       . rename_i e;subst e;have:(es.map (bD E)).toArray[i]? =some (bD E (a,v',n)):=by simp[hat]
         rw[Ad]at this;obtain⟨_,h3⟩:=this;rw[h3];rfl
       . rfl
    unfold Instr.mapEntry;simp only[Sem.run_bind,underlying,run_program,Result.andThen_ok,hP,Sem.run_pure,aa,iC hw,hck',A5,hfind,AS];have hkey:(((es.map (bD E)).toArray[i]?).map (·.key)).getD (aa E a)=aa E a:=by
     simp[hat,bD]
    have hati:(es.map (bD E)).toArray[i]? =some (bD E (a,v',n)):=by simp[hat]
    rw[hkey];simp only[Sem.run_bind,uL ok hb.2,Result.andThen_ok,hsame,kr hw,xw hw,hati,AS,AA];rfl
   |none=>
    simp only at hl;obtain⟨z,hz,hl⟩:=af.1 hl
    cases hl;refine⟨rfl,_,?_,H.put hm hnr (c:= .map ((es++[(k,z,c)]).map (bD E)).toArray (c+1)) rfl,H.bj hm hnr _⟩;unfold Instr.mapEntry;simp only[Sem.run_bind,underlying,run_program,Result.andThen_ok,hP,Sem.run_pure,aa,iC hw,hck',A5,hfind,Bv,lu ok hz E,kr hw];simp[bD,aa,goInt,Go.goInt]
 . cases hl
omit ok in
theorem Cc {n:Nat} {x:AV}:∀(es es':List (AV×AV×Nat)),nQ n x es=some es'->
  ∃ i,(es.map (bD E)).findIdx? (fun e=>(e.born:Int)==(n:Int))=some i/\
    (es.map (bD E)).modify i (fun e=>{e with val:=aa E x})=es'.map (bD E):=by
 intro es;induction es with
 |nil=>intro es' h;simp only[nQ]at h;cases h
 |cons e es ih=>
  intro es' h;obtain⟨a,v,m⟩:=e;simp only[nQ]at h;by_cases hb:Nat.beq m n=true
  . rw[hb]at h
    cases h;have:=Aa hb;subst this;exact⟨0,by simp[Ds,bD],by simp[bD,List.modify]⟩
  . have hb':Nat.beq m n=false:=Ar.2 hb;rw[hb']at h;simp only[AB,Aq]at h;obtain⟨es2,h1,rfl⟩:=h;obtain⟨i,h2,h3⟩:=ih es2 h1;have hne:¬(m:Int)=(n:Int):=fun e=>hb (by rw[Int.ofNat.inj e];exact Bo n)
    refine⟨i+1,?_,by simp[Ex,h3]⟩;simp[Ds,bD,hne]at h2⊢;exact h2
theorem zG (H:aU E h K w) {t:TypeId} {m s x:AV} {h':AH} (hl:entryStore h m s x= .ok h'):
   h'.next=h.next/\ ∃w',(Instr.entryStore t (aa E m) (aa E s) (aa E x)).run P w= .ok () w'/\aU E h' K w'/\Kept K w w':=by
 unfold entryStore at hl;split at hl
 . rename_i b;obtain⟨⟨es,c⟩,hm,hl⟩:=af.1 hl;obtain⟨n,hn,hl⟩:=af.1 hl;obtain⟨es',he,hl⟩:=af.1 hl
   cases hl;have hm:=iD hm;have hw:=H.map hm;have hnr:¬(AO.mp es c).ro:=fun h=>h
   obtain⟨k,rfl⟩:=jC hn;obtain⟨i,h1,h2⟩:=Cc (E:=E) es es' (bw.1 he);refine⟨rfl,_,?_,H.put hm hnr (c:= .map (es'.map (bD E)).toArray c) rfl,H.bj hm hnr _⟩;unfold Instr.entryStore;have h1':(es.map (bD E)).toArray.findIdx? (fun e=>(e.born:Int)==(n:Int))=some i:=by
    simpa using h1
   have h2':(es.map (bD E)).toArray.modify i (fun e=>{e with val:=aa E x})=(es'.map (bD E)).toArray:=by
    apply DW;rw[B7];exact h2
   simp only[aa,Sem.run_bind,iC hw,Result.andThen_ok,Go.asInt,Go.asIntOf,Sem.run_pure,h1',h2',kr hw]
 . cases hl
theorem EW (H:aU E h K w) {argTypes:Array TypeId} {t ty:TypeId} (h0:argTypes[0]? =some t) {m k:AV} {h':AH} (hl:delete tab h t m k= .ok h'):
   h'.next=h.next/\ ∃w',(Builtin.delete_ argTypes ty #[aa E m,aa E k]).run P w= .ok (.tuple #[]) w'/\aU E h' K w'/\Kept K w w':=by
 unfold delete at hl;obtain⟨d,hd,hl⟩:=af.1 hl;have hP:=ok.und t d (bw.1 hd);split at hl
 . obtain⟨_,hck,hl⟩:=af.1 hl
   cases hl;refine⟨rfl,w,?_,H,Kept.refl K w⟩;have hck':=nE ok (E:=E) hck true w;unfold Builtin.delete_;simp only[h0,AE,Aw,AJ,Sem.run_bind,underlying,run_program,Result.andThen_ok,hP,Sem.run_pure,aa,hck']
 . rename_i kt et b _;obtain⟨⟨es,c⟩,hm,hl⟩:=af.1 hl;obtain⟨_,hck,hl⟩:=af.1 hl;obtain⟨r,hr,hl⟩:=af.1 hl;have hm:=iD hm;have hw:=H.map hm;have hnr:¬(AO.mp es c).ro:=fun h=>h
   obtain⟨kd,hkd⟩:∃kd,P.underlying kt=some kd:=by
    unfold ckKey at hck;simp only[jO]at hck;obtain⟨x,hx,_⟩:=af.1 hck;exact⟨x,ok.und _ _ (bw.1 hx)⟩
   have hfind:=lj ok (E:=E) hkd hr w;have hck':=nE ok (E:=E) hck (es.map (bD E)).toArray.isEmpty w
   cases r with
   | some y=>
    obtain⟨i,a,v',n⟩:=y;simp only at hl
    cases hl;refine⟨rfl,_,?_,H.put hm hnr (c:= .map ((es.take i++es.drop (i+1)).map (bD E)).toArray c) rfl,H.bj hm hnr _⟩;obtain⟨_,hat⟩:=rQ es 0 i a v' n hr;simp only[Bu]at hat
    have hlt:i<es.length:=(Ac.1 hat).1;have her:(es.map (bD E)).toArray.eraseIdxIfInBounds i=((es.take i++es.drop (i+1)).map (bD E)).toArray:=by
     apply DW;simp[Array.eraseIdxIfInBounds,hlt,List.eraseIdx_eq_take_drop_succ,Eh,List.map_drop]
    unfold Builtin.delete_;simp only[h0,AE,Aw,AJ,Sem.run_bind,underlying,run_program,Result.andThen_ok,hP,Sem.run_pure,aa,hck',iC hw,A5,hfind,AS,kr hw,her]
   |none=>
    simp only at hl
    cases hl;refine⟨rfl,w,?_,H,Kept.refl K w⟩;unfold Builtin.delete_;simp only[h0,AE,Aw,AJ,Sem.run_bind,underlying,run_program,Result.andThen_ok,hP,Sem.run_pure,aa,hck',iC hw,A5,hfind,Bv,kr hw,xw hw]
 . cases hl
theorem CR (H:aU E h K w) {t:TypeId} {x v:AV} {h':AH} (hl:nY tab h t x= .ok (v,h')) (hE:E.aG h.next=w.heap.size):
   h'.next=h.next+1/\ ∃w',(Instr.range t (aa E x)).run P w= .ok (aa E v) w'/\aU E h' K w'/\Kept K w w':=by
 unfold nY at hl;obtain⟨d,hd,hl⟩:=af.1 hl;have hP:=ok.und t d (bw.1 hd);split at hl
 . cases hl;refine⟨rfl,_,?_,H.new hE rfl,Kept.alloc H.kb _⟩;unfold Instr.range;simp only[Sem.run_bind,underlying,run_program,Result.andThen_ok,hP,Sem.run_pure,aa,run_newObj,hE];rfl
 . cases hl;refine⟨rfl,_,?_,H.new hE rfl,Kept.alloc H.kb _⟩;unfold Instr.range;simp only[Sem.run_bind,underlying,run_program,Result.andThen_ok,hP,Sem.run_pure,aa,run_newObj,hE];rfl
 . rename_i b;obtain⟨⟨es,c⟩,hm,hl⟩:=af.1 hl
   cases hl;have hw:=H.map (iD hm);refine⟨rfl,_,?_,H.new hE rfl,Kept.alloc H.kb _⟩;unfold Instr.range;simp only[Sem.run_bind,underlying,run_program,Result.andThen_ok,hP,Sem.run_pure,aa,iC hw,run_newObj,hE];rfl
 . cases hl
end
end
section
variable [Inhabited aE]
section
variable {P:Program} {tab:aM} (ok:aV P tab) {E:Env} {h:AH} {K:KS} {w:World}
theorem ku {ts:T AV} {ρ:Operand->Value} (hρ:∀x v,ev ts x= .ok v->ρ x=aa E v):∀(l:List Operand) (vs:List AV),fm ts l= .ok vs->l.map ρ=aJ E vs:=by
 intro l;induction l with
 |nil=>intro vs h;simp only[fm]at h;cases h;rfl
 |cons x l ih=>
  intro vs h;simp only[fm]at h;obtain⟨v,hv,h⟩:=af.1 h;obtain⟨vs',hvs,h⟩:=af.1 h
  cases h;simp[hρ x v hv,ih vs' hvs]
theorem u9 {ts:T AV} {ρ:Operand->Value} (hρ:∀x v,ev ts x= .ok v->ρ x=aa E v):∀(l:List (Nat×Operand)) (vs:List (Nat×AV)),hZ ts l= .ok vs->
  l.map (fun p=>(p.1,ρ p.2))=vs.map fun p=>(p.1,aa E p.2):=by
 intro l;induction l with
 |nil=>intro vs h;simp only[hZ]at h;cases h;rfl
 |cons x l ih=>
  intro vs h;obtain⟨i,x⟩:=x;simp only[hZ]at h;obtain⟨v,hv,h⟩:=af.1 h;obtain⟨vs',hvs,h⟩:=af.1 h
  cases h;simp[hρ x v hv,ih vs' hvs]
theorem find_born {n:Nat} {x:AV×AV×Nat}:∀(es:List (AV×AV×Nat)),es.find? (fun x=>Nat.beq x.2.2 n)=some x->(es.map (bD E)).find? (fun e=>e.born==n)=some (bD E x):=by
 intro es;induction es with
 |nil=>intro hx;simp at hx
 |cons e es ih=>
  intro hx;simp only[D9]at hx;simp only[Ay,D9];by_cases hb:Nat.beq e.2.2 n=true
  . rw[hb]at hx
    cases hx;have:((bD E x).born==n)=true:=by simpa [bD]using Aa hb
    rw[this]
  . have hb':Nat.beq e.2.2 n=false:=Ar.2 hb;rw[hb']at hx;have:((bD E e).born==n)=false:=by
     simp only[bD,DQ,BS];intro e';exact hb (by rw[e'];exact Bo n)
    rw[this];exact ih hx
theorem Cb (H:aU E h K w) {it v:AV} (he:sP h it= .ok v):(Instr.entry (aa E it)).run P w= .ok (aa E v) w:=by
 unfold sP at he;split at he
 . rename_i r;split at he
   . rename_i m since seen stepped hr;obtain⟨⟨es,c⟩,hm,he⟩:=af.1 he;obtain⟨_,hck,he⟩:=af.1 he;obtain⟨n,hn,he⟩:=af.1 he;obtain⟨x,hx,he⟩:=af.1 he
     cases he;have hw:=H.map (iD hm);obtain⟨o,ho,hoo⟩:=H.obj r _ hr;simp only[ga]at hoo;subst hoo;have hc:=Aa (bY.1 hck);subst hc;have hn:=bw.1 hn;have hx:=bw.1 hx;have hget:(getObj (E.aG r)).run P w= .ok (.mapIter (some (E.aG m)) since seen.toArray c) w:=by
      simp[getObj,Sem.run,ho]
     have hb:seen.toArray.back? =some n:=by simpa using hn
     have hf:(es.map (bD E)).toArray.find? (fun e=>e.born==n)=some (bD E x):=by
      rw[List.find?_toArray];exact find_born es hx
     unfold Instr.entry;simp only[aa,Sem.run_bind,hget,Result.andThen_ok,hb,iC hw,bne_self_eq_false,Ah,Ax,hf,Sem.run_pure];rfl
   . cases he
 . cases he
theorem C9 {k:IntKind}:∀(l:List AV) (x:Int) (v:AV),lz k x l= .ok v->((aJ E l).foldlM Builtin.min2 (.int k x)).run P w= .ok (aa E v) w:=by
 intro l;induction l with
 |nil=>intro x v h;simp only[lz]at h;cases h;rfl
 |cons a l ih=>
  intro x v h
  cases a<;>simp only[lz]at h<;>(try cases h)
  simp only[aP,List.foldlM_cons,Sem.run_bind,aa,Builtin.min2,Sem.run_pure,Result.andThen_ok];exact ih _ v h
theorem C8 {k:IntKind}:∀(l:List AV) (x:Int) (v:AV),ly k x l= .ok v->((aJ E l).foldlM Builtin.max2 (.int k x)).run P w= .ok (aa E v) w:=by
 intro l;induction l with
 |nil=>intro x v h;simp only[ly]at h;cases h;rfl
 |cons a l ih=>
  intro x v h
  cases a<;>simp only[ly]at h<;>(try cases h)
  simp only[aP,List.foldlM_cons,Sem.run_bind,aa,Builtin.max2,Sem.run_pure,Result.andThen_ok];exact ih _ v h
theorem zY (H:aU E h K w) {argTypes:Array TypeId} {type:TypeId} {x v:AV} {h':AH} (hs:sB h x= .ok (v,h')):
   h'=h/\(Builtin.unsafeSliceData_ argTypes type #[aa E x]).run P w= .ok (aa E v) w:=by
 unfold sB at hs;split at hs
 . cases hs;exact⟨rfl,rfl⟩
 . rename_i b off n cap;obtain⟨c,hc,hs⟩:=af.1 hs;obtain⟨_,h0,hs⟩:=af.1 hs
   cases hs;refine⟨rfl,?_⟩;have hcap:=r8 H hc;have h0:=bY.1 h0;have:cap.val (E.cap b)≠0:=by
    intro e;rw[e]at hcap;have:c=0:=by omega
    subst this;simp at h0
   obtain⟨k,hk⟩:∃k,cap.val (E.cap b)=k+1:=⟨cap.val (E.cap b) - 1,by omega⟩;simp only[aa];rw[hk];rfl
 . cases hs
theorem zW:∀(cs:List AV) (s acc:List UInt8) (b off:Nat),bytesOf cs= .ok s->(∀j v,(aJ E cs)[j]? =some v->w.cell? ⟨b,off+j,none⟩=some v)->
  (Go.loadBytes ⟨b,off,none⟩ ⟨acc.toArray⟩ cs.length).run P w= .ok ⟨(acc++s).toArray⟩ w:=by
 intro cs;induction cs with
 |nil=>intro s acc b off hs _;simp only[bytesOf]at hs;cases hs;simp[Go.loadBytes]
 |cons c cs ih=>
  intro s acc b off hs hc;unfold bytesOf at hs;split at hs
  . rename_i e;cases e
  . rename_i n l e
    cases e;obtain⟨r,hr,hs⟩:=af.1 hs
    cases hs;have h0:=hc 0 (.int .u8 n) rfl;simp only[A9]at h0;simp only[AR,Go.loadBytes,Sem.run_bind,run_load,h0,Result.andThen_ok,add_lit];have hp:(⟨acc.toArray⟩:ByteArray).push ((Int.toNat (n:Int)).toUInt8)=⟨(acc++[UInt8.ofNat n]).toArray⟩:=by
     apply DT;simp[ByteArray.push]
    have hp':(⟨acc.toArray⟩:ByteArray).push ((Int.ofNat n).toNat.toUInt8)=⟨(acc++[UInt8.ofNat n]).toArray⟩:=hp;rw[show((n:Int).toNat.toUInt8)=(Int.ofNat n).toNat.toUInt8 from rfl,hp'];rw[ih r (acc++[UInt8.ofNat n]) b (off+1) hr (fun j v hv=>by
     rw[show off+1+j=off+(j+1)from by omega];exact hc (j+1) v (by simpa using hv))]
    simp
  . cases hs
theorem wg (P:Program):∃d,P.depth=d+1:=⟨2*(P.types.size+Made.depth)+1,rfl⟩
theorem CN {e count off n:Nat} (hs:P.cellsOf e=1) (hl:off+n<=count):liesAt P P.depth e count off e n=true:=by
 obtain⟨d,hd⟩:=wg P;have h1:sameLayout P P.depth e e=true:=by
  rw[hd];simp[sameLayout]
 have h2:rowAt P (sameLayout P P.depth · e) P.depth e count off n=true:=by
  conv=>lhs;arg 3;rw[hd]
  unfold rowAt;simp[hs,Nat.mod_one,h1,hl]
 conv=>lhs;arg 2;rw[hd]
 unfold liesAt;simp only[BM];exact Or.inl h2
theorem yC (argTypes:Array TypeId) (ty:TypeId) (p:Option Addr) (y:Value):Builtin.unsafeString_ argTypes ty #[.pointer p,y]=(do
 let n<-Go.asInt y
 let some pt:=argTypes[0]? |stuck "unsafe.String: no argument types"
 if n<0 then runtimePanic (.error "unsafe.String: len out of range")
 if n>IntKind.i64.max then unsupported (.unsafePointer "String: a length above the largest int")
 match p with
 |none=>
  if n=0 then pure (.string .empty)
  else runtimePanic (.error "unsafe.String: ptr is nil and len is not zero")
 | some a=>
  if n=0 then pure (.string .empty)
  else if<-variablesAt a (<-elemOf pt) n.toNat then do
   let s<-loadBytes a .empty n.toNat
   freeze a n.toNat
   pure (.string s)
  else unsupported (.unsafePointer "String: not so many bytes at ptr")):=rfl
theorem yD {argTypes:Array TypeId} {t ty:TypeId} (h0:argTypes[0]? =some t) (p:Option Addr) (k:IntKind):(Builtin.unsafeString_ argTypes ty #[.pointer p, .int k (0:Nat)]).run P w= .ok (.string .empty) w:=by
 rw[yC];have:¬((0:Int)>IntKind.i64.max):=by decide
 cases p<;>simp[h0,Go.asInt,Go.asIntOf,this]
theorem IU {argTypes:Array TypeId} {t ty u:TypeId} (h0:argTypes[0]? =some t) (ht:P.underlying t=some (.pointer u)) (a:Addr) (k:IntKind) {n:Nat} (hn:n≠0) (hl:n<=1048576)
  (hv:(variablesAt a u n).run P w= .ok true w) {s:ByteArray} (hs:(Go.loadBytes a .empty n).run P w= .ok s w):
  (Builtin.unsafeString_ argTypes ty #[.pointer (some a), .int k (n:Nat)]).run P w= .ok (.string s) (w.freeze a n):=by
 rw[yC];have h1:¬((n:Int)>IntKind.i64.max):=by
  have:IntKind.i64.max=9223372036854775807:=by decide
  rw[this];omega
 have h2:¬((n:Int)<0):=by omega
 have h3:¬((n:Int)=0):=by omega
 simp[h0,Go.asInt,Go.asIntOf,hn,elemOf,underlying,ht,hv,hs,Go.freeze,Sem.run];rw[Ae h2,Ae (by omega)]
include ok in
theorem zz (H:aU E h K w) {argTypes:Array TypeId} {t ty:TypeId} (h0:argTypes[0]? =some t) {x y v:AV} {h':AH} (hs:unsafeString tab h t x y= .ok (v,h')):
   h'.next=h.next/\ ∃w',(Builtin.unsafeString_ argTypes ty #[aa E x,aa E y]).run P w= .ok (aa E v) w'/\aU E h' K w'/\Kept K w w':=by
 unfold unsafeString at hs;obtain⟨n,hn,hs1⟩:=af.1 hs;obtain⟨_,hl,hs2⟩:=af.1 hs1;clear hs hs1;have hl:=Ag (bY.1 hl);obtain⟨k,rfl⟩:=jC hn;split at hs2
 . obtain⟨_,hz,hs3⟩:=af.1 hs2;clear hs2
   cases hs3;have hz:=Aa (bY.1 hz);subst hz;exact⟨rfl,w,yD h0 none k,H,Kept.refl K w⟩
 . rename_i b off;by_cases hn0:n=0
   . subst hn0
     cases hs2;exact⟨rfl,w,yD h0 _ k,H,Kept.refl K w⟩
   . have hnb:Nat.beq n 0=false:=by
       cases hb:Nat.beq n 0
       . rfl
       . exact absurd (Aa hb) hn0
     simp only[hnb,AB]at hs2;obtain⟨d,hd,hs3⟩:=af.1 hs2;clear hs2;have hP:=ok.und t d (bw.1 hd);split at hs3
     . rename_i u;obtain⟨⟨cs,e,sz,ext,bk⟩,hca,hs4⟩:=af.1 hs3;obtain⟨n1,hn1,hs5⟩:=af.1 hs4;obtain⟨_,hck,hs6⟩:=af.1 hs5;obtain⟨l,hr,hs7⟩:=af.1 hs6;obtain⟨s,hbytes,hs8⟩:=af.1 hs7;clear hs3 hs4 hs5 hs6 hs7
       cases hs8;have hck:=bY.1 hck;simp only[Ab]at hck;obtain⟨⟨⟨he,h1⟩,hbk⟩,hbk2⟩:=hck;have he:=Aa he;have h1:=Aa h1;subst he h1;obtain⟨i,hi,hi1⟩:=ok.siz e 1 (bw.1 hn1);have hcells:P.cellsOf e=1:=by simp[Program.cellsOf,hi,hi1]
       have hc:=eJ hca;obtain⟨arr,fz,hw,hrest,hext,hmk⟩:=H.cells hc;have hnr:¬(AO.cells cs e sz ext bk).ro:=by cases bk<;>simp_all[AO.ro]
       obtain⟨hll,hlc⟩:=H.eC hr;have hlen:l.length=n:=by simpa using hll
       have hsz:off+n<=arr.size:=by
         have h3:=hlc (n - 1) ((aJ E l)[n-1]'(by omega)) (by simp);rw[add_lit,cell_of_row w _ _ arr e fz hw]at h3;have:=(Ad.1 h3).1;omega
       have hat:(variablesAt ⟨E.aG b,off,none⟩ e n).run P w= .ok true w:=by
         simp only[variablesAt,Sem.run_bind,run_program,Result.andThen_ok,run_shape,World.shape?,hw,Sem.run_pure,hcells,Nat.div_one];rw[CN hcells hsz]
       have hld:=zW (P:=P) (w:=w) (E:=E) l s [] (E.aG b) off hbytes (fun j v hv=>by rw[<-add_lit];exact hlc j v hv);rw[hlen]at hld;have hfz:w.freeze ⟨E.aG b,off,none⟩ n=w.put (E.aG b) (.cells arr e (if fz.1==fz.2 then(off,off+n)else(min fz.1 off,max fz.2 (off+n)))):=by
         obtain⟨lo,hi'⟩:=fz;unfold World.freeze World.put;rw[Ae hn0];congr 1
         apply By
         intro j;rw[DJ,Bq];by_cases hj:E.aG b=j
         . subst hj;have:=(Ad.1 hw).1;have hw':=hw;rw[AU this]at hw';simp only[Az]at hw';simp[this,hw']
         . simp[hj]
       refine⟨rfl,_,IU h0 hP _ k hn0 hl hat hld,?_,?_⟩
       . rw[hfz];exact H.put hc hnr ⟨arr,_,rfl,hrest,hext,trivial⟩
       . rw[hfz];exact H.bj hc hnr _
     . cases hs3
 . cases hs2
def il (P:Program) (w:World) (b:Builtin) (argTypes:Array TypeId) (X:Value) (m:Nat):Nat×Nat:=
 match b with
 | .append=>jd w X m (P.elem (argTypes.getD 0 0))
 |_=>(w.heap.size,0)
def oq:List AV->Nat
 |[_, .str s]=>s.length
 |[_, .sl _ _ n _]=>n
 |[_, .int _ (.ofNat n)]=>n
 |_=>0
include ok
theorem Co (H:aU E h K w) {b:Builtin} {argTypes:Array TypeId} {args:List AV} {v:AV} {h':AH} (hb:builtin tab b argTypes args h= .ok (v,h'))
   (hE:h.next<h'.next->E.aG h.next=(il P w b argTypes (((aJ E args)[0]?).getD undef) (oq args)).1/\E.cap h.next=(il P w b argTypes (((aJ E args)[0]?).getD undef) (oq args)).2)
   (ty:TypeId) (consts:Array Bool):
   (h.next<=h'.next/\h'.next<=h.next+1)/\ ∃w',(Go.builtin b argTypes ty consts (aJ E args).toArray).run P w= .ok (.value (aa E v)) w'/\aU E h' K w'/\Kept K w w':=by
 unfold builtin at hb;split at hb
 ·
   rename_i x;obtain⟨t,ht,hb⟩:=af.1 hb;obtain⟨u,hu,hb⟩:=af.1 hb;have ht:=bw.1 ht;have hP:=ok.und t u (bw.1 hu);have hgo:∀(n:Nat),(Builtin.len_ argTypes ty (aJ E [x]).toArray).run P w= .ok (Go.goInt n) w->
       (Go.builtin .len argTypes ty consts (aJ E [x]).toArray).run P w= .ok (.value (aa E (goInt n))) w:=by
     intro n hn;simp only[Go.builtin,Sem.run_bind,hn,Result.andThen_ok,Sem.run_pure];rfl
   split at hb
   . rename_i e;obtain⟨d,hd,hb⟩:=af.1 hb;have hPe:=ok.und e d (bw.1 hd);split at hb
     . cases hb;refine⟨by omega,w,hgo _ ?_,H,Kept.refl K w⟩;unfold Builtin.len_;simp[ht,underlying,hP,hPe]
     . cases hb
   . obtain⟨n,hn,hb⟩:=af.1 hb
     cases hb;refine⟨by omega,w,hgo _ ?_,H,Kept.refl K w⟩;unfold Builtin.len_;unfold lenOf at hn;split at hn<;>(try cases hn)
     case h_7=>
       obtain⟨⟨es,c⟩,hm,hn⟩:=af.1 hn
       cases hn;have hw:=H.map (iD hm);simp[ht,underlying,hP,aa,iC hw]
     all_goals simp[ht,underlying,hP,aa,kv]
 ·
   rename_i x;obtain⟨t,ht,hb⟩:=af.1 hb;obtain⟨u,hu,hb⟩:=af.1 hb;have ht:=bw.1 ht;have hP:=ok.und t u (bw.1 hu);split at hb
   . cases hb;refine⟨by omega,w,?_,H,Kept.refl K w⟩;simp[Go.builtin,Builtin.cap_,ht,underlying,hP,aa,goInt,Go.goInt]
   . cases hb;refine⟨by omega,w,?_,H,Kept.refl K w⟩;simp[Go.builtin,Builtin.cap_,ht,underlying,hP,aa,goInt,Go.goInt,dX.val]
   . cases hb
 ·
   rename_i x y;obtain⟨t,ht,hb⟩:=af.1 hb;obtain⟨u,hu,hb⟩:=af.1 hb;have ht:=bw.1 ht;have hu:=bw.1 hu;obtain⟨du,hdu,hb⟩:=af.1 hb;have hPu:=ok.und u du (bw.1 hdu);split at hb
   . rename_i ki _;obtain⟨dt,hdt,hb⟩:=af.1 hb;have hPt:=ok.und t dt (bw.1 hdt);split at hb
     . rename_i e;unfold vQ at hb;obtain⟨n,hn,hb⟩:=af.1 hb;obtain⟨by_,hby,hb⟩:=af.1 hb;obtain⟨_,hnz,hb⟩:=af.1 hb;obtain⟨m,hm,hb⟩:=af.1 hb;obtain⟨_,hlim,hb⟩:=af.1 hb;obtain⟨z,hz,hb⟩:=af.1 hb;obtain⟨zc,hzc,hb⟩:=af.1 hb;obtain⟨_,hzl,hb⟩:=af.1 hb;have hnz:n≠0:=by
         have:=bY.1 hnz;rintro rfl;simp at this
       have hlim:=bY.1 hlim;rw[Ab]at hlim;have hl1:=Ag hlim.1;have hl2:=Ag hlim.2;have hzl:=Aa (bY.1 hzl);obtain⟨i,hi,hin⟩:=ok.siz _ _ (bw.1 hn);obtain⟨i',hi',hiby⟩:=ok.byt _ _ (bw.1 hby);rw[hi]at hi';cases hi';obtain⟨i',hi',hzi⟩:=ok.gD _ _ (bw.1 hz);rw[hi]at hi';cases hi';have hsl:oq [x,y]=m:=by
         obtain⟨k,rfl⟩:=jC hm;rfl
       have hel:P.elem (argTypes.getD 0 0)=e:=by
         have:argTypes.getD 0 0=t:=by
           rw[BE,ht];rfl
         rw[this];simp[Program.elem,hPt]
       have hE':h.next<h'.next->E.aG h.next=(jd w (aa E x) m e).1/\E.cap h.next=(jd w (aa E x) m e).2:=by
         intro hlt;have:=hE hlt;simp only[il,hsl,hel,aP,Aw,AA]at this;exact this
       obtain⟨h1,w',h2,h3,h4⟩:=uM ok H (ty:=ty) (argTypes:=argTypes) (Y:=aa E y) hn hnz (bw.1 hby)
         (fun i' hi'=>by
           rw[hi]at hi';cases hi';exact uf ht hu hPt hPu hi (hzi E) hzc (by rw[hzl,hin]) (by rw[hin];exact hnz) hm hl1 (by rw[hiby];exact hl2)) hb hE'
       refine⟨h1,w',?_,h3,h4⟩;simp only[Go.builtin,Sem.run_bind];have:(aJ E [x,y]).toArray=#[aa E x,aa E y]:=rfl;rw[this,h2];rfl
     . cases hb
   . rename_i hni;obtain⟨dt,hdt,hb⟩:=af.1 hb;have hPt:=ok.und t dt (bw.1 hdt);split at hb
     . rename_i e;obtain⟨n,hn,hb⟩:=af.1 hb;obtain⟨by_,hby,hb⟩:=af.1 hb;obtain⟨_,hnz,hb⟩:=af.1 hb;obtain⟨⟨m,news⟩,hs,hb⟩:=af.1 hb;have hnz:n≠0:=by
         have:=bY.1 hnz;rintro rfl;simp at this
       have hm:oq [x,y]=m:=by
         cases y<;>simp only[source]at hs<;>(try cases hs)<;>(try rfl)
         . obtain⟨_,_,hs⟩:=af.1 hs
           cases hs;rfl
         . obtain⟨_,_,hs⟩:=af.1 hs
           cases hs;rfl
         . split at hs<;>first|(rename_i hv;cases hv;cases hs;rfl)|(rename_i hv;cases hv;done)|(cases hs;rfl)|(cases hs;done)
       have hel:P.elem (argTypes.getD 0 0)=e:=by
         have:argTypes.getD 0 0=t:=by
           rw[BE,ht];rfl
         rw[this];simp[Program.elem,hPt]
       have hE':h.next<h'.next->E.aG h.next=(jd w (aa E x) m e).1/\E.cap h.next=(jd w (aa E x) m e).2:=by
         intro hlt;have:=hE hlt;simp only[il,hm,hel,aP,Aw,AA]at this;exact this
       obtain⟨h1,w',h2,h3,h4⟩:=uM ok H (ty:=ty) (argTypes:=argTypes) (Y:=aa E y) hn hnz (bw.1 hby)
         (fun i hi=>by
           obtain⟨i',hi',hin⟩:=ok.siz _ _ (bw.1 hn);rw[hi]at hi';cases hi';exact tZ ht hu hPt hPu (fun k e=>hni k e) hi hin hs) hb hE'
       refine⟨h1,w',?_,h3,h4⟩;simp only[Go.builtin,Sem.run_bind];have:(aJ E [x,y]).toArray=#[aa E x,aa E y]:=rfl;rw[this,h2];rfl
     . cases hb
 ·
   rename_i x y;obtain⟨t,ht,hb⟩:=af.1 hb;obtain⟨u,hu,hb⟩:=af.1 hb;have ht:=bw.1 ht;have hP:=ok.und t u (bw.1 hu);split at hb
   . rename_i e;obtain⟨n,hn,hb⟩:=af.1 hb;obtain⟨⟨m,cs⟩,hs,hb⟩:=af.1 hb;obtain⟨hnl,hlen,hf⟩:=vI (P:=P) (E:=E) (K:=K) hs;have hgo:∀(base:Option Addr) (dLen c:Nat),aa E x= .slice base dLen c->(Builtin.copy_ argTypes ty (aJ E [x,y]).toArray).run P w=
         ((match base with
           |none=>(Result.ok () w:Result Unit)
           |some a=>(storeCells a (aJ E (cs.take (Nat.min m dLen*n)))).run P w).andThen fun _ w'=> .ok (Go.goInt (Nat.min m dLen)) w'):=by
       intro base dLen c hx;unfold Builtin.copy_;have h2:(aJ E [x,y]).toArray=#[aa E x,aa E y]:=rfl;rw[h2];simp only[ht,AE,Aw,AJ,Sem.run_bind,underlying,run_program,Result.andThen_ok,hP,Sem.run_pure,hx,hlen,fV ok hn,
         hf w H (Nat.min m dLen) (Nat.min_le_left _ _)]
       cases base<;>simp[Result.andThen]
     cases x with
     | nils=>
       simp only at hb
       cases hb;refine⟨by omega,w,?_,H,Kept.refl K w⟩;simp only[Go.builtin,Sem.run_bind];rw[hgo none 0 0 rfl];simp[Result.andThen,goInt,aa,Go.goInt]
     | emp b off l n' k=>
       simp only at hb
       cases hb;refine⟨by omega,w,?_,H,Kept.refl K w⟩;simp only[Go.builtin,Sem.run_bind];rw[hgo _ 0 _ rfl];simp[Result.andThen,goInt,aa,Go.goInt,storeCells]
     | sl b off len cap=>
       simp only at hb;obtain⟨h2,hw,hb⟩:=af.1 hb
       cases hb;obtain⟨w',hst,H',hk⟩:=pc (P:=P) H hw;refine⟨by rw[pj hw];omega,w',?_,H',hk⟩;simp only[Go.builtin,Sem.run_bind];rw[hgo _ len _ rfl];simp only[hst,Result.andThen_ok];rfl
     |_=>cases hb
   . cases hb
 ·
   rename_i x;obtain⟨t,ht,hb⟩:=af.1 hb;obtain⟨u,hu,hb⟩:=af.1 hb;have ht:=bw.1 ht;have hP:=ok.und t u (bw.1 hu);have h2:(aJ E [x]).toArray=#[aa E x]:=rfl;split at hb
   . cases hb;refine⟨by omega,w,?_,H,Kept.refl K w⟩;simp[Go.builtin,Builtin.clear_,ht,underlying,hP,aa]
   . cases hb;refine⟨by omega,w,?_,H,Kept.refl K w⟩;simp[Go.builtin,Builtin.clear_,ht,underlying,hP,aa]
   . cases hb;refine⟨by omega,w,?_,H,Kept.refl K w⟩;simp[Go.builtin,Builtin.clear_,ht,underlying,hP,aa]
   . obtain⟨⟨es,c⟩,hm,hb⟩:=af.1 hb
     cases hb;have hm:=iD hm;have hw:=H.map hm;have hnr:¬(AO.mp es c).ro:=fun h=>h
     refine⟨by simp,_,?_,H.put hm hnr (c:= .map #[] c) rfl,H.bj hm hnr _⟩;simp only[Go.builtin,Builtin.clear_,h2,ht,AE,Aw,Sem.run_bind,underlying,run_program,Result.andThen_ok,hP,Sem.run_pure,aa,iC hw,kr hw];rfl
   . rename_i e b off len cap _ _;obtain⟨z,hz,hb⟩:=af.1 hb;obtain⟨zc,hzc,hb⟩:=af.1 hb;obtain⟨h2',hw,hb⟩:=af.1 hb
     cases hb;obtain⟨w',hst,H',hk⟩:=pc (P:=P) H hw;refine⟨by rw[pj hw];omega,w',?_,H',hk⟩;have hzz:Builtin.zeroCells (aa E z).cells len=(aJ E (rep len zc)).toArray:=by
       rw[ja hzc,nF];by_cases h0:0<zc.length
       . exact vp len _ (by simpa using h0)
       . have:zc=[]:=AF (by omega);subst this;have:ew len []=[]:=AF (by simp[rR]);simp[Builtin.zeroCells,this]
     simp only[Go.builtin,Builtin.clear_,h2,ht,AE,Aw,Sem.run_bind,underlying,run_program,Result.andThen_ok,hP,Sem.run_pure,aa]
     cases len with
     | zero=>
       simp only[rep,bH,storeCells]at hst
       cases hst;rfl
     | succ len=>
       simp only[Sem.run_bind,lu ok hz E,Result.andThen_ok,hzz,A5,hst,Sem.run_pure];rfl
   . cases hb
 ·
   rename_i m k;obtain⟨t,ht,hb⟩:=af.1 hb;obtain⟨h2,hd,hb⟩:=af.1 hb
   cases hb;obtain⟨h3,w',h4,h5,h6⟩:=EW ok H (ty:=ty) (bw.1 ht) hd;refine⟨by omega,w',?_,h5,h6⟩;have:(aJ E [m,k]).toArray=#[aa E m,aa E k]:=rfl;simp only[Go.builtin,Sem.run_bind,this,h4,Result.andThen_ok,Sem.run_pure];rfl
 ·
   obtain⟨h1,h2⟩:=zY (P:=P) H (type:=ty) (argTypes:=argTypes) hb;subst h1;refine⟨by omega,w,?_,H,Kept.refl K w⟩;simp only[Go.builtin,Sem.run_bind];rw[show ∀x:AV,(aJ E [x]).toArray=#[aa E x]from fun _=>rfl,h2];rfl
 ·
   obtain⟨t,ht,hb⟩:=af.1 hb;obtain⟨h1,w',h2,h3,h4⟩:=zz ok H (ty:=ty) (bw.1 ht) hb;refine⟨by omega,w',?_,h3,h4⟩;simp only[Go.builtin,Sem.run_bind];rw[show ∀x y:AV,(aJ E [x,y]).toArray=#[aa E x,aa E y]from fun _ _=>rfl,h2];rfl
 ·
   obtain⟨v',hv,hb⟩:=af.1 hb
   cases hb;refine⟨by omega,w,?_,H,Kept.refl K w⟩;simp only[Go.builtin,Sem.run_bind,Builtin.min_,A5,aP,aa];rw[C9 _ _ _ hv];rfl
 . obtain⟨v',hv,hb⟩:=af.1 hb
   cases hb;refine⟨by omega,w,?_,H,Kept.refl K w⟩;simp only[Go.builtin,Sem.run_bind,Builtin.max_,A5,aP,aa];rw[C8 _ _ _ hv];rfl
 . cases hb
end
end
section
variable [Inhabited aE]
section
variable {P:Program} {tab:aM} (ok:aV P tab) {E:Env} {h:AH} {K:KS} {w:World}
theorem CM {e count s:Nat} (hs:P.cellsOf e=s) (h0:s≠0) (hl:1<=count):liesAt P P.depth e count 0 e 1=true:=by
 obtain⟨d,hd⟩:=wg P;have h1:sameLayout P P.depth e e=true:=by
  rw[hd];simp[sameLayout]
 have h2:rowAt P (sameLayout P P.depth · e) P.depth e count 0 1=true:=by
  conv=>lhs;arg 3;rw[hd]
  unfold rowAt;simp[hs,h0,h1,hl]
 conv=>lhs;arg 2;rw[hd]
 unfold liesAt;simp only[BM];exact Or.inl h2
include ok
theorem zS (H:aU E h K w) {src dst t:TypeId} (hs:P.underlying src=some (.pointer t)) (hd:P.underlying dst=some .unsafePointer) {x v:AV} {h':AH}
   (hc:sb tab h t x= .ok (v,h')):h'=h/\(Go.convert src dst (aa E x)).run P w= .ok (aa E v) w:=by
 unfold sb at hc;split at hc
 . cases hc;refine⟨rfl,?_⟩;simp[Go.convert,Conv.unsafePointer,underlying,hs,hd,aa]
 . rename_i b off;obtain⟨⟨cs,e,sz,ext,bk⟩,hca,hc1⟩:=af.1 hc;obtain⟨n,hn,hc2⟩:=af.1 hc1;obtain⟨_,hck,hc3⟩:=af.1 hc2;clear hc hc1 hc2
   cases hc3;refine⟨rfl,?_⟩;have hck:=bY.1 hck;simp only[Ab,AW,BB]at hck;have hn0:n≠0:=by
    intro e;subst e;simp at hck
   have hlt:off<cs.length:=by simpa using hck.2
   obtain⟨arr,fz,hw,⟨rest,hrest⟩,hext,hmk⟩:=H.cells (eJ hca);have hsz:cs.length<=arr.size:=by
    have:=AN List.length hrest;simp at this;omega
   obtain⟨i,hi,hin⟩:=ok.siz t n (bw.1 hn);have:¬(arr.size<=off):=by omega
   simp[Go.convert,Conv.unsafePointer,Conv.seenAt,viewAt,cellsIn,World.shape?,hw,underlying,hs,hd,aa,sizeOf,typeInfo,hi,hin,hn0,this]
 . cases hc
theorem zy (H:aU E h K w) {src dst u:TypeId} (hs:P.underlying src=some .unsafePointer) (hd:P.underlying dst=some (.pointer u)) {x v:AV} {h':AH}
   (hc:rz tab h u x= .ok (v,h')):h'=h/\(Go.convert src dst (aa E x)).run P w= .ok (aa E v) w:=by
 unfold rz at hc;split at hc
 . cases hc;refine⟨rfl,?_⟩;simp[Go.convert,Conv.unsafePointer,underlying,hs,hd,aa]
 . rename_i b off;obtain⟨⟨cs,e,sz,ext,bk⟩,hca,hc1⟩:=af.1 hc;obtain⟨n,hn,hc2⟩:=af.1 hc1;obtain⟨_,hck,hc3⟩:=af.1 hc2;clear hc hc1 hc2
   cases hc3;refine⟨rfl,?_⟩;have hck:=bY.1 hck;simp only[Ab,AW]at hck;obtain⟨⟨⟨he,hn1⟩,ho⟩,hle⟩:=hck;have hn0:n≠0:=by
    intro e;subst e;simp at hn1
   have he:=Aa he;have ho:=Aa ho;have hle:=Ag hle
   try simp only at he hle
   subst he ho;obtain⟨arr,fz,hw,⟨rest,hrest⟩,hext,hmk⟩:=H.cells (eJ hca);have hsz:cs.length<=arr.size:=by
    have:=AN List.length hrest;simp at this;omega
   obtain⟨i,hi,hin⟩:=ok.siz e n (bw.1 hn);have hcells:P.cellsOf e=n:=by simp[Program.cellsOf,hi,hin]
   have h1:1<=arr.size / n:=by
    rw[Ew (by omega)];omega
   have hl:=CM (P:=P) hcells hn0 h1;simp[Go.convert,Conv.unsafePointer,Conv.seenAt,viewAt,World.shape?,hw,underlying,hs,hd,aa,sizeOf,typeInfo,hi,hin,hn0,variablesAt,hcells,hl]
 . cases hc
theorem zF (H:aU E h K w) {src dst:TypeId} {x v:AV} {h':AH} (hc:iX tab h src dst x= .ok (v,h'))
   (hE:h.next<h'.next->E.aG h.next=w.heap.size/\E.cap h.next=grownCap w (qk x) 0 (P.elem dst)):
   (h.next<=h'.next/\h'.next<=h.next+1)/\ ∃w',(Go.convert src dst (aa E x)).run P w= .ok (aa E v) w'/\aU E h' K w'/\Kept K w w':=by
 unfold iX at hc;obtain⟨d,hd,hc1⟩:=af.1 hc;have hPd:=ok.und dst d (bw.1 hd);split at hc1
 . obtain⟨s,hs,hc2⟩:=af.1 hc1;have hPs:=ok.und src s (bw.1 hs);split at hc2
   . obtain⟨h1,h2⟩:=zS ok H hPs hPd hc2;subst h1;exact⟨by omega,w,h2,H,Kept.refl K w⟩
   . cases hc2
 . obtain⟨s,hs,hc2⟩:=af.1 hc1;have hPs:=ok.und src s (bw.1 hs);split at hc2
   . obtain⟨h1,h2⟩:=zy ok H hPs hPd hc2;subst h1;exact⟨by omega,w,h2,H,Kept.refl K w⟩
   . cases hc2
 . exact Cq ok H hc1 hE
end
end
section
variable [Inhabited aE]
section
variable {P:Program} {tab:aM} (ok:aV P tab) {E:Env} {h:AH} {K:KS} {w:World}
theorem dY {ρ:Operand->Value} {o:Oper} {s:Sem Value} {a:Value} {w w':World} (hx:execOp ρ o=(do pure (.value (<-s)))) (hs:s.run P w= .ok a w'):
  (execOp ρ o).run P w= .ok (.value a) w':=by
 rw[hx];simp[hs]
theorem oZ {ρ:Operand->Value} {o:Oper} {s:Sem Unit} {w w':World} (hx:execOp ρ o=(do s;pure .skip)) (hs:s.run P w= .ok () w'):
  (execOp ρ o).run P w= .ok .skip w':=by
 rw[hx];simp[hs]
def aw (P:Program) (s:Sem Next) (E:Env) (K:KS) (w:World) (v:AV) (h':AH):Prop:=
 ∃r w',s.run P w= .ok r w'/\Yields r (aa E v)/\aU E h' K w'/\Kept K w w'
theorem aw.value {s:Sem Next} {v:AV} {h':AH} {w':World} (hs:s.run P w= .ok (.value (aa E v)) w') (H:aU E h' K w') (hk:Kept K w w'):aw P s E K w v h':=
 ⟨_,w',hs, .inl rfl,H,hk⟩
theorem aw.same {s:Sem Next} {v:AV} (H:aU E h K w) (hs:s.run P w= .ok (.value (aa E v)) w):aw P s E K w v h:=
 ⟨_,w,hs, .inl rfl,H,Kept.refl K w⟩
theorem aw.unit {s:Sem Next} {h':AH} {w':World} (hs:s.run P w= .ok .skip w') (H:aU E h' K w') (hk:Kept K w w'):aw P s E K w (.aO []) h':=
 ⟨_,w',hs, .inr ⟨rfl,rfl⟩,H,hk⟩
theorem vy (ok:aV P tab) {t:TypeId} {f:Nat} {fd:Field} (hf:mE tab t f= .ok fd):∃fs,P.underlying t=some (.struct fs)/\fs[f]? =some fd:=by
 unfold mE at hf;obtain⟨d,hd,hf⟩:=af.1 hf;have hP:=ok.und t d (bw.1 hd);split at hf
 . exact⟨_,hP,bw.1 hf⟩
 . cases hf
theorem Iv {s:List UInt8} {i:Nat} {b:UInt8} (h:s[i]? =some b):(⟨s.toArray⟩:ByteArray)[i]? =some b:=by
 obtain⟨hlt,rfl⟩:=Ac.1 h;exact getElem?_pos (⟨s.toArray⟩:ByteArray) i (show i<(⟨s.toArray⟩:ByteArray).size from hlt)
def Good (P:Program) (o:Oper) (ts:T AV) (h:AH) (v:AV) (h':AH) (w:World) (ρ:Operand->Value):Prop:=
 ∃f:Nat×Nat,∀E K,aU E h K w->(∀x u,ev ts x= .ok u->ρ x=aa E u)->
  (h.next<h'.next->E.aG h.next=f.1/\E.cap h.next=f.2)->(h.next<=h'.next/\h'.next<=h.next+1)/\aw P (execOp ρ o) E K w v h'
theorem pk {e:TypeId} {cs:List AV} {ext:Bool} {bk:BK} {h':AH} {b:Nat} (hn:newRow tab h e cs ext bk= .ok (h',b)):h.next<h'.next:=by
 obtain⟨n,hs,rfl,rfl⟩:=eW hn;simp
theorem zB {t:TypeId} {len:Nat} {ps:List (Nat×AV)} {v:AV} {h':AH} (hb:buildSlice tab h t len ps= .ok (v,h')):h.next<h'.next:=by
 unfold buildSlice at hb;obtain⟨u,hu,hb1⟩:=af.1 hb;split at hb1
 . obtain⟨n,_,hb2⟩:=af.1 hb1;obtain⟨_,_,hb3⟩:=af.1 hb2;obtain⟨_,_,hb4⟩:=af.1 hb3;obtain⟨_,_,hb5⟩:=af.1 hb4;obtain⟨_,_,hb6⟩:=af.1 hb5;obtain⟨_,_,hb7⟩:=af.1 hb6;obtain⟨⟨h1,b⟩,hn,hb8⟩:=af.1 hb7
   cases hb8;exact pk hn
 . cases hb1
theorem Ct {t:TypeId} {l c v:AV} {h':AH} (hb:makeSlice tab h t l c= .ok (v,h')):h.next<h'.next:=by
 unfold makeSlice at hb;obtain⟨u,hu,hb1⟩:=af.1 hb;split at hb1
 . obtain⟨n,_,hb2⟩:=af.1 hb1;obtain⟨_,_,hb3⟩:=af.1 hb2;obtain⟨_,_,hb4⟩:=af.1 hb3;obtain⟨_,_,hb5⟩:=af.1 hb4;obtain⟨_,_,hb6⟩:=af.1 hb5;obtain⟨_,_,hb7⟩:=af.1 hb6;obtain⟨_,_,hb8⟩:=af.1 hb7;obtain⟨_,_,hb9⟩:=af.1 hb8;obtain⟨⟨h1,b⟩,hn,hb10⟩:=af.1 hb9
   cases hb10;exact pk hn
 . cases hb1
theorem Fx {t:TypeId} {x v:AV} {h':AH} (hb:nY tab h t x= .ok (v,h')):h.next<h'.next:=by
 unfold nY at hb;obtain⟨u,hu,hb1⟩:=af.1 hb;split at hb1
 . cases hb1;simp
 . cases hb1;simp
 . obtain⟨_,_,hb2⟩:=af.1 hb1
   cases hb2;simp
 . cases hb1
theorem uX (ok:aV P tab) {e:TypeId} {z:AV} {zc:List AV} (hzc:z.cells= .ok zc) {h1:AH} {b:Nat} (hn:newRow tab h e zc= .ok (h1,b)) (H:aU E h K w) (hE:E.aG h.next=w.heap.size):
  b=h.next/\h1.next=h.next+1/\(Go.newVar e (aa E z)).run P w= .ok ⟨E.aG h.next,0,none⟩ (w.alloc (.cells (aJ E zc).toArray e))/\aU E h1 K (w.alloc (.cells (aJ E zc).toArray e))/\Kept K w (w.alloc (.cells (aJ E zc).toArray e)):=by
 obtain⟨n,hs,rfl,rfl⟩:=eW hn;refine⟨rfl,rfl,?_,(rW H hE zc e n).1,Kept.alloc H.kb _⟩;rw[Go.newVar,lk,ja hzc,hE]
set_option maxHeartbeats 1000000 in
include ok in
theorem vo {ts:T AV} {o:Oper} {v:AV} {h':AH} (hp:df tab ts h o= .ok (v,h')) (w:World) (ρ:Operand->Value):Good P o ts h v h' w ρ:=by
 unfold df at hp
 cases hop:o.op<;>rw[hop]at hp<;>dsimp only at hp
 case move x=>
  obtain⟨u,hu,hp1⟩:=af.1 hp
  cases hp1;exact⟨(0,0),fun E K H hρ _=>⟨by omega,aw.same H (by simp[execOp,hop,hρ _ _ hu])⟩⟩
 case assign x=>
  obtain⟨u,hu,hp1⟩:=af.1 hp
  cases hp1;exact⟨(0,0),fun E K H hρ _=>⟨by omega,aw.same H (by simp[execOp,hop,hρ _ _ hu])⟩⟩
 case pick c a b=>
  obtain⟨u,hu,hp1⟩:=af.1 hp;refine⟨(0,0),fun E K H hρ _=>?_⟩;have hc:=hρ _ _ hu;split at hp1
  . obtain⟨x,hx,hp2⟩:=af.1 hp1
    cases hp2;exact⟨by omega,aw.same H (by simp[execOp,hop,hρ _ _ hx,hc,aa,asBool])⟩
  . obtain⟨x,hx,hp2⟩:=af.1 hp1
    cases hp2;exact⟨by omega,aw.same H (by simp[execOp,hop,hρ _ _ hx,hc,aa,asBool])⟩
  . cases hp1
 case alloc e=>
  obtain⟨z,hz,hp1⟩:=af.1 hp;obtain⟨zc,hzc,hp2⟩:=af.1 hp1;obtain⟨⟨h1,b⟩,hn,hp3⟩:=af.1 hp2
  cases hp3;refine⟨(w.heap.size,0),fun E K H hρ hE=>?_⟩;have hE1:E.aG h.next=w.heap.size:=(hE (pk hn)).1;obtain⟨rfl,h2,h3,h4,h5⟩:=uX ok hzc hn H hE1;exact⟨by simp only;omega,aw.value (dY (s:=Instr.alloc e true (.tuple #[])) (by simp[execOp,hop]) (by simp[Instr.alloc,lu ok hz E,h3,aa])) h4 h5⟩
 case box e x=>
  obtain⟨z,hz,hp1⟩:=af.1 hp;obtain⟨zc,hzc,hp2⟩:=af.1 hp1;obtain⟨⟨h1,b⟩,hn,hp3⟩:=af.1 hp2
  cases hp3;refine⟨(w.heap.size,0),fun E K H hρ hE=>?_⟩;have hE1:E.aG h.next=w.heap.size:=(hE (pk hn)).1;obtain⟨rfl,h2,h3,h4,h5⟩:=uX ok hzc hn H hE1;exact⟨by simp only;omega,aw.value (dY (s:=Instr.box e (ρ x)) (by simp[execOp,hop]) (by simp[Instr.box,hρ _ _ hz,h3,aa])) h4 h5⟩
 case build t ps=>
  obtain⟨l,hl,hp1⟩:=af.1 hp;obtain⟨u,hu,hp2⟩:=af.1 hp1
  cases hp2;refine⟨(0,0),fun E K H hρ _=>⟨by omega,aw.same H ?_⟩⟩;refine dY (s:=Instr.build t (ps.map fun(i,x)=>(i,ρ x))) (by simp[execOp,hop]) ?_;have:=Ff ok (E:=E) (w:=w) hu;rw[<-u9 hρ _ _ hl]at this;rw[<-this];congr 2
  simp[<-Array.toList_inj]
 case buildSlice t n ps=>
  obtain⟨l,hl,hp1⟩:=af.1 hp;refine⟨(w.heap.size,0),fun E K H hρ hE=>?_⟩;obtain⟨h1,w',h2,h3,h4⟩:=zE ok H hp1 (hE (zB hp1)).1;rw[<-u9 hρ _ _ hl]at h2;refine⟨by omega,aw.value (dY (s:=Instr.buildSlice t n (ps.map fun(i,x)=>(i,ρ x))) (by simp[execOp,hop]) ?_) h3 h4⟩;rw[<-h2];congr 2
  simp[<-Array.toList_inj]
 case load t a=>
  obtain⟨x,hx,hp1⟩:=af.1 hp;split at hp1
  . obtain⟨u,hu,hp2⟩:=af.1 hp1
    cases hp2;refine⟨(0,0),fun E K H hρ _=>⟨by omega,aw.same H ?_⟩⟩;refine dY (s:=Instr.loadAt t (ρ a)) (by simp[execOp,hop]) ?_;simp[Instr.loadAt,hρ _ _ hx,aa,Instr.sureAddr,vd ok H hu]
  . cases hp1
 case store t a x=>
  obtain⟨y,hy,hp1⟩:=af.1 hp;split at hp1
  . obtain⟨u,hu,hp2⟩:=af.1 hp1;obtain⟨h1,hh,hp3⟩:=af.1 hp2
    cases hp3;refine⟨(0,0),fun E K H hρ _=>?_⟩;obtain⟨w',h2,h3,h4⟩:=Ce ok H hh;refine⟨by have:=z1 (tab:=tab) hh;omega,aw.unit (oZ (s:=Instr.storeAt t (ρ a) (ρ x)) (by simp[execOp,hop]) ?_) h3 h4⟩;simp[Instr.storeAt,hρ _ _ hy,hρ _ _ hu,aa,Instr.sureAddr,h2]
  . cases hp1
 case nilCheck x=>
  obtain⟨y,hy,hp1⟩:=af.1 hp;split at hp1
  . cases hp1;exact⟨(0,0),fun E K H hρ _=>⟨by omega,aw.same H (by simp[execOp,hop,hρ _ _ hy,aa])⟩⟩
  . cases hp1;exact⟨(0,0),fun E K H hρ _=>⟨by omega,aw.same H (by simp[execOp,hop,hρ _ _ hy,aa])⟩⟩
  . cases hp1
 case binOp op t x y yt=>
  obtain⟨a,ha,hp1⟩:=af.1 hp;obtain⟨b,hb,hp2⟩:=af.1 hp1;obtain⟨c,hc,hp3⟩:=af.1 hp2
  cases hp3;refine⟨(0,0),fun E K H hρ _=>⟨by omega,aw.same H ?_⟩⟩;have:=vZ ok H hc x y;refine dY (s:=do eqGuard op t x y (ρ x) (ρ y);Go.binOp op t (ρ x) (ρ y)) (by simp[execOp,hop]) ?_;rw[hρ _ _ ha,hρ _ _ hb];exact this
 case unOp op t x=>
  obtain⟨a,ha,hp1⟩:=af.1 hp;obtain⟨c,hc,hp3⟩:=af.1 hp1
  cases hp3;refine⟨(0,0),fun E K H hρ _=>⟨by omega,aw.same H ?_⟩⟩;refine dY (s:=Op.unary op (ρ x)) (by simp[execOp,hop]) ?_;rw[hρ _ _ ha];exact xh hc
 case convert s d x=>
  obtain⟨a,ha,hp1⟩:=af.1 hp;refine⟨(w.heap.size,grownCap w (qk a) 0 (P.elem d)),fun E K H hρ hE=>?_⟩;obtain⟨h1,w',h2,h3,h4⟩:=zF ok H hp1 hE;refine⟨h1,aw.value (dY (s:=Go.convert s d (ρ x)) (by simp[execOp,hop]) ?_) h3 h4⟩;rw[hρ _ _ ha];exact h2
 case makeInterface t x=>
  obtain⟨d,hd,hp1⟩:=af.1 hp;have hP:=ok.und t d (bw.1 hd);split at hp1
  . cases hp1
  . rename_i hni;obtain⟨a,ha,hp2⟩:=af.1 hp1
    cases hp2;refine⟨(0,0),fun E K H hρ _=>⟨by omega,aw.same H ?_⟩⟩;refine dY (s:=Instr.makeInterface t (ρ x)) (by simp[execOp,hop]) ?_;unfold Instr.makeInterface;simp only[Sem.run_bind,underlying,run_program,Result.andThen_ok,hP,Sem.run_pure]
    cases d<;>first|exact absurd rfl (hni _)|(rw[hρ _ _ ha];simp[aa])
 case makeFunc fn fst cap=>
  split at hp
  . rename_i f;obtain⟨a,ha,hp1⟩:=af.1 hp;obtain⟨b,hb,hp2⟩:=af.1 hp1
    cases hp2;refine⟨(0,0),fun E K H hρ _=>⟨by omega,aw.same H ?_⟩⟩;refine dY (s:=Instr.makeFunc (.func f) (fst.map ρ) (cap.map ρ)) (by simp[execOp,hop]) ?_;have h1:=ku hρ _ _ ha;have h2:=ku hρ _ _ hb;simp only[Instr.makeFunc,Sem.run_pure,aa,<-h1,<-h2];congr 3<;>simp[<-Array.toList_inj]
  . cases hp
 case makeMap t r=>
  cases r with
  |some x=>cases hp
  | none=>
    cases hp;refine⟨(w.heap.size,0),fun E K H hρ hE=>⟨by simp,?_⟩⟩;refine aw.value (w':=w.alloc (.map #[] 0)) (dY (s:=Instr.makeMap t none) (by simp[execOp,hop]) ?_) (H.new (hE (by simp)).1 (by simp[ga])) (Kept.alloc H.kb _);simp[Instr.makeMap,aa,(hE (by simp)).1]
 case makeSlice t l c=>
  obtain⟨a,ha,hp1⟩:=af.1 hp;obtain⟨b,hb,hp2⟩:=af.1 hp1;refine⟨(w.heap.size,0),fun E K H hρ hE=>?_⟩;obtain⟨h1,w',h2,h3,h4⟩:=zX ok H hp2 (hE (Ct hp2)).1;refine⟨by omega,aw.value (dY (s:=Instr.makeSlice t (ρ l) (ρ c)) (by simp[execOp,hop]) ?_) h3 h4⟩;rw[hρ _ _ ha,hρ _ _ hb];exact h2
 case slice t x lo hi mx=>
  obtain⟨a,ha,hp1⟩:=af.1 hp;refine⟨(0,0),fun E K H hρ hE=>?_⟩;obtain⟨rfl,h2⟩:=CX ok H hρ hp1;refine⟨by omega,aw.same H (dY (s:=Instr.sliceAt t (ρ x) (lo.map ρ) (hi.map ρ) (mx.map ρ)) (by simp[execOp,hop]) ?_)⟩;rw[hρ _ _ ha];exact h2
 case fieldAddr st x f=>
  obtain⟨fd,hf,hp1⟩:=af.1 hp;obtain⟨n,hn,hp2⟩:=af.1 hp1;obtain⟨_,hck,hp3⟩:=af.1 hp2;obtain⟨a,ha,hp4⟩:=af.1 hp3;obtain⟨fs,hP,hfd⟩:=vy ok hf;have hn0:n≠0:=by
    intro e;subst e;simp[R.check]at hck
  split at hp4
  . cases hp4;refine⟨(0,0),fun E K H hρ _=>⟨by omega,aw.same H ?_⟩⟩;refine dY (s:=Instr.fieldAt st (ρ x) f) (by simp[execOp,hop]) ?_;unfold Instr.fieldAt;simp[underlying,hP,hfd,hρ _ _ ha,aa,Instr.sureAddr,fieldPlace,fV ok hn,hn0,add_lit]
  . cases hp4
 case field t x f=>
  obtain⟨fd,hf,hp1⟩:=af.1 hp;obtain⟨a,ha,hp2⟩:=af.1 hp1;obtain⟨fs,hP,hfd⟩:=vy ok hf;split at hp2
  . obtain⟨u,hu,hp3⟩:=af.1 hp2
    cases hp3;refine⟨(0,0),fun E K H hρ _=>⟨by omega,aw.same H ?_⟩⟩;refine dY (s:=Instr.field t (ρ x) f) (by simp[execOp,hop]) ?_;unfold Instr.field;simp[underlying,hP,hfd,hρ _ _ ha,aa,asAgg,nL ok hu E w]
  . cases hp2
 case indexAddr t x ix=>
  obtain⟨y,hy,hp0⟩:=af.1 hp;obtain⟨i,hi,hp1⟩:=af.1 hp0;obtain⟨d,hd,hp2⟩:=af.1 hp1;obtain⟨a,ha,hp3⟩:=af.1 hp2;have hP:=ok.und t d (bw.1 hd);obtain⟨k,rfl⟩:=jC hi;split at hp3
  . obtain⟨_,hck,hp4⟩:=af.1 hp3;obtain⟨n,hn,hp5⟩:=af.1 hp4
    cases hp5;have hlt:=bY.1 hck;simp only[BB]at hlt;refine⟨(0,0),fun E K H hρ _=>⟨by omega,aw.same H ?_⟩⟩;refine dY (s:=Instr.indexAt t (ρ x) (ρ ix)) (by simp[execOp,hop]) ?_;unfold Instr.indexAt;simp[underlying,hP,hρ _ _ ha,hρ _ _ hy,aa,Go.asIntOf,Instr.sureAddr,fV ok hn,hlt,add_lit]
  . obtain⟨_,hck,hp4⟩:=af.1 hp3;obtain⟨n,hn,hp5⟩:=af.1 hp4
    cases hp5;have hlt:=bY.1 hck;simp only[BB]at hlt;refine⟨(0,0),fun E K H hρ _=>⟨by omega,aw.same H ?_⟩⟩;refine dY (s:=Instr.indexAt t (ρ x) (ρ ix)) (by simp[execOp,hop]) ?_;unfold Instr.indexAt;simp[underlying,hP,hρ _ _ ha,hρ _ _ hy,aa,Go.asIntOf,fV ok hn,hlt,add_lit]
  . cases hp3
 case index t x ix=>
  obtain⟨y,hy,hp0⟩:=af.1 hp;obtain⟨i,hi,hp1⟩:=af.1 hp0;obtain⟨d,hd,hp2⟩:=af.1 hp1;obtain⟨a,ha,hp3⟩:=af.1 hp2;have hP:=ok.und t d (bw.1 hd);obtain⟨k,rfl⟩:=jC hi;split at hp3
  . obtain⟨_,hck,hp4⟩:=af.1 hp3;obtain⟨n,hn,hp5⟩:=af.1 hp4;obtain⟨u,hu,hp6⟩:=af.1 hp5
    cases hp6;have hlt:=bY.1 hck;simp only[BB]at hlt;refine⟨(0,0),fun E K H hρ _=>⟨by omega,aw.same H ?_⟩⟩;refine dY (s:=Instr.index t (ρ x) (ρ ix)) (by simp[execOp,hop]) ?_;unfold Instr.index;simp[underlying,hP,hρ _ _ ha,hρ _ _ hy,aa,Go.asIntOf,fV ok hn,hlt,nL ok hu E w]
  . obtain⟨b,hb,hp4⟩:=af.1 hp3
    cases hp4;have hb:=bw.1 hb;refine⟨(0,0),fun E K H hρ _=>⟨by omega,aw.same H ?_⟩⟩;refine dY (s:=Instr.index t (ρ x) (ρ ix)) (by simp[execOp,hop]) ?_;unfold Instr.index;simp[underlying,hP,hρ _ _ ha,hρ _ _ hy,aa,Go.asIntOf];rw[Iv hb];rfl
  . cases hp3
 case lookup t m k c=>
  obtain⟨a,ha,hp1⟩:=af.1 hp;obtain⟨b,hb,hp2⟩:=af.1 hp1;obtain⟨u,hu,hp3⟩:=af.1 hp2
  cases hp3;refine⟨(0,0),fun E K H hρ _=>⟨by omega,aw.same H ?_⟩⟩;refine dY (s:=Instr.lookup t (ρ m) (ρ k) c) (by simp[execOp,hop]) ?_;rw[hρ _ _ ha,hρ _ _ hb];exact C7 ok H hu
 case mapUpdate t m k x=>
  obtain⟨a,ha,hp1⟩:=af.1 hp;obtain⟨b,hb,hp2⟩:=af.1 hp1;obtain⟨c,hc,hp3⟩:=af.1 hp2;obtain⟨h1,hh,hp4⟩:=af.1 hp3
  cases hp4;refine⟨(0,0),fun E K H hρ _=>?_⟩;obtain⟨h2,w',h3,h4,h5⟩:=uO ok H hh;refine⟨by omega,aw.unit (oZ (s:=Instr.mapUpdate t (ρ m) (ρ k) (ρ x)) (by simp[execOp,hop]) ?_) h4 h5⟩;rw[hρ _ _ ha,hρ _ _ hb,hρ _ _ hc];exact h3
 case insert t m k x=>
  obtain⟨a,ha,hp1⟩:=af.1 hp;obtain⟨b,hb,hp2⟩:=af.1 hp1;obtain⟨c,hc,hp3⟩:=af.1 hp2;obtain⟨h1,hh,hp4⟩:=af.1 hp3
  cases hp4;refine⟨(0,0),fun E K H hρ _=>?_⟩;obtain⟨h2,w',h3,h4,h5⟩:=uO ok H hh;refine⟨by omega,aw.unit (oZ (s:=Instr.mapUpdate t (ρ m) (ρ k) (ρ x)) (by simp[execOp,hop]) ?_) h4 h5⟩;rw[hρ _ _ ha,hρ _ _ hb,hρ _ _ hc];exact h3
 case mapEntry t m k=>
  obtain⟨a,ha,hp1⟩:=af.1 hp;obtain⟨b,hb,hp2⟩:=af.1 hp1;refine⟨(0,0),fun E K H hρ _=>?_⟩;obtain⟨h2,w',h3,h4,h5⟩:=Cu ok H hp2;refine⟨by omega,aw.value (dY (s:=Instr.mapEntry t (ρ m) (ρ k)) (by simp[execOp,hop]) ?_) h4 h5⟩;rw[hρ _ _ ha,hρ _ _ hb];exact h3
 case entryStore t m s x=>
  obtain⟨a,ha,hp1⟩:=af.1 hp;obtain⟨b,hb,hp2⟩:=af.1 hp1;obtain⟨c,hc,hp3⟩:=af.1 hp2;obtain⟨h1,hh,hp4⟩:=af.1 hp3
  cases hp4;refine⟨(0,0),fun E K H hρ _=>?_⟩;obtain⟨h2,w',h3,h4,h5⟩:=zG ok (t:=t) H hh;refine⟨by omega,aw.unit (oZ (s:=Instr.entryStore t (ρ m) (ρ s) (ρ x)) (by simp[execOp,hop]) ?_) h4 h5⟩;rw[hρ _ _ ha,hρ _ _ hb,hρ _ _ hc];exact h3
 case range t x=>
  obtain⟨a,ha,hp1⟩:=af.1 hp;refine⟨(w.heap.size,0),fun E K H hρ hE=>?_⟩;obtain⟨h2,w',h3,h4,h5⟩:=CR ok H hp1 (hE (Fx hp1)).1;refine⟨by omega,aw.value (dY (s:=Instr.range t (ρ x)) (by simp[execOp,hop]) ?_) h4 h5⟩;rw[hρ _ _ ha];exact h3
 case entry it=>
  obtain⟨a,ha,hp1⟩:=af.1 hp;obtain⟨u,hu,hp2⟩:=af.1 hp1
  cases hp2;refine⟨(0,0),fun E K H hρ _=>⟨by omega,aw.same H ?_⟩⟩;refine dY (s:=Instr.entry (ρ it)) (by simp[execOp,hop]) ?_;rw[hρ _ _ ha];exact Cb H hu
 case typeAssert x xt t c=>
  obtain⟨d,hd,hp1⟩:=af.1 hp;obtain⟨a,ha,hp2⟩:=af.1 hp1;have hP:=ok.und t d (bw.1 hd);have hx:execOp ρ o=(do pure (.value (<-Instr.typeAssert (ρ x) xt t c))):=by simp[execOp,hop]
  split at hp2
  . cases hp2
  . rename_i u v' hni;split at hp2
    . rename_i hut;subst hut
      cases hp2;refine⟨(0,0),fun E K H hρ _=>⟨by omega,aw.same H (dY hx ?_)⟩⟩;unfold Instr.typeAssert;rw[hρ _ _ ha];simp only[Sem.run_bind,underlying,run_program,Result.andThen_ok,hP,Sem.run_pure,aa]
      cases d<;>first|exact absurd rfl (hni _)|(cases c<;>simp[aa])
    . rename_i hut;obtain⟨_,hck,hp3⟩:=af.1 hp2;obtain⟨z,hz,hp4⟩:=af.1 hp3
      cases hp4;have hc:c=true:=bY.1 hck;subst hc;refine⟨(0,0),fun E K H hρ _=>⟨by omega,aw.same H (dY hx ?_)⟩⟩;unfold Instr.typeAssert;rw[hρ _ _ ha];simp only[Sem.run_bind,underlying,run_program,Result.andThen_ok,hP,Sem.run_pure,aa]
      cases d<;>first|exact absurd rfl (hni _)|(simp[aa,hut,lu ok hz E])
  . rename_i hni;obtain⟨_,hck,hp3⟩:=af.1 hp2;obtain⟨z,hz,hp4⟩:=af.1 hp3
    cases hp4;have hc:c=true:=bY.1 hck;subst hc;refine⟨(0,0),fun E K H hρ _=>⟨by omega,aw.same H (dY hx ?_)⟩⟩;unfold Instr.typeAssert;rw[hρ _ _ ha];simp only[Sem.run_bind,underlying,run_program,Result.andThen_ok,hP,Sem.run_pure,aa]
    cases d<;>first|exact absurd rfl (hni _)|(simp[aa,lu ok hz E])
  . cases hp2
 case extract t i=>
  obtain⟨a,ha,hp1⟩:=af.1 hp;split at hp1
  . obtain⟨u,hu,hp2⟩:=af.1 hp1
    cases hp2;have hu:=bw.1 hu;refine⟨(0,0),fun E K H hρ _=>⟨by omega,aw.same H ?_⟩⟩;refine dY (s:=Instr.extract (ρ t) i) (by simp[execOp,hop]) ?_;rw[hρ _ _ ha];simp[Instr.extract,aa,gO,hu]
  . cases hp1
 case call c=>
  split at hp
  . rename_i b hb;obtain⟨l,hl,hp1⟩:=af.1 hp;refine⟨il P w b c.argTypes (((c.args.toList.map ρ)[0]?).getD undef) (oq l),fun E K H hρ hE=>?_⟩;have hmap:=ku hρ _ _ hl;rw[hmap]at hE;obtain⟨h1,w',h2,h3,h4⟩:=Co ok H hp1 hE o.type (c.args.map fun| .const _=>true|_=>false);refine⟨h1,_,w',?_, .inl rfl,h3,h4⟩;rw[<-h2,<-hmap];have:(c.args.toList.map ρ).toArray=c.args.map ρ:=by simp[<-Array.toList_inj]
    rw[this];simp[execOp,hop,resolve,hb,invoke];rfl
  . cases hp
 all_goals cases hp
end
end
end Go.Am
namespace Go.Am
section
def ae.enter (fn:Func) (f:FuncId) (body:Code) (args:List AV) (kind:CallKind):ae:=
 {fn:=f,nt:=Nat.max fn.ntmps args.length,tmps:=T.ofList args,todo:=[.code body],defers:=[],mode:= .run,kind,round:=none}
def ae.put (fr:ae) (d:Option Tmp) (v:AV):T AV:=
 match d with
 |some d=>bif Nat.blt d fr.nt then fr.tmps.set d (some v)else fr.tmps
 |none=>fr.tmps
def ae.finish (fr:ae) (v:AV):R ae:=
 match fr.todo with
 | .inRegion ops (i::rest)::k=> .ok {fr with tmps:=fr.put ((ops[i]?).bind (·.dst)) v,todo:= .inRegion ops rest::k}
 | .cA l::k=> .ok {fr with todo:= .endRange l::k}
 | .beginRound::k=> .ok {fr with todo:=k}
 |_=> .no "finish"
def ae.raise (fr:ae) (c:List oU):ae:=
 match fr.mode with
 | .panicking d=>{fr with mode:= .panicking (c++d)}
 |_=>{fr with mode:= .panicking c}
def exitTo (id:Nat):List aT->Option (List aT)
 | .inBlock j::k=>bif Nat.beq j id then some k else exitTo id k
 |_::k=>exitTo id k
 |[]=>none
inductive bZ where
 |next (m:AM)
 |alts (l:List AM)
 |done (v:AV) (h:AH)
section
variable (tab:aM) (sub:FuncId->List AV->AH->R (List (AV×AH)))
def wanted (ops:Array Oper) (o:Oper) (ts:T AV):R Bool:=
 match o.guard with
 |none=> .ok true
 |some (j,w)=>
  match((ops[j]?).bind (·.dst)).bind ts.get with
  |some (.bool b)=> .ok (b==w)
  |some (.raw _)=> .no "guard"
  |_=> .ok false
def doReturn (fr:ae) (cs:List ae) (v:AV) (h:AH):R bZ:=
 match cs with
 |[]=>
  match fr.kind with
  | .normal=> .ok (.done v h)
  |_=> .no "doReturn: end"
 | c::rest=>
  match fr.kind with
  | .normal=>do .ok (.next {fr:= <-c.finish v,cs:=rest,h})
  | .deferred=>
   match c.mode with
   | .panicking ({recovered:=true, .. }::_)=> .ok (.next {fr:={c with mode:= .returning},cs:=rest,h})
   |_=> .ok (.next {fr:=c,cs:=rest,h})
  |_=> .no "doReturn: kind"
def leave (fr:ae) (cs:List ae) (h:AH) (jump:Option Code):R bZ:=
 match fr.round with
 |none=>
  match jump with
  |none=> .ok (.next {fr:={fr with mode:= .returning},cs,h})
  |some .ret=> .ok (.next {fr:={fr with mode:= .returning},cs,h})
  |_=> .no "leave"
 | some l=>
  match h.get l,cs with
  |some (.loop _ _ fn ts nt ps a b d),_::_=>
   doReturn fr cs (.bool jump.isNone) (h.set l (.loop (if jump.isNone then .ready else .done) jump fn ts nt ps a b d))
  |_,_=> .no "leave: loop"
def tw (b:ByteArray) (c:UInt8):Int:=
 match(List.range b.size).find? fun i=>b[i]! ==c with
 |some i=>(i:Nat)
 |none=> -1
def extern (tag:Nat) (fn:Func) (args:List AV) (h:AH):R (AV×AH):=
 match tag,args with
 |1,[.str a, .str b]=> .ok (.int .i64 (Extern.BytealgCompare.cmp ⟨a.toArray⟩ ⟨b.toArray⟩),h)
 |2,[x]=> .ok (x,h)
 | 3,[.int .i64 (.ofNat n)]=>do
  let t<-R.of "MakeNoZero" fn.resultTypes[0]?
  match<-und tab t with
  | .slice e=>do
   let sz<-siz tab e
   R.check "MakeNoZero" (Nat.ble n 1048576&&Nat.beq sz 1)
   let (h',b)<-newRow tab h e [] true
   .ok (.sl b 0 n (.tail 0),h')
  |_=> .no "MakeNoZero"
 | 4,[x,y]=>do
  let t<-R.of "overlaps" fn.params[0]?
  match<-und tab t with
  | .slice e=>do
   let sz<-siz tab e
   R.check "overlaps: size" (!(Nat.beq sz 0))
   match x,y with
   | .nils, .nils=> .ok (.bool false,h)
   | .nils, .sl .. => .ok (.bool false,h)
   | .sl .., .nils=> .ok (.bool false,h)
   | .sl a i n _, .sl b j m _=>do
    match h.get a,h.get b with
    |some (.cells _ _ _ _ .rw),some (.cells _ _ _ _ .rw)=>
     bif Nat.beq n 0||Nat.beq m 0 then .ok (.bool false,h)
     else .ok (.bool (Nat.beq a b&&Nat.blt i (j+m*sz)&&Nat.blt j (i+n*sz)),h)
    |_,_=> .no "overlaps"
   |_,_=> .no "overlaps"
  |_=> .no "overlaps"
 |5,[.str a, .int .u8 c]=> .ok (.int .i64 (tw ⟨a.toArray⟩ c.toNat.toUInt8),h)
 |_,_=> .no "extern"
def pN (f:FuncId) (fn:Func) (args:List AV) (h:AH):R (AV×AH):=
 match tab.ext.get f with
 |some tag=>extern tab tag fn args h
 |none=> .no "extern"
def callFn (fr:ae) (cs:List ae) (h:AH) (f:FuncId) (args:List AV) (kind:CallKind):R bZ:=
 match tab.fns.get f with
 | some fn=>
  match fn.body with
  | some body=>
   bif tab.merge f&&kind== .normal then do
    let outs<-sub f args h
    let ms<-outs.mapM fun(v,h')=>do R.ok {fr:= <-fr.finish v,cs,h:=h':AM}
    .ok (.alts ms)
   else .ok (.next {fr:=ae.enter fn f body args kind,cs:=fr::cs,h})
  | none=>
   match kind with
   | .normal=>do
    let (v,h')<-pN tab f fn args h
    .ok (.next {fr:= <-fr.finish v,cs,h:=h'})
   |_=> .no "callFn: no body"
 |none=> .no "callFn: no function"
def ko (ts:T AV) (nt:Nat):List Tmp->List AV->T AV
 |p::ps,a::as=>ko (bif Nat.blt p nt then ts.set p (some a)else ts) nt ps as
 |_,_=>ts
def rZ (fr:ae) (cs:List ae) (h:AH) (l:Nat) (args:List AV) (kind:CallKind):R bZ:=
 match h.get l with
 |some (.loop _ _ fn ts nt ps a b _)=>do
  R.check "yield" (Nat.beq args.length ps.size)
  .ok (.next {fr:={fn,nt,tmps:=ko ts nt ps.toList args,todo:=[.code a, .beginRound, .code b],defers:=[],mode:= .run,kind,round:=some l},cs:=fr::cs,h})
 |_=> .no "yield: loop"
def callTarget (fr:ae) (cs:List ae) (h:AH) (d:AD) (kind:CallKind):R bZ:=
 match d.target with
 | .fn (.func f) captured=>callFn tab sub fr cs h f (d.args++captured) kind
 | .gY l=>rZ fr cs h l d.args kind
 |_=> .no "callTarget"
def jG (f:AV) (args:List AV):R AD:=
 match f with
 | .fn fn first captured=> .ok {target:= .fn fn captured,args:=first++args}
 | .gY l=> .ok {target:= .gY l,args}
 |_=> .no "resolve"
def tryRecover (fr:ae) (cs:List ae):R (Option (AV×List ae)):=
 match fr.kind,cs with
 | .deferred,c::rest=>
  match c.mode with
  | .panicking ({v,recovered:=false}::older)=> .ok (some (v,{c with mode:= .panicking ({v,recovered:=true}::older)}::rest))
  |_=> .ok none
 | .normal,_::_=> .ok none
 |_,_=> .no "recover"
def oper (fr:ae) (cs:List ae) (h:AH) (o:Oper):R bZ:=do
 match o.op with
 | .call c=>do
  match c.callee with
  | .value f=>do
   let args<-fm fr.tmps c.args.toList
   let d<-jG (<-ev fr.tmps f) args
   callTarget tab sub fr cs h d .normal
  | .builtin .recover=>
   match fr.round with
   |none=>do
    match<-tryRecover fr cs with
    |some (v,cs')=>do .ok (.next {fr:= <-fr.finish v,cs:=cs',h})
    |none=>do .ok (.next {fr:= <-fr.finish .dV,cs,h})
   |some _=> .no "recover in a round"
  |_=>do
   let (v,h')<-df tab fr.tmps h o
   .ok (.next {fr:= <-fr.finish v,cs,h:=h'})
 | .defer c=>do
  match c.callee,fr.round with
  | .value f,none=>do
   let args<-fm fr.tmps c.args.toList
   let d<-jG (<-ev fr.tmps f) args
   .ok (.next {fr:= <-ae.finish {fr with defers:=d::fr.defers} (.aO []),cs,h})
  |_,_=> .no "defer"
 | .panic x=>do
  match<-ev fr.tmps x with
  | .iface t v=> .ok (.next {fr:=fr.raise [{v:= .iface t v,recovered:=false}],cs,h})
  |_=> .no "panic"
 | .next it s=>do
  let l<-tB h (<-ev fr.tmps it) s
  let ms<-l.mapM fun(v,h')=>do R.ok {fr:= <-fr.finish v,cs,h:=h':AM}
  match ms with
  |[m]=> .ok (.next m)
  |ms=> .ok (.alts ms)
 |_=>do
  let (v,h')<-df tab fr.tmps h o
  .ok (.next {fr:= <-fr.finish v,cs,h:=h'})
inductive gF where
 |pure|read|alloc|fN
deriving DecidableEq
def cls (tab:aM) (o:Oper):gF:=
 match o.op with
 | .move _| .assign _| .pick .. | .build .. | .unOp .. | .makeInterface .. | .makeFunc .. | .slice .. | .fieldAddr .. | .field .. | .indexAddr .. | .index .. | .extract .. | .nilCheck _| .typeAssert .. => .pure
 | .load .. | .lookup .. | .entry _| .binOp .. => .read
 | .convert a b _=>match tab.und.get a,tab.und.get b with
  |some (.int _),some (.int _)=> .pure
  |_,_=> .fN
 | .alloc _| .box .. | .buildSlice .. | .makeMap .. | .makeSlice .. => .alloc
 | .call c=>match c.callee with
  | .builtin .len=> .read
  | .builtin .cap| .builtin .min| .builtin .max=> .pure
  |_=> .fN
 |_=> .fN
structure DS where
 ts:T AV
 h:AH
 ax:T (List Nat)
 reads:List (Nat×T AV×AV)
 ai:List (Nat×Nat)
def eU (h:AH):List (Nat×Nat)->AH
 |[]=>h
 |(_,b)::l=>eU (h.kill b) l
def restore (h h0:AH):List (Nat×Nat)->AH
 |[]=>h
 |(_,b)::l=>restore {h with t:=h.t.set b (h0.get b)} h0 l
def bx (i:Nat) (l:List Nat):Bool:=l.any (Nat.beq i)
def eT (o:Oper):List Nat:=(o.after.toList.filter (Region.binds .any)).map (·.on)
def jo (j:Nat) (l:List Nat):List Nat:=bif bx j l then l else j::l
def ov:List Nat->List Nat->List Nat
 |[],l=>l
 |j::m,l=>ov m (jo j l)
def qd (ax:T (List Nat)):List Nat->List Nat
 |[]=>[]
 |j::l=>jo j (ov ((ax.get j).getD []) (qd ax l))
def cI (ax:T (List Nat)) (o:Oper):List Nat:=qd ax (eT o)
def isReady (ax:T (List Nat)) (i:Nat) (o:Oper):Bool:=(ax.get i).isNone&&(eT o).all fun j=>(ax.get j).isSome
def looks (ops:Array Oper) (o:Oper):List Tmp:=
  (o.op.operands.toList.filterMap fun| .tmp t=>some t|_=>none)++
  (match o.guard with
   |some (g,_)=>((ops[g]?).bind (·.dst)).toList
   |none=>[])
def py (ax:T (List Nat)) (t:Tmp) (pre:List Nat):Nat->List Oper->Bool
 |_,[]=>true
 |j,o::l=>(match o.dst with
  |some d=>bif Nat.beq d t&&(ax.get j).isSome then bx j pre else true
  |none=>true)&&py ax t pre (j+1) l
def pY (ax:T (List Nat)) (ops:Array Oper) (i:Nat) (a:Tmp) (an:List Nat):Nat->List Oper->Bool
 |_,[]=>true
 |j,o::l=>(match o.dst with
  |some d=>bif Nat.beq d a then Nat.beq i j else true
  |none=>true)&&(bif (ax.get j).isSome then bx j an|| !(bx a (looks ops o))else true)&&pY ax ops i a an (j+1) l
def fq (ax:T (List Nat)) (ops:Array Oper) (i:Nat) (o:Oper):Bool:=
  (looks ops o).all (fun t=>py ax t (eT o) 0 ops.toList)&&
  (match o.dst with
   |some d=>pY ax ops i d (cI ax o) 0 ops.toList
   |none=>true)
def mN (ts:T AV) (h:AH) (o:Oper):R (AV×AH):=do
 match o.op with
 | .call c=>do
  match c.callee with
  | .value f=>do
   let args<-fm ts c.args.toList
   let d<-jG (<-ev ts f) args
   match d.target with
   | .fn (.func f) captured=>do
    match tab.fns.get f with
    | some fn=>
     match fn.body with
     |some _=>do
      match<-sub f (d.args++captured) h with
      |[(v,h')]=> .ok (v,h')
      |_=> .no "draw: more than one end"
     |none=>pN tab f fn (d.args++captured) h
    |none=> .no "draw: function"
   |_=> .no "draw: target"
  | .builtin .recover=> .no "draw: recover"
  |_=>df tab ts h o
 | .defer _| .panic _| .next .. | .go _=> .no "draw: effect"
 |_=>df tab ts h o
def eB (nt:Nat) (ts:T AV) (o:Oper) (v:AV):T AV:=
 match o.dst with
 |some d=>bif Nat.blt d nt then ts.set d (some v)else ts
 |none=>ts
def lg (ops:Array Oper) (nt:Nat) (i:Nat) (o:Oper) (s:DS):R (Option DS):=do
 R.check "draw: temporaries" (fq s.ax ops i o)
 let ax:=s.ax.set i (some (cI s.ax o))
 if !(<-wanted ops o s.ts)then .ok (some {s with ts:=eB nt s.ts o (.aO []),ax})
 else
  match cls tab o with
  | .fN=> .ok none
  | .alloc=>do
   let (v,h1)<-df tab s.ts {t:= .e,next:=s.h.next} o
   R.check "draw: a block" (Nat.beq h1.next (s.h.next+1))
   let obj<-R.of "draw: block" (h1.get s.h.next)
   .ok (some {s with ts:=eB nt s.ts o v,h:=s.h.new obj,ax,ai:=(i,s.h.next)::s.ai})
  | c=>
   match(match c with| .pure=>df tab s.ts {t:= .e,next:=0} o|_=> .no "read")with
   | .ok (v,h1)=>do
    R.check "draw: no block" (Nat.beq h1.next 0)
    .ok (some {s with ts:=eB nt s.ts o v,ax})
   | .no _=>
    match df tab s.ts (eU s.h s.ai) o with
    | .ok (v,_)=> .ok (some {s with ts:=eB nt s.ts o v,ax,reads:=(i,s.ts,v)::s.reads})
    | .no _=> .ok none
def gx (ops:Array Oper) (nt:Nat):Nat->List Oper->DS->R DS
 |_,[],s=> .ok s
 | i,o::l,s=>
  bif isReady s.ax i o then do
   match<-lg tab ops nt i o s with
   |some s'=>gx ops nt (i+1) l s'
   |none=>gx ops nt (i+1) l s
  else gx ops nt (i+1) l s
def fB (ax:T (List Nat)):Nat->List Oper->List (Nat×Oper)
 |_,[]=>[]
 |i,o::l=>bif isReady ax i o then(i,o)::fB ax (i+1) l else fB ax (i+1) l
def reread (ops:Array Oper) (h:AH):List (Nat×T AV×AV)->R Unit
 |[]=> .ok ()
 |(i,ts,v)::l=>do
  let o<-R.of "reread" ops[i]?
  let (u,_)<-df tab ts h o
  R.check "draw: a read behind an effect" (AV.beq u v)
  reread ops h l
def pX (ops:Array Oper) (nt:Nat) (i:Nat) (o:Oper) (s:DS):R DS:=do
 R.check "draw: temporaries" (fq s.ax ops i o)
 let b<-wanted ops o s.ts
 R.check "draw: not wanted" b
 let an:=cI s.ax o
 let hid:=s.ai.filter fun x=> !(bx x.1 an)
 let (v,h1)<-mN tab sub s.ts (eU s.h hid) o
 R.check "draw: next" (Nat.ble s.h.next h1.next)
 let h2:=restore h1 s.h hid
 let reads:=s.reads.filter fun x=> !(bx x.1 an)
 reread tab ops (eU h2 hid) reads
 .ok {ts:=eB nt s.ts o v,h:=h2,ax:=s.ax.set i (some an),reads,ai:=hid}
def mn (ops:Array Oper) (nt:Nat):Nat->DS->R DS
 |0,_=> .no "draw: fuel"
 | n+1,s=>do
  let s1<-gx tab ops nt 0 ops.toList s
  match fB s1.ax 0 ops.toList with
  |[]=>do
   R.check "draw: not all" ((List.range ops.size).all fun i=>(s1.ax.get i).isSome)
   .ok s1
  |[(i,o)]=>do
   let s2<-pX tab sub ops nt i o s1
   mn ops nt n s2
  |_=> .no "draw: two effects"
def kH:Nat->List Oper->Bool
 |_,[]=>true
 |i,o::l=>(eT o).all (fun p=>Nat.blt p i)&&kH (i+1) l
def draw (ops:Array Oper) (nt:Nat) (ts:T AV) (h:AH):R (T AV×AH):=do
 R.check "draw: order" (kH 0 ops.toList)
 let s<-mn tab sub ops nt (ops.size+1) {ts,h,ax:= .e,reads:=[],ai:=[]}
 .ok (s.ts,s.h)
def results (h:AH) (ts:T AV):List ResultVar->R (List AV)
 |[]=> .ok []
 | .tmp t::l=>do
  let vs<-results h ts l
  .ok ((ts.get t).getD (.aO [])::vs)
 | .cell a t::l=>do
  match ts.get a with
  |some (.ptr b off)=>do
   let v<-loadVar tab h t b off
   let vs<-results h ts l
   .ok (v::vs)
  |_=> .no "results"
def result (vs:List AV):AV:=
 match vs with
 |[v]=>v
 |vs=> .aO vs
def unwind (fr:ae) (cs:List ae) (h:AH):R bZ:=
 match fr.defers with
 |{target:= .collected b, .. }::ds=>
  match h.get b with
  |some (.kn (some calls))=> .ok (.next {fr:={fr with defers:=calls++ds},cs,h:=h.set b (.kn none)})
  |_=> .no "unwind: collected"
 |d::ds=>callTarget tab sub {fr with defers:=ds} cs h d .deferred
 | []=>
  match fr.mode with
  | .run=> .no "unwind"
  | .panicking chain=>
   match cs with
   |c::rest=> .ok (.next {fr:=c.raise chain,cs:=rest,h})
   |[]=> .no "a panic at the end"
  | .returning=>
   match tab.fns.get fr.fn with
   |none=> .no "unwind: function"
   |some fn=>do
    let vs<-results tab h fr.tmps fn.results.toList
    doReturn fr cs (result vs) h
def step (m:AM):R bZ:=
 let fr:=m.fr
 let cs:=m.cs
 let h:=m.h
 match fr.mode with
 | .run=>
  match fr.todo with
  |[]=>leave fr cs h none
  | .code .ret::_=>leave fr cs h (some .ret)
  | .code .skip::k=> .ok (.next {fr:={fr with todo:=k},cs,h})
  | .code (.label _)::k=> .ok (.next {fr:={fr with todo:=k},cs,h})
  | .inBlock _::k=> .ok (.next {fr:={fr with todo:=k},cs,h})
  | .inScope _::k=> .ok (.next {fr:={fr with todo:=k},cs,h})
  | .code (.seq a b)::k=> .ok (.next {fr:={fr with todo:= .code a:: .code b::k},cs,h})
  | .code (.cond c a b)::k=>do
   match<-ev fr.tmps c with
   | .bool true=> .ok (.next {fr:={fr with todo:= .code a::k},cs,h})
   | .bool false=> .ok (.next {fr:={fr with todo:= .code b::k},cs,h})
   |_=> .no "cond"
  | .code (.block id b)::k=> .ok (.next {fr:={fr with todo:= .code b:: .inBlock id::k},cs,h})
  | .code (.loop b)::k=> .ok (.next {fr:={fr with todo:= .code b:: .inLoop b::k},cs,h})
  | .inLoop b::k=> .ok (.next {fr:={fr with todo:= .code b:: .inLoop b::k},cs,h})
  | .code (.scope b)::k=> .ok (.next {fr:={fr with todo:= .code b:: .inScope b::k},cs,h})
  | .code (.exit id)::k=>
   match exitTo id k with
   |some k'=> .ok (.next {fr:={fr with todo:=k'},cs,h})
   |none=>leave fr cs h (some (.exit id))
  | .code (.rangeFunc f ps a b)::k=>do
   let d<-jG (<-ev fr.tmps f) [.gY (bif fr.round.isNone then h.next+1 else h.next)]
   match fr.round with
   |none=>
    let h1:=h.new (.kn (some []))
    let h2:=h1.new (.loop .ready none fr.fn fr.tmps fr.nt ps a b h.next)
    callTarget tab sub {fr with todo:= .cA (h.next+1)::k,defers:={target:= .collected h.next,args:=[]}::fr.defers} cs h2 d .normal
   | some l=>
    match h.get l with
    |some (.loop _ _ _ _ _ _ _ _ dd)=>
     let h2:=h.new (.loop .ready none fr.fn fr.tmps fr.nt ps a b dd)
     callTarget tab sub {fr with todo:= .cA h.next::k} cs h2 d .normal
    |_=> .no "rangeFunc: loop"
  | .endRange l::k=>
   match h.get l with
   |some (.loop st pending fn ts nt ps a b d)=>
    match st with
    | .busy=> .no "endRange: busy"
    |_=> .ok (.next {fr:={fr with todo:=(pending.map aT.code).toList++k},cs,h:=h.set l (.loop .exhausted pending fn ts nt ps a b d)})
   |_=> .no "endRange"
  | .beginRound::k=>
   match fr.round with
   |some l=>
    match h.get l with
    |some (.loop .ready pending fn ts nt ps a b d)=> .ok (.next {fr:={fr with todo:=k},cs,h:=h.set l (.loop .busy pending fn ts nt ps a b d)})
    |_=> .no "beginRound"
   |none=> .no "beginRound"
  | .code (.region _ ops false)::k=> .ok (.next {fr:={fr with todo:= .inRegion ops (List.range ops.size)::k},cs,h})
  | .code (.region _ ops true)::k=>do
   let (ts,h')<-draw tab sub ops fr.nt fr.tmps h
   .ok (.next {fr:={fr with tmps:=ts,todo:=k},cs,h:=h'})
  | .inRegion _ []::k=> .ok (.next {fr:={fr with todo:=k},cs,h})
  | .inRegion ops (i::_)::_=>
   match ops[i]? with
   |some o=>do
    if<-wanted ops o fr.tmps then oper tab sub fr cs h o
    else do .ok (.next {fr:= <-fr.finish (.aO []),cs,h})
   |none=> .no "region"
  |_=> .no "item"
 |_=>unwind tab sub fr cs h
end
mutual
def runs (tab:aM):Nat->List AM->R (List (AV×AH))
 |0,_=> .no "fuel"
 |_+1,[]=> .ok []
 |n+1,m::l=>do
  let a<-run tab n m
  let b<-runs tab n l
  .ok (a++b)
def run (tab:aM):Nat->AM->R (List (AV×AH))
 |0,_=> .no "fuel"
 | n+1,m=>
  match step tab (fun f args h=>match tab.fns.get f with
   |some fn=>match fn.body with
    |some body=>run tab n {fr:=ae.enter fn f body args .normal,cs:=[],h}
    |none=> .no "run: body"
   |none=> .no "run: function") m with
  | .no w=> .no w
  | .ok (.done v h)=> .ok [(v,h)]
  | .ok (.next m')=>run tab n m'
  | .ok (.alts l)=>runs tab n l
end
end
end Go.Am
namespace Go.Am
open Go.RowKit
section
variable [Inhabited aE]
def bV (E:Env):aT->Item
 | .code c=> .code c
 | .inBlock id=> .inBlock id
 | .inLoop b=> .inLoop b
 | .inScope b=> .inScope b
 | .inRegion ops l=> .inRegion ops l
 | .cA l=> .inRangeFunc (E.aG l)
 | .endRange l=> .endRangeFunc (E.aG l)
 | .beginRound=> .beginRound
def jg (E:Env) (x:oU):PanicEntry:={v:=aa E x.v,recovered:=x.recovered}
def dh (E:Env):kf->FrameMode
 | .run=> .run
 | .returning=> .returning
 | .panicking c=> .panicking (c.map (jg E))
def aL (E:Env) (fr:ae):Frame:=
 {fn:=fr.fn,tmps:=dK E fr.tmps fr.nt,todo:=fr.todo.map (bV E),defers:=fr.defers.map (cw E),mode:=dh E fr.mode,kind:=fr.kind,roundOf:=fr.round.map E.aG}
def ae.WF (fr:ae):Prop:=∀t,fr.nt<=t->fr.tmps.get t=none
def ag (D:Nat->Prop) (E E':Env):Prop:=∀i,D i->E'.aG i=E.aG i/\E'.cap i=E.cap i
theorem ag.refl (D:Nat->Prop) (E:Env):ag D E E:=fun _ _=>⟨rfl,rfl⟩
theorem ag.trans {D D':Nat->Prop} {E E' E'':Env} (h:ag D E E') (h':ag D' E' E'') (hd:∀i,D i->D' i):ag D E E'':=
 fun i hi=>⟨(h' i (hd i hi)).1.trans (h i hi).1,(h' i (hd i hi)).2.trans (h i hi).2⟩
structure Rel (D:Nat->Prop) (E:Env) (K:KS) (m:AM) (base:List Frame) (fr:Frame) (cs:List Frame) (w:World):Prop where
 all:∀E',ag D E E'->aU E' m.h K w/\aL E' m.fr=fr/\m.cs.map (aL E')++base=cs
 cN:∀i,D i->i<m.h.next
 wf:m.fr.WF/\ ∀f∈m.cs,f.WF
def eo (P:Program) (lo:Nat) (M0:Machine) (D:Nat->Prop) (E:Env) (K:KS) (m':AM) (base:List Frame) (w:World):Prop:=
 ∃fr' cs' w' E' D',Steps P M0 (lone fr' cs' w')/\Rel D' E' K m' base fr' cs' w'/\ag D E E'/\(∀i,D i->D' i)/\Kept K w w'/\lo<=m'.h.next/\ ∀i,D' i->D i\/lo<=i
def Ends (P:Program) (lo:Nat) (M0:Machine) (D:Nat->Prop) (E:Env) (K:KS) (v:AV) (h:AH) (base:List Frame) (f:FuncId) (w:World):Prop:=
 ∃fr' w' v' E' D',Steps P M0 (lone fr' base w')/\fr'.fn=f/\fr'.leaving P w' (.returned v')/\(∀E'',ag D' E' E''->aU E'' h K w'/\aa E'' v=v')/\
  ag D E E'/\(∀i,D i->D' i)/\(∀i,D' i->i<h.next)/\Kept K w w'/\lo<=h.next/\ ∀i,D' i->D i\/lo<=i
section
variable {P:Program} {D D1:Nat->Prop} {E E1:Env} {K:KS} {m:AM} {base:List Frame} {M0 M1:Machine} {w w1:World} {v:AV} {h:AH} {f:FuncId}
theorem eo.trans {lo lo1:Nat} (hs:Steps P M0 M1) (ha:ag D E E1) (hd:∀i,D i->D1 i) (hk:Kept K w w1) (hlo:lo<=lo1) (hnew:∀i,D1 i->D i\/lo<=i) (hg:eo P lo1 M1 D1 E1 K m base w1):eo P lo M0 D E K m base w:=by
 obtain⟨fr',cs',w',E',D',h1,h2,h3,h4,h5,h6,h7⟩:=hg;refine⟨fr',cs',w',E',D',hs.trans h1,h2,ha.trans h3 hd,fun i hi=>h4 i (hd i hi),hk.trans h5,AG hlo h6,fun i hi=>?_⟩;rcases h7 i hi with h|h
 . exact hnew i h
 . exact .inr (AG hlo h)
theorem Ends.trans {lo lo1:Nat} (hs:Steps P M0 M1) (ha:ag D E E1) (hd:∀i,D i->D1 i) (hk:Kept K w w1) (hlo:lo<=lo1) (hnew:∀i,D1 i->D i\/lo<=i) (hg:Ends P lo1 M1 D1 E1 K v h base f w1):Ends P lo M0 D E K v h base f w:=by
 obtain⟨fr',w',v',E',D',h1,h2,h3,h4,h5,h6,h7,h8,h9',h9⟩:=hg;refine⟨fr',w',v',E',D',hs.trans h1,h2,h3,h4,ha.trans h5 hd,fun i hi=>h6 i (hd i hi),h7,hk.trans h8,AG hlo h9',fun i hi=>?_⟩;rcases h9 i hi with h|h
 . exact hnew i h
 . exact .inr (AG hlo h)
end
theorem lp {fr fr':Frame} {cs cs':List Frame} {w w':World} (h:lone fr cs w=lone fr' cs' w'):fr=fr'/\cs=cs'/\w=w':=by
 simp only[lone,Machine.mk.injEq,Array.mk.injEq,Bb,Goroutine.mk.injEq,DA,true_and]at h;obtain⟨h1,h2,h3⟩:=h;exact⟨h2,h3,h1⟩
def One (P:Program) (M0:Machine) (E:Env) (K:KS) (m':AM) (base:List Frame) (w:World):Prop:=
 ∃w',Go.step P M0= .next (lone (aL E m'.fr) (m'.cs.map (aL E)++base) w')/\aU E m'.h K w'/\Kept K w w'
section
variable {P:Program} {D:Nat->Prop} {E:Env} {K:KS} {m m':AM} {base:List Frame} {fr:Frame} {cs:List Frame} {w:World}
theorem Rel.jz (hR:Rel D E K m base fr cs w) (f:Nat->Nat×Nat):∃E1,ag D E E1/\ ∀i,m.h.next<=i->E1.aG i=(f i).1/\E1.cap i=(f i).2:=by
 refine⟨⟨fun i=>if i<m.h.next then E.aG i else(f i).1,fun i=>if i<m.h.next then E.cap i else(f i).2⟩,fun i hi=>?_,fun i hi=>?_⟩
 . have:=hR.cN i hi;simp[this]
 . have hlt:¬i<m.h.next:=by omega
   simp[hlt]
theorem Rel.one (hR:Rel D E K m base fr cs w) (M0:Machine)
   (f:Nat->Nat×Nat) (hn:m.h.next<=m'.h.next) (hwf:m'.fr.WF/\ ∀f∈m'.cs,f.WF)
   (h1:∀E',ag D E E'->aU E' m.h K w->aL E' m.fr=fr->m.cs.map (aL E')++base=cs->(∀i,m.h.next<=i->i<m'.h.next->E'.aG i=(f i).1/\E'.cap i=(f i).2)->One P M0 E' K m' base w):
   eo P m.h.next M0 D E K m' base w:=by
 obtain⟨E1,ha,hE⟩:=hR.jz f;let D1:Nat->Prop:=fun i=>D i\/(m.h.next<=i/\i<m'.h.next)
 have hE1:∀E',ag D1 E1 E'->One P M0 E' K m' base w:=by
   intro E' he;have hd:ag D E E':=ha.trans he (fun i hi=> .inl hi);obtain⟨g1,g2,g3⟩:=hR.all E' hd;refine h1 E' hd g1 g2 g3 (fun i hi hj=>?_);have h2:=he i (.inr ⟨hi,hj⟩);have h3:=hE i hi;exact⟨h2.1.trans h3.1,h2.2.trans h3.2⟩
 obtain⟨w',s1,s2,s3⟩:=hE1 E1 (ag.refl _ _);refine⟨_,_,w',E1,D1, .one s1,⟨?_,?_,hwf⟩,ha,fun i hi=> .inl hi,s3,hn,fun i hi=>hi.elim .inl (fun h=> .inr h.1)⟩
 . intro E' he;obtain⟨w2,t1,t2,t3⟩:=hE1 E' he;rw[s1]at t1;obtain⟨e1,e2,e3⟩:=lp (by simpa using t1);subst e3;exact⟨t2,e1.symm,e2.symm⟩
 . intro i hi;rcases hi with hi|hi
   . have:=hR.cN i hi;omega
   . exact hi.2
end
end
section
variable [Inhabited aE]
theorem sD (E:Env) (ts:T AV) (nt t:Nat) (hwf:∀t,nt<=t->ts.get t=none):(dK E ts nt).getD t undef=aa E ((ts.get t).getD (.aO [])):=by
 unfold dK;by_cases ht:t<nt
 . simp[Array.getD,ht,ow]
 . simp[Array.getD,ht,hwf t (by omega)];rfl
theorem tmps_get? (E:Env) (ts:T AV) (nt t:Nat):(dK E ts nt)[t]? =if t<nt then some (aa E ((ts.get t).getD (.aO [])))else none:=by
 unfold dK;by_cases ht:t<nt<;>simp[ht,ow]
theorem FW (E:Env) (ts:T AV) (nt:Nat):(dK E ts nt).size=nt:=by simp[dK]
def ef (ts:T AV) (nt:Nat) (d:Tmp) (v:AV):T AV:=bif Nat.blt d nt then ts.set d (some v)else ts
theorem sL (ts:T AV) (nt:Nat) (d:Tmp) (v:AV) (t:Nat):(ef ts nt d v).get t=if d<nt/\t=d then some v else ts.get t:=by
 unfold ef;by_cases h:d<nt
 . have:Nat.blt d nt=true:=by simpa using h
   simp[h,this,T.aI]
 . have:Nat.blt d nt=false:=by
    cases hb:Nat.blt d nt
    . rfl
    . exact absurd (by simpa using hb) h
   simp[this,h]
theorem xC (E:Env) (ts:T AV) (nt:Nat) (d:Tmp) (v:AV):(dK E ts nt).setIfInBounds d (aa E v)=dK E (ef ts nt d v) nt:=by
 apply By
 intro j;rw[Bq,tmps_get?,tmps_get?,FW,sL];by_cases hj:d=j
 . subst hj;by_cases hd:d<nt<;>simp[hd]
 . have:¬j=d:=fun e=>hj e.symm
   simp[hj,this]
theorem xP {ts:T AV} {nt:Nat} (h:∀t,nt<=t->ts.get t=none) (d:Tmp) (v:AV):∀t,nt<=t->(ef ts nt d v).get t=none:=by
 intro t ht;rw[sL];split
 . rename_i hc;obtain⟨h1,h2⟩:=hc;subst h2;exact absurd h1 (Nat.not_lt.2 ht)
 . exact h t ht
theorem jI {fr:ae} (hwf:fr.WF) (E:Env) {x:Operand} {u:AV} (h:ev fr.tmps x= .ok u):(aL E fr).eval x=aa E u:=by
 cases x<;>simp only[ev]at h<;>(try cases h)
 . exact sD E fr.tmps fr.nt _ hwf
 . exact(ve E _).symm
 . simp[Frame.eval,aa]
theorem np (fr:ae) (d:Option Tmp) (v:AV):fr.put d v=match d with|some d=>ef fr.tmps fr.nt d v|none=>fr.tmps:=by
 cases d<;>rfl
theorem fU {fr fr':ae} {v:AV} (h:fr.finish v= .ok fr') (E:Env):(aL E fr).finish (aa E v)=aL E fr'/\(fr.WF->fr'.WF)/\fr'.fn=fr.fn:=by
 obtain⟨fn,nt,tmps,todo,defers,mode,kind,round⟩:=fr;unfold ae.finish at h;split at h
 . rename_i ops i rest k htodo
   cases h;simp only at htodo;subst htodo;refine⟨?_,fun hwf=>?_,rfl⟩
   . rw[np]
     cases hd:(ops[i]?).bind (·.dst)with
     |none=>simp[Frame.finish,aL,bV,hd]
     |some d=>simp[Frame.finish,aL,bV,hd,xC]
   . unfold ae.WF;simp only[np]
     cases hd:(ops[i]?).bind (·.dst)with
     |none=>exact hwf
     |some d=>exact xP hwf d v
 . rename_i l k htodo
   cases h;simp only at htodo;subst htodo;exact⟨by simp[Frame.finish,aL,bV],fun hwf=>hwf,rfl⟩
 . rename_i k htodo
   cases h;simp only at htodo;subst htodo;exact⟨by simp[Frame.finish,aL,bV],fun hwf=>hwf,rfl⟩
 . cases h
def bot (fr:ae):List ae->FuncId
 |[]=>fr.fn
 |c::cs=>bot c cs
theorem eu {fr fr':ae} (h:fr'.fn=fr.fn) (cs:List ae):bot fr' cs=bot fr cs:=by
 cases cs with
 |nil=>exact h
 |cons c cs=>rfl
theorem vb (E:Env) (id:Nat):∀(k:List aT),Go.exitTo id (k.map (bV E))=(exitTo id k).map (List.map (bV E)):=by
 intro k;induction k with
 |nil=>rfl
 |cons x k ih=>
  cases x<;>simp only[Ay,bV,Go.exitTo,exitTo,ih]
  rename_i j;by_cases h:j=id
  . subst h;simp
  . have:Nat.beq j id=false:=by
     cases hb:Nat.beq j id
     . rfl
     . exact absurd (Aa hb) h
    simp[h,this,ih]
section
variable {P:Program} {D:Nat->Prop} {E:Env} {K:KS} {m:AM} {base:List Frame} {fr:Frame} {cs:List Frame} {w:World}
theorem Rel.fM (hR:Rel D E K m base fr cs w) (fr':ae) (hwf:fr'.WF) (h:∀E' cs',Go.step P (lone (aL E' m.fr) cs' w)= .next (lone (aL E' fr') cs' w)):
  eo P m.h.next (lone fr cs w) D E K {fr:=fr',cs:=m.cs,h:=m.h} base w:=
 hR.one (m':={fr:=fr',cs:=m.cs,h:=m.h}) _ (fun _=>(0,0)) (Aj _) ⟨hwf,hR.wf.2⟩
  (fun E' _ H e1 e2 _=>⟨w,by rw[<-e1,<-e2];exact h E' _,H,Kept.refl K w⟩)
theorem ry {fr:Frame} {cs:List Frame} {s:Sem Next} {r:Next} {x:Value} {w w':World} (hs:s.run P w= .ok r w') (hr:Yields r x):
  (stepG.apply P true fr cs none s w).bare= .go {frame:=fr.finish x,callers:=cs,status:= .running,dying:=none} w':=by
 rcases hr with rfl|⟨rfl,rfl⟩<;>simp[stepG.apply,hs]
theorem IS {fr:Frame} {cs:List Frame} {ops:Array Oper} {i:Nat} {rest:List Nat} {k:List Item} {o:Oper} (hm:fr.mode= .run) (ht:fr.todo= .inRegion ops (i::rest)::k)
   (ho:ops[i]? =some o) (hw:Region.wanted o (yielded ops fr.tmps)=true) (hd:fr.roundOf=none\/ ∀c,o.op≠ .defer c) (w:World):
   stepG P true {frame:=fr,callers:=cs,status:= .running,dying:=none} w=stepG.apply P true fr cs none (execOp fr.eval o) w:=by
 have:stepG P true {frame:=fr,callers:=cs,status:= .running,dying:=none} w=stepG.oper P true fr cs none w:=by
   simp[stepG,hm,stepG.exec,ht,ho,hw]
 rw[this];unfold stepG.oper;simp only[Frame.oper?,ht,ho];rcases hd with hd|hd
 . rw[hd]
 . cases fr.roundOf with
   |none=>rfl
   |some l=>
    split
    . exact absurd (by assumption) (hd _)
    . rfl
end
end
section
variable [Inhabited aE]
theorem uh {α:Type}:∀(l:List α) (k:Nat) (t:T α) (j:Nat),(T.ee l k t).get j=if k<=j/\j<k+l.length then l[j - k]? else t.get j:=by
 intro l;induction l with
 |nil=>
  intro k t j;simp only[T.ee,Bf,A9];rw[Ae (by omega)]
 |cons x l ih=>
  intro k t j;simp only[T.ee,ih,T.aI,AR];by_cases h1:k+1<=j/\j<k+1+l.length
  . rw[Ai h1,Ai (by omega)];have:j - k=(j - (k+1))+1:=by omega
    rw[this,AJ]
  . rw[Ae h1];by_cases h2:j=k
    . subst h2;simp
    . rw[Ae h2,Ae (by omega)]
theorem lZ {α:Type} (l:List α) (j:Nat):(T.ofList l).get j=l[j]? :=by
 unfold T.ofList;rw[uh];by_cases h:j<l.length
 . rw[Ai (by omega)];simp
 . rw[Ae (by omega),Bh (by omega)];rfl
theorem ln (fn:Func) (f:FuncId) (body:Code) (args:List AV) (kind:CallKind):(ae.enter fn f body args kind).WF:=by
 intro t ht;simp only[ae.enter]at ht⊢;rw[lZ,Bh];exact AG (Nat.le_max_right _ _) ht
theorem iB {P:Program} {fn:Func} {f:FuncId} {body:Code} (hf:P.funcs[f]? =some fn) (hb:fn.body=some body) (E:Env) (args:List AV) (kind:CallKind):
   Frame.enter P f (aJ E args).toArray kind=aL E (ae.enter fn f body args kind):=by
 unfold Frame.enter ae.enter aL;simp only[hf,hb,Bw,AA,AS,Ay,D2,bV,dh,Bv];congr 1
 apply By
 intro j;rw[tmps_get?,lZ,Ez,Bj,aX,AE,gO,Ej];by_cases h1:j<args.length
 . have h2:j<Nat.max fn.ntmps args.length:=Bd h1 (Nat.le_max_right _ _);rw[Ai h1,Ai h2,Af h1];simp
 . rw[Ae h1,Bh (by omega:args.length<=j)];have:Nat.max fn.ntmps args.length=max fn.ntmps args.length:=rfl;rw[this];by_cases h2:j<fn.ntmps
   . rw[Ai (by omega),Ai (by omega)];rfl
   . rw[Ae (by omega),Ae (by omega)]
theorem uK (E:Env) (nt:Nat):∀(ps:List Tmp) (as:List AV) (ts:T AV),(∀t,nt<=t->ts.get t=none)->
  ((ps.zip (aJ E as)).foldl (fun tmps (t,a)=>tmps.setIfInBounds t a) (dK E ts nt))=dK E (ko ts nt ps as) nt/\ ∀t,nt<=t->(ko ts nt ps as).get t=none:=by
 intro ps;induction ps with
 |nil=>intro as ts h;cases as<;>exact⟨rfl,h⟩
 | cons p ps ih=>
  intro as ts h
  cases as with
  |nil=>exact⟨rfl,h⟩
  |cons a as=>
   simp only[aP,List.zip_cons_cons,Dp,xC,ko];exact ih as (ef ts nt p a) (xP h p a)
theorem rU {ops:Array Oper} {o:Oper} {ts:T AV} {nt:Nat} (hwf:∀t,nt<=t->ts.get t=none) {b:Bool} (h:wanted ops o ts= .ok b) (E:Env):
  Region.wanted o (yielded ops (dK E ts nt))=b:=by
 unfold wanted at h;unfold Region.wanted
 cases hg:o.guard with
 |none=>rw[hg]at h;cases h;rfl
 | some gw=>
  obtain⟨j,u⟩:=gw;rw[hg]at h;simp only at h⊢;unfold yielded
  cases hd:(ops[j]?).bind (·.dst)with
  |none=>
   rw[hd]at h;simp only[Option.bind_none]at h
   cases h;rfl
  |some d=>
   rw[hd]at h;simp only[Bw]at h⊢;rw[tmps_get?];by_cases hlt:d<nt
   . rw[Ai hlt]
     cases hv:ts.get d with
     |none=>rw[hv]at h;cases h;rfl
     |some v=>
      rw[hv]at h
      cases v<;>simp only at h<;>first|(cases h;done)|(cases h;simp[aa])
   . rw[Ae hlt];rw[hwf d (by exact BX hlt)]at h
     cases h;rfl
end
section
variable [Inhabited aE]
instance:LawfulMonad R:=LawfulMonad.mk'
 (id_map:=by intro α x;cases x<;>rfl)
 (pure_bind:=by intros;rfl)
 (bind_assoc:=by intro α β γ x f g;cases x<;>rfl)
theorem gN {P:Program} {w:World} {r:Nat} {o:Obj} (h:w.heap[r]? =some o) (hn:∀c e f,o≠ .cells c e f):(getObj r).run P w= .ok o w:=by
 simp only[getObj,Sem.run,h]
theorem mapM_mem {α β:Type} {g:α->R β}:∀{l:List α} {ms:List β},l.mapM g= .ok ms->∀x∈l,∃y∈ms,g x= .ok y:=by
 intro l;induction l with
 |nil=>intro ms _ x hx;cases hx
 |cons a l ih=>
  intro ms h x hx;rw[Ec]at h;obtain⟨b,hb,h1⟩:=af.1 h;obtain⟨bs,hbs,h2⟩:=af.1 h1
  cases h2;rcases An.1 hx with rfl|hx
  . exact⟨b,Al,hb⟩
  . obtain⟨y,hy,hg⟩:=ih hbs x hx;exact⟨y,Ap _ hy,hg⟩
def Out (P:Program) (lo:Nat) (M0:Machine) (D:Nat->Prop) (E:Env) (K:KS) (b:FuncId) (base:List Frame) (w:World):bZ->Prop
 | .next m'=>bot m'.fr m'.cs=b/\eo P lo M0 D E K m' base w
 | .alts l=>∃m'∈l,bot m'.fr m'.cs=b/\eo P lo M0 D E K m' base w
 | .done v h=>Ends P lo M0 D E K v h base b w
theorem Out.trans {P:Program} {D D1:Nat->Prop} {E E1:Env} {K:KS} {base:List Frame} {M0 M1:Machine} {w w1:World} {b:FuncId} {out:bZ} {lo lo1:Nat}
  (hs:Steps P M0 M1) (ha:ag D E E1) (hd:∀i,D i->D1 i) (hk:Kept K w w1) (hlo:lo<=lo1) (hnew:∀i,D1 i->D i\/lo<=i) (hg:Out P lo1 M1 D1 E1 K b base w1 out):Out P lo M0 D E K b base w out:=by
 cases out with
 |next m'=>exact⟨hg.1,hg.2.trans hs ha hd hk hlo hnew⟩
 |alts l=>
  obtain⟨m',h1,h2,h3⟩:=hg;exact⟨m',h1,h2,h3.trans hs ha hd hk hlo hnew⟩
 |done v h=>exact Ends.trans hs ha hd hk hlo hnew hg
def fQ (P:Program) (tab:aM) (sub:FuncId->List AV->AH->R (List (AV×AH))):Prop:=
 ∀f fn body args h outs,tab.fns.get f=some fn->fn.body=some body->sub f args h= .ok outs->∀(D:Nat->Prop) (E:Env) (K:KS) (w:World) (argsC:Array Value),
  (∀E',ag D E E'->aU E' h K w/\(aJ E' args).toArray=argsC)->(∀i,D i->i<h.next)->∀cs,∃v h',(v,h')∈outs/\Ends P h.next (lone (Frame.enter P f argsC .normal) cs w) D E K v h' cs f w
def fW (P:Program) (tab:aM):Prop:=
 ∀f fn args h v h',tab.fns.get f=some fn->fn.body=none->pN tab f fn args h= .ok (v,h')->∀w,∃g:Nat×Nat,∀E K,aU E h K w->(h.next<h'.next->E.aG h.next=g.1/\E.cap h.next=g.2)->
  (h.next<=h'.next/\h'.next<=h.next+1)/\ ∃w',(callFunc f (aJ E args).toArray).run P w= .ok (.value (aa E v)) w'/\aU E h' K w'/\Kept K w w'
structure Ctx (P:Program) (M0:Machine) (frC:Frame) (csC:List Frame) (w:World) (kind:CallKind) (dC:Deferred):Prop where
 enter:∀f a w',(invoke dC.target dC.args).run P w= .ok (.enter f a) w'->Go.step P M0= .next (lone (Frame.enter P f a kind) (frC::csC) w')
 round:∀l f t a b w',(invoke dC.target dC.args).run P w= .ok (.round l f t a b) w'->Go.step P M0= .next (lone (Frame.round l f t a b kind) (frC::csC) w')
 value:∀v w',(invoke dC.target dC.args).run P w= .ok (.value v) w'->kind= .normal->Go.step P M0= .next (lone (frC.finish v) csC w')
section
variable {P:Program} {tab:aM} (ok:aV P tab) {sub:FuncId->List AV->AH->R (List (AV×AH))} (hsub:fQ P tab sub) (hext:fW P tab)
variable {D:Nat->Prop} {E:Env} {K:KS} {base:List Frame} {frC:Frame} {csC:List Frame} {w:World}
include ok hsub hext in
theorem zO {fr:ae} {cs:List ae} {h:AH} {f:FuncId} {args:List AV} {kind:CallKind} {out:bZ} (hc:callFn tab sub fr cs h f args kind= .ok out)
   (hR:Rel D E K {fr,cs,h} base frC csC w) (M0:Machine) {dC:Deferred} (hctx:Ctx P M0 frC csC w kind dC)
   (hinv:∀E',ag D E E'->invoke dC.target dC.args=callFunc f (aJ E' args).toArray):Out P h.next M0 D E K (bot fr cs) base w out:=by
 unfold callFn at hc;split at hc
 . rename_i fn hfn;have hP:=ok.fns f fn hfn;have hn:fn.name≠ "runtime.NumGoroutine" :=by simpa using ok.nm f fn hfn
   split at hc
   . rename_i body hb;have hrun:∀a,(callFunc f a).run P w= .ok (.enter f a) w:=by
       intro a;simp[callFunc,hP,hn,hb]
     have hstep:∀E',ag D E E'->Go.step P M0= .next (lone (Frame.enter P f (aJ E' args).toArray kind) (frC::csC) w):=fun E' he=>
       hctx.enter _ _ _ (by rw[hinv E' he,hrun])
     by_cases hm:(tab.merge f&&kind== .normal)=true
     . simp only[hm,AY]at hc;obtain⟨outs,ho,hc1⟩:=af.1 hc;obtain⟨ms,hms,hc2⟩:=af.1 hc1
       cases hc2;have hk:kind= .normal:=eq_of_beq ((Ab _ _▸hm).2:(kind== .normal)=true);subst hk;have hargs:∀E',ag D E E'->(aJ E' args).toArray=(aJ E args).toArray:=by
         intro E' he;have h1:=hstep E' he;rw[hstep E (ag.refl _ _)]at h1;obtain⟨e,_,_⟩:=lp (by simpa using h1);have h2:=hinv E' he;have h3:=hinv E (ag.refl _ _);rw[h2]at h3;have h4:=hrun (aJ E' args).toArray;rw[h3,hrun]at h4;simpa using h4.symm
       obtain⟨v,h',hmem,he⟩:=hsub f fn body args h outs hfn hb ho D E K w (aJ E args).toArray (fun E' he=>⟨(hR.all E' he).1,hargs E' he⟩) hR.cN (frC::csC);obtain⟨fr',w',v',E',D',s1,s2,s3,s4,s5,s6,s7,s8,s9,s10⟩:=he;obtain⟨y,hy,hg⟩:=mapM_mem hms _ hmem;obtain⟨fr1,hfin,hg1⟩:=af.1 hg
       cases hg1;have hfc:=fU hfin;refine⟨_,hy,eu (hfc E).2.2 cs,frC.finish v',csC,w',E',D',?_,⟨?_,s7,?_⟩,s5,s6,s8,s9,s10⟩
       . exact(Steps.head (hstep E (ag.refl _ _)) s1).trans (.one (step_leave_returned s3))
       . intro E'' he';obtain⟨g1,g2⟩:=s4 E'' he';obtain⟨k1,k2,k3⟩:=hR.all E'' (s5.trans he' s6);refine⟨g1,?_,k3⟩;rw[<-(hfc E'').1,<-g2,<-k2]
       . exact⟨(hfc E).2.1 hR.wf.1,hR.wf.2⟩
     . have hm':(tab.merge f&&kind== .normal)=false:=by simpa using hm
       simp only[hm',AB]at hc
       cases hc;refine⟨rfl,?_⟩;refine hR.one (m':={fr:=ae.enter fn f body args kind,cs:=fr::cs,h}) M0 (fun _=>(0,0)) (Aj _) ⟨ln _ _ _ _ _,?_⟩ ?_
       . intro g hg;rcases An.1 hg with rfl|hg
         . exact hR.wf.1
         . exact hR.wf.2 g hg
       . intro E' he H e1 e2 _;refine⟨w,?_,H,Kept.refl K w⟩;rw[hstep E' he,iB hP hb];simp only[Ay,Bc,e1,e2]
   . rename_i hb;split at hc
     . obtain⟨⟨v,h'⟩,hx,hc1⟩:=af.1 hc;obtain⟨fr1,hfin,hc2⟩:=af.1 hc1
       cases hc2;obtain⟨g,hg⟩:=hext f fn args h v h' hfn hb hx w;have hfc:=fU hfin;refine⟨eu (hfc E).2.2 cs,?_⟩;obtain⟨E1,ha1,hE1⟩:=hR.jz (fun _=>g);have hn:=(hg E1 K (hR.all E1 ha1).1 (fun _=>hE1 h.next (Aj _))).1;refine hR.one (m':={fr:=fr1,cs,h:=h'}) M0 (fun _=>g) hn.1 ⟨(hfc E).2.1 hR.wf.1,hR.wf.2⟩ ?_;intro E' he H e1 e2 hE';obtain⟨_,w',s1,s2,s3⟩:=hg E' K H (fun hlt=>hE' h.next (Aj _) hlt);refine⟨w',?_,s2,s3⟩;rw[hctx.value (aa E' v) w' (by rw[hinv E' he,s1]) rfl,<-e1,<-e2,(hfc E').1]
     . cases hc
 . cases hc
omit ok hsub hext in
theorem zw {fr:ae} {cs:List ae} {h:AH} {l:Nat} {args:List AV} {kind:CallKind} {out:bZ} (hc:rZ fr cs h l args kind= .ok out)
   (hR:Rel D E K {fr,cs,h} base frC csC w) (M0:Machine) {dC:Deferred} (hctx:Ctx P M0 frC csC w kind dC)
   (hinv:∀E',ag D E E'->invoke dC.target dC.args=Instr.yield (E'.aG l) (aJ E' args).toArray):Out P h.next M0 D E K (bot fr cs) base w out:=by
 unfold rZ at hc;split at hc
 . rename_i st pd fn ts nt ps a b d hl;obtain⟨_,hck,hc1⟩:=af.1 hc
   cases hc1;have hck:=Aa (bY.1 hck);have hwf:∀t,nt<=t->ts.get t=none:=by
     obtain⟨o,_,_,hw⟩:=(hR.all E (ag.refl _ _)).1.obj l _ hl;exact hw
   refine⟨rfl,?_⟩;refine hR.one (m':={fr:={fn,nt,tmps:=ko ts nt ps.toList args,todo:=[.code a, .beginRound, .code b],defers:=[],mode:= .run,kind,round:=some l},cs:=fr::cs,h}) M0 (fun _=>(0,0)) (Aj _)
     ⟨(uK E nt ps.toList args ts hwf).2,?_⟩ ?_
   . intro g hg;rcases An.1 hg with rfl|hg
     . exact hR.wf.1
     . exact hR.wf.2 g hg
   . intro E' he H e1 e2 _;refine⟨w,?_,H,Kept.refl K w⟩;obtain⟨o,ho,hoo,_⟩:=H.obj l _ hl;subst hoo;have hp:=(uK E' nt ps.toList args ts hwf).1;have hrun:(Instr.yield (E'.aG l) (aJ E' args).toArray).run P w= .ok (.round (E'.aG l) fn (dK E' (ko ts nt ps.toList args) nt) a b) w:=by
       have hsz:(aJ E' args).toArray.size=ps.size:=by simp[hck]
       have hz:(ps.zip (aJ E' args).toArray).foldl (fun tmps (t,a)=>tmps.setIfInBounds t a) (dK E' ts nt)=dK E' (ko ts nt ps.toList args) nt:=by
        rw[<-hp,<-Array.foldl_toList,Array.toList_zip]
       unfold Instr.yield Instr.getLoop;simp only[Sem.run_bind,gN ho (by simp),Result.andThen_ok,Sem.run_pure,hsz,BS,BN,Ax,hz]
     rw[hctx.round _ _ _ _ _ w (by rw[hinv E' he,hrun])];simp only[Ay,Bc,e1,e2];simp[Frame.round,aL,bV,dh]
 . cases hc
include ok hsub hext in
theorem o7 {fr:ae} {cs:List ae} {h:AH} {d:AD} {kind:CallKind} {out:bZ} (hc:callTarget tab sub fr cs h d kind= .ok out)
   (hR:Rel D E K {fr,cs,h} base frC csC w) (M0:Machine) {dC:Deferred} (hctx:Ctx P M0 frC csC w kind dC) (hd:∀E',ag D E E'->cw E' d=dC):Out P h.next M0 D E K (bot fr cs) base w out:=by
 unfold callTarget at hc;split at hc
 . rename_i f captured ht;refine zO ok hsub hext hc hR M0 hctx (fun E' he=>?_);rw[<-hd E' he];simp only[cw,ht,ig,invoke,bG];simp
 . rename_i l ht;refine zw hc hR M0 hctx (fun E' he=>?_);rw[<-hd E' he];simp only[cw,ht,ig,invoke]
 . cases hc
end
end
section
variable [Inhabited aE]
theorem Cr {P:Program} (w:World) (n:Nat) (hn:1<n):(choose (.mapNext n)).run P w= .ok (w.tape w.drawn (.mapNext n) % n) w.drew:=by
 have:(Question.mapNext n).forced=false:=by simp[Question.forced];omega
 simp only[choose,Sem.run,this,Ah,Ax,Question.cut];rfl
theorem vh {P:Program} (w:World) (n:Nat) (hn:n<=1):(choose (.mapNext n)).run P w= .ok 0 w:=by
 have:(Question.mapNext n).forced=true:=by simp[Question.forced];omega
 simp only[choose,Sem.run,this,AK]
theorem mu {P:Program} {w:World} {r:Nat} {o:Obj} (h:w.heap[r]? =some o) (hn:∀c e f,o≠ .cells c e f) (o':Obj):(setObj r o').run P w= .ok () (w.put r o'):=by
 simp only[setObj,Sem.run,h];rfl
section
variable {P:Program} {h:AH}
theorem wq (E:Env) (es:List (AV×AV×Nat)) (seen:List Nat):
  (es.map (bD E)).toArray.filter (fun e=> !seen.toArray.contains e.born)=((es.filter fun x=> !(seen.any (Nat.beq x.2.2))).map (bD E)).toArray:=by
 apply Array.toList_inj.1;simp only[B8,A5,List.filter_map];congr 1
 apply List.filter_congr;intro x _;simp only[Function.comp,bD,List.contains_toArray];congr 1
 rw[A3];simp[D6]
theorem EJ {it:AV} {s:Bool} {l:List (AV×AH)} (hn:tB h it s= .ok l) (w:World) (ty:TypeId):
   ∃j:Nat,∀E K,aU E h K w->∃(v:AV) (h':AH),l[j]? =some (v,h')/\h'.next=h.next/\ ∃w',(Instr.next (aa E it) s ty).run P w= .ok (aa E v) w'/\aU E h' K w'/\Kept K w w':=by
 unfold tB at hn;split at hn
 . rename_i r;split at hn
   . rename_i hr
     cases hn;refine⟨0,fun E K H=>⟨_,_,rfl,rfl,w,?_,H,Kept.refl K w⟩⟩;obtain⟨o,ho,hoo⟩:=H.obj r _ hr;simp only[ga]at hoo;subst hoo;unfold Instr.next;simp only[aa,Sem.run_bind,gN ho (by simp),Result.andThen_ok,Bv];rfl
   . rename_i str pos hr;by_cases hlt:Nat.blt pos str.length=true
     . simp only[hlt,AY]at hn
       cases hn;refine⟨0,fun E K H=>?_⟩;obtain⟨o,ho,hoo⟩:=H.obj r _ hr;simp only[ga]at hoo;subst hoo;have hp:pos<(⟨str.toArray⟩:ByteArray).size:=by rw[kv];simpa using hlt
       refine⟨_,_,rfl,rfl,w.put (E.aG r) (.stringIter ⟨str.toArray⟩ (pos+(Utf8.decode ⟨str.toArray⟩ pos).2)),?_,H.put hr (by simp[AO.ro]) (by simp[ga]),H.bj hr (by simp[AO.ro]) _⟩;unfold Instr.next;simp only[aa,Sem.run_bind,gN ho (by simp),Result.andThen_ok,hp,AK];rw[mu ho (by simp)];simp[aa,goInt,Go.goInt]
     . simp only[DD]at hlt;simp only[hlt,AB]at hn
       cases hn;refine⟨0,fun E K H=>⟨_,_,rfl,rfl,w,?_,H,Kept.refl K w⟩⟩;obtain⟨o,ho,hoo⟩:=H.obj r _ hr;simp only[ga]at hoo;subst hoo;have hp:¬pos<(⟨str.toArray⟩:ByteArray).size:=by
         intro e;have:Nat.blt pos str.length=true:=by rw[kv]at e;simpa using e
         rw[this]at hlt;cases hlt
       unfold Instr.next;simp only[aa,Sem.run_bind,gN ho (by simp),Result.andThen_ok,hp,Ax];rfl
   . rename_i m since seen last hr;obtain⟨⟨es,c⟩,hm,hn1⟩:=af.1 hn;obtain⟨_,hck,hn2⟩:=af.1 hn1;have hck:=bY.1 hck;simp only[Ab,Av]at hck;obtain⟨hcs,hall⟩:=hck;have hcs:=Aa hcs;subst hcs;have hgo:∀E K,aU E h K w->w.heap[E.aG r]? =some (.mapIter (some (E.aG m)) c seen.toArray last)/\w.heap[E.aG m]? =some (.map (es.map (bD E)).toArray c):=by
       intro E K H;obtain⟨o,ho,hoo⟩:=H.obj r _ hr;simp only[ga]at hoo;subst hoo;exact⟨ho,H.map (iD hm)⟩
     have hborn:∀x∈es,x.2.2<c/\x.2.2<last:=by
       intro x hx;have:=hall x hx;simpa using this
     have hold:∀(E:Env) (q:List (AV×AV×Nat)),(∀x∈q,x∈es)->((q.map (bD E)).toArray.filter fun e=>decide (e.born<c))=(q.map (bD E)).toArray/\((q.map (bD E)).toArray.filter fun e=>decide (e.born>=c))=#[]:=by
       intro E q hq;constructor
       . apply Array.filter_eq_self.2;intro a ha;obtain⟨x,hx,rfl⟩:=A1.1 (List.mem_toArray.1 ha);have h1:=(hborn _ (hq _ hx)).1;exact De h1
       . apply Array.filter_eq_empty_iff.2;intro a ha;obtain⟨x,hx,rfl⟩:=A1.1 (List.mem_toArray.1 ha);have h1:=(hborn _ (hq _ hx)).1;intro h2;exact Nat.not_le.2 h1 (Bi h2)
     have hchk:∀E:Env,(!seen.toArray.isEmpty&& !(es.map (bD E)).toArray.isEmpty&&(es.map (bD E)).toArray.all (fun e=>decide (e.born>=last)))=false:=by
       intro E
       cases es with
       |nil=>simp
       | cons x t=>
         have:=(hborn x Al).2;have:(((x::t).map (bD E)).toArray.all (fun e=>decide (e.born>=last)))=false:=by
           simp[bD];intro h1;omega
         rw[this,Bool.and_false]
     generalize hL:(es.filter fun x=> !(seen.any (Nat.beq x.2.2)))=L at hn2
     have hLm:∀x∈L,x∈es:=by
       intro x hx;rw[<-hL]at hx;exact(AL.1 hx).1
     cases L with
     | nil=>
       cases hn2;refine⟨0,fun E K H=>⟨_,_,rfl,rfl,w,?_,H,Kept.refl K w⟩⟩;obtain⟨h1,h2⟩:=hgo E K H;obtain⟨h3,h4⟩:=hold E [] (by simp);unfold Instr.next;simp only[aa,Sem.run_bind,gN h1 (by simp),gN h2 (by simp),Result.andThen_ok,hchk E,Ah,Ax,wq,hL,h3,h4,Sem.run_pure];rw[vh _ _ (by simp)];simp[aa]
     | cons a t=>
       simp only at hn2
       cases hn2;let L:List (AV×AV×Nat):=a::t
       have hj:∃j:Nat,j<(a::t).length/\ ∃w1,w1.heap=w.heap/\Kept ⟨fun _=>False,0⟩ w w1/\(w1=w\/w1=w.drew)/\(choose (.mapNext (a::t).length)).run P w= .ok j w1:=by
         by_cases h1:(a::t).length<=1
         . exact⟨0,by simp,w,rfl,Kept.refl _ w, .inl rfl,vh w _ h1⟩
         . exact⟨_,Eb _ (by simp),w.drew,rfl,Kept.drew _ w, .inr rfl,Cr w _ (by omega)⟩
       obtain⟨j,hlt,w1,hh,_,hw1,hrun⟩:=hj;refine⟨j,fun E K H=>?_⟩;obtain⟨h1,h2⟩:=hgo E K H;obtain⟨h3,h4⟩:=hold E (a::t) hLm;have H1:aU E h K w1:=by
         rcases hw1 with rfl|rfl
         . exact H
         . exact H.drew
       have k1:Kept K w w1:=by
         rcases hw1 with rfl|rfl
         . exact Kept.refl K _
         . exact Kept.drew K w
       refine⟨.aO [.bool true,(a::t)[j].1,(a::t)[j].2.1],h.set r (.ey (some m) c (seen++[(a::t)[j].2.2]) c),?_,rfl,w1.put (E.aG r) (.mapIter (some (E.aG m)) c (seen++[(a::t)[j].2.2]).toArray c),?_,
         H1.put hr (by simp[AO.ro]) (by simp[ga]),k1.trans (H1.bj hr (by simp[AO.ro]) _)⟩
       . rw[Au,Af hlt];rfl
       . unfold Instr.next;simp only[aa,Sem.run_bind,gN h1 (by simp),gN h2 (by simp),Result.andThen_ok,hchk E,Ah,Ax,wq,hL,h3,h4,Sem.run_pure];have hc:((if((a::t).map (bD E)).toArray.isEmpty=true then #[none]else #[])++((((a::t).map (bD E)).toArray++ #[]).map some):Array (Option MapEntry))=((a::t).map (fun x=>some (bD E x))).toArray:=by
           simp
         rw[hc];have hsz:((a::t).map (fun x=>some (bD E x))).toArray.size=(a::t).length:=by simp
         rw[hsz,hrun];have hget:((a::t).map (fun x=>some (bD E x))).toArray[j]? =some (some (bD E (a::t)[j])):=by
           rw[AE,Au,Af hlt];rfl
         simp only[Result.andThen_ok,hget,Sem.run_bind];have ho1:w1.heap[E.aG r]? =some (.mapIter (some (E.aG m)) c seen.toArray last):=by rw[hh];exact h1
         rw[mu ho1 (by simp)];simp[bD,aa]
   . cases hn
 . cases hn
end
end
section
variable [Inhabited aE]
section
variable {P:Program} {tab:aM} (ok:aV P tab) {sub:FuncId->List AV->AH->R (List (AV×AH))} (hsub:fQ P tab sub) (hext:fW P tab)
variable {D:Nat->Prop} {E:Env} {K:KS} {base:List Frame} {frC:Frame} {csC:List Frame} {w:World}
variable {fr:ae} {cs:List ae} {h:AH} {ops:Array Oper} {i:Nat} {rest:List Nat} {k:List aT} {o:Oper}
structure eY (frC:Frame) (ops:Array Oper) (i:Nat) (rest:List Nat) (o:Oper):Prop where
 mode:frC.mode= .run
 todo:∃k,frC.todo= .inRegion ops (i::rest)::k
 op:ops[i]? =some o
 wanted:Region.wanted o (yielded ops frC.tmps)=true
theorem gI (hR:Rel D E K {fr,cs,h} base frC csC w) (hm:fr.mode= .run) (ht:fr.todo= .inRegion ops (i::rest)::k) (ho:ops[i]? =some o) (hw:wanted ops o fr.tmps= .ok true):eY frC ops i rest o:=by
 obtain⟨_,e,_⟩:=hR.all E (ag.refl _ _);subst e;refine⟨by simp[aL,hm,dh],⟨k.map (bV E),by simp[aL,ht,bV]⟩,ho,?_⟩;exact rU hR.wf.1 hw E
theorem eY.step (a:eY frC ops i rest o) (hd:frC.roundOf=none\/ ∀c,o.op≠ .defer c) (csC:List Frame) (w:World):
  stepG P true {frame:=frC,callers:=csC,status:= .running,dying:=none} w=stepG.apply P true frC csC none (execOp frC.eval o) w:=by
 obtain⟨k,hk⟩:=a.todo;exact IS a.mode hk a.op a.wanted hd w
theorem eY.value (a:eY frC ops i rest o) (hd:frC.roundOf=none\/ ∀c,o.op≠ .defer c) (csC:List Frame) {w w':World} {r:Next} {x:Value} (hs:(execOp frC.eval o).run P w= .ok r w') (hr:Yields r x):
  Go.step P (lone frC csC w)= .next (lone (frC.finish x) csC w'):=
 step_lone_go (by rw[a.step hd,ry hs hr])
theorem wx {ts:T AV} {v:AV} {h':AH} (hp:df tab ts h o= .ok (v,h')):∀c,o.op≠ .defer c:=by
 intro c e;unfold df at hp;rw[e]at hp
 cases hp
include ok in
theorem F4 (hR:Rel D E K {fr,cs,h} base frC csC w) (a:eY frC ops i rest o) {v:AV} {h':AH} (hp:df tab fr.tmps h o= .ok (v,h')) {fr':ae} (hf:fr.finish v= .ok fr'):
  Out P h.next (lone frC csC w) D E K (bot fr cs) base w (.next {fr:=fr',cs,h:=h'}):=by
 obtain⟨f,hgood⟩:=vo ok hp w frC.eval;have hfc:=fU hf;have hρ:∀E',ag D E E'->∀x u,ev fr.tmps x= .ok u->frC.eval x=aa E' u:=by
  intro E' he x u hx;rw[<-(hR.all E' he).2.1];exact jI hR.wf.1 E' hx
 obtain⟨E1,ha1,hE1⟩:=hR.jz (fun _=>f);have hn:=(hgood E1 K (hR.all E1 ha1).1 (hρ E1 ha1) (fun _=>hE1 h.next (Aj _))).1;refine⟨eu (hfc E).2.2 cs,?_⟩;refine hR.one (m':={fr:=fr',cs,h:=h'}) _ (fun _=>f) hn.1 ⟨(hfc E).2.1 hR.wf.1,hR.wf.2⟩ ?_;intro E' he H e1 e2 hE';obtain⟨_,r,w',s1,s2,s3,s4⟩:=hgood E' K H (hρ E' he) (fun hlt=>hE' h.next (Aj _) hlt);refine⟨w',?_,s3,s4⟩;rw[a.value (.inr (wx hp)) csC s1 s2,<-e1,<-e2,(hfc E').1]
theorem k8 {u:AV} {args:List AV} {d:AD} (hd:jG u args= .ok d) (E:Env):Deferred.ofValue (aa E u) (aJ E args).toArray=pure (cw E d):=by
 unfold jG at hd;split at hd
 . cases hd;simp[Deferred.ofValue,aa,cw,ig]
 . cases hd;simp[Deferred.ofValue,aa,cw,ig]
 . cases hd
theorem mh {f:Value} {a:Array Value} {d:AD} (h:∀E',ag D E E'->Deferred.ofValue f a=pure (cw E' d)):∀E',ag D E E'->cw E' d=cw E d:=by
 intro E' he;have h1:=h E' he;rw[h E (ag.refl _ _)]at h1;have h2:(pure (cw E d):Sem Deferred).run default default=(pure (cw E' d):Sem Deferred).run default default:=by rw[h1]
 simpa using h2.symm
theorem pC (a:eY frC ops i rest o) (hd:frC.roundOf=none\/ ∀c,o.op≠ .defer c) {dC:Deferred} (hx:(execOp frC.eval o).run P w=(invoke dC.target dC.args).run P w):
   Ctx P (lone frC csC w) frC csC w .normal dC:=by
 obtain⟨k,hk⟩:=a.todo;refine⟨fun f x w' hr=>?_,fun l f t x b w' hr=>?_,fun v w' hr _=>?_⟩
 . refine step_lone_go ?_;rw[a.step hd];simp[stepG.apply,hx,hr,hk]
 . refine step_lone_go ?_;rw[a.step hd];simp[stepG.apply,hx,hr]
 . exact a.value hd csC (by rw[hx,hr]) (.inl rfl)
theorem zC {r:Option (AV×List ae)} (hr:tryRecover fr cs= .ok r) (E:Env) (base:List Frame):
   Go.tryRecover (aL E fr) (cs.map (aL E)++base)=r.map (fun x=>(aa E x.1,x.2.map (aL E)++base)):=by
 unfold tryRecover at hr;split at hr
 . rename_i _ c rest hk;have hk':(aL E fr).kind= .deferred:=hk;split at hr
   . rename_i v older hm
     cases hr;have hm':(aL E c).mode= .panicking ({v:=aa E v,recovered:=false}::older.map (jg E)):=by simp[aL,hm,dh,jg]
     simp only[Ay,Bc,Go.tryRecover,hk',hm',AS];rfl
   . rename_i hm
     cases hr;simp only[Ay,Bc,Go.tryRecover,hk',Bv];split
     . rename_i heq;exfalso;simp only[aL,dh]at heq;split at heq
       . cases heq
       . cases heq
       . rename_i chain hch
         cases chain with
         |nil=>simp at heq
         |cons p older=>
          obtain⟨v',rc⟩:=p;simp[jg]at heq;obtain⟨⟨_,h2⟩,_⟩:=heq;subst h2;exact hm _ _ hch
     . rfl
 . rename_i _ c rest hk
   cases hr;have hk':(aL E fr).kind= .normal:=hk;simp only[Ay,Bc];unfold Go.tryRecover;simp[hk']
 . cases hr
theorem zL {v:AV} {cs':List ae} (hr:tryRecover fr cs= .ok (some (v,cs'))):(∀f∈cs,f.WF)->(∀f∈cs',f.WF)/\(∀fr',fr'.fn=fr.fn->bot fr' cs'=bot fr cs):=by
 intro hwf;unfold tryRecover at hr;split at hr
 . rename_i _ c rest hk;split at hr
   . cases hr;refine⟨fun f hf=>?_,fun fr' hf=>?_⟩
     . rcases An.1 hf with rfl|hf
       . exact hwf c Al
       . exact hwf f (Ap _ hf)
     . show bot _ rest=bot c rest
       exact eu (by rfl) rest
   . cases hr
 . cases hr
 . cases hr
include ok hsub hext in
theorem Fv {out:bZ} (hop:oper tab sub fr cs h o= .ok out) (hR:Rel D E K {fr,cs,h} base frC csC w) (hm:fr.mode= .run) (ht:fr.todo= .inRegion ops (i::rest)::k)
   (ho:ops[i]? =some o) (hw:wanted ops o fr.tmps= .ok true):Out P h.next (lone frC csC w) D E K (bot fr cs) base w out:=by
 have a:=gI hR hm ht ho hw;have hρ:∀E',ag D E E'->∀x u,ev fr.tmps x= .ok u->frC.eval x=aa E' u:=by
   intro E' he x u hx;rw[<-(hR.all E' he).2.1];exact jI hR.wf.1 E' hx
 have hpure:∀{out:bZ},(do let (v,h')<-df tab fr.tmps h o;R.ok (bZ.next {fr:= <-fr.finish v,cs,h:=h'}):R bZ)= .ok out->Out P h.next (lone frC csC w) D E K (bot fr cs) base w out:=by
   intro out hp;obtain⟨⟨v,h'⟩,h1,hp1⟩:=af.1 hp;obtain⟨fr',h2,hp2⟩:=af.1 hp1
   cases hp2;exact F4 ok hR a h1 h2
 unfold oper at hop;split at hop
 . rename_i c hc;split at hop
   ·
     rename_i f hf;obtain⟨args,hargs,hop1⟩:=af.1 hop;obtain⟨u,hu,hop2⟩:=af.1 hop1;obtain⟨d,hd,hop3⟩:=af.1 hop2;have hres:∀E',ag D E E'->Deferred.ofValue (frC.eval f) (c.args.map frC.eval)=pure (cw E' d):=by
       intro E' he;rw[<-k8 hd E',hρ E' he _ _ hu,<-ku (hρ E' he) _ _ hargs];congr 1
       simp[<-Array.toList_inj]
     have hrob:=mh hres;refine o7 ok hsub hext hop3 hR _ (dC:=cw E d) (pC a (.inr (by rw[hc];intro c' e;cases e)) ?_) hrob;simp[execOp,hc,resolve,hf,hres E (ag.refl _ _)]
   ·
     rename_i hb;split at hop
     . rename_i hround;have hr0:frC.roundOf=none:=by
         rw[<-(hR.all E (ag.refl _ _)).2.1];simp[aL,hround]
       obtain⟨r,hr,hop1⟩:=af.1 hop;have hnd:frC.roundOf=none\/ ∀c,o.op≠ .defer c:= .inl hr0;have hrun:(execOp frC.eval o).run P w= .ok .recover w:=by
         simp[execOp,hc,resolve,hb,invoke,Go.builtin]
       have hstep:∀E',ag D E E'->(stepG P true {frame:=frC,callers:=csC,status:= .running,dying:=none} w).bare=
          (match r.map (fun x=>(aa E' x.1,x.2.map (aL E')++base))with
           |some (v,callers)=> .go {frame:=frC.finish v,callers,status:= .running,dying:=none} w
           |none=> .go {frame:=frC.finish .nilIface,callers:=csC,status:= .running,dying:=none} w):=by
         intro E' he;obtain⟨_,e1,e2⟩:=hR.all E' he;rw[<-zC hr E' base,e1,e2,a.step hnd];simp only[stepG.apply,hrun,hr0,Sem.runT_eq,AK]
         cases Go.tryRecover frC csC<;>simp
       split at hop1
       . rename_i v cs';obtain⟨fr',hf,hop2⟩:=af.1 hop1
         cases hop2;have hfc:=fU hf;obtain⟨g1,g2⟩:=zL hr hR.wf.2;refine⟨g2 _ (hfc E).2.2,?_⟩;refine hR.one (m':={fr:=fr',cs:=cs',h}) _ (fun _=>(0,0)) (Aj _) ⟨(hfc E).2.1 hR.wf.1,g1⟩ ?_;intro E' he H e1 e2 _;refine⟨w,step_lone_go ?_,H,Kept.refl K w⟩;rw[hstep E' he,<-(hfc E').1,e1];rfl
       . obtain⟨fr',hf,hop2⟩:=af.1 hop1
         cases hop2;have hfc:=fU hf;refine⟨eu (hfc E).2.2 cs,?_⟩;refine hR.one (m':={fr:=fr',cs,h}) _ (fun _=>(0,0)) (Aj _) ⟨(hfc E).2.1 hR.wf.1,hR.wf.2⟩ ?_;intro E' he H e1 e2 _;refine⟨w,step_lone_go ?_,H,Kept.refl K w⟩;rw[hstep E' he,<-(hfc E').1,e1,e2];rfl
     . cases hop
   . exact hpure hop
 ·
   rename_i c hc;split at hop
   . rename_i f hf hround;have hr0:frC.roundOf=none:=by
       rw[<-(hR.all E (ag.refl _ _)).2.1];simp[aL,hround]
     obtain⟨args,hargs,hop1⟩:=af.1 hop;obtain⟨u,hu,hop2⟩:=af.1 hop1;obtain⟨d,hd,hop3⟩:=af.1 hop2;obtain⟨fr',hfin,hop4⟩:=af.1 hop3
     cases hop4;have hres:∀E',ag D E E'->Deferred.ofValue (frC.eval f) (c.args.map frC.eval)=pure (cw E' d):=by
       intro E' he;rw[<-k8 hd E',hρ E' he _ _ hu,<-ku (hρ E' he) _ _ hargs];congr 1
       simp[<-Array.toList_inj]
     have hfc:=fU hfin;refine⟨(eu (hfc E).2.2 cs).trans (eu (by rfl) cs),?_⟩;refine hR.one (m':={fr:=fr',cs,h}) _ (fun _=>(0,0)) (Aj _) ⟨(hfc E).2.1 hR.wf.1,hR.wf.2⟩ ?_;intro E' he H e1 e2 _;refine⟨w,step_lone_go ?_,H,Kept.refl K w⟩;have hrun:(execOp frC.eval o).run P w= .ok (.defer (cw E' d)) w:=by
       simp[execOp,hc,resolve,hf,hres E' he]
     rw[a.step (.inl hr0),<-(hfc E').1,<-e2];simp only[stepG.apply,hrun,Sem.runT_eq,AK,GStep.bare_after,GStep.bare_go];rw[<-e1];rfl
   . cases hop
 ·
   rename_i x hx;obtain⟨u,hu,hop1⟩:=af.1 hop;split at hop1
   . rename_i t v
     cases hop1;have hnd:∀c,o.op≠ .defer c:=by rw[hx];intro c e;cases e
     refine⟨eu (by unfold ae.raise;split<;>rfl) cs,?_⟩;refine hR.one (m':={fr:=fr.raise [{v:= .iface t v,recovered:=false}],cs,h}) _ (fun _=>(0,0)) (Aj _) ⟨by unfold ae.raise;split<;>exact hR.wf.1,hR.wf.2⟩ ?_;intro E' he H e1 e2 _;refine⟨w,step_lone_go ?_,H,Kept.refl K w⟩;have hrun:(execOp frC.eval o).run P w= .halt (.panic (aa E' (.iface t v))) w:=by
       simp[execOp,hx,hρ E' he _ _ hu,aa,Instr.panic,goPanic,Sem.run,Result.andThen]
     rw[a.step (.inr hnd),<-e2];simp only[stepG.apply,hrun,Sem.runT_eq,AK,GStep.bare_after,GStep.bare_go];rw[<-e1];simp[Frame.raise,ae.raise,aL,hm,dh,jg]
   . cases hop1
 ·
   rename_i it s hn;obtain⟨u,hu,hop1⟩:=af.1 hop;obtain⟨l,hl,hop2⟩:=af.1 hop1;obtain⟨ms,hms,hop3⟩:=af.1 hop2;have hnd:∀c,o.op≠ .defer c:=by rw[hn];intro c e;cases e
   obtain⟨j,hj⟩:=EJ (P:=P) hl w o.type;obtain⟨v,h',hv,hh,_⟩:=hj E K (hR.all E (ag.refl _ _)).1;obtain⟨y,hy,hg⟩:=mapM_mem hms _ (Br hv);obtain⟨fr',hfin,hg1⟩:=af.1 hg
   cases hg1;have hfc:=fU hfin;have hgets:bot fr' cs=bot fr cs/\eo P h.next (lone frC csC w) D E K {fr:=fr',cs,h:=h'} base w:=by
     refine⟨eu (hfc E).2.2 cs,?_⟩;refine hR.one (m':={fr:=fr',cs,h:=h'}) _ (fun _=>(0,0)) (by simp only;omega) ⟨(hfc E).2.1 hR.wf.1,hR.wf.2⟩ ?_;intro E' he H e1 e2 _;obtain⟨v2,h2,hv2,_,w',s1,s2,s3⟩:=hj E' K H;rw[hv]at hv2
     cases hv2;refine⟨w',?_,s2,s3⟩;rw[a.value (.inr hnd) csC (dY (s:=Instr.next (frC.eval it) s o.type) (by simp[execOp,hn]) (by rw[hρ E' he _ _ hu];exact s1)) (.inl rfl),<-e1,<-e2,(hfc E').1]
   split at hop3
   . rename_i m
     cases hop3;rcases An.1 hy with rfl|hy
     . exact hgets
     . cases hy
   . cases hop3;exact⟨_,hy,hgets⟩
 . exact hpure hop
end
end
section
variable [Inhabited aE]
section
variable {P:Program} {tab:aM} (ok:aV P tab) {sub:FuncId->List AV->AH->R (List (AV×AH))} (hsub:fQ P tab sub) (hext:fW P tab)
variable {D:Nat->Prop} {E:Env} {K:KS} {base:List Frame} {frC:Frame} {csC:List Frame} {w:World}
variable {fr:ae} {cs:List ae} {h:AH}
theorem z8 (E:Env) (l:List oU):(l.map (jg E)).dropWhile (fun e=> !e.goexit)=[]:=by
 induction l with
 |nil=>rfl
 |cons a l ih=>simp[jg];exact ih
theorem rF {v:AV} {m':AM} (hd:doReturn fr cs v h= .ok (.next m')) (hwf:∀f∈cs,f.WF) (w:World):
   m'.h=h/\bot m'.fr m'.cs=bot fr cs/\(m'.fr.WF/\ ∀f∈m'.cs,f.WF)/\
   ∀ E base,(Go.doReturn P true (aL E fr) (cs.map (aL E)++base) none (aa E v) w).bare=
     .go {frame:=aL E m'.fr,callers:=m'.cs.map (aL E)++base,status:= .running,dying:=none} w:=by
 unfold doReturn at hd;split at hd
 . split at hd<;>cases hd
 . rename_i c rest;have hc:=hwf c Al;have hrest:∀f∈rest,f.WF:=fun f hf=>hwf f (Ap _ hf)
   split at hd
   . rename_i hk;obtain⟨fr1,hf,hd1⟩:=af.1 hd
     cases hd1;have hfc:=fU hf;refine⟨rfl,eu (hfc ⟨fun _=>0,fun _=>0⟩).2.2 rest,⟨(hfc ⟨fun _=>0,fun _=>0⟩).2.1 hc,hrest⟩,fun E base=>?_⟩;have hk':(aL E fr).kind= .normal:=hk;simp[Go.doReturn,hk',(hfc E).1]
   . rename_i hk;split at hd
     . rename_i r hm
       cases hd;refine⟨rfl,eu (by rfl) rest,⟨hc,hrest⟩,fun E base=>?_⟩;have hk':(aL E fr).kind= .deferred:=hk;simp only[Ay,Bc,Go.doReturn,hk'];simp only[aL,hm,dh,Ay,jg];simp[z8]
     . rename_i hm
       cases hd;refine⟨rfl,rfl,⟨hc,hrest⟩,fun E base=>?_⟩;have hk':(aL E fr).kind= .deferred:=hk;simp only[Ay,Bc,Go.doReturn,hk'];split
       . rename_i heq;exfalso;simp only[aL,dh]at heq;split at heq
         . cases heq
         . cases heq
         . rename_i chain hch
           cases chain with
           |nil=>simp at heq
           |cons p older=>
            obtain⟨v',rc⟩:=p;simp[jg]at heq;obtain⟨⟨_,h2,_⟩,_⟩:=heq;subst h2;exact hm _ _ hch
       . rfl
   . cases hd
include ok in
theorem CV {ts:T AV} {nt:Nat} (hwf:∀t,nt<=t->ts.get t=none) (H:aU E h K w):∀(l:List ResultVar) (vs:List AV),results tab h ts l= .ok vs->
  (l.mapM (m:=Sem) fun
   | .tmp t=>pure ((dK E ts nt).getD t undef)
   | .cell a t=>do Go.loadVar t (<-asAddr ((dK E ts nt).getD a undef))).run P w= .ok (aJ E vs) w:=by
 intro l;induction l with
 |nil=>intro vs h;simp only[results]at h;cases h;simp
 | cons x l ih=>
  intro vs hr;rw[Ec]
  cases x with
  |tmp t=>
   simp only[results]at hr;obtain⟨vs1,h1,h2⟩:=af.1 hr
   cases h2;simp only[Sem.run_bind,Sem.run_pure,Result.andThen_ok,ih _ h1,sD E ts nt t hwf,aP]
  |cell a t=>
   simp only[results]at hr;split at hr
   . rename_i b off ha;obtain⟨v,h1,h2⟩:=af.1 hr;obtain⟨vs1,h3,h4⟩:=af.1 h2
     cases h4;have hv:=vd ok H h1;have hva:asAddr (aa E (.ptr b off))=pure ⟨E.aG b,off,none⟩:=rfl;simp only[Sem.run_bind,Sem.run_pure,Result.andThen_ok,ih _ h3,sD E ts nt a hwf,aP,ha,AA,hva,hv]
   . cases hr
include ok in
theorem Cv {fn:Func} {ts:T AV} {nt:Nat} (hwf:∀t,nt<=t->ts.get t=none) (H:aU E h K w) {vs:List AV} (hr:results tab h ts fn.results.toList= .ok vs):
  (Go.results fn (dK E ts nt)).run P w= .ok (aa E (result vs)) w:=by
 have h1:=CV ok hwf H _ _ hr;unfold Go.results;rw[Array.mapM_eq_mapM_toList,map_eq_pure_bind,Sem.run_bind,Sem.run_bind];erw[h1]
 simp only[Result.andThen_ok,Sem.run_pure]
 cases vs with
 |nil=>simp[result,aa]
 |cons v vs=>
  cases vs with
  |nil=>simp[result]
  |cons u vs=>simp[result,aa]
end
end
section
variable [Inhabited aE]
section
variable {P:Program} {tab:aM} (ok:aV P tab) {sub:FuncId->List AV->AH->R (List (AV×AH))} (hsub:fQ P tab sub) (hext:fW P tab)
variable {D:Nat->Prop} {E:Env} {K:KS} {base:List Frame} {frC:Frame} {csC:List Frame} {w:World}
variable {fr:ae} {cs:List ae} {h:AH}
theorem pB {E E':Env} (e:aL E' fr=aL E fr):dK E' fr.tmps fr.nt=dK E fr.tmps fr.nt/\fr.todo.map (bV E')=fr.todo.map (bV E)/\
  fr.defers.map (cw E')=fr.defers.map (cw E)/\dh E' fr.mode=dh E fr.mode/\fr.round.map E'.aG=fr.round.map E.aG:=by
 simpa [aL]using e
def gQ (P:Program) (fr:Frame) (callers:List Frame) (w:World) (jump:Option Code):GStep:=
 match fr.roundOf with
 |none=>if jump matches none|some .ret then .go {frame:={fr with mode:= .returning},callers,status:= .running,dying:=none} w else .ended (.stuck "exit, goto: no such block or label" (fr.pos P)) w
 |some l=>
  let (r,es):=(Instr.endRound l jump).runT P w #[]
  GStep.after (seen P fr.fn es)<|match r with
  | .ok v w=>Go.doReturn P true fr callers none v w
  | .halt _ w=> .ended (.stuck "range over a function: no such loop" (fr.pos P)) w
theorem uT {c:ae} {rest:List ae} {v:AV} {out:bZ} (hd:doReturn fr (c::rest) v h= .ok out):∃m',out= .next m':=by
 unfold doReturn at hd;simp only at hd;split at hd
 . obtain⟨fr1,hf,hd1⟩:=af.1 hd
   cases hd1;exact⟨_,rfl⟩
 . split at hd<;>(cases hd;exact⟨_,rfl⟩)
 . cases hd
theorem rC {jump:Option Code} {out:bZ} (hl:leave fr cs h jump= .ok out) (hR:Rel D E K {fr,cs,h} base frC csC w)
   (hx:stepG P true {frame:=frC,callers:=csC,status:= .running,dying:=none} w=gQ P frC csC w jump):Out P h.next (lone frC csC w) D E K (bot fr cs) base w out:=by
 unfold leave at hl;split at hl
 . rename_i hround;have hret:(jump=none\/jump=some .ret)->Out P h.next (lone frC csC w) D E K (bot fr cs) base w (.next {fr:={fr with mode:= .returning},cs,h}):=by
     intro hj;refine⟨eu (by rfl) cs,?_⟩;refine hR.one (m':={fr:={fr with mode:= .returning},cs,h}) _ (fun _=>(0,0)) (Aj _) ⟨hR.wf.1,hR.wf.2⟩ ?_;intro E' he H e1 e2 _;refine⟨w,step_lone_go ?_,H,Kept.refl K w⟩;rw[hx];have hr0:frC.roundOf=none:=by rw[<-e1];simp[aL,hround]
     have hgo:(gQ P frC csC w jump).bare= .go {frame:={frC with mode:= .returning},callers:=csC,status:= .running,dying:=none} w:=by
       unfold gQ;rw[hr0];rcases hj with rfl|rfl<;>rfl
     rw[hgo,<-e1,<-e2];simp[aL,hround,dh]
   split at hl
   . cases hl;exact hret (.inl rfl)
   . cases hl;exact hret (.inr rfl)
   . cases hl
 . rename_i l hround;split at hl
   . rename_i _ st pd fn ts nt ps a b d c rest hg;obtain⟨m',rfl⟩:=uT hl
     . obtain⟨h1,h2,h3,h4⟩:=rF (P:=P) hl hR.wf.2 w;refine⟨h2,?_⟩;refine hR.one _ (fun _=>(0,0)) (by rw[h1];exact Aj _) h3 ?_;intro E' he H e1 e2 _;obtain⟨o,ho,hoo,hw⟩:=H.obj l _ hg;subst hoo;let o':Obj:= .loop {state:=if jump.isNone then .ready else .done,pending:=jump,fn,tmps:=dK E' ts nt,params:=ps,assign:=a,body:=b,defers:=E'.aG d}
       have hrun:(Instr.endRound (E'.aG l) jump).run P w= .ok (.bool jump.isNone) (w.put (E'.aG l) o'):=by
         unfold Instr.endRound Instr.getLoop;simp only[Sem.run_bind,gN ho (by simp),Result.andThen_ok,Sem.run_pure,mu ho (by simp)];rfl
       refine⟨w.put (E'.aG l) o',step_lone_go ?_,?_,H.bj hg (by simp[AO.ro]) _⟩
       . rw[hx];have hr0:frC.roundOf=some (E'.aG l):=by rw[<-e1];simp[aL,hround]
         unfold gQ;rw[hr0];simp only[Sem.runT_eq,hrun,GStep.bare_after];have:=(rF (P:=P) hl hR.wf.2 (w.put (E'.aG l) o')).2.2.2 E' base;simp only at e1 e2;rw[e1,e2]at this;exact this
       . rw[h1];refine H.put hg (by simp[AO.ro]) ⟨?_,hw⟩;by_cases hj:jump.isNone<;>simp[o',hj]
   . cases hl
theorem CC (hm:frC.mode≠ .run):stepG P true {frame:=frC,callers:=csC,status:= .running,dying:=none} w=Go.unwind P true frC csC none w:=by
 unfold stepG
 cases hmode:frC.mode with
 |run=>exact absurd hmode hm
 |returning=>simp[hmode]
 |panicking c=>simp[hmode]
include ok hsub hext in
theorem Cf {out:bZ} (hu:unwind tab sub fr cs h= .ok out) (hm:∀(_:fr.mode= .run),False) (hR:Rel D E K {fr,cs,h} base frC csC w):Out P h.next (lone frC csC w) D E K (bot fr cs) base w out:=by
 have hmC:frC.mode≠ .run:=by
   rw[<-(hR.all E (ag.refl _ _)).2.1];intro e;simp only[aL,dh]at e;split at e
   . rename_i hmm;exact hm hmm
   . cases e
   . cases e
 have hx:=CC (P:=P) (csC:=csC) (w:=w) hmC;unfold unwind at hu;split at hu
 ·
   rename_i b args ds hds;split at hu
   . rename_i calls hb
     cases hu;refine⟨eu (by rfl) cs,?_⟩;refine hR.one (m':={fr:={fr with defers:=calls++ds},cs,h:=h.set b (.kn none)}) _ (fun _=>(0,0)) (Aj _) ⟨hR.wf.1,hR.wf.2⟩ ?_;intro E' he H e1 e2 _;obtain⟨o,ho,hoo⟩:=H.obj b _ hb;simp only[ga]at hoo;subst hoo;refine⟨w.put (E'.aG b) (.deferred none),step_lone_go ?_,H.put hb (by simp[AO.ro]) (by simp[ga]),H.bj hb (by simp[AO.ro]) _⟩;rw[hx];have hrun:(Instr.takeDeferred (E'.aG b)).run P w= .ok (calls.map (cw E')) (w.put (E'.aG b) (.deferred none)):=by
       unfold Instr.takeDeferred;simp only[Sem.run_bind,gN ho (by simp),Result.andThen_ok,Sem.run_pure,mu ho (by simp),AS]
     have hdef:frC.defers={target:= .collected (E'.aG b),args:=(aJ E' args).toArray}::ds.map (cw E'):=by
       rw[<-e1];simp[aL,hds,cw,ig]
     unfold Go.unwind;simp only[hdef,Sem.runT_eq,hrun,GStep.bare_after,GStep.bare_go];rw[<-e1,<-e2];simp[aL]
   . cases hu
 ·
   rename_i d ds hnc hds;have hR':Rel D E K {fr:={fr with defers:=ds},cs,h} base (aL E {fr with defers:=ds}) csC w:=by
     refine⟨fun E' he=>?_,hR.cN,hR.wf.1,hR.wf.2⟩;obtain⟨g1,g2,g3⟩:=hR.all E' he;refine⟨g1,?_,g3⟩;obtain⟨h1,h2,h3,h4,h5⟩:=pB (g2.trans (hR.all E (ag.refl _ _)).2.1.symm);rw[hds]at h3;simp only[Ay,Bb]at h3;simp[aL,h1,h2,h3.2,h4,h5]
   have hdrob:∀E',ag D E E'->cw E' d=cw E d:=by
     intro E' he;obtain⟨g1,g2,g3⟩:=hR.all E' he;obtain⟨h1,h2,h3,h4,h5⟩:=pB (g2.trans (hR.all E (ag.refl _ _)).2.1.symm);rw[hds]at h3;simp only[Ay,Bb]at h3;exact h3.1
   have hfr:frC=aL E fr:=(hR.all E (ag.refl _ _)).2.1.symm;have hdef:frC.defers=cw E d::ds.map (cw E):=by
     rw[hfr];simp[aL,hds]
   have hfr':({frC with defers:=ds.map (cw E)}:Frame)=aL E {fr with defers:=ds}:=by
     rw[hfr];rfl
   have hux:Go.unwind P true frC csC none w=callDeferred P (aL E {fr with defers:=ds}) csC none (cw E d) w:=by
     have hnc':∀b,(cw E d).target≠ .collected b:=by
       intro b e;obtain⟨t,a⟩:=d
       cases t with
       |fn f c=>simp[cw,ig]at e
       |gY l=>simp[cw,ig]at e
       |collected r=>exact hnc _ _ rfl
     unfold Go.unwind;rw[hdef];split
     . rename_i b ds' _ heq;simp only[Bb]at heq;exact absurd (by rw[heq.1]) (hnc' _)
     . rename_i heq;simp only[Bb]at heq;obtain⟨rfl,rfl⟩:=heq;rw[hfr']
     . rename_i heq;cases heq
   obtain⟨tg,tc,htgt⟩:∃g c,(cw E d).target= .fn g c:=by
     obtain⟨t,a⟩:=d
     cases t with
     |fn f c=>exact⟨_,_,rfl⟩
     |gY l=>exact⟨_,_,rfl⟩
     |collected r=>exact absurd rfl (fun e=>hnc r a e)
   rw[<-eu (fr:=fr) (fr':={fr with defers:=ds}) rfl cs];refine(o7 ok hsub hext hu hR' (lone frC csC w) (dC:=cw E d) ⟨fun f x w' hr=>?_,fun l f t x b w' hr=>?_,fun v w' hr hk=>?_⟩ hdrob)
   . refine step_lone_go ?_;rw[hx,hux];unfold callDeferred;rw[htgt]at hr;simp only[htgt,Dv,Ah,Ax,Sem.runT_eq,hr,GStep.bare_after,GStep.bare_go]
   . refine step_lone_go ?_;rw[hx,hux];unfold callDeferred;rw[htgt]at hr;simp only[htgt,Dv,Ah,Ax,Sem.runT_eq,hr,GStep.bare_after,GStep.bare_go]
   . cases hk
 . rename_i hds;have hdef:frC.defers=[]:=by
     rw[<-(hR.all E (ag.refl _ _)).2.1];simp[aL,hds]
   split at hu
   . cases hu
   ·
     rename_i chain hmode;split at hu
     . rename_i c rest
       cases hu;refine⟨eu (by unfold ae.raise;split<;>rfl) rest,?_⟩;refine hR.one (m':={fr:=c.raise chain,cs:=rest,h}) _ (fun _=>(0,0)) (Aj _)
        ⟨by have:=hR.wf.2 c Al;unfold ae.raise;split<;>exact this,fun f hf=>hR.wf.2 f (Ap _ hf)⟩ ?_
       intro E' he H e1 e2 _;refine⟨w,step_lone_go ?_,H,Kept.refl K w⟩;have hmd:frC.mode= .panicking (chain.map (jg E')):=by rw[<-e1];simp[aL,hmode,dh]
       have hcat:frC.catches P=false:=by
        unfold Frame.catches;rw[<-e1]
        cases P.funcs[(aL E' fr).fn]? with
        |some _=>rfl
        | none=>
          cases htd:fr.todo with
          |nil=>simp[aL,htd]
          |cons x l=>cases x<;>simp[aL,htd,bV]
       rw[hx];unfold Go.unwind;simp only[hdef,hmd,hcat,Ah,Ax];rw[<-e2];simp only[Ay,Bc,GStep.bare_go];congr 2
       unfold Frame.raise ae.raise
       cases hcm:c.mode<;>simp[aL,hcm,dh]
     . cases hu
   ·
     rename_i hmode;split at hu
     . cases hu
     . rename_i fn hfn;obtain⟨vs,hvs,hu1⟩:=af.1 hu;have hP:=ok.fns _ _ hfn;have hmd:frC.mode= .returning:=by rw[<-(hR.all E (ag.refl _ _)).2.1];simp[aL,hmode,dh]
       have hres:∀E',ag D E E'->(Go.results fn frC.tmps).run P w= .ok (aa E' (result vs)) w:=by
        intro E' he;obtain⟨g1,g2,g3⟩:=hR.all E' he;rw[<-g2];exact Cv ok hR.wf.1 g1 hvs
       have hfn':frC.fn=fr.fn:=by rw[<-(hR.all E (ag.refl _ _)).2.1];rfl
       have hP':P.funcs[frC.fn]? =some fn:=by rw[hfn'];exact hP
       have hxx:∀E',ag D E E'->(stepG P true {frame:=frC,callers:=csC,status:= .running,dying:=none} w).bare=(Go.doReturn P true frC csC none (aa E' (result vs)) w).bare:=by
        intro E' he;rw[hx];unfold Go.unwind;simp only[hdef,hmd,hP',Sem.runT_eq,hres E' he,GStep.bare_after]
       cases cs with
       |cons c rest=>
        obtain⟨m',rfl⟩:=uT hu1;obtain⟨h1,h2,h3,h4⟩:=rF (P:=P) hu1 hR.wf.2 w;refine⟨h2,?_⟩;refine hR.one _ (fun _=>(0,0)) (by rw[h1];exact Aj _) h3 ?_;intro E' he H e1 e2 _;refine⟨w,step_lone_go ?_,by rw[h1];exact H,Kept.refl K w⟩;rw[hxx E' he];have:=h4 E' base;simp only at e1 e2;rw[e1,e2]at this;exact this
       |nil=>
        unfold doReturn at hu1;simp only at hu1;split at hu1
        . rename_i hk
          cases hu1;have hk':frC.kind= .normal:=by rw[<-(hR.all E (ag.refl _ _)).2.1];exact hk
          have hcs:csC=base:=by rw[<-(hR.all E (ag.refl _ _)).2.2];rfl
          subst hcs;refine⟨frC,w,aa E (result vs),E,D,Steps.refl P _,hfn',⟨hmd,hdef,hk',fn,hP',hres E (ag.refl _ _)⟩,?_,ag.refl _ _,fun _ hi=>hi,hR.cN,Kept.refl K w,Aj _,fun _ hi=> .inl hi⟩;intro E'' he;refine⟨(hR.all E'' he).1,?_⟩;have h1:=hres E'' he;rw[hres E (ag.refl _ _)]at h1;simpa using h1.symm
        . cases hu1
end
end
section
variable [Inhabited aE]
section
variable {P:Program} {tab:aM} (ok:aV P tab) {sub:FuncId->List AV->AH->R (List (AV×AH))} (hsub:fQ P tab sub) (hext:fW P tab)
variable {D:Nat->Prop} {E:Env} {K:KS} {base:List Frame} {frC:Frame} {csC:List Frame} {w:World}
variable {fr:ae} {cs:List ae} {h:AH}
theorem Rel.grow {m:AM} (hR:Rel D E K m base frC csC w) (m':AM) (fr':Frame) (w':World) (f:Nat->Nat×Nat) (hn:m.h.next<=m'.h.next) (hwf:m'.fr.WF/\ ∀f∈m'.cs,f.WF) (hcs:m'.cs=m.cs)
   (h1:∀E',ag D E E'->aU E' m.h K w->aL E' m.fr=frC->(∀i,m.h.next<=i->i<m'.h.next->E'.aG i=(f i).1/\E'.cap i=(f i).2)->aU E' m'.h K w'/\aL E' m'.fr=fr'):
   ∃D1 E1,Rel D1 E1 K m' base fr' csC w'/\ag D E E1/\(∀i,D i->D1 i)/\(∀i,m.h.next<=i->i<m'.h.next->∀E',ag D1 E1 E'->E'.aG i=(f i).1)/\(∀i,D1 i->D i\/m.h.next<=i):=by
 obtain⟨E1,ha,hE⟩:=hR.jz f;let D1:Nat->Prop:=fun i=>D i\/(m.h.next<=i/\i<m'.h.next)
 have hnew:∀i,m.h.next<=i->i<m'.h.next->∀E',ag D1 E1 E'->E'.aG i=(f i).1/\E'.cap i=(f i).2:=by
   intro i hi hj E' he;have h2:=he i (.inr ⟨hi,hj⟩);have h3:=hE i hi;exact⟨h2.1.trans h3.1,h2.2.trans h3.2⟩
 refine⟨D1,E1,⟨fun E' he=>?_,fun i hi=>?_,hwf⟩,ha,fun i hi=> .inl hi,fun i hi hj E' he=>(hnew i hi hj E' he).1,fun i hi=>hi.elim .inl (fun h=> .inr h.1)⟩
 . have hd:ag D E E':=ha.trans he (fun i hi=> .inl hi);obtain⟨g1,g2,g3⟩:=hR.all E' hd;obtain⟨k1,k2⟩:=h1 E' hd g1 g2 (fun i hi hj=>hnew i hi hj E' he);exact⟨k1,k2,by rw[hcs];exact g3⟩
 . rcases hi with hi|hi
   . have:=hR.cN i hi;omega
   . exact hi.2
theorem vg {M0:Machine} {frC':Frame} {fr0:Frame} {w0:World} {s:Sem Next} {dC:Deferred} (hM:M0=lone fr0 csC w0)
   (hx:(stepG P true {frame:=fr0,callers:=csC,status:= .running,dying:=none} w0).bare=(stepG.apply P true frC' csC none s w).bare)
   (ht:∃l k,frC'.todo= .inRangeFunc l::k) (hs:s.run P w=(invoke dC.target dC.args).run P w):Ctx P M0 frC' csC w .normal dC:=by
 subst hM;obtain⟨l,k,ht⟩:=ht;refine⟨fun f x w' hr=>?_,fun l f t x b w' hr=>?_,fun v w' hr _=>?_⟩
 . refine step_lone_go ?_;rw[hx];simp[stepG.apply,hs,hr,ht]
 . refine step_lone_go ?_;rw[hx];simp[stepG.apply,hs,hr]
 . refine step_lone_go ?_;rw[hx,ry (by rw[hs,hr]) (.inl rfl)]
def og (P:Program) (tab:aM) (sub:FuncId->List AV->AH->R (List (AV×AH))):Prop:=
 ∀ (fr:ae) (cs:List ae) (h:AH) (id:Nat) (ops:Array Oper) (k:List aT) (ts:T AV) (h':AH),fr.mode= .run->fr.todo= .code (.region id ops true)::k->draw tab sub ops fr.nt fr.tmps h= .ok (ts,h')->
  ∀(D:Nat->Prop) (E:Env) (K:KS) (base:List Frame) (frC:Frame) (csC:List Frame) (w:World),Rel D E K {fr,cs,h} base frC csC w->
   eo P h.next (lone frC csC w) D E K {fr:={fr with tmps:=ts,todo:=k},cs,h:=h'} base w
include ok hsub hext in
theorem CS {f:Operand} {ps:Array Tmp} {a b:Code} {k:List aT} {out:bZ} (hm:fr.mode= .run) (ht:fr.todo= .code (.rangeFunc f ps a b)::k) (hR:Rel D E K {fr,cs,h} base frC csC w)
   (hs : (do
     let d<-jG (<-ev fr.tmps f) [.gY (bif fr.round.isNone then h.next+1 else h.next)]
     match fr.round with
     | none=>
       let h1:=h.new (.kn (some []))
       let h2:=h1.new (.loop .ready none fr.fn fr.tmps fr.nt ps a b h.next)
       callTarget tab sub {fr with todo:= .cA (h.next+1)::k,defers:={target:= .collected h.next,args:=[]}::fr.defers} cs h2 d .normal
     | some l=>
       match h.get l with
       | some (.loop _ _ _ _ _ _ _ _ dd)=>
         let h2:=h.new (.loop .ready none fr.fn fr.tmps fr.nt ps a b dd)
         callTarget tab sub {fr with todo:= .cA h.next::k} cs h2 d .normal
       |_=> .no "rangeFunc: loop" :R bZ)= .ok out):Out P h.next (lone frC csC w) D E K (bot fr cs) base w out:=by
 obtain⟨u,hu,hs1⟩:=af.1 hs;obtain⟨d,hd,hs2⟩:=af.1 hs1;clear hs hs1;have hρ:∀E',ag D E E'->∀x u,ev fr.tmps x= .ok u->frC.eval x=aa E' u:=by
   intro E' he x u hx;rw[<-(hR.all E' he).2.1];exact jI hR.wf.1 E' hx
 have hmC:frC.mode= .run:=by rw[<-(hR.all E (ag.refl _ _)).2.1];simp[aL,hm,dh]
 have htC:frC.todo= .code (.rangeFunc f ps a b)::k.map (bV E):=by rw[<-(hR.all E (ag.refl _ _)).2.1];simp[aL,ht,bV]
 have hfnC:frC.fn=fr.fn:=by rw[<-(hR.all E (ag.refl _ _)).2.1];rfl
 have hrob:∀E',ag D E E'->aL E' fr=aL E fr:=fun E' he=>(hR.all E' he).2.1.trans (hR.all E (ag.refl _ _)).2.1.symm
 split at hs2
 . rename_i hround;simp only[hround,Option.isNone_none,AY]at hd;have hr0:frC.roundOf=none:=by rw[<-(hR.all E (ag.refl _ _)).2.1];simp[aL,hround]
   let N:=w.heap.size
   let w1:=w.alloc (.deferred (some []))
   let w2:=w1.alloc (.loop {state:= .ready,pending:=none,fn:=fr.fn,tmps:=frC.tmps,params:=ps,assign:=a,body:=b,defers:=N})
   let frC':Frame:={frC with todo:= .inRangeFunc (N+1)::k.map (bV E),defers:={target:= .collected N,args:=#[]}::frC.defers,mode:= .run}
   have hparts:∀E',ag D E E'->dK E' fr.tmps fr.nt=frC.tmps/\k.map (bV E')=k.map (bV E)/\fr.defers.map (cw E')=frC.defers/\dh E' fr.mode=frC.mode/\fr.kind=frC.kind/\fr.round.map E'.aG=frC.roundOf:=by
     intro E' he;have e1:=(hR.all E' he).2.1;obtain⟨_,g2,_⟩:=pB (hrob E' he);simp only[ht,Ay,Bb]at g2;simp only at e1;exact⟨by rw[<-e1];rfl,g2.2,by rw[<-e1];rfl,by rw[<-e1];rfl,by rw[<-e1];rfl,by rw[<-e1];rfl⟩
   obtain⟨D1,E1,hR1,ha1,hd1,hb1,hw1⟩:=hR.grow {fr:={fr with todo:= .cA (h.next+1)::k,defers:={target:= .collected h.next,args:=[]}::fr.defers},cs,h:=(h.new (.kn (some []))).new (.loop .ready none fr.fn fr.tmps fr.nt ps a b h.next)}
     frC' w2 (fun i=>(N+(i - h.next),0)) (by simp only[AH.bg];omega) ⟨hR.wf.1,hR.wf.2⟩ rfl (by
       intro E' he H e1 hE';have b1:E'.aG h.next=N:=by have:=(hE' h.next (Aj _) (by simp only[AH.bg];omega)).1;simpa using this
       have b2:E'.aG (h.next+1)=N+1:=by have:=(hE' (h.next+1) (by simp) (by simp only[AH.bg];omega)).1;simpa using this
       have H1:aU E' (h.new (.kn (some []))) K w1:=H.new b1 (by simp[ga]);have hsz:w1.heap.size=N+1:=by simp[w1,N]
       obtain⟨p1,p2,p3,p4,p5,p6⟩:=hparts E' he;refine⟨H1.new (by simp only[AH.bg];rw[b2,hsz]) ⟨?_,hR.wf.1⟩,?_⟩
       . rw[p1,b1]
       . simp only[aL,Ay,bV,cw,ig,b1,b2,p1,p2,p3,p4,p5,p6,frC',hfnC,bH,hmC])
   have hrun:(Instr.enterLoop frC.fn frC.tmps ps a b frC.roundOf).run P w= .ok (N+1,[{target:= .collected N,args:=#[]}]) w2:=by
     rw[hr0,hfnC];unfold Instr.enterLoop;simp only[Sem.run_bind,run_newObj,Result.andThen_ok,Sem.run_pure];simp[N];rfl
   have hresv:∀E',ag D1 E1 E'->Deferred.ofValue (frC.eval f) #[.func (.yield (N+1)) #[] #[]]=pure (cw E' d):=by
     intro E' he;rw[<-k8 hd E',hρ E' (ha1.trans he hd1) _ _ hu];have h3:E'.aG (h.next+1)=N+1:=by
       have:=hb1 (h.next+1) (by simp) (by simp only[AH.bg];omega) E' he;simpa using this
     simp only[aP,bH,aa,h3]
   have hdrob:=mh hresv;rw[<-eu (fr:=fr) (fr':={fr with todo:= .cA (h.next+1)::k,defers:={target:= .collected h.next,args:=[]}::fr.defers}) rfl cs];refine Out.trans (Steps.refl P _) ha1 hd1 ?_ (by simp only[AH.bg];omega) hw1 (o7 ok hsub hext hs2 hR1 (lone frC csC w) (dC:=cw E1 d) ?_ hdrob)
   . exact(Kept.alloc (hR.all E (ag.refl _ _)).1.kb _).trans (Kept.alloc (fun b hb=>by have:=(hR.all E (ag.refl _ _)).1.kb b hb;simp[w1];omega) _)
   . refine vg (s:=do let d<-resolve frC'.eval {callee:= .value f,args:=#[.const (.func (.yield (N+1)) #[] #[])],argTypes:=#[]} 0;invoke d.target d.args) rfl ?_ ⟨N+1,_,rfl⟩ ?_
     . unfold stepG stepG.exec;simp only[hmC,htC,Sem.runT_eq,hrun,GStep.bare_after];rfl
     . have he:frC'.eval f=frC.eval f:=by cases f<;>rfl
       have h2:=hresv E1 (ag.refl _ _);simp only[Sem.run_bind,resolve,he];have hargs:Array.map frC'.eval #[.const (.func (.yield (N+1)) #[] #[])]=#[.func (.yield (N+1)) #[] #[]]:=by simp[Frame.eval]
       rw[hargs,h2];simp
 . rename_i l hround;simp only[hround,Option.isNone_some,AB]at hd;split at hs2
   . rename_i st pd fn' ts nt ps' a' b' dd hl;let N:=w.heap.size
     let blkL:=E.aG l
     have hloop:∀E',ag D E E'->∃o,w.heap[E'.aG l]? =some (.loop o)/\o.defers=E'.aG dd:=by
       intro E' he;obtain⟨o,ho,hoo,_⟩:=(hR.all E' he).1.obj l _ hl;subst hoo;exact⟨_,ho,rfl⟩
     have hr0:∀E',ag D E E'->frC.roundOf=some (E'.aG l):=by
       intro E' he;rw[<-(hR.all E' he).2.1];simp[aL,hround]
     obtain⟨o,ho,hod⟩:=hloop E (ag.refl _ _);have hdd:∀E',ag D E E'->E'.aG dd=o.defers:=by
       intro E' he;obtain⟨o',ho',hod'⟩:=hloop E' he;have h1:=hr0 E' he;rw[hr0 E (ag.refl _ _)]at h1;simp only[Az]at h1;rw[<-h1,ho]at ho'
       cases ho';exact hod'.symm
     let w2:=w.alloc (.loop {state:= .ready,pending:=none,fn:=fr.fn,tmps:=frC.tmps,params:=ps,assign:=a,body:=b,defers:=o.defers})
     let frC':Frame:={frC with todo:= .inRangeFunc N::k.map (bV E),mode:= .run}
     have hparts:∀E',ag D E E'->dK E' fr.tmps fr.nt=frC.tmps/\k.map (bV E')=k.map (bV E)/\fr.defers.map (cw E')=frC.defers/\dh E' fr.mode=frC.mode/\fr.kind=frC.kind/\fr.round.map E'.aG=frC.roundOf:=by
       intro E' he;have e1:=(hR.all E' he).2.1;obtain⟨_,g2,_⟩:=pB (hrob E' he);simp only[ht,Ay,Bb]at g2;simp only at e1;exact⟨by rw[<-e1];rfl,g2.2,by rw[<-e1];rfl,by rw[<-e1];rfl,by rw[<-e1];rfl,by rw[<-e1];rfl⟩
     obtain⟨D1,E1,hR1,ha1,hd1,hb1,hw1⟩:=hR.grow {fr:={fr with todo:= .cA h.next::k},cs,h:=h.new (.loop .ready none fr.fn fr.tmps fr.nt ps a b dd)}
       frC' w2 (fun _=>(N,0)) (by simp) ⟨hR.wf.1,hR.wf.2⟩ rfl (by
         intro E' he H e1 hE';have b1:E'.aG h.next=N:=(hE' h.next (Aj _) (by simp)).1;obtain⟨p1,p2,p3,p4,p5,p6⟩:=hparts E' he;refine⟨H.new b1 ⟨?_,hR.wf.1⟩,?_⟩
         . rw[p1,hdd E' he]
         . simp only[aL,Ay,bV,b1,p1,p2,p3,p4,p5,p6,frC',hfnC,hmC])
     have hrun:(Instr.enterLoop frC.fn frC.tmps ps a b frC.roundOf).run P w= .ok (N,[]) w2:=by
       rw[hr0 E (ag.refl _ _),hfnC];unfold Instr.enterLoop Instr.getLoop;simp only[Sem.run_bind,gN ho (by simp),run_newObj,Result.andThen_ok,Sem.run_pure];rfl
     have hresv:∀E',ag D1 E1 E'->Deferred.ofValue (frC.eval f) #[.func (.yield N) #[] #[]]=pure (cw E' d):=by
       intro E' he;rw[<-k8 hd E',hρ E' (ha1.trans he hd1) _ _ hu];have h3:E'.aG h.next=N:=hb1 h.next (Aj _) (by simp) E' he;simp only[aP,bH,aa,h3]
     have hdrob:=mh hresv;rw[<-eu (fr:=fr) (fr':={fr with todo:= .cA h.next::k}) rfl cs];refine Out.trans (Steps.refl P _) ha1 hd1 ?_ (by simp only[AH.bg];omega) hw1 (o7 ok hsub hext hs2 hR1 (lone frC csC w) (dC:=cw E1 d) ?_ hdrob)
     . exact Kept.alloc (hR.all E (ag.refl _ _)).1.kb _
     . refine vg (s:=do let d<-resolve frC'.eval {callee:= .value f,args:=#[.const (.func (.yield N) #[] #[])],argTypes:=#[]} 0;invoke d.target d.args) rfl ?_ ⟨N,_,rfl⟩ ?_
       . unfold stepG stepG.exec;simp only[hmC,htC,Sem.runT_eq,hrun,GStep.bare_after];rfl
       . have he:frC'.eval f=frC.eval f:=by cases f<;>rfl
         have h2:=hresv E1 (ag.refl _ _);simp only[Sem.run_bind,resolve,he];have hargs:Array.map frC'.eval #[.const (.func (.yield N) #[] #[])]=#[.func (.yield N) #[] #[]]:=by simp[Frame.eval]
         rw[hargs,h2];simp
   . cases hs2
end
end
section
variable [Inhabited aE]
section
variable {P:Program} {tab:aM} (ok:aV P tab) {sub:FuncId->List AV->AH->R (List (AV×AH))} (hsub:fQ P tab sub) (hext:fW P tab) (hdraw:og P tab sub)
variable {D:Nat->Prop} {E:Env} {K:KS} {base:List Frame} {frC:Frame} {csC:List Frame} {w:World}
theorem Ge (hm:frC.mode= .run) (ht:frC.todo=[]):stepG P true {frame:=frC,callers:=csC,status:= .running,dying:=none} w=gQ P frC csC w none:=by
 obtain⟨fn,tmps,todo,defers,mode,kind,roundOf⟩:=frC;simp only at hm ht;subst hm ht
 cases roundOf with
 |none=>simp[stepG,stepG.exec,gQ]
 |some l=>
  simp[stepG,stepG.exec,gQ];rfl
theorem Gf {k:List Item} (hm:frC.mode= .run) (ht:frC.todo= .code .ret::k):stepG P true {frame:=frC,callers:=csC,status:= .running,dying:=none} w=gQ P frC csC w (some .ret):=by
 obtain⟨fn,tmps,todo,defers,mode,kind,roundOf⟩:=frC;simp only at hm ht;subst hm ht
 cases roundOf with
 |none=>simp[stepG,stepG.exec,gQ]
 |some l=>
  simp[stepG,stepG.exec,gQ];rfl
theorem C5 {id:Nat} {k:List Item} (hm:frC.mode= .run) (ht:frC.todo= .code (.exit id)::k) (hk:Go.exitTo id k=none):stepG P true {frame:=frC,callers:=csC,status:= .running,dying:=none} w=gQ P frC csC w (some (.exit id)):=by
 obtain⟨fn,tmps,todo,defers,mode,kind,roundOf⟩:=frC;simp only at hm ht;subst hm ht
 cases roundOf with
 |none=>simp[stepG,stepG.exec,gQ,hk]
 |some l=>
  simp[stepG,stepG.exec,gQ,hk];rfl
theorem gv {fr:ae} {cs:List ae} {h:AH} (hR:Rel D E K {fr,cs,h} base frC csC w) (k:List aT)
  (hx:∀E' cs',Go.step P (lone (aL E' fr) cs' w)= .next (lone (aL E' {fr with todo:=k}) cs' w)):
  Out P h.next (lone frC csC w) D E K (bot fr cs) base w (.next {fr:={fr with todo:=k},cs,h}):=
 ⟨eu (by rfl) cs,hR.fM {fr with todo:=k} hR.wf.1 hx⟩
include ok hsub hext hdraw in
theorem nI {m:AM} {out:bZ} (hs:step tab sub m= .ok out) (hR:Rel D E K m base frC csC w):Out P m.h.next (lone frC csC w) D E K (bot m.fr m.cs) base w out:=by
 obtain⟨fr,cs,h⟩:=m;unfold step at hs;simp only at hs;split at hs
 . rename_i hm;have hmC:frC.mode= .run:=by rw[<-(hR.all E (ag.refl _ _)).2.1];simp[aL,hm,dh]
   split at hs
   ·
     rename_i ht;have htC:frC.todo=[]:=by rw[<-(hR.all E (ag.refl _ _)).2.1];simp[aL,ht]
     exact rC hs hR (Ge hmC htC)
   . rename_i k ht;have htC:frC.todo= .code .ret::k.map (bV E):=by rw[<-(hR.all E (ag.refl _ _)).2.1];simp[aL,ht,bV]
     exact rC hs hR (Gf hmC htC)
   . rename_i k ht
     cases hs;exact gv hR k (fun E' cs'=>step_lone_go (by simp[stepG,stepG.exec,aL,hm,ht,dh,bV]))
   . rename_i l k ht
     cases hs;exact gv hR k (fun E' cs'=>step_lone_go (by simp[stepG,stepG.exec,aL,hm,ht,dh,bV]))
   . rename_i l k ht
     cases hs;exact gv hR k (fun E' cs'=>step_lone_go (by simp[stepG,stepG.exec,aL,hm,ht,dh,bV]))
   . rename_i l k ht
     cases hs;exact gv hR k (fun E' cs'=>step_lone_go (by simp[stepG,stepG.exec,aL,hm,ht,dh,bV]))
   . rename_i a b k ht
     cases hs;exact gv hR _ (fun E' cs'=>step_lone_go (by simp[stepG,stepG.exec,aL,hm,ht,dh,bV]))
   ·
     rename_i c a b k ht;obtain⟨u,hu,hs1⟩:=af.1 hs;split at hs1
     . cases hs1;exact gv hR _ (fun E' cs'=>step_lone_go (by
         have:=jI hR.wf.1 E' hu;simp only[aa]at this;simp[stepG,stepG.exec,aL,hm,ht,dh,bV]at this⊢;simp[this]))
     . cases hs1;exact gv hR _ (fun E' cs'=>step_lone_go (by
         have:=jI hR.wf.1 E' hu;simp only[aa]at this;simp[stepG,stepG.exec,aL,hm,ht,dh,bV]at this⊢;simp[this]))
     . cases hs1
   . rename_i id b k ht
     cases hs;exact gv hR _ (fun E' cs'=>step_lone_go (by simp[stepG,stepG.exec,aL,hm,ht,dh,bV]))
   . rename_i b k ht
     cases hs;exact gv hR _ (fun E' cs'=>step_lone_go (by simp[stepG,stepG.exec,aL,hm,ht,dh,bV]))
   . rename_i b k ht
     cases hs;exact gv hR _ (fun E' cs'=>step_lone_go (by simp[stepG,stepG.exec,aL,hm,ht,dh,bV]))
   . rename_i b k ht
     cases hs;exact gv hR _ (fun E' cs'=>step_lone_go (by simp[stepG,stepG.exec,aL,hm,ht,dh,bV]))
   ·
     rename_i id k ht;split at hs
     . rename_i k' hk
       cases hs;exact gv hR _ (fun E' cs'=>step_lone_go (by simp[stepG,stepG.exec,aL,hm,ht,dh,bV,vb,hk]))
     . rename_i hk;have htC:frC.todo= .code (.exit id)::k.map (bV E):=by rw[<-(hR.all E (ag.refl _ _)).2.1];simp[aL,ht,bV]
       exact rC hs hR (C5 hmC htC (by rw[vb,hk];rfl))
   ·
     rename_i f ps a b k ht;exact CS ok hsub hext hm ht hR hs
   ·
     rename_i l k ht;split at hs
     . rename_i st pd fn ts nt ps a b d hl;have hbusy:st≠ .busy:=by intro e;subst e;cases hs
       have hs1:(R.ok (bZ.next {fr:={fr with todo:=(pd.map aT.code).toList++k},cs,h:=h.set l (.loop .exhausted pd fn ts nt ps a b d)}):R bZ)= .ok out:=by
         cases st<;>first|exact hs|exact absurd rfl hbusy
       cases hs1;refine⟨eu (by rfl) cs,?_⟩;refine hR.one (m':={fr:={fr with todo:=(pd.map aT.code).toList++k},cs,h:=h.set l (.loop .exhausted pd fn ts nt ps a b d)}) _ (fun _=>(0,0)) (Aj _) ⟨hR.wf.1,hR.wf.2⟩ ?_;intro E' he H e1 e2 _;obtain⟨o,ho,hoo,hw⟩:=H.obj l _ hl;subst hoo;let o':Obj:= .loop {state:= .exhausted,pending:=pd,fn,tmps:=dK E' ts nt,params:=ps,assign:=a,body:=b,defers:=E'.aG d}
       have hrun:(Instr.endLoop (E'.aG l)).run P w= .ok pd (w.put (E'.aG l) o'):=by
         unfold Instr.endLoop Instr.getLoop;have:(st==LoopState.busy)=false:=by cases st<;>first|rfl|exact absurd rfl hbusy
         simp only[Sem.run_bind,gN ho (by simp),Result.andThen_ok,Sem.run_pure,this,Ah,Ax,mu ho (by simp)];rfl
       refine⟨w.put (E'.aG l) o',step_lone_go ?_,H.put hl (by simp[AO.ro]) ⟨rfl,hw⟩,H.bj hl (by simp[AO.ro]) _⟩;simp only at e1 e2;have htC:frC.todo= .endRangeFunc (E'.aG l)::k.map (bV E'):=by rw[<-e1];simp[aL,ht,bV]
       rw[<-e2];have hgoal:aL E' {fr with todo:=(pd.map aT.code).toList++k}={frC with todo:=(pd.map Item.code).toList++k.map (bV E')}:=by
         rw[<-e1]
         cases pd<;>simp[aL,bV]
       simp only[hgoal];unfold stepG stepG.exec;simp only[hmC,htC,Sem.runT_eq,hrun,GStep.bare_after,GStep.bare_go]
     . cases hs
   ·
     rename_i k ht;split at hs
     . rename_i l hround;split at hs
       . rename_i pd fn ts nt ps a b d hl
         cases hs;refine⟨eu (by rfl) cs,?_⟩;refine hR.one (m':={fr:={fr with todo:=k},cs,h:=h.set l (.loop .busy pd fn ts nt ps a b d)}) _ (fun _=>(0,0)) (Aj _) ⟨hR.wf.1,hR.wf.2⟩ ?_;intro E' he H e1 e2 _;obtain⟨o,ho,hoo,hw⟩:=H.obj l _ hl;subst hoo;let o':Obj:= .loop {state:= .busy,pending:=pd,fn,tmps:=dK E' ts nt,params:=ps,assign:=a,body:=b,defers:=E'.aG d}
         simp only at e1 e2;have hr0:frC.roundOf=some (E'.aG l):=by rw[<-e1];simp[aL,hround]
         have htC:frC.todo= .beginRound::k.map (bV E'):=by rw[<-e1];simp[aL,ht,bV]
         have hrun:(do frC.roundOf.elim (stuck "beginRound: no round") Instr.beginRound;pure .skip:Sem Next).run P w= .ok .skip (w.put (E'.aG l) o'):=by
          rw[hr0];simp only[Option.elim_some,Instr.beginRound,Instr.getLoop];simp only[Sem.run_bind,gN ho (by simp),Result.andThen_ok,Sem.run_pure,mu ho (by simp)];rfl
         refine⟨w.put (E'.aG l) o',step_lone_go ?_,H.put hl (by simp[AO.ro]) ⟨rfl,hw⟩,H.bj hl (by simp[AO.ro]) _⟩;rw[<-e2];have hgoal:aL E' {fr with todo:=k}={frC with todo:=k.map (bV E')}:=by
          rw[<-e1];rfl
         simp only[hgoal];have hx:stepG P true {frame:=frC,callers:=cs.map (aL E')++base,status:= .running,dying:=none} w=stepG.apply P true frC (cs.map (aL E')++base) none (do frC.roundOf.elim (stuck "beginRound: no round") Instr.beginRound;pure .skip) w:=by
          unfold stepG stepG.exec;simp only[hmC,htC]
         rw[hx,ry hrun (.inr ⟨rfl,rfl⟩)];simp[Frame.finish,htC]
       . cases hs
     . cases hs
   . rename_i id ops k ht
     cases hs;exact gv hR _ (fun E' cs'=>step_lone_go (by simp[stepG,stepG.exec,aL,hm,ht,dh,bV]))
   . rename_i id ops k ht;obtain⟨⟨ts,h'⟩,hd,hs1⟩:=af.1 hs
     cases hs1;exact⟨eu (by rfl) cs,hdraw fr cs h id ops k ts h' hm ht hd D E K base frC csC w hR⟩
   . rename_i ops k ht
     cases hs;exact gv hR _ (fun E' cs'=>step_lone_go (by simp[stepG,stepG.exec,aL,hm,ht,dh,bV]))
   ·
     rename_i ops i rest k ht;split at hs
     . rename_i o ho;obtain⟨b,hb,hs1⟩:=af.1 hs
       cases b with
       |true=>exact Fv ok hsub hext hs1 hR hm ht ho hb
       | false=>
         simp only[Ah,Ax]at hs1;obtain⟨fr',hf,hs2⟩:=af.1 hs1
         cases hs2;have hfc:=fU hf;refine⟨eu (hfc E).2.2 cs,hR.fM fr' ((hfc E).2.1 hR.wf.1) (fun E' cs'=>step_lone_go ?_)⟩;have hw:=rU hR.wf.1 hb E';rw[<-(hfc E').1];have h1:(aL E' fr).todo= .inRegion ops (i::rest)::k.map (bV E'):=by simp[aL,ht,bV]
         have h2:(aL E' fr).mode= .run:=by simp[aL,hm,dh]
         have h3:Region.wanted o (yielded ops (aL E' fr).tmps)=false:=hw;generalize aL E' fr=g at*
         unfold stepG stepG.exec;simp[h1,h2,ho,h3];rfl
     . cases hs
   . cases hs
 . rename_i hm;exact Cf ok hsub hext hs hm hR
end
end
section
variable [Inhabited aE]
section
variable {P:Program} {tab:aM} (ok:aV P tab) (hext:fW P tab) (hdraw:∀sub,fQ P tab sub->og P tab sub)
def yR (P:Program) (tab:aM) (m:AM) (outs:List (AV×AH)):Prop:=
 ∀(D:Nat->Prop) (E:Env) (K:KS) (base:List Frame) (frC:Frame) (csC:List Frame) (w:World),Rel D E K m base frC csC w->
  ∃v h',(v,h')∈outs/\Ends P m.h.next (lone frC csC w) D E K v h' base (bot m.fr m.cs) w
include ok hext hdraw in
theorem wA:∀n,(∀m outs,run tab n m= .ok outs->yR P tab m outs)/\
  (∀l outs,runs tab n l= .ok outs->∀m∈l,∀outs',(∀x∈outs,x∈outs')->yR P tab m outs'):=by
 intro n;induction n with
 |zero=>
  refine⟨fun m outs h=>?_,fun l outs h=>?_⟩
  . simp only[run]at h;cases h
  . cases l<;>(simp only[runs]at h;cases h)
 |succ n ih=>
  refine⟨fun m outs h=>?_,fun l outs h=>?_⟩
  . simp only[run]at h;let sub:FuncId->List AV->AH->R (List (AV×AH)):=fun f args h=>match tab.fns.get f with
     | some fn=>match fn.body with
       |some body=>run tab n {fr:=ae.enter fn f body args .normal,cs:=[],h}
       |none=> .no "run: body"
     |none=> .no "run: function"
    have hsub:fQ P tab sub:=by
     intro f fn body args h outs hfn hb ho D E K w argsC hargs hdom cs;simp only[sub,hfn,hb]at ho;have hP:=ok.fns f fn hfn;have hR:Rel D E K {fr:=ae.enter fn f body args .normal,cs:=[],h} cs (Frame.enter P f argsC .normal) cs w:=by
       refine⟨fun E' he=>?_,hdom,ln _ _ _ _ _,fun f hf=>by cases hf⟩;obtain⟨h1,h2⟩:=hargs E' he;refine⟨h1,?_,rfl⟩;rw[<-h2,iB hP hb]
     exact ih.1 _ _ ho D E K cs _ cs w hR
    intro D E K base frC csC w hR;change (match step tab sub m with
     | .no w=>R.no w
     | .ok (.done v h)=> .ok [(v,h)]
     | .ok (.next m')=>run tab n m'
     | .ok (.alts l)=>runs tab n l)= .ok outs at h
    cases hs:step tab sub m with
    |no w=>rw[hs]at h;cases h
    |ok out=>
     rw[hs]at h;have ho:=nI ok hsub hext (hdraw sub hsub) hs hR
     cases out with
     | done v hh=>
       cases h;exact⟨v,hh,Al,ho⟩
     | next m'=>
       obtain⟨hb,fr',cs',w',E',D',s1,s2,s3,s4,s5,s6,s7⟩:=ho;obtain⟨v,h',hm,he⟩:=ih.1 m' outs h D' E' K base fr' cs' w' s2;rw[hb]at he;exact⟨v,h',hm,Ends.trans s1 s3 s4 s5 s6 s7 he⟩
     | alts l=>
       obtain⟨m',hml,hb,fr',cs',w',E',D',s1,s2,s3,s4,s5,s6,s7⟩:=ho;obtain⟨v,h',hm,he⟩:=ih.2 l outs h m' hml outs (fun _ hx=>hx) D' E' K base fr' cs' w' s2;rw[hb]at he;exact⟨v,h',hm,Ends.trans s1 s3 s4 s5 s6 s7 he⟩
  . intro m hm outs' hsub'
    cases l with
    |nil=>cases hm
    |cons x l=>
     simp only[runs]at h;obtain⟨a,ha,h1⟩:=af.1 h;obtain⟨b,hb,h2⟩:=af.1 h1
     cases h2;rcases An.1 hm with rfl|hm
     . intro D E K base frC csC w hR;obtain⟨v,h',hx,he⟩:=ih.1 m a ha D E K base frC csC w hR;exact⟨v,h',hsub' _ (Dl _ hx),he⟩
     . exact ih.2 l b hb m hm outs' (fun x hx=>hsub' x (BV _ hx))
end
end
section
variable [Inhabited aE]
section
variable {tab:aM} {ts ts':T AV} {h:AH}
theorem nG:∀(l:List Operand),(∀x∈l,ev ts x=ev ts' x)->fm ts l=fm ts' l:=by
 intro l;induction l with
 |nil=>intro _;rfl
 |cons x l ih=>
  intro hx;simp only[fm,hx x Al,ih (fun y hy=>hx y (Ap _ hy))]
theorem uU:∀(l:List (Nat×Operand)),(∀x∈l.map (·.2),ev ts x=ev ts' x)->hZ ts l=hZ ts' l:=by
 intro l;induction l with
 |nil=>intro _;rfl
 |cons x l ih=>
  intro hx;simp only[hZ,hx x.2 (by simp),ih (fun y hy=>hx y (by simp at hy⊢;exact .inr hy))]
theorem ny (o:Oper) (hx:∀x∈o.op.operands,ev ts x=ev ts' x):df tab ts h o=df tab ts' h o:=by
 obtain⟨dst,op,type,pos,after,guard⟩:=o
 cases op<;>simp only[Op.operands]at hx<;>simp only[df]
 case build t ps=>rw[uU ps.toList fun x hm=>hx x (by simpa using hm)]
 case buildSlice t n ps=>rw[uU ps.toList fun x hm=>hx x (by simpa using hm)]
 case makeFunc fn first captured=>
  rw[nG first.toList fun x hm=>hx x (by simp at hm;simp[hm]),nG captured.toList fun x hm=>hx x (by simp at hm;simp[hm])]
 case call c=>
  cases hc:c.callee with
  |builtin b=>
   simp only;rw[nG c.args.toList fun x hm=>hx x (by simp[Call.operands,hc];simpa using hm)]
  |value f=>rfl
  |invoke r m=>rfl
 case slice t x lo hi mx=>
  have h0:ev ts x=ev ts' x:=hx x (by simp);have h1:∀y,lo=some y->ev ts y=ev ts' y:=fun y e=>hx y (by simp[e])
  have h2:∀y,hi=some y->ev ts y=ev ts' y:=fun y e=>hx y (by simp[e])
  have h3:∀y,mx=some y->ev ts y=ev ts' y:=fun y e=>hx y (by simp[e])
  rw[h0]
  cases lo<;>cases hi<;>cases mx<;>simp_all[fG,dD]
 case makeMap t r=>cases r<;>rfl
 all_goals (first|rfl|(simp_all;done))
theorem Ca {sub:FuncId->List AV->AH->R (List (AV×AH))} (o:Oper) (hx:∀x∈o.op.operands,ev ts x=ev ts' x):mN tab sub ts h o=mN tab sub ts' h o:=by
 have hp:=ny (tab:=tab) (h:=h) o hx;unfold mN
 cases hop:o.op
 case call c=>
  rw[hop]at hx;simp only
  cases hc:c.callee with
  |builtin b=>cases b<;>simp only[hp]
  |value f=>
   have h1:ev ts f=ev ts' f:=hx f (by simp[Op.operands,Call.operands,hc]);have h2:fm ts c.args.toList=fm ts' c.args.toList:=nG c.args.toList fun x hm=>hx x (by simp[Op.operands,Call.operands,hc];right;simpa using hm)
   simp only[h1,h2]
  |invoke r m=>simp only[hp]
 all_goals simp only[hp]
theorem rM {ops:Array Oper} {o:Oper} (h:∀t∈looks ops o,ts.get t=ts'.get t):(∀x∈o.op.operands,ev ts x=ev ts' x)/\wanted ops o ts=wanted ops o ts':=by
 constructor
 . intro x hx
   cases x with
   |tmp t=>
    have:=h t (Dl _ (List.mem_filterMap.2 ⟨.tmp t,by simpa using hx,rfl⟩));simp only[ev,this]
   |const v=>rfl
   |func f=>rfl
   |global g=>rfl
 . unfold wanted
   cases hg:o.guard with
   |none=>rfl
   | some gw=>
    obtain⟨g,want⟩:=gw;simp only
    cases hd:(ops[g]?).bind (·.dst)with
    |none=>rfl
    |some d=>
     have:=h d (BV _ (by simp[hg,hd]));simp only[Bw,this]
end
end
section
variable [Inhabited aE]
theorem fw:∀(l:List (Nat×Nat)) (h:AH),(eU h l).next=h.next:=by
 intro l;induction l with
 |nil=>intro h;rfl
 |cons x l ih=>intro h;simp only[eU,ih,AH.dg]
theorem eV:∀(l:List (Nat×Nat)) (h:AH) (i:Nat),(eU h l).get i=if ∃x∈l,x.2=i then none else h.get i:=by
 intro l;induction l with
 |nil=>intro h i;simp[eU]
 |cons x l ih=>
  intro h i;simp only[eU,ih,iP];by_cases h1:∃y∈l,y.2=i
  . rw[Ai h1,Ai (by obtain⟨y,hy,e⟩:=h1;exact⟨y,Ap _ hy,e⟩)]
  . rw[Ae h1];by_cases h2:i=x.2
    . rw[Ai h2,Ai ⟨x,Al,h2.symm⟩]
    . rw[Ae h2,Ae];rintro⟨y,hy,e⟩;rcases An.1 hy with rfl|hy
      . exact h2 e.symm
      . exact h1 ⟨y,hy,e⟩
theorem mj:∀(l:List (Nat×Nat)) (h h0:AH),(restore h h0 l).next=h.next:=by
 intro l;induction l with
 |nil=>intro h h0;rfl
 |cons x l ih=>intro h h0;simp only[restore,ih]
theorem jA:∀(l:List (Nat×Nat)) (h h0:AH) (i:Nat),(restore h h0 l).get i=if ∃x∈l,x.2=i then h0.get i else h.get i:=by
 intro l;induction l with
 |nil=>intro h h0 i;simp[restore]
 |cons x l ih=>
  intro h h0 i;simp only[restore,ih];have hg:({h with t:=h.t.set x.2 (h0.get x.2)}:AH).get i=if i=x.2 then h0.get x.2 else h.get i:=T.aI _ _ _ _
  rw[hg];by_cases h1:∃y∈l,y.2=i
  . rw[Ai h1,Ai (by obtain⟨y,hy,e⟩:=h1;exact⟨y,Ap _ hy,e⟩)]
  . rw[Ae h1];by_cases h2:i=x.2
    . rw[Ai h2,Ai ⟨x,Al,h2.symm⟩,h2]
    . rw[Ae h2,Ae];rintro⟨y,hy,e⟩;rcases An.1 hy with rfl|hy
      . exact h2 e.symm
      . exact h1 ⟨y,hy,e⟩
section
variable {E:Env} {h h0 h1 h2:AH} {K:KS} {w w':World}
def Rest (E:Env) (h h0:AH) (K:KS):KS:=⟨fun b=>K b\/ ∃i o,h.get i=some o/\h0.get i=none/\b=E.aG i,K.b⟩
theorem aU.part (H:aU E h K w) (hs:∀i o,h0.get i=some o->h.get i=some o) (hd:∀i o,h0.get i=some o->i<h0.next):aU E h0 (Rest E h h0 K) w:=by
 refine⟨fun i o hi=>H.obj i o (hs i o hi),?_,fun i j oi oj hi hj=>H.inj i j oi oj (hs i oi hi) (hs j oj hj),hd,?_,fun i o hi=>H.im i o (hs i o hi),fun b hb=> .inl (H.k0 b hb)⟩
 . rintro i o hi hr (hk|⟨j,oj,hj,hn,e⟩)
   . exact H.nk i o (hs i o hi) hr hk
   . have:=H.inj i j o oj (hs i o hi) hj hr e;subst this;rw[hi]at hn;cases hn
 . rintro b (hk|⟨j,oj,hj,hn,e⟩)
   . exact H.kb b hk
   . subst e;exact H.lt hj
theorem aU.join (H:aU E h K w) (H1:aU E h1 (Rest E h h0 K) w') (hk:Kept (Rest E h h0 K) w w')
   (hg:∀i o,h2.get i=some o->h1.get i=some o\/(h.get i=some o/\h0.get i=none)) (hd:∀i o,h2.get i=some o->i<h2.next):aU E h2 K w':=by
 refine⟨?_,?_,?_,hd,?_,?_,H.k0⟩
 . intro i o hi;rcases hg i o hi with g|⟨g,n⟩
   . exact H1.obj i o g
   . obtain⟨c,hc,ho⟩:=H.obj i o g;refine⟨c,?_,ho⟩;rw[<-hc];exact hk.block _ (.inr ⟨i,o,g,n,rfl⟩)
 . intro i o hi hr hK;rcases hg i o hi with g|⟨g,n⟩
   . exact H1.nk i o g hr (.inl hK)
   . exact H.nk i o g hr hK
 . intro i j oi oj hi hj hr e;rcases hg i oi hi with g|⟨g,n⟩<;>rcases hg j oj hj with g'|⟨g',n'⟩
   . exact H1.inj i j oi oj g g' hr e
   . exact absurd (.inr ⟨j,oj,g',n',e⟩) (H1.nk i oi g hr)
   . by_cases hrj:oj.ro
     . exact absurd (H.k0 _ (H1.im j oj g' hrj)) (by rw[<-e];exact H.nk i oi g hr)
     . exact absurd (.inr ⟨i,oi,g,n,e.symm⟩) (H1.nk j oj g' hrj)
   . exact H.inj i j oi oj g g' hr e
 . intro b hb;exact H1.kb b (.inl hb)
 . intro i o hi hr;rcases hg i o hi with g|⟨g,n⟩
   . exact H1.im i o g hr
   . exact H.im i o g hr
theorem Kept.part (hk:Kept (Rest E h h0 K) w w'):Kept K w w':=
 ⟨hk.os,hk.tape,hk.output,hk.size,fun b hb=>hk.block b (.inl hb),hk.drawn⟩
end
end
end Go.Am
