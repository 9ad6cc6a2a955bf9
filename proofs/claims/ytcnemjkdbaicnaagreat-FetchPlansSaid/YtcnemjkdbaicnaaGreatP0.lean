/- Part 0: an evaluator, proved sound, and its use at this seat; no condition. -/
import GoSem.Step
import Derived.WalkKit
import Derived.Laws.MakeOwn
import Derived.Laws.Sem
import Derived.Calls
import Derived.Orders
set_option linter.unusedSimpArgs false
set_option linter.unusedVariables false
set_option linter.unusedSectionVars false
set_option linter.deprecated false
abbrev Aa:=@decide_eq_true_eq
abbrev Ab:=@Array.getElem?_eq_some_iff
abbrev Ac:=@Nat.le_refl
abbrev Ad:=@Bool.and_eq_true
abbrev Ae:=@List.getElem?_eq_some_iff
abbrev Af:=@Int.ofNat_eq_natCast
abbrev Ag:=@Nat.eq_of_beq_eq_true
abbrev Ah:=@decide_eq_false_iff_not
abbrev Ai:=@List.getElem?_eq_getElem
abbrev Aj:=@congrArg
abbrev Ak:=@Nat.le_of_ble_eq_true
abbrev Al:=@if_neg
abbrev An:=@if_pos
abbrev Ao:=@Nat.zero_le
abbrev Ap:=@List.mem_cons
abbrev Aq:=@List.take_of_length_le
abbrev Ar:=@Bool.eq_false_iff
abbrev As:=@List.mem_cons_self
abbrev Au:=@Nat.ble_eq
abbrev Av:=@Nat.le_trans
abbrev Aw:=@List.take_succ_eq_append_getElem
abbrev Ax:=@Bool.false_eq_true
abbrev Ay:=@List.eq_nil_of_length_eq_zero
abbrev Az:=@Bool.eq_iff_iff
abbrev AA:=@Nat.zero_add
abbrev AB:=@List.mem_filter
abbrev AE:=@Nat.lt_of_lt_of_le
abbrev AF:=@List.getElem_mem
abbrev AG:=@List.all_eq_true
abbrev AI:=@List.getElem?_map
abbrev AJ:=@List.pairwise_iff_getElem
abbrev AK:=@List.getElem_of_mem
abbrev AL:=@List.mem_map
abbrev AN:=@of_decide_eq_true
abbrev AP:=@List.mem_cons_of_mem
abbrev AQ:=@decide_eq_false
abbrev AR:=@Option.map_eq_some_iff
abbrev AS:=@List.getElem?_append_left
abbrev AU:=@Array.getElem?_eq_getElem
abbrev AW:=@List.length_cons
abbrev AX:=@List.getElem?_toArray
abbrev AY:=@List.length_eq_zero_iff
abbrev AZ:=@List.length_filter_le
abbrev A0:=@List.map_cons
abbrev A1:=@List.getElem?_cons_zero
abbrev A2:=@Bool.not_eq_true'
abbrev A3:=@List.getElem?_take
abbrev A4:=@List.length_pos_iff
abbrev A5:=@Nat.mul_le_mul_right
abbrev A6:=@List.take_length
abbrev A7:=@List.length_nil
abbrev A8:=@Array.getElem?_toList
abbrev A9:=@Nat.not_lt_zero
abbrev Ba:=@List.length_map
abbrev Bb:=@List.size_toArray
abbrev Bc:=@if_false
abbrev Bd:=@List.mem_iff_getElem?
abbrev Be:=@List.filter_sublist
abbrev Bf:=@Option.getD_some
abbrev Bg:=@List.getElem?_cons_succ
abbrev Bh:=@List.getElem?_append_right
abbrev Bi:=@Nat.add_mul
abbrev Bj:=@List.drop_eq_getElem_cons
abbrev Bk:=@cond_false
abbrev Bl:=@List.pairwise_cons
abbrev Bn:=@List.length_append
abbrev Bo:=@List.foldl_cons
abbrev Bp:=@beq_eq_false_iff_ne
abbrev Bq:=@List.nil_append
abbrev Br:=@List.append_nil
abbrev Bt:=@List.length_drop
abbrev Bu:=@List.head?_eq_getElem?
abbrev Bv:=@beq_iff_eq
abbrev Bw:=@List.takeWhile_cons
abbrev Bx:=@List.filter_eq_self
abbrev By:=@Option.some.injEq
abbrev Bz:=@Option.isSome_iff_exists
abbrev BA:=@List.mem_of_getElem?
abbrev BB:=@if_true
abbrev BC:=@Nat.add_zero
abbrev BD:=@Option.map_some
abbrev BE:=@List.map_append
abbrev BF:=@List.getElem?_eq_none
abbrev BG:=@List.not_mem_nil
abbrev BH:=@List.cons_append
abbrev BJ:=@getElem!_pos
abbrev BL:=@Bool.true_and
abbrev BM:=@Array.replicate_zero
abbrev BN:=@Array.replicate_succ
abbrev BO:=@List.ext_getElem?
abbrev BP:=@List.append_assoc
abbrev BQ:=@List.map_congr_left
abbrev BR:=@List.append_toArray
abbrev BS:=@Array.getD_eq_getD_getElem?
abbrev BT:=@List.length_take
abbrev BU:=@decide_eq_true
abbrev BV:=@List.take_append_drop
abbrev BW:=@Option.map_none
abbrev BX:=@Bool.or_eq_true
abbrev BZ:=@List.push_toArray
abbrev B0:=@List.getElem_drop
abbrev B5:=@Function.comp_def
abbrev B6:=@Nat.blt_eq
abbrev B7:=@List.filter_cons
abbrev B8:=@Array.ext_getElem?
abbrev B9:=@cond_true
abbrev Da:=@Int.toNat_natCast
abbrev Db:=@List.nodup_iff_pairwise_ne
abbrev Dc:=@Nat.beq_refl
abbrev Dd:=@List.dropWhile_cons
abbrev De:=@Nat.add_assoc
abbrev Df:=@Option.some.inj
abbrev Dg:=@List.cons.injEq
abbrev Dh:=@List.getElem?_drop
abbrev Di:=@List.pairwise_map
abbrev Dj:=@Bool.false_and
abbrev Dk:=@List.takeWhile_prefix
abbrev Dl:=@Bool.not_true
abbrev Dm:=@or_false
abbrev Dn:=@Nat.one_mul
abbrev Dp:=@List.pairwise_append
abbrev Dq:=@List.getElem?_modify
abbrev Dr:=@List.nodup_cons
abbrev Ds:=@List.mem_append
abbrev Dt:=@List.getElem?_range
abbrev Du:=@Array.toList_modify
abbrev Dv:=@List.map_map
abbrev Dw:=@List.filter_append
abbrev Dx:=@List.exists_cons_of_ne_nil
abbrev Dy:=@List.Sublist.nodup
abbrev Dz:=@List.getLast?_eq_getElem?
abbrev DA:=@List.getElem?_eq_none_iff
abbrev DB:=@Option.bind_some
abbrev DC:=@Option.bind_eq_some_iff
abbrev DD:=@Nat.le_of_not_lt
abbrev DE:=@List.suffix_iff_eq_drop
abbrev DG:=@Array.size_push
abbrev DH:=@Nat.ble_eq_true_of_le
abbrev DI:=@List.singleton_append
abbrev DJ:=@List.mem_append_right
abbrev DK:=@and_true
abbrev DM:=@List.take_zero
abbrev DN:=@Bool.not_false
abbrev DO:=@Bool.and_false
abbrev DP:=@Prod.mk.injEq
abbrev DQ:=@Nat.lt_irrefl
abbrev DR:=@Bool.false_or
abbrev DT:=@Option.isSome_none
abbrev DU:=@Nat.add_sub_cancel
abbrev DV:=@List.ne_nil_of_mem
abbrev DW:=@List.mem_singleton
abbrev DX:=@List.find?_eq_none
abbrev DY:=@Bool.not_eq_false'
abbrev DZ:=@List.findIdx?_eq_some_iff_getElem
abbrev D2:=@not_true_eq_false
abbrev D3:=@List.map_nil
abbrev D4:=@List.getElem_take
abbrev D5:=@List.getElem?_set
abbrev D6:=@Bool.true_or
abbrev D7:=@List.takeWhile_append_dropWhile
abbrev D8:=@List.eraseIdx_eq_take_drop_succ
abbrev D9:=@beq_self_eq_true
abbrev Ea:=@List.find?_eq_some_iff_getElem
abbrev Eb:=@Bool.not_eq_true
abbrev Ec:=@ne_eq
abbrev Ed:=@Nat.le_succ
abbrev Ee:=@List.take_append_of_le_length
abbrev Ef:=@List.countP_eq_length_filter
abbrev Eg:=@Array.getElem?_setIfInBounds
abbrev Eh:=@Nat.le_of_mul_le_mul_right
abbrev Ei:=@List.take_succ
abbrev Ej:=@List.isSuffixOf_iff_suffix
abbrev Ek:=@List.drop_drop
abbrev El:=@List.Perm.refl
abbrev Em:=@Array.toList_setIfInBounds
abbrev En:=@Option.isSome_iff_ne_none
abbrev Eo:=@List.mem_of_find?_eq_some
abbrev Ep:=@List.exists_mem_of_ne_nil
abbrev Er:=@Classical.byContradiction
abbrev Es:=@List.map_take
abbrev Et:=@Bool.or_false
abbrev Eu:=@Bool.and_true
abbrev Ew:=@Array.getElem?_replicate
abbrev Ex:=@Classical.axiomOfChoice
abbrev Ey:=@List.reverse_singleton
abbrev Ez:=@List.filter_eq_nil_iff
abbrev EA:=@List.drop_eq_nil_of_le
abbrev EB:=@Array.getElem?_eq_none
abbrev EC:=@List.concat_eq_append
abbrev ED:=@List.Perm.append_left
abbrev EE:=@List.Pairwise.sublist
abbrev EG:=@List.mem_of_mem_take
abbrev EH:=@List.mem_append_left
abbrev EI:=@List.map_id
abbrev EJ:=@List.length_dropLast
abbrev EK:=@Int.le_refl
abbrev EL:=@Array.getElem_toList
abbrev EM:=@Nat.pred_eq_sub_one
abbrev EN:=@Array.toList_filter
namespace Go.Am
inductive R (α:Type) where
 |ok (a:α)
 |no (why:String)
namespace R
def bind {α β:Type}:R α->(α->R β)->R β
 | .ok a,f=>f a
 | .no w,_=> .no w
instance:Monad R where
 pure:=R.ok
 bind:=R.bind
def of {α:Type} (why:String):Option α->R α
 |some a=> .ok a
 |none=> .no why
def check (why:String):Bool->R Unit
 |true=> .ok ()
 |false=> .no why
end R
inductive T (α:Type) where
 |e
 |n (v:Option α) (l r:T α)
namespace T
def get {α:Type}:T α->Nat->Option α
 | .e,_=>none
 | .n v l r,k=>bif Nat.beq k 0 then v else bif Nat.beq (Nat.mod k 2) 1 then l.get (Nat.div k 2)else r.get (Nat.pred (Nat.div k 2))
def cH {α:Type}:Nat->T α->Nat->Option α->T α
 |0,t,_,_=>t
 |f+1, .e,k,x=>
  bif Nat.beq k 0 then .n x .e .e else bif Nat.beq (Nat.mod k 2) 1 then .n none (cH f .e (Nat.div k 2) x) .e else .n none .e (cH f .e (Nat.pred (Nat.div k 2)) x)
 |f+1, .n v l r,k,x=>
  bif Nat.beq k 0 then .n x l r else bif Nat.beq (Nat.mod k 2) 1 then .n v (cH f l (Nat.div k 2) x) r else .n v l (cH f r (Nat.pred (Nat.div k 2)) x)
def set {α:Type} (t:T α) (k:Nat) (x:Option α):T α:=cH (k+1) t k x
def gP {α:Type}:List α->Nat->T α->T α
 |[],_,t=>t
 |x::l,k,t=>gP l (k+1) (t.set k (some x))
def ofList {α:Type} (l:List α):T α:=gP l 0 .e
end T
inductive gV where
 |lit (n:Nat)
 |tail (k:Nat)
deriving DecidableEq
inductive AV where
 |bool (b:Bool)
 |int (k:IntKind) (n:Int)
 |str (s:List UInt8)
 |bq
 |ptr (b off:Nat)
 |nils
 |sl (b off len:Nat) (cap:gV)
 |emp (b off l n k:Nat)
 |bP
 |map (b:Nat)
 |bR
 |fn (f:Fn) (first captured:List AV)
 |mP (l:Nat)
 |ij
 |iface (t:TypeId) (v:AV)
 |agg (cs:List AV)
 |bO (vs:List AV)
 |raw (v:Value)
inductive BK where
 |rw|mark|any|ro|cold
deriving DecidableEq
def BK.grown:BK->BK
 | .rw=> .rw
 |_=> .any
inductive AT where
 |fn (f:Fn) (captured:List AV)
 |mP (l:Nat)
 |collected (r:Nat)
structure AD where
 target:AT
 args:List AV
inductive AO where
 |cells (cs:List AV) (elem:TypeId) (sz:Nat) (ext:Bool) (bk:BK)
 |mp (es:List (AV×AV×Nat)) (clock:Nat)
 |uY (m:Option Nat) (since:Nat) (seen:List Nat) (stepped:Nat)
 |wY (s:List UInt8) (pos:Nat)
 |loop (st:LoopState) (pending:Option Code) (fn:FuncId) (tmps:T AV) (nt:Nat) (params:Array Tmp) (assign body:Code) (defers:Nat)
 |qR (calls:Option (List AD))
structure AH where
 t:T AO
 next:Nat
namespace AH
def get (h:AH) (b:Nat):Option AO:=h.t.get b
def set (h:AH) (b:Nat) (o:AO):AH:={h with t:=h.t.set b (some o)}
def new (h:AH) (o:AO):AH:={t:=h.t.set h.next (some o),next:=h.next+1}
def kill (h:AH) (b:Nat):AH:={h with t:=h.t.set b none}
end AH
inductive bU where
 |code (c:Code)
 |inBlock (id:Nat)
 |inLoop (body:Code)
 |inScope (body:Code)
 |inRegion (ops:Array Oper) (l:List Nat)
 |fe (l:Nat)
 |endRange (l:Nat)
 |beginRound
structure xg where
 v:AV
 recovered:Bool
inductive qe where
 |run
 |returning
 |panicking (chain:List xg)
structure ak where
 fn:FuncId
 nt:Nat
 tmps:T AV
 todo:List bU
 defers:List AD
 mode:qe
 kind:CallKind
 round:Option Nat
structure AM where
 fr:ak
 cs:List ak
 h:AH
structure bC where
 und:T TypeDesc
 siz:T Nat
 byt:T Nat
 mg:T AV
 agg:T Bool
 cmp:T Bool
 held:T Bool
 lX:T Bool
 fns:T Func
 ext:T Nat
 merge:FuncId->Bool
def qu:Value->AV
 | .bool b=> .bool b
 | .int k n=> .int k n
 | .string s=> .str s.data.toList
 | .pointer none=> .bq
 | .slice none 0 0=> .nils
 | .map none=> .bP
 | .nilFunc=> .bR
 | .nilIface=> .ij
 |v=> .raw v
def ofConst:Value->AV
 | .agg cs=> .agg (cs.toList.map qu)
 | .tuple vs=> .bO (vs.toList.map qu)
 |v=>qu v
def ev (ts:T AV):Operand->R AV
 | .tmp t=> .ok ((ts.get t).getD (.bO []))
 | .const v=> .ok (ofConst v)
 | .func f=> .ok (.fn (.func f) [] [])
 | .global _=> .no "global"
def kF (ts:T AV):List Operand->R (List AV)
 |[]=> .ok []
 |x::l=>do
  let v<-ev ts x
  let vs<-kF ts l
  .ok (v::vs)
def AV.cells:AV->R (List AV)
 | .agg cs=> .ok cs
 | .raw (.agg _)=> .no "cells of a raw value"
 | .raw (.tuple _)=> .no "cells of a raw value"
 | .raw v=> .ok [.raw v]
 |v=> .ok [v]
mutual
def AV.beq:AV->AV->Bool
 | .bool a, .bool b=>a==b
 | .int k a, .int j b=>k==j&&a==b
 | .str a, .str b=>a==b
 | .bq, .bq=>true
 | .ptr a i, .ptr b j=>Nat.beq a b&&Nat.beq i j
 | .nils, .nils=>true
 | .sl a i n c, .sl b j m d=>Nat.beq a b&&Nat.beq i j&&Nat.beq n m&&c==d
 | .emp a i n c e, .emp b j m d f=>Nat.beq a b&&Nat.beq i j&&Nat.beq n m&&Nat.beq c d&&Nat.beq e f
 | .bP, .bP=>true
 | .map a, .map b=>Nat.beq a b
 | .bR, .bR=>true
 | .fn f a b, .fn g c d=>f==g&&iE a c&&iE b d
 | .mP a, .mP b=>Nat.beq a b
 | .ij, .ij=>true
 | .iface t v, .iface u w=>Nat.beq t u&&AV.beq v w
 | .agg a, .agg b=>iE a b
 | .bO a, .bO b=>iE a b
 | .raw (.slice a n c), .raw (.slice b m d)=>decide (a=b)&&Nat.beq n m&&Nat.beq c d
 | .raw (.pointer (some a)), .raw (.pointer (some b))=>decide (a=b)
 |_,_=>false
def iE:List AV->List AV->Bool
 |[],[]=>true
 |a::l,b::m=>AV.beq a b&&iE l m
 |_,_=>false
end
section
variable (tab:bC)
def und (t:TypeId):R TypeDesc:=R.of "und" (tab.und.get t)
def siz (t:TypeId):R Nat:=R.of "siz" (tab.siz.get t)
def zero (t:TypeId):R AV:=R.of "zero" (tab.mg.get t)
def isAgg (t:TypeId):R Bool:=R.of "isAgg" (tab.agg.get t)
def part (t:TypeId) (cs:List AV) (off:Nat):R AV:=do
 if<-isAgg tab t then
  let n<-siz tab t
  .ok (.agg ((cs.drop off).take n))
 else R.of "part" cs[off]?
def lK (h:AH) (b:Nat):R (List AV×TypeId×Nat×Bool×BK):=
 match h.get b with
 |some (.cells cs e sz ext bk)=> .ok (cs,e,sz,ext,bk)
 |_=> .no "cells"
def readN (h:AH) (b off n:Nat):R (List AV):=do
 let (cs,_)<-lK h b
 R.check "readN" (Nat.ble (off+n) cs.length)
 .ok ((cs.drop off).take n)
def oA (cs:List AV) (off:Nat) (vs:List AV):List AV:=cs.take off++(vs++cs.drop (off+vs.length))
def mE:AV->Bool
 | .raw (.slice _ _ _)=>true
 | .raw (.int _ _)=>true
 | .raw (.string _)=>true
 | .raw (.bool _)=>true
 | .raw (.pointer (some _))=>true
 | .agg _| .bO _| .raw _=>false
 |_=>true
def writeN (h:AH) (b off:Nat) (vs:List AV):R AH:=
 match vs with
 |[]=> .ok h
 |_=>do
  let (cs,e,sz,ext,bk)<-lK h b
  R.check "writeN: ro" (bk != .ro&&bk != .cold)
  R.check "writeN: range" (Nat.ble (off+vs.length) cs.length)
  R.check "writeN: cell" (vs.all mE)
  .ok (h.set b (.cells (oA cs off vs) e sz ext bk))
def loadVar (h:AH) (t:TypeId) (b off:Nat):R AV:=do
 if<-isAgg tab t then
  let n<-siz tab t
  let cs<-readN h b off n
  .ok (.agg cs)
 else
  let (cs,_)<-lK h b
  R.of "load" cs[off]?
def storeVar (h:AH) (t:TypeId) (b off:Nat) (v:AV):R AH:=do
 let n<-siz tab t
 let l<-v.cells
 R.check "store: size" (Nat.beq l.length n)
 writeN h b off l
def newRow (h:AH) (elem:TypeId) (cs:List AV) (ext:Bool:=false) (bk:BK:= .rw):R (AH×Nat):=do
 let n<-siz tab elem
 .ok (h.new (.cells cs elem n ext bk),h.next)
def asInt:AV->R (IntKind×Int)
 | .int k n=> .ok (k,n)
 |_=> .no "asInt"
def asNat (v:AV):R Nat:=do
 let (_,n)<-asInt v
 match n with
 | .ofNat k=> .ok k
 | .negSucc _=> .no "asNat"
def goInt (n:Nat):AV:= .int .i64 (.ofNat n)
def intOp (op:BinOp) (k:IntKind) (x y:Int):R AV:=
 match op with
 | .add=> .ok (.int k (k.wrap (x+y)))
 | .sub=> .ok (.int k (k.wrap (x - y)))
 | .mul=> .ok (.int k (k.wrap (x*y)))
 | .quo=>if y=0 then .no "div" else .ok (.int k (k.wrap (x.tdiv y)))
 | .rem=>if y=0 then .no "div" else .ok (.int k (x.tmod y))
 | .and=> .ok (.int k (k.wrap (BitVec.ofInt k.bits x&&&BitVec.ofInt k.bits y).toNat))
 | .or=> .ok (.int k (k.wrap (BitVec.ofInt k.bits x|||BitVec.ofInt k.bits y).toNat))
 | .xor=> .ok (.int k (k.wrap (BitVec.ofInt k.bits x ^^^ BitVec.ofInt k.bits y).toNat))
 | .andNot=> .ok (.int k (k.wrap (BitVec.ofInt k.bits x&&& ~~~ BitVec.ofInt k.bits y).toNat))
 | .eql=> .ok (.bool (x==y))
 | .neq=> .ok (.bool (x !=y))
 | .lss=> .ok (.bool (decide (x<y)))
 | .leq=> .ok (.bool (decide (x<=y)))
 | .gtr=> .ok (.bool (decide (x>y)))
 | .geq=> .ok (.bool (decide (x>=y)))
 |_=> .no "intOp"
def shiftOp (op:BinOp) (k:IntKind) (x y:Int):R AV:=
 if y<0 then .no "shift" else
 match op with
 | .shl=> .ok (.int k (k.wrap (x*2 ^ (min y.toNat k.bits))))
 | .shr=> .ok (.int k (x.fdiv (2 ^ (min y.toNat k.bits))))
 |_=> .no "shiftOp"
def strOp (op:BinOp) (x y:List UInt8):R AV:=
 match op with
 | .add=>if x.length+y.length<=1048576 then .ok (.str (x++y))else .no "string too long"
 | .eql=> .ok (.bool (x==y))
 | .neq=> .ok (.bool (!(x==y)))
 | .lss=> .ok (.bool (Op.bytesLess x y))
 | .leq=> .ok (.bool (Op.bytesLess x y||x==y))
 | .gtr=> .ok (.bool (!(Op.bytesLess x y||x==y)))
 | .geq=> .ok (.bool (!Op.bytesLess x y))
 |_=> .no "strOp"
def eqFields (eq:TypeId->AV->AV->R Bool) (xs ys:List AV):List Field->R Bool
 |[]=> .ok true
 | f::fs=>
  if f.name≠ "_" then do
   let a<-part tab f.type xs f.offset
   let b<-part tab f.type ys f.offset
   if<-eq f.type a b then eqFields eq xs ys fs else .ok false
  else eqFields eq xs ys fs
def eqT:Nat->TypeId->AV->AV->R Bool
 |0,_,_,_=> .no "eqT"
 | d+1,t,x,y=>do
  match<-und tab t,x,y with
  | .bool, .bool a, .bool b=> .ok (a==b)
  | .int _, .int k a, .int j b=>if k=j then .ok (a==b)else .no "eqT kinds"
  | .string, .str a, .str b=> .ok (a==b)
  | .pointer _, .bq, .bq=> .ok true
  | .pointer _, .bq, .ptr _ _=> .ok false
  | .pointer _, .ptr _ _, .bq=> .ok false
  | .pointer _, .raw (.pointer (some _)), .bq=> .ok false
  | .pointer _, .bq, .raw (.pointer (some _))=> .ok false
  | .slice _, .nils, .nils=> .ok true
  | .slice _, .nils, .sl .. => .ok false
  | .slice _, .sl .., .nils=> .ok false
  | .slice _, .nils, .emp .. => .ok false
  | .slice _, .emp .., .nils=> .ok false
  | .map _ _, .bP, .bP=> .ok true
  | .map _ _, .bP, .map _=> .ok false
  | .map _ _, .map _, .bP=> .ok false
  | .func _ _ _, .bR, .bR=> .ok true
  | .func _ _ _, .bR, .fn .. => .ok false
  | .func _ _ _, .fn .., .bR=> .ok false
  | .interface _, .ij, .iface _ _=> .ok false
  | .interface _, .iface _ _, .ij=> .ok false
  | .struct fs, .agg xs, .agg ys=>do
   match tab.held.get t with
   |some false=>eqFields tab (eqT d) xs ys fs.toList
   |_=> .no "eqT held"
  |_,_,_=> .no "eqT"
def eqOp (h:AH) (t:TypeId) (x y:AV):R Bool:=do
 match x,y with
 | .ptr a i, .ptr b j=>
  match<-und tab t with
  | .pointer e=>do
   let n<-siz tab e
   R.check "eqOp: size 0" (!(Nat.beq n 0))
   if Nat.beq a b then .ok (Nat.beq i j)else
    match h.get a,h.get b with
    |some (.cells _ _ _ _ .rw),some (.cells _ _ _ _ .rw)=> .ok false
    |_,_=> .no "eqOp: blocks"
  |_=> .no "eqOp"
 | .agg _, .agg _=>
  match tab.lX.get t with
  |some false=>eqT tab 8 t x y
  |_=> .no "eqOp: guard"
 | .ij, .ij=> .no "eqOp: nil, nil"
 |_,_=>eqT tab 8 t x y
def binOp (h:AH) (op:BinOp) (t:TypeId) (x y:AV):R AV:=
 match op,x,y with
 | .shl, .int k a, .int _ b=>shiftOp .shl k a b
 | .shr, .int k a, .int _ b=>shiftOp .shr k a b
 |_, .int k a, .int j b=>if k=j then intOp op k a b else .no "binOp kinds"
 |_, .str a, .str b=>strOp op a b
 | .eql,x,y=>do .ok (.bool (<-eqOp tab h t x y))
 | .neq,x,y=>do .ok (.bool (!(<-eqOp tab h t x y)))
 |_,_,_=> .no "binOp"
def unOp (op:UnOp) (x:AV):R AV:=
 match op,x with
 | .neg, .int k n=> .ok (.int k (k.wrap (0 - n)))
 | .xor, .int k n=> .ok (.int k (k.wrap (BitVec.ofInt k.bits (if k.signed then -1 else k.max) ^^^ BitVec.ofInt k.bits n).toNat))
 | .not, .bool b=> .ok (.bool (!b))
 |_,_=> .no "unOp"
def bytesOf:List AV->R (List UInt8)
 |[]=> .ok []
 | .int .u8 (.ofNat n)::l=>do
  let r<-bytesOf l
  .ok (UInt8.ofNat n::r)
 |_=> .no "bytesOf"
def ofBytes (s:List UInt8):List AV:=s.map fun b=> .int .u8 (.ofNat b.toNat)
def convert (h:AH) (src dst:TypeId) (x:AV):R (AV×AH):=do
 match<-und tab src,<-und tab dst,x with
 |_, .int k, .int _ n=> .ok (.int k (k.wrap n),h)
 |_, .string, .str s=> .ok (.str s,h)
 | _, .slice e, .str s=>do
  match<-und tab e with
  | .int .u8=>do
   let n<-siz tab e
   R.check "convert: size" (Nat.beq n 1)
   let (h',b)<-newRow tab h e (ofBytes s) true .mark
   .ok (.sl b 0 s.length (.tail 0),h')
  |_=> .no "convert to a slice"
 | .slice e, .string,x=>do
  match<-und tab e,x with
  | .int .u8, .nils=> .ok (.str [],h)
  | .int .u8, .sl b off n _=>do
   let s<-bytesOf (<-readN h b off n)
   .ok (.str s,h)
  | .int .u8, .emp .. => .ok (.str [],h)
  | .int .u8, .raw (.slice _ 0 _)=> .ok (.str [],h)
  |_,_=> .no "convert of a slice"
 | .slice _, .slice e, .sl b off n c=>do
  match Nat.beq src dst,<-und tab e with
  |true, .int .u8=>do
   let (cs,e',sz,ext,bk)<-lK h b
   R.check "convert: ro" (bk != .ro&&bk != .cold)
   .ok (.sl b off n c,h.set b (.cells cs e' sz ext .mark))
  |_,_=> .no "convert slices"
 |_,_,_=> .no "convert"
def convertTo (h:AH) (t:TypeId) (x:AV):R (AV×AH):=(fun(_:bC)=> .no "convertTo") tab
def convertFrom (h:AH) (u:TypeId) (x:AV):R (AV×AH):=(fun(_:bC)=> .no "convertFrom") tab
def pb (h:AH) (src dst:TypeId) (x:AV):R (AV×AH):=do
 match<-und tab dst with
 | .unsafePointer=>do
  match<-und tab src with
  | .pointer t=>convertTo tab h t x
  |_=> .no "convert to unsafe.Pointer"
 | .pointer u=>do
  match<-und tab src with
  | .unsafePointer=>convertFrom tab h u x
  |_=> .no "convert to a pointer"
 |_=>convert tab h src dst x
def fill (cs:List AV):List (Nat×Nat×AV)->R (List AV)
 |[]=> .ok cs
 |(off,n,v)::rest=>do
  let l<-v.cells
  R.check "fill" (Nat.beq l.length n&&Nat.ble (off+n) cs.length)
  fill (oA cs off l) rest
def sP (fs:Array Field):List (Nat×AV)->R (List (Nat×Nat×AV))
 |[]=> .ok []
 |(i,v)::rest=>do
  let f<-R.of "field" fs[i]?
  let n<-siz tab f.type
  let r<-sP fs rest
  .ok ((f.offset,n,v)::r)
def build (t:TypeId) (parts:List (Nat×AV)):R AV:=do
 let z<-zero tab t
 let zc<-z.cells
 match<-und tab t with
 | .struct fs=>do
  R.check "build: sizes" (fs.toList.all fun f=>(tab.siz.get f.type).isSome)
  let ps<-sP tab fs parts
  let cs<-fill zc ps
  .ok (.agg cs)
 | .array _ e=>do
  let n<-siz tab e
  let cs<-fill zc (parts.map fun(i,v)=>(i*n,n,v))
  .ok (.agg cs)
 |_=> .no "build"
def rep (n:Nat) (l:List AV):List AV:=
 match n with
 |0=>[]
 |n+1=>l++rep n l
def buildSlice (h:AH) (t:TypeId) (len:Nat) (parts:List (Nat×AV)):R (AV×AH):=do
 match<-und tab t with
 | .slice e=>do
  let n<-siz tab e
  R.check "buildSlice" (Nat.ble (len*n) 16777216)
  let z<-zero tab e
  let zc<-z.cells
  R.check "buildSlice: zero" (Nat.beq zc.length n)
  let cs<-fill (rep len zc) (parts.map fun(i,v)=>(i*n,n,v))
  let (h',b)<-newRow tab h e cs
  .ok (.sl b 0 len (.lit len),h')
 |_=> .no "buildSlice"
def mD (ts:T AV):List (Nat×Operand)->R (List (Nat×AV))
 |[]=> .ok []
 |(i,x)::l=>do
  let v<-ev ts x
  let r<-mD ts l
  .ok ((i,v)::r)
def makeSlice (h:AH) (t:TypeId) (len cap:AV):R (AV×AH):=(fun(_:bC)=> .no "makeSlice") tab
def capLow (h:AH) (b:Nat):gV->R Nat
 | .lit n=> .ok n
 | .tail k=>do
  let (cs,_,sz,ext,_)<-lK h b
  R.check "capLow" (ext&& !(Nat.beq sz 0))
  .ok (Nat.div cs.length sz - k)
def gh (ts:T AV) (d:R Nat):Option Operand->R Nat
 |none=>d
 |some x=>do asNat (<-ev ts x)
def ke (ts:T AV) (h:AH) (t:TypeId) (x:AV) (lo hi mx:Option Operand):R (AV×AH):=do
 match<-und tab t,x with
 | .string, .str s=>do
  R.check "slice: max" mx.isNone
  let l<-gh ts (.ok 0) lo
  let u<-gh ts (.ok s.length) hi
  R.check "slice: bounds" (Nat.ble l u&&Nat.ble u s.length)
  .ok (.str ((s.drop l).take (u - l)),h)
 | .slice e, .nils=>do
  let _<-siz tab e
  let l<-gh ts (.ok 0) lo
  let u<-gh ts (.ok 0) hi
  let m<-gh ts (.ok 0) mx
  R.check "slice: nil" (Nat.beq l 0&&Nat.beq u 0&&Nat.beq m 0&&(mx.isNone||hi.isSome))
  .ok (.nils,h)
 | .slice e, .sl b off len cap=>do
  let c<-capLow h b cap
  let n<-siz tab e
  let l<-gh ts (.ok 0) lo
  let u<-gh ts (.ok len) hi
  match mx with
  |some _=>do
   let m<-gh ts (.ok 0) mx
   R.check "slice: bounds" (Nat.ble l u&&Nat.ble u m&&Nat.ble m c&&hi.isSome)
   .ok (.sl b (bif Nat.beq m l then off else off+l*n) (u - l) (.lit (m - l)),h)
  | none=>
   match cap with
   | .lit m=>do
    R.check "slice: bounds" (Nat.ble l u&&Nat.ble u m)
    .ok (.sl b (bif Nat.beq m l then off else off+l*n) (u - l) (.lit (m - l)),h)
   | .tail k=>do
    R.check "slice: bounds" (Nat.ble l u&&Nat.ble u c)
    bif Nat.beq l 0 then .ok (.sl b off u (.tail k),h)
    else bif Nat.blt l c then .ok (.sl b (off+l*n) (u - l) (.tail (k+l)),h)
    else .ok (.emp b off l n k,h)
 | .slice e, .raw (.slice a 0 c)=>do
  let _<-siz tab e
  let l<-gh ts (.ok 0) lo
  let u<-gh ts (.ok 0) hi
  R.check "slice: raw" (Nat.beq l 0&&Nat.beq u 0&&mx.isNone)
  .ok (.raw (.slice a 0 c),h)
 | .slice e, .emp b off l0 n0 k=>do
  let _<-siz tab e
  let l<-gh ts (.ok 0) lo
  let u<-gh ts (.ok 0) hi
  R.check "slice: emp" (Nat.beq l 0&&Nat.beq u 0&&mx.isNone)
  .ok (.emp b off l0 n0 k,h)
 |_,_=> .no "slice"
def np (e:TypeId) (n:Nat):R Unit:=do
 let z<-zero tab e
 let zc<-z.cells
 R.check "append: zero" (Nat.beq zc.length n)
def bW (h:AH) (e:TypeId) (n by_:Nat) (x:AV) (m:Nat) (news:List AV):R (AV×AH):=do
 match x with
 | .nils=>
  bif Nat.beq m 0 then .ok (.nils,h)
  else do
   R.check "append: size" (Nat.ble (m*by_) 16777216&&Nat.ble m 16777216)
   np tab e n
   let (h',b)<-newRow tab h e news true
   .ok (.sl b 0 m (.tail 0),h')
 | .sl b off len cap=>do
  let c<-capLow h b cap
  let (cs,e',sz,ext,bk)<-lK h b
  R.check "append: type" (Nat.beq e e'&&Nat.beq sz n)
  let need:=len+m
  R.check "append: size" (Nat.ble (need*by_) 16777216&&Nat.ble need 16777216)
  bif Nat.ble need c then do
   let h'<-writeN h b (off+len*n) news
   .ok (.sl b off need cap,h')
  else
   R.check "append: old" (Nat.ble (off+len*n) cs.length)>>=fun _=>
   np tab e n>>=fun _=>
   match cap with
   | .lit _=>do
    let (h',b')<-newRow tab h e ((cs.drop off).take (len*n)++news) true
    .ok (.sl b' 0 need (.tail 0),h')
   | .tail k=>do
    R.check "append: tail" (Nat.beq k 0&&Nat.beq off 0&&ext&&bk != .ro&&bk != .cold&&news.all mE)
    let (h',b')<-newRow tab (h.kill b) e (cs.take (len*n)++news) true bk.grown
    .ok (.sl b' 0 need (.tail 0),h')
 |_=> .no "append"
def source (h:AH) (n:Nat):AV->R (Nat×List AV)
 | .nils=> .ok (0,[])
 | .emp .. => .ok (0,[])
 | .sl b off len _=>do
  let cs<-readN h b off (len*n)
  .ok (len,cs)
 | .str s=>do
  R.check "source: size" (Nat.beq n 1)
  .ok (s.length,ofBytes s)
 | .raw (.slice _ 0 _)=> .ok (0,[])
 |_=> .no "source"
def findKey (t:TypeId) (k:AV):List (AV×AV×Nat)->Nat->R (Option (Nat×AV×AV×Nat))
 |[],_=> .ok none
 |(a,v,n)::es,i=>do
  if<-eqT tab 8 t k a then .ok (some (i,a,v,n))else findKey t k es (i+1)
def wP (h:AH) (b:Nat):R (List (AV×AV×Nat)×Nat):=
 match h.get b with
 |some (.mp es c)=> .ok (es,c)
 |_=> .no "map"
def lookup (h:AH) (t:TypeId) (m k:AV) (ok:Bool):R AV:=(fun(_:bC)=> .no "lookup") tab
def mapUpdate (h:AH) (t:TypeId) (m k x:AV):R AH:=(fun(_:bC)=> .no "mapUpdate") tab
def mapEntry (h:AH) (t:TypeId) (m k:AV):R (AV×AH):=(fun(_:bC)=> .no "mapEntry") tab
def entryStore (h:AH) (m s x:AV):R AH:= .no "entryStore"
def delete (h:AH) (t:TypeId) (m k:AV):R AH:=(fun(_:bC)=> .no "delete") tab
def rangeOp (h:AH) (t:TypeId) (x:AV):R (AV×AH):=(fun(_:bC)=> .no "rangeOp") tab
def nextOp (h:AH) (it:AV) (isString:Bool):R (List (AV×AH)):= .no "nextOp"
def entryOp (h:AH) (it:AV):R AV:= .no "entryOp"
def vV (t:TypeId) (f:Nat):R Field:=do
 match<-und tab t with
 | .struct fs=>R.of "field" fs[f]?
 |_=> .no "struct"
def tH (k:IntKind):Int->List AV->R AV
 |x,[]=> .ok (.int k x)
 |x, .int _ y::l=>tH k (if y<x then y else x) l
 |_,_=> .no "min"
def tG (k:IntKind):Int->List AV->R AV
 |x,[]=> .ok (.int k x)
 |x, .int _ y::l=>tG k (if y>x then y else x) l
 |_,_=> .no "max"
def lenOf (h:AH):TypeDesc->AV->R Nat
 | .string, .str s=> .ok s.length
 | .slice _, .nils=> .ok 0
 | .slice _, .emp .. => .ok 0
 | .slice _, .sl _ _ n _=> .ok n
 | .slice _, .raw (.slice _ n _)=> .ok n
 | .map _ _, .bP=> .ok 0
 | .map _ _, .map b=>do
  let (es,_)<-wP h b
  .ok es.length
 | .array n _,_=> .ok n
 |_,_=> .no "len"
def Lw (h:AH) (e:TypeId) (x y:AV):R (AV×AH):=do
 let n<-siz tab e
 let by_<-R.of "byt" (tab.byt.get e)
 R.check "append: cells" (!(Nat.beq n 0))
 let m<-asNat y
 R.check "append of make: size" (Nat.ble m 1048576&&Nat.ble (m*by_) 16777216)
 let z<-zero tab e
 let zc<-z.cells
 R.check "append of make: zero" (Nat.beq zc.length n)
 bW tab h e n by_ x m (rep m zc)
def sliceData (h:AH) (x:AV):R (AV×AH):= .no "sliceData"
def unsafeString (h:AH) (t:TypeId) (x y:AV):R (AV×AH):=(fun(_:bC)=> .no "unsafeString") tab
def builtin (b:Builtin) (argTypes:Array TypeId) (args:List AV) (h:AH):R (AV×AH):=do
 match b,args with
 | .len,[x]=>do
  let t<-R.of "len" argTypes[0]?
  let u<-und tab t
  match u with
  | .pointer e=>do
   match<-und tab e with
   | .array n _=> .ok (goInt n,h)
   |_=> .no "len"
  |u=>do
   let n<-lenOf h u x
   .ok (goInt n,h)
 | .cap,[x]=>do
  let t<-R.of "cap" argTypes[0]?
  match<-und tab t,x with
  | .slice _, .nils=> .ok (goInt 0,h)
  | .slice _, .sl _ _ _ (.lit n)=> .ok (goInt n,h)
  |_,_=> .no "cap"
 | .append,[x,y]=>do
  let t<-R.of "append" argTypes[0]?
  let u<-R.of "append" argTypes[1]?
  match<-und tab u with
  | .int _=>do
   match<-und tab t with
   | .slice e=>Lw tab h e x y
   |_=> .no "append"
  | _=>do
   match<-und tab t with
   | .slice e=>do
    let n<-siz tab e
    let by_<-R.of "byt" (tab.byt.get e)
    R.check "append: cells" (!(Nat.beq n 0))
    let (m,news)<-source h n y
    bW tab h e n by_ x m news
   |_=> .no "append"
 | .copy,[x,y]=>do
  let t<-R.of "copy" argTypes[0]?
  match<-und tab t with
  | .slice e=>do
   let n<-siz tab e
   let (m,cs)<-source h n y
   match x with
   | .nils=> .ok (goInt 0,h)
   | .emp .. => .ok (goInt 0,h)
   | .sl b off len _=>do
    let k:=Nat.min m len
    let h'<-writeN h b off (cs.take (k*n))
    .ok (goInt k,h')
   |_=> .no "copy"
  |_=> .no "copy"
 | .clear,[x]=>do
  let t<-R.of "clear" argTypes[0]?
  match<-und tab t,x with
  |_, .bP=> .ok (.bO [],h)
  |_, .nils=> .ok (.bO [],h)
  |_, .emp .. => .ok (.bO [],h)
  |_, .map b=>do
   let (_,c)<-wP h b
   .ok (.bO [],h.set b (.mp [] c))
  | .slice e, .sl b off len _=>do
   let z<-zero tab e
   let zc<-z.cells
   let h'<-writeN h b off (rep len zc)
   .ok (.bO [],h')
  |_,_=> .no "clear"
 | .delete,[m,k]=>do
  let t<-R.of "delete" argTypes[0]?
  let h'<-delete tab h t m k
  .ok (.bO [],h')
 | .unsafeSliceData,[x]=>sliceData h x
 | .unsafeString,[x,y]=>do
  let t<-R.of "unsafe.String" argTypes[0]?
  unsafeString tab h t x y
 | .min, .int k x::l=>do
  let v<-tH k x l
  .ok (v,h)
 | .max, .int k x::l=>do
  let v<-tG k x l
  .ok (v,h)
 |_,_=> .no "builtin"
def fk (ts:T AV) (h:AH) (o:Oper):R (AV×AH):=do
 match o.op with
 | .move x=>do .ok (<-ev ts x,h)
 | .assign x=>do .ok (<-ev ts x,h)
 | .pick c a b=>do
  match<-ev ts c with
  | .bool true=>do .ok (<-ev ts a,h)
  | .bool false=>do .ok (<-ev ts b,h)
  |_=> .no "pick"
 | .alloc e=>do
  let z<-zero tab e
  let zc<-z.cells
  let (h',b)<-newRow tab h e zc
  .ok (.ptr b 0,h')
 | .box e x=>do
  let v<-ev ts x
  let vc<-v.cells
  let (h',b)<-newRow tab h e vc
  .ok (.ptr b 0,h')
 | .build t ps=>do
  let l<-mD ts ps.toList
  .ok (<-build tab t l,h)
 | .buildSlice t n ps=>do
  let l<-mD ts ps.toList
  buildSlice tab h t n l
 | .load t a=>do
  match<-ev ts a with
  | .ptr b off=>do .ok (<-loadVar tab h t b off,h)
  |_=> .no "load"
 | .store t a x=>do
  match<-ev ts a with
  | .ptr b off=>do
   let h'<-storeVar tab h t b off (<-ev ts x)
   .ok (.bO [],h')
  |_=> .no "store"
 | .nilCheck x=>do
  match<-ev ts x with
  | .ptr b off=> .ok (.ptr b off,h)
  | .fn (.func f) a b=> .ok (.fn (.func f) a b,h)
  |_=> .no "nilCheck"
 | .binOp op t x y _=>do .ok (<-binOp tab h op t (<-ev ts x) (<-ev ts y),h)
 | .unOp op _ x=>do .ok (<-unOp op (<-ev ts x),h)
 | .convert s d x=>do pb tab h s d (<-ev ts x)
 | .makeInterface t x=>do
  match<-und tab t with
  | .interface _=> .no "makeInterface"
  |_=>do .ok (.iface t (<-ev ts x),h)
 | .makeFunc fn first captured=>do
  match fn with
  | .func _=>do .ok (.fn fn (<-kF ts first.toList) (<-kF ts captured.toList),h)
  |_=> .no "makeFunc"
 | .makeMap _ none=> .ok (.map h.next,h.new (.mp [] 0))
 | .makeSlice t l c=>do makeSlice tab h t (<-ev ts l) (<-ev ts c)
 | .slice t x lo hi mx=>do ke tab ts h t (<-ev ts x) lo hi mx
 | .fieldAddr s x f=>do
  let fd<-vV tab s f
  let n<-siz tab fd.type
  R.check "fieldAddr: size 0" (!(Nat.beq n 0))
  match<-ev ts x with
  | .ptr b off=> .ok (.ptr b (off+fd.offset),h)
  |_=> .no "fieldAddr"
 | .field t x f=>do
  let fd<-vV tab t f
  match<-ev ts x with
  | .agg cs=>do .ok (<-part tab fd.type cs fd.offset,h)
  |_=> .no "field"
 | .indexAddr t x ix=>do
  let i<-asNat (<-ev ts ix)
  match<-und tab t,<-ev ts x with
  | .array len e, .ptr b off=>do
   R.check "indexAddr" (Nat.blt i len)
   let n<-siz tab e
   .ok (.ptr b (off+i*n),h)
  | .slice e, .sl b off len _=>do
   R.check "indexAddr" (Nat.blt i len)
   let n<-siz tab e
   .ok (.ptr b (off+i*n),h)
  |_,_=> .no "indexAddr"
 | .index t x ix=>do
  let i<-asNat (<-ev ts ix)
  match<-und tab t,<-ev ts x with
  | .array len e, .agg cs=>do
   R.check "index" (Nat.blt i len)
   let n<-siz tab e
   .ok (<-part tab e cs (i*n),h)
  | .string, .str s=>do
   let b<-R.of "index" s[i]?
   .ok (.int .u8 (.ofNat b.toNat),h)
  |_,_=> .no "index"
 | .lookup t m k ok=>do .ok (<-lookup tab h t (<-ev ts m) (<-ev ts k) ok,h)
 | .mapUpdate t m k x| .insert t m k x=>do
  let h'<-mapUpdate tab h t (<-ev ts m) (<-ev ts k) (<-ev ts x)
  .ok (.bO [],h')
 | .mapEntry t m k=>do mapEntry tab h t (<-ev ts m) (<-ev ts k)
 | .entryStore _ m s x=>do
  let h'<-entryStore h (<-ev ts m) (<-ev ts s) (<-ev ts x)
  .ok (.bO [],h')
 | .range t x=>do rangeOp tab h t (<-ev ts x)
 | .entry it=>do .ok (<-entryOp h (<-ev ts it),h)
 | .typeAssert x xt t ok=>do
  let _:=xt
  match<-und tab t,<-ev ts x with
  | .interface _,_=> .no "typeAssert"
  | _, .iface u v=>if u=t then .ok ((if ok then .bO [v, .bool true]else v),h)else do
    R.check "typeAssert" ok
    let z<-zero tab t
    .ok (.bO [z, .bool false],h)
  | _, .ij=>do
    R.check "typeAssert" ok
    let z<-zero tab t
    .ok (.bO [z, .bool false],h)
  |_,_=> .no "typeAssert"
 | .extract t i=>do
  match<-ev ts t with
  | .bO vs=>do .ok (<-R.of "extract" vs[i]?,h)
  |_=> .no "extract"
 | .call c=>do
  match c.callee with
  | .builtin b=>do
   let l<-kF ts c.args.toList
   builtin tab b c.argTypes l h
  |_=> .no "call"
 |_=> .no "op"
end
end Go.Am
namespace Go.Am
open Go.RowKit
section
theorem ay {α β:Type} {x:R α} {f:α->R β} {b:β}:(x>>=f)= .ok b↔∃a,x= .ok a/\f a= .ok b:=by
 cases x with
 |ok a=>exact⟨fun h=>⟨a,rfl,h⟩,fun⟨_,h1,h2⟩=>by cases h1;exact h2⟩
 |no w=>exact⟨fun h=>(nomatch h),fun⟨_,h1,_⟩=>(nomatch h1)⟩
theorem dx {α:Type} {s:String} {x:Option α} {a:α}:R.of s x= .ok a↔x=some a:=by
 cases x<;>simp[R.of]
theorem eI {s:String} {b:Bool} {u:Unit}:R.check s b= .ok u↔b=true:=by
 cases b<;>simp[R.check]
theorem wV {α:Type} (k:Nat):(T.e:T α).get k=none:=rfl
theorem Cj {α:Type} (v:Option α) (l r:T α) (k:Nat):
  (T.n v l r).get k=if k=0 then v else if k % 2=1 then l.get (k / 2)else r.get (k / 2 - 1):=by
 have h1:(Nat.beq k 0)=decide (k=0):=by
  by_cases h:k=0<;>simp[h]
  cases k<;>simp_all[Nat.beq]
 have h2:(Nat.beq (Nat.mod k 2) 1)=decide (k % 2=1):=by
  by_cases h:k % 2=1
  . simp[h];exact h
  . simp only[h,decide_false];exact Ar.2 fun e=>h (Ag e)
 conv=>lhs;unfold T.get
 rw[h1,h2];simp only[cond_eq_ite,Aa];rfl
theorem Uu {α:Type} (f:Nat):∀(t:T α) (k j:Nat) (x:Option α),k<f->(T.cH f t k x).get j=if j=k then x else t.get j:=by
 induction f with
 |zero=>omega
 | succ f ih=>
  intro t k j x h;have h1:(Nat.beq k 0)=decide (k=0):=by
   by_cases h:k=0<;>simp[h]
   cases k<;>simp_all[Nat.beq]
  have h2:(Nat.beq (Nat.mod k 2) 1)=decide (k % 2=1):=by
   by_cases h:k % 2=1
   . simp[h];exact h
   . simp only[h,decide_false];exact Ar.2 fun e=>h (Ag e)
  have e1:Nat.div k 2=k / 2:=rfl
  cases t with
  |e=>
   grind [T.cH,Nat.pred_eq_sub_one,Cj,wV]
  |n v l r=>
   grind [T.cH,Nat.pred_eq_sub_one,Cj]
theorem T.bp {α:Type} (t:T α) (k j:Nat) (x:Option α):(t.set k x).get j=if j=k then x else t.get j:=
 Uu (k+1) t k j x (Nat.lt_succ_self k)
structure Env where
 aC:Nat->Nat
 cap:Nat->Nat
def gV.val (c:gV) (n:Nat):Nat:=
 match c with
 | .lit m=>m
 | .tail k=>n - k
mutual
def ag (E:Env):AV->Value
 | .bool b=> .bool b
 | .int k n=> .int k n
 | .str s=> .string ⟨s.toArray⟩
 | .bq=> .pointer none
 | .ptr b off=> .pointer (some ⟨E.aC b,off,none⟩)
 | .nils=> .slice none 0 0
 | .sl b off len cap=> .slice (some ⟨E.aC b,off,none⟩) len (cap.val (E.cap b))
 | .emp b off l n k=> .slice (some ⟨E.aC b,if E.cap b - k=l then off else off+l*n,none⟩) 0 (E.cap b - k - l)
 | .bP=> .map none
 | .map b=> .map (some (E.aC b))
 | .bR=> .nilFunc
 | .fn f xs ys=> .func f (bK E xs).toArray (bK E ys).toArray
 | .mP l=> .func (.yield (E.aC l)) #[] #[]
 | .ij=> .nilIface
 | .iface t v=> .iface t (ag E v)
 | .agg cs=> .agg (bK E cs).toArray
 | .bO vs=> .tuple (bK E vs).toArray
 | .raw v=>v
def bK (E:Env):List AV->List Value
 |[]=>[]
 |v::l=>ag E v::bK E l
end
theorem qn (E:Env) (l:List AV):bK E l=l.map (ag E):=by
 induction l with
 |nil=>rfl
 |cons v l ih=>grind [bK]
@[simp] theorem dF (E:Env):bK E []=[]:=rfl
@[simp] theorem ct (E:Env) (v:AV) (l:List AV):bK E (v::l)=ag E v::bK E l:=rfl
@[simp] theorem ey (E:Env) (l m:List AV):bK E (l++m)=bK E l++bK E m:=by simp[qn]
@[simp] theorem cE (E:Env) (l:List AV):(bK E l).length=l.length:=by simp[qn]
theorem vu (E:Env) (l:List AV) (n:Nat):bK E (l.take n)=(bK E l).take n:=by simp[qn,Es]
theorem Fa (E:Env) (l:List AV) (n:Nat):bK E (l.drop n)=(bK E l).drop n:=by simp[qn,List.map_drop]
theorem kT (E:Env) (l:List AV) (i:Nat):(bK E l)[i]? =(l[i]?).map (ag E):=by simp[qn]
theorem Lu (E:Env) (v:Value):ag E (qu v)=v:=by
 unfold qu;split<;>simp[ag]
theorem Vz (E:Env) (l:List Value):bK E (l.map qu)=l:=by
 induction l with
 |nil=>rfl
 |cons v l ih=>simp[Lu,ih]
theorem K7 (E:Env) (v:Value):ag E (ofConst v)=v:=by
 unfold ofConst;split
 all_goals simp_all[ag,Vz,Lu]
theorem pf {E:Env} {v:AV} {l:List AV} (h:v.cells= .ok l):(ag E v).cells=(bK E l).toArray:=by
 cases v
 case raw u=>cases u<;>simp only[AV.cells]at h<;>(try cases h)<;>simp[ag,Value.cells]
 all_goals simp only[AV.cells]at h<;>(try cases h)<;>simp[ag,Value.cells]
theorem Ld {E:Env} {v:AV} (h:mE v=true):(ag E v).oneCell'=true:=by
 cases v
 case raw u=>cases u<;>simp_all[mE,ag,Value.oneCell']
 all_goals grind [mE,ag,Value.oneCell']
mutual
theorem CY:∀(a b:AV),AV.beq a b=true->a=b
 | .bool a,b,h=>by cases b<;>simp_all[AV.beq]
 | .int k a,b,h=>by cases b<;>simp_all[AV.beq]
 | .str a,b,h=>by cases b<;>simp_all[AV.beq]
 | .bq,b,h=>by cases b<;>simp_all[AV.beq]
 | .ptr x i,b,h=>by
  cases b<;>simp only[AV.beq,Ad]at h<;>(try cases h)
  rename_i h1 h2;rw[Ag h1,Ag h2]
 | .nils,b,h=>by cases b<;>simp_all[AV.beq]
 | .sl x i n c,b,h=>by
  cases b<;>simp only[AV.beq,Ad]at h<;>(try cases h)
  rename_i h1 h2;obtain⟨⟨h3,h4⟩,h5⟩:=h1;rw[Ag h3,Ag h4,Ag h5,eq_of_beq h2]
 | .emp x i n c e,b,h=>by
  cases b<;>simp only[AV.beq,Ad]at h<;>(try cases h)
  rename_i h1 h2;obtain⟨⟨⟨h3,h4⟩,h5⟩,h6⟩:=h1;rw[Ag h3,Ag h4,Ag h5,Ag h6,Ag h2]
 | .bP,b,h=>by cases b<;>simp_all[AV.beq]
 | .map x,b,h=>by
  cases b<;>simp only[AV.beq]at h<;>(try cases h)
  rw[Ag h]
 | .bR,b,h=>by cases b<;>simp_all[AV.beq]
 | .fn f x y,b,h=>by
  cases b<;>simp only[AV.beq,Ad]at h<;>(try cases h)
  rename_i h1 h2;rw[eq_of_beq h1.1,og _ _ h1.2,og _ _ h2]
 | .mP x,b,h=>by
  cases b<;>simp only[AV.beq]at h<;>(try cases h)
  rw[Ag h]
 | .ij,b,h=>by cases b<;>simp_all[AV.beq]
 | .iface t v,b,h=>by
  cases b<;>simp only[AV.beq,Ad]at h<;>(try cases h)
  rename_i h1 h2;rw[Ag h1,CY _ _ h2]
 | .agg x,b,h=>by
  cases b<;>simp only[AV.beq]at h<;>(try cases h)
  rw[og _ _ h]
 | .bO x,b,h=>by
  cases b<;>simp only[AV.beq]at h<;>(try cases h)
  rw[og _ _ h]
 | .raw v,b,h=>by
  cases b
  case raw u=>
   unfold AV.beq at h;split at h<;>first|(cases h;done)|skip
   all_goals (rename_i e1 e2;cases e1<;>cases e2)
   . simp only[Ad,Aa]at h;obtain⟨⟨h3,h4⟩,h2⟩:=h;rw[h3,Ag h4,Ag h2]
   . rw[AN h]
  all_goals (exfalso;revert h;simp[AV.beq])
theorem og:∀(a b:List AV),iE a b=true->a=b
 |[],b,h=>by cases b<;>simp_all[iE]
 | x::l,b,h=>by
  cases b with
  |nil=>simp[iE]at h
  |cons y m=>
   simp only[iE,Ad]at h;rw[CY _ _ h.1,og _ _ h.2]
end
def H5:TypeDesc->Bool
 | .struct _| .array _ _=>true
 |_=>false
structure bZ (P:Program) (tab:bC):Prop where
 und:∀t d,tab.und.get t=some d->P.underlying t=some d
 siz:∀t n,tab.siz.get t=some n->∃i,P.info? t=some i/\i.size=n
 byt:∀t n,tab.byt.get t=some n->∃i,P.info? t=some i/\i.bytes=n
 mg:∀t z,tab.mg.get t=some z->∃i,P.info? t=some i/\ ∀E,i.zero=some (ag E z)
 agg:∀t b,tab.agg.get t=some b->∃d,P.underlying t=some d/\H5 d=b
 held:∀t b,tab.held.get t=some b->P.stoodInHeld t=b
 lX:∀t b,tab.lX.get t=some b->P.eqGuardType P.depth t=b
 fns:∀f fn,tab.fns.get f=some fn->P.funcs[f]? =some fn
 xk:∀f fn,tab.fns.get f=some fn->(fn.name== "runtime.NumGoroutine")=false
section
variable {P:Program} {tab:bC} (ok:bZ P tab)
include ok
theorem kS {t:TypeId} {n:Nat} (h:siz tab t= .ok n) (w:World):(sizeOf t).run P w= .ok n w:=by
 obtain⟨i,hi,rfl⟩:=ok.siz t n (dx.1 h);simp[sizeOf,typeInfo,hi]
theorem vU {t:TypeId} {z:AV} (h:zero tab t= .ok z) (E:Env) (w:World):(zeroValue t).run P w= .ok (ag E z) w:=by
 obtain⟨i,hi,hz⟩:=ok.mg t z (dx.1 h);simp[zeroValue,typeInfo,hi,hz E]
theorem Mz {t:TypeId} {b:Bool} (h:isAgg tab t= .ok b) (w:World):(Go.isAgg t).run P w= .ok b w:=by
 obtain⟨d,hd,rfl⟩:=ok.agg t b (dx.1 h);simp only[Go.isAgg,underlying,Sem.run_bind,run_program,Result.andThen_ok,hd,Sem.run_pure]
 cases d<;>rfl
theorem yH {t:TypeId} {cs:List AV} {off:Nat} {v:AV} (h:part tab t cs off= .ok v) (E:Env) (w:World):
  (Go.part t (bK E cs).toArray off).run P w= .ok (ag E v) w:=by
 obtain⟨b,hb,h⟩:=ay.1 h;unfold Go.part;rw[Sem.run_bind,Mz ok hb,Result.andThen_ok]
 cases b with
 |true=>
  simp only[BB]at h⊢;obtain⟨n,hn,h⟩:=ay.1 h
  cases h;rw[Sem.run_bind,kS ok hn];simp[ag,vu,Fa,List.extract_eq_take_drop]
 |false=>
  simp_all[dx,kT]
end
end
section
structure aK where
 dr:Prop
 old:Array Obj
variable [Inhabited aK]
def AO.ro:AO->Prop
 | .cells _ _ _ _ .ro=>True
 |_=>False
structure KS where
 p:Nat->Prop
 b:Nat
instance:CoeFun KS (fun _=>Nat->Prop):=⟨KS.p⟩
abbrev KS.old (n:Nat):KS:=⟨fun b=>b<n,n⟩
def oJ (E:Env):AT->Target
 | .fn f captured=> .fn f (bK E captured).toArray
 | .mP l=> .fn (.yield (E.aC l)) #[]
 | .collected r=> .collected (E.aC r)
def eD (E:Env) (d:AD):Deferred:={target:=oJ E d.target,args:=(bK E d.args).toArray}
def wQ (E:Env) (ts:T AV) (i:Nat):Value:=ag E ((ts.get i).getD (.bO []))
def iQ (E:Env) (ts:T AV) (nt:Nat):Array Value:=((List.range nt).map (wQ E ts)).toArray
def qE (E:Env) (x:AV×AV×Nat):MapEntry:={key:=ag E x.1,val:=ag E x.2.1,born:=x.2.2}
def marks:BK->(Nat×Nat)->Nat->Prop
 | .rw,fz,_=>fz=(0,0)
 | .mark,fz,n=>fz=(n,n+1)
 | .any,fz,n=>fz=(0,0)\/fz=(n,n+1)
 | .ro,_,_=>True
 | .cold,_,_=>True
def qf (E:Env) (i:Nat):AO->Obj->Prop
 | .cells cs e sz ext bk,o=>∃arr fz,o= .cells arr e fz/\(∃rest,arr.toList=bK E cs++rest)/\
  (if ext then arr.size=E.cap i*sz else arr.size=cs.length)/\marks bk fz arr.size
 | .mp es c,o=>o= .map (es.map (qE E)).toArray c
 | .uY m since seen st,o=>o= .mapIter (m.map E.aC) since seen.toArray st
 | .wY s pos,o=>o= .stringIter ⟨s.toArray⟩ pos
 | .loop st pending fn ts nt ps a b d,o=>o= .loop {state:=st,pending,fn,tmps:=iQ E ts nt,params:=ps,assign:=a,body:=b,defers:=E.aC d}/\ ∀t,nt<=t->ts.get t=none
 | .qR calls,o=>o= .deferred (calls.map (List.map (eD E)))
structure bV (E:Env) (h:AH) (K:KS) (w:World):Prop where
 obj:∀i o,h.get i=some o->∃c,w.heap[E.aC i]? =some c/\qf E i o c
 nk:∀i o,h.get i=some o->¬o.ro->¬K (E.aC i)
 inj:∀i j oi oj,h.get i=some oi->h.get j=some oj->¬oi.ro->E.aC i=E.aC j->i=j
 eG:∀i o,h.get i=some o->i<h.next
 kb:∀b,K b->b<w.heap.size
 im:∀i o,h.get i=some o->o.ro->E.aC i<K.b
 k0:∀b,b<K.b->K b
structure Kept (K:KS) (w w':World):Prop where
 os:w'.os=w.os
 tape:w'.tape=w.tape
 output:w'.output=w.output
 size:w.heap.size<=w'.heap.size
 block:∀b,K b->w'.heap[b]? =w.heap[b]?
 drawn:(default:aK).dr->w.drawn<=w'.drawn
theorem Kept.refl (K:KS) (w:World):Kept K w w:=⟨rfl,rfl,rfl,Ac _,fun _ _=>rfl,fun _=>Ac _⟩
theorem Kept.trans {K:KS} {a b c:World} (h:Kept K a b) (k:Kept K b c):Kept K a c:=
 ⟨k.os.trans h.os,k.tape.trans h.tape,k.output.trans h.output,Av h.size k.size,fun i hi=>(k.block i hi).trans (h.block i hi),fun hd=>Av (h.drawn hd) (k.drawn hd)⟩
def eZ (K:KS) (w:World):Prop:=∀b,b<(default:aK).old.size->K b/\w.heap[b]? =(default:aK).old[b]?
theorem eZ.kept {K:KS} {w w':World} (h:eZ K w) (k:Kept K w w'):eZ K w':=fun b hb=>⟨(h b hb).1,(k.block b (h b hb).1).trans (h b hb).2⟩
theorem AH.bp (h:AH) (b i:Nat) (o:AO):(h.set b o).get i=if i=b then some o else h.get i:=T.bp _ _ _ _
theorem AH.aX (h:AH) (i:Nat) (o:AO):(h.new o).get i=if i=h.next then some o else h.get i:=T.bp _ _ _ _
theorem oc (h:AH) (b i:Nat):(h.kill b).get i=if i=b then none else h.get i:=T.bp _ _ _ _
@[simp] theorem AH.eR (h:AH) (b:Nat) (o:AO):(h.set b o).next=h.next:=rfl
@[simp] theorem AH.cP (h:AH) (o:AO):(h.new o).next=h.next+1:=rfl
@[simp] theorem AH.ig (h:AH) (b:Nat):(h.kill b).next=h.next:=rfl
theorem alloc_old (w:World) (o:Obj) {i:Nat} (h:i<w.heap.size):(w.alloc o).heap[i]? =w.heap[i]? :=by
 grind [World.alloc]
def _root_.Go.World.put (w:World) (g:Nat) (o:Obj):World:={w with heap:=w.heap.setIfInBounds g o}
theorem tl (w:World) (g i:Nat) (o:Obj):(w.put g o).heap[i]? =if i=g then(if g<w.heap.size then some o else none)else w.heap[i]? :=by
 grind [World.put]
section
variable {E:Env} {h:AH} {K:KS} {w:World}
theorem bV.lt (H:bV E h K w) {i:Nat} {o:AO} (hi:h.get i=some o):E.aC i<w.heap.size:=by
 obtain⟨c,hc,_⟩:=H.obj i o hi;grind
theorem bV.drew (H:bV E h K w):bV E h K w.drew:=⟨H.obj,H.nk,H.inj,H.eG,H.kb,H.im,H.k0⟩
theorem Kept.drew (K:KS) (w:World):Kept K w w.drew:=⟨rfl,rfl,rfl,Ac _,fun _ _=>rfl,fun _=>Ed _⟩
theorem bV.new (H:bV E h K w) {o:AO} {c:Obj} (hE:E.aC h.next=w.heap.size) (ho:qf E h.next o c) (hno:¬o.ro:=by simp[AO.ro]):bV E (h.new o) K (w.alloc c):=by
 have hnew:∀i o',(h.new o).get i=some o'->i≠h.next->h.get i=some o':=by
   grind [AH.aX]
 have hne:∀i o',h.get i=some o'->E.aC i≠E.aC h.next:=by
   intro i o' hi e;have:=H.lt hi;omega
 refine⟨?_,?_,?_,?_,?_,?_,H.k0⟩
 . intro i o' hi;by_cases e:i=h.next
   . grind [AH.aX,heap_alloc_new]
   . obtain⟨c',hc',hk⟩:=H.obj i o' (hnew i o' hi e);grind [alloc_old]
 . intro i o' hi hr hK;by_cases e:i=h.next
   . subst e;have:=H.kb _ hK;omega
   . exact H.nk i o' (hnew i o' hi e) hr hK
 . intro i j oi oj hi hj hr e;by_cases ei:i=h.next
   . grind
   . by_cases ej:j=h.next
     . grind
     . exact H.inj i j oi oj (hnew i oi hi ei) (hnew j oj hj ej) hr e
 . intro i o' hi;by_cases e:i=h.next
   . simp_all
   . have:=H.eG i o' (hnew i o' hi e);simp;omega
 . intro b hb;have:=H.kb b hb;simp;omega
 . intro i o' hi hr;by_cases e:i=h.next
   . grind [AH.aX]
   . exact H.im i o' (hnew i o' hi e) hr
theorem Kept.alloc (hkb:∀b,K b->b<w.heap.size) (c:Obj):Kept K w (w.alloc c):=
 ⟨rfl,rfl,rfl,by simp,fun b hb=>alloc_old w c (hkb b hb),fun _=>Ac _⟩
theorem bV.put (H:bV E h K w) {b:Nat} {o o':AO} {c:Obj} (hb:h.get b=some o) (hr:¬o.ro) (ho:qf E b o' c) (hno:¬o'.ro:=by simp[AO.ro]):bV E (h.set b o') K (w.put (E.aC b) c):=by
 have hold:∀i o1,(h.set b o').get i=some o1->i≠b->h.get i=some o1:=by
   grind [AH.bp]
 refine⟨?_,?_,?_,?_,?_,?_,H.k0⟩
 . intro i o1 hi;by_cases e:i=b
   . subst e;rw[AH.bp,An rfl]at hi
     cases hi;exact⟨c,by rw[tl,An rfl,An (H.lt hb)],ho⟩
   . obtain⟨c',hc',hk⟩:=H.obj i o1 (hold i o1 hi e);refine⟨c',?_,hk⟩;rw[tl,Al (fun e'=>e (H.inj b i o o1 hb (hold i o1 hi e) hr e'.symm).symm)];omega
 . intro i o1 hi hr1;by_cases e:i=b
   . subst e;exact H.nk i o hb hr
   . exact H.nk i o1 (hold i o1 hi e) hr1
 . intro i j oi oj hi hj hri e;by_cases ei:i=b
   . subst ei;by_cases ej:j=i
     . omega
     . exact H.inj i j o oj hb (hold j oj hj ej) hr e
   . by_cases ej:j=b
     . subst ej;exact H.inj i j oi o (hold i oi hi ei) hb hri e
     . exact H.inj i j oi oj (hold i oi hi ei) (hold j oj hj ej) hri e
 . intro i o1 hi;by_cases e:i=b
   . subst e;exact H.eG i o hb
   . exact H.eG i o1 (hold i o1 hi e)
 . intro g hg;have:=H.kb g hg;grind [World.put]
 . intro i o1 hi hr1;by_cases e:i=b
   . grind [AH.bp]
   . exact H.im i o1 (hold i o1 hi e) hr1
theorem bV.dZ (H:bV E h K w) {b:Nat} {o:AO} (hb:h.get b=some o) (hr:¬o.ro) (c:Obj):Kept K w (w.put (E.aC b) c):=
 ⟨rfl,rfl,rfl,by simp[World.put],fun g hg=>by rw[tl];exact Al (fun e=>H.nk b o hb hr (by rw[<-e];exact hg)),fun _=>Ac _⟩
theorem bV.kill (H:bV E h K w) (b:Nat):bV E (h.kill b) K w:=by
 have hold:∀i o1,(h.kill b).get i=some o1->h.get i=some o1:=by
  grind [oc]
 exact⟨fun i o hi=>H.obj i o (hold i o hi),fun i o hi=>H.nk i o (hold i o hi),fun i j oi oj hi hj=>H.inj i j oi oj (hold i oi hi) (hold j oj hj),
  fun i o hi=>H.eG i o (hold i o hi),H.kb,fun i o hi=>H.im i o (hold i o hi),H.k0⟩
theorem bV.rename (H:bV E h K w) {b:Nat} {o o':AO} {c:Obj} (hb:h.get b=some o) (hr:¬o.ro) (hE:E.aC h.next=E.aC b) (ho:qf E h.next o' c) (hno:¬o'.ro:=by simp[AO.ro]):
   bV E ((h.kill b).new o') K (w.put (E.aC b) c):=by
 have hold:∀i o1,((h.kill b).new o').get i=some o1->i≠h.next->i≠b/\h.get i=some o1:=by
   grind [AH.aX,AH.ig,oc]
 have hnx:∀o1,((h.kill b).new o').get h.next=some o1->o1=o':=by
   grind [AH.aX,AH.ig]
 have hne:∀i o1,h.get i=some o1->i≠b->E.aC i≠E.aC b:=fun i o1 hi hib e=>hib (H.inj b i o o1 hb hi hr e.symm).symm
 refine⟨?_,?_,?_,?_,?_,?_,H.k0⟩
 . intro i o1 hi;by_cases e:i=h.next
   . subst e;rw[hnx o1 hi];exact⟨c,by rw[tl,An hE,An (H.lt hb)],ho⟩
   . obtain⟨h1,h2⟩:=hold i o1 hi e;obtain⟨c',hc',hk⟩:=H.obj i o1 h2;grind [tl]
 . intro i o1 hi hr1;by_cases e:i=h.next
   . subst e;rw[hE];exact H.nk b o hb hr
   . exact H.nk i o1 (hold i o1 hi e).2 hr1
 . intro i j oi oj hi hj hri e;by_cases ei:i=h.next
   . grind
   . obtain⟨h1,h2⟩:=hold i oi hi ei;by_cases ej:j=h.next
     . rw[ej,hE]at e;grind
     . exact H.inj i j oi oj h2 (hold j oj hj ej).2 hri e
 . intro i o1 hi;by_cases e:i=h.next
   . subst e;simp
   . have:=H.eG i o1 (hold i o1 hi e).2;simp;omega
 . intro g hg;have:=H.kb g hg;grind [World.put]
 . intro i o1 hi hr1;by_cases e:i=h.next
   . grind
   . exact H.im i o1 (hold i o1 hi e).2 hr1
theorem je {b:Nat} {cs:List AV} {e:TypeId} {sz:Nat} {ext:Bool} {bk:BK} (hc:lK h b= .ok (cs,e,sz,ext,bk)):h.get b=some (.cells cs e sz ext bk):=by
 grind [lK]
theorem bV.cells (H:bV E h K w) {b:Nat} {cs:List AV} {e:TypeId} {sz:Nat} {ext:Bool} {bk:BK} (hc:h.get b=some (.cells cs e sz ext bk)):
  ∃arr fz,w.heap[E.aC b]? =some (.cells arr e fz)/\(∃rest,arr.toList=bK E cs++rest)/\(if ext then arr.size=E.cap b*sz else arr.size=cs.length)/\marks bk fz arr.size:=by
 obtain⟨c,h1,arr,fz,rfl,h2⟩:=H.obj b _ hc;grind
theorem bV.cell (H:bV E h K w) {b:Nat} {cs:List AV} {e:TypeId} {sz:Nat} {ext:Bool} {bk:BK} (hc:h.get b=some (.cells cs e sz ext bk)) {i:Nat} {v:AV} (hv:cs[i]? =some v):
  w.cell? ⟨E.aC b,i,none⟩=some (ag E v):=by
 obtain⟨arr,fz,h1,⟨rest,h2⟩,_⟩:=H.cells hc;rw[cell_of_row w _ i arr e fz h1];rw[<-A8,h2,AS (by rw[cE];grind),kT,hv];rfl
theorem add_lit (b o j:Nat):(⟨b,o,none⟩:Addr).add j=⟨b,o+j,none⟩:=by
 grind [Addr.add]
theorem OC {b off n:Nat} {cs:List AV} (hr:readN h b off n= .ok cs):
  ∃cs0 e sz ext bk,h.get b=some (.cells cs0 e sz ext bk)/\off+n<=cs0.length/\cs=(cs0.drop off).take n:=by
 obtain⟨⟨cs0,e,sz,ext,bk⟩,h1,hr⟩:=ay.1 hr;obtain⟨_,h2,hr⟩:=ay.1 hr
 cases hr;exact⟨cs0,e,sz,ext,bk,je h1,Ak (eI.1 h2),rfl⟩
theorem bV.kL (H:bV E h K w) {b off n:Nat} {cs:List AV} (hr:readN h b off n= .ok cs):
   (bK E cs).length=n/\ ∀j v,(bK E cs)[j]? =some v->w.cell? ((⟨E.aC b,off,none⟩:Addr).add j)=some v:=by
 obtain⟨cs0,e,sz,ext,bk,hc,hl,rfl⟩:=OC hr;refine⟨by simp;omega,fun j v hv=>?_⟩;rw[kT,A3]at hv;split at hv
 . rw[Dh]at hv
   cases hx:cs0[off+j]? with
   |none=>rw[hx]at hv;cases hv
   |some u=>
    rw[hx]at hv
    cases hv;rw[add_lit];exact H.cell hc hx
 grind
theorem bV.gj (H:bV E h K w) {P:Program} {b off n:Nat} {cs:List AV} (hr:readN h b off n= .ok cs):
  (loadCells ⟨E.aC b,off,none⟩ n).run P w= .ok (bK E cs).toArray w:=by
 obtain⟨hl,hc⟩:=H.kL hr;have:=run_loadCells_list (P:=P) w ⟨E.aC b,off,none⟩ (bK E cs) hc;rw[hl]at this;omega
theorem C6 {P:Program} (g o:Nat) (t:TypeId) (fz:Nat×Nat):∀(vs:List Value) (i:Nat) (cur:Array Value) (w:World),w.heap[g]? =some (.cells cur t fz)->
  (∀j,j<cur.size->¬(fz.1<=j/\j<fz.2))->o+i+vs.length<=cur.size->(∀v∈vs,v.oneCell'=true)->
  (storeCells ⟨g,o,none⟩ vs i).run P w= .ok () (w.put g (.cells (cur.toList.take (o+i)++vs++cur.toList.drop (o+i+vs.length)).toArray t fz))
 | [],i,cur,w,hg,_,_,_=>by
  simp only[storeCells,Br,A7,BC,BV,Array.toArray_toList];have:w.put g (.cells cur t fz)=w:=by
   unfold World.put;have hlt:=(Ab.1 hg).1;have he:=(Ab.1 hg).2;have:w.heap.setIfInBounds g (.cells cur t fz)=w.heap:=by
    grind
   rw[this]
  rw[this];rfl
 | v::rest,i,cur,w,hg,hf,hl,h1=>by
  have hi:o+i<cur.size:=by grind
  have hlt:=(Ab.1 hg).1;have hcell:w.cell? ⟨g,o+i,none⟩=some cur[o+i]:=by grind [World.cell?]
  have hfro:w.frozen? ⟨g,o+i,none⟩=false:=by
   have:=hf (o+i) hi;grind [World.frozen?]
  have hset:w.setCell ⟨g,o+i,none⟩ v=w.put g (.cells (cur.setIfInBounds (o+i) v) t fz):=by
   unfold World.setCell World.put;congr 1
   grind
  have hst:(store ((⟨g,o,none⟩:Addr).add i) v).run P w= .ok () (w.put g (.cells (cur.setIfInBounds (o+i) v) t fz)):=by
   rw[add_lit,run_store P w _ v _ (h1 v (by simp)),hcell];grind
  have hg':(w.put g (.cells (cur.setIfInBounds (o+i) v) t fz)).heap[g]? =some (.cells (cur.setIfInBounds (o+i) v) t fz):=by
   rw[tl,An rfl,An hlt]
  simp only[storeCells,Sem.run_bind];rw[hst,Result.andThen_ok,C6 g o t fz rest (i+1) _ _ hg' (by simpa using hf) (by simp at hl⊢;omega) (fun v hv=>h1 v (by simp[hv]))];have hL:(cur.setIfInBounds (o+i) v).toList.take (o+(i+1))++rest++(cur.setIfInBounds (o+i) v).toList.drop (o+(i+1)+rest.length)=cur.toList.take (o+i)++(v::rest)++cur.toList.drop (o+i+(v::rest).length):=by
   have:=list_seg_step cur.toList (o+i) v rest (by omega);simp only[Em,AW];rw[show o+(i+1)=o+i+1 from by omega];exact this
  rw[hL];unfold World.put;simp only[Array.setIfInBounds_setIfInBounds]
end
end
section
variable [Inhabited aK]
def Yields (r:Next) (x:Value):Prop:=r= .value x\/(r= .skip/\x=undef)
section
variable {P:Program} {tab:bC} (ok:bZ P tab) {E:Env} {h:AH} {K:KS} {w:World}
include ok
theorem LF (H:bV E h K w) {t:TypeId} {b off:Nat} {v:AV} (hl:loadVar tab h t b off= .ok v):
  (Go.loadVar t ⟨E.aC b,off,none⟩).run P w= .ok (ag E v) w:=by
 obtain⟨g,hg,hl⟩:=ay.1 hl;unfold Go.loadVar;rw[Sem.run_bind,Mz ok hg,Result.andThen_ok]
 cases g with
 |true=>
  simp only[BB]at hl⊢;obtain⟨n,hn,hl⟩:=ay.1 hl;obtain⟨cs,hc,hl⟩:=ay.1 hl
  cases hl;rw[Sem.run_bind,kS ok hn,Result.andThen_ok,Sem.run_bind,H.gj hc];simp[ag]
 |false=>
  simp only[Ax,Bc]at hl⊢;obtain⟨⟨cs,e,sz,ext,bk⟩,hc,hl⟩:=ay.1 hl;have hl:=dx.1 hl;rw[run_load,H.cell (je hc) hl]
omit ok in
theorem xq {b off:Nat} {vs:List AV} {h':AH} (hw:writeN h b off vs= .ok h'):h'.next=h.next:=by
 unfold writeN at hw;split at hw
 . grind
 . obtain⟨⟨cs,e,sz,ext,bk⟩,hc,hw⟩:=ay.1 hw;obtain⟨_,_,hw⟩:=ay.1 hw;obtain⟨_,_,hw⟩:=ay.1 hw;obtain⟨_,_,hw⟩:=ay.1 hw
   cases hw;rfl
omit ok in
theorem L4 {bk:BK} {fz:Nat×Nat} {n:Nat} (hm:marks bk fz n) (hr:bk≠ .ro/\bk≠ .cold):∀j,j<n->¬(fz.1<=j/\j<fz.2):=by
 intro j hj
 cases bk with
 |rw=>grind [marks]
 |mark=>grind [marks]
 |any=>
  grind [marks]
 |ro=>grind
 |cold=>grind
omit ok in
theorem xD (H:bV E h K w) {b off:Nat} {vs:List AV} {h':AH} (hw:writeN h b off vs= .ok h'):
   ∃w',(storeCells ⟨E.aC b,off,none⟩ (bK E vs)).run P w= .ok () w'/\bV E h' K w'/\Kept K w w':=by
 unfold writeN at hw;split at hw
 . cases hw;exact⟨w,rfl,H,Kept.refl K w⟩
 . obtain⟨⟨cs,e,sz,ext,bk⟩,hc,hw⟩:=ay.1 hw;obtain⟨_,h1,hw⟩:=ay.1 hw;obtain⟨_,h2,hw⟩:=ay.1 hw;obtain⟨_,h3,hw⟩:=ay.1 hw
   cases hw;have hc:=je hc;have hro:bk≠ .ro/\bk≠ .cold:=by grind [eI]
   have hlen:off+vs.length<=cs.length:=Ak (eI.1 h2);have hone:=eI.1 h3;obtain⟨arr,fz,hh,⟨rest,harr⟩,hsz,hm⟩:=H.cells hc;have hasz:cs.length<=arr.size:=by
     have:=Aj List.length harr;simp at this;omega
   have hrun:=C6 (P:=P) (E.aC b) off e fz (bK E vs) 0 arr w hh (L4 hm hro) (by simp;omega)
     (by
      intro v hv;rw[qn]at hv;obtain⟨u,hu,rfl⟩:=AL.1 hv;exact Ld (AG.1 hone u hu))
   refine⟨_,hrun,H.put hc (by cases bk<;>simp_all[AO.ro]) ?_ (by cases bk<;>simp_all[AO.ro]),H.dZ hc (by cases bk<;>simp_all[AO.ro]) _⟩;refine⟨_,fz,rfl,⟨rest,?_⟩,?_,?_⟩
   . simp only[oA,BC,ey,vu,Fa,cE,harr];rw[Ee (by simp;omega),List.drop_append_of_le_length (by simp;omega)];simp
   . have e1:(arr.toList.take (off+0)++bK E vs++arr.toList.drop (off+0+(bK E vs).length)).length=arr.size:=by
      simp;omega
     cases ext with
     |true=>rw[Bb,e1];exact hsz
     |false=>
      rw[Bb,e1,hsz];simp[oA];omega
   . have e1:(arr.toList.take (off+0)++bK E vs++arr.toList.drop (off+0+(bK E vs).length)).length=arr.size:=by
      simp;omega
     rw[Bb,e1];exact hm
theorem VU (H:bV E h K w) {t:TypeId} {b off:Nat} {v:AV} {h':AH} (hs:storeVar tab h t b off v= .ok h'):
  ∃w',(Go.storeVar t ⟨E.aC b,off,none⟩ (ag E v)).run P w= .ok () w'/\bV E h' K w'/\Kept K w w':=by
 obtain⟨n,hn,hs⟩:=ay.1 hs;obtain⟨l,hl,hs⟩:=ay.1 hs;obtain⟨_,hc,hs⟩:=ay.1 hs;have hc:=Ag (eI.1 hc);obtain⟨w',hw,H',hk⟩:=xD (P:=P) H hs;refine⟨w',?_,H',hk⟩;unfold Go.storeVar;rw[Sem.run_bind,kS ok hn,Result.andThen_ok,pf hl];simp_all
omit ok in
theorem Vi {t:TypeId} {b off:Nat} {v:AV} {h':AH} (hs:storeVar tab h t b off v= .ok h'):h'.next=h.next:=by
 grind [storeVar,ay,xq]
omit ok in
theorem ju {e:TypeId} {cs:List AV} {ext:Bool} {bk:BK} {h':AH} {b:Nat} (hn:newRow tab h e cs ext bk= .ok (h',b)):
  ∃n,siz tab e= .ok n/\h'=h.new (.cells cs e n ext bk)/\b=h.next:=by
 grind [newRow,ay]
omit ok in
theorem Mk (H:bV E h K w) (hE:E.aC h.next=w.heap.size) (cs:List AV) (e:TypeId) (n:Nat):
  bV E (h.new (.cells cs e n false .rw)) K (w.alloc (.cells (bK E cs).toArray e))/\Kept K w (w.alloc (.cells (bK E cs).toArray e)):=
 ⟨H.new hE ⟨_,_,rfl,⟨[],by simp⟩,by simp,rfl⟩,Kept.alloc H.kb _⟩
omit ok in
theorem rm (e:TypeId) (cs:Array Value):(Go.newRow e cs).run P w= .ok ⟨w.heap.size,0,none⟩ (w.alloc (.cells cs e)):=by
 simp_all[Go.newRow]
omit ok in
theorem YM {v:AV} {k:IntKind} {n:Int} (ha:asInt v= .ok (k,n)):v= .int k n:=by
 cases v<;>simp only[asInt]at ha<;>cases ha
 rfl
omit ok in
theorem vF {v:AV} {n:Nat} (ha:asNat v= .ok n):∃k,v= .int k (n:Int):=by
 obtain⟨⟨k,m⟩,h1,ha⟩:=ay.1 ha
 cases m with
 |ofNat m=>cases ha;exact⟨k,YM h1⟩
 |negSucc m=>cases ha
omit ok in
theorem toList_mk (l:List UInt8):(⟨l.toArray⟩:ByteArray).toList=l:=by
 simp
omit ok in
theorem size_mk (l:List UInt8):(⟨l.toArray⟩:ByteArray).size=l.length:=rfl
omit ok in
theorem YH (l m:List UInt8):(⟨l.toArray⟩:ByteArray)++⟨m.toArray⟩=⟨(l++m).toArray⟩:=by
 apply ByteArray.ext;simp
omit ok in
theorem Yv {op:BinOp} {k:IntKind} {x y:Int} {v:AV} (hi:intOp op k x y= .ok v) (t:TypeId) (hs:op≠ .shl/\op≠ .shr):
  (Go.binOp op t (.int k x) (.int k y)).run P w= .ok (ag E v) w:=by
 cases op<;>simp only[intOp]at hi<;>(try (split at hi<;>try cases hi))<;>(try cases hi)<;>
  simp_all[Go.binOp,Op.intArith,Op.intDiv,Op.intBits,Op.intCmp,ag]
omit ok in
theorem LJ {op:BinOp} {k yk:IntKind} {x y:Int} {v:AV} (hi:shiftOp op k x y= .ok v):
   (Op.shift op k x yk y).run P w= .ok (ag E v) w:=by
 unfold shiftOp at hi;split at hi
 . cases hi
 . rename_i hy
   cases op<;>simp only at hi<;>cases hi<;>simp[Op.shift,hy,ag]
omit ok in
theorem Zh {op:BinOp} {x y:List UInt8} {v:AV} (hi:strOp op x y= .ok v):
   (Op.stringOp op ⟨x.toArray⟩ ⟨y.toArray⟩).run P w= .ok (ag E v) w:=by
 cases op<;>simp only[strOp]at hi<;>(try cases hi)<;>(try simp only[Op.stringOp,toList_mk,Sem.run_pure,ag])
 split at hi
 . cases hi;have:¬((((⟨x.toArray⟩:ByteArray).size+(⟨y.toArray⟩:ByteArray).size:Nat):Int)>IntKind.i64.max):=by
    rw[size_mk,size_mk];have:IntKind.i64.max=9223372036854775807:=by decide
    rw[this];omega
   grind [Sem.run_pure,YH,ag]
 grind
omit ok in
theorem qwi {op:UnOp} {x v:AV} (hu:unOp op x= .ok v):(Op.unary op (ag E x)).run P w= .ok (ag E v) w:=by
 cases op<;>cases x<;>simp only[unOp]at hu<;>cases hu<;>simp[Op.unary,ag,Op.intArith,Op.intBits]
end
end
section
variable [Inhabited aK]
section
variable {P:Program} {tab:bC} (ok:bZ P tab) {E:Env} {h:AH} {K:KS} {w:World}
include ok
theorem VA (d:Nat) (eq:TypeId->AV->AV->R Bool)
  (heq:∀t x y b,eq t x y= .ok b->∀w,(Op.equalIn d t (ag E x) (ag E y)).run P w= .ok b w) (xs ys:List AV):
  ∀(fs:List Field) (b:Bool),eqFields tab eq xs ys fs= .ok b->∀w,(Op.eqFields d (bK E xs).toArray (bK E ys).toArray fs).run P w= .ok b w:=by
 intro fs;induction fs with
 |nil=>intro b hb w;cases hb;rfl
 |cons f fs ih=>
  intro b hb w;simp only[eqFields]at hb;by_cases hn:f.name≠ "_"
  . rw[An hn]at hb;obtain⟨a,ha,hb⟩:=ay.1 hb;obtain⟨c,hc,hb⟩:=ay.1 hb;obtain⟨r,hr,hb⟩:=ay.1 hb;simp only[Op.eqFields,An hn,Sem.run_bind,yH ok ha,yH ok hc,heq _ _ _ _ hr,Result.andThen_ok]
    cases r with
    |true=>grind
    |false=>simp_all
  grind [Op.eqFields]
theorem rA:∀(d:Nat) (t:TypeId) (x y:AV) (b:Bool),eqT tab d t x y= .ok b->∀(k:Nat) (w:World),
    (Op.equalIn (d+k) t (ag E x) (ag E y)).run P w= .ok b w:=by
  intro d;induction d with
  |zero=>intro t x y b hb;cases hb
  | succ d ih=>
    intro t x y b hb k w;simp only[eqT]at hb;obtain⟨u,hu,hb⟩:=ay.1 hb;have hP:=ok.und t u (dx.1 hu);rw[show d+1+k=(d+k)+1 from by omega];have hagg:∀xs ys fs,x= .agg xs->y= .agg ys->u= .struct fs->tab.held.get t=some false->eqFields tab (eqT tab d) xs ys fs.toList= .ok b->
        (Op.equalIn (d+k+1) t (ag E x) (ag E y)).run P w= .ok b w:=by
      intro xs ys fs hx hy hu' hheld hb2;subst hx hy hu';have hf:P.fieldsOf t=fs:=by grind [Program.fieldsOf]
      simp only[ag];rw[run_equalIn_struct w (d+k) t _ _ (by rw[hf];exact hP) (ok.held t false hheld),hf];exact VA ok (d+k) (eqT tab d) (fun t x y b h w=>ih t x y b h k w) xs ys fs.toList b hb2 w
    split at hb
    case h_22=>
      split at hb
      . exact hagg _ _ _ rfl rfl rfl (by assumption) hb
      . cases hb
    all_goals
      clear hagg ih;simp only[Op.equalIn,underlying,Sem.run_bind,run_program,Result.andThen_ok,hP,Sem.run_pure,ag]
    all_goals
      first
      |(cases hb;done)
      |(cases hb;rfl)
      | (split at hb
         all_goals simp_all)
      |grind [beq_toListBytes,toList_mk]
omit ok in
theorem NH {d:Nat} (t:TypeId) (v:Value) (y:AV) (b:Bool) (hb:eqT tab (d+1) t (.raw v) y= .ok b):(∃a,v= .pointer (some a))/\y= .bq:=by
 grind [eqT,ay]
omit ok in
theorem NI {d:Nat} (t:TypeId) (v:Value) (x:AV) (b:Bool) (hb:eqT tab (d+1) t x (.raw v)= .ok b):(∃a,v= .pointer (some a))/\x= .bq:=by
 obtain⟨u,hu,hb⟩:=ay.1 hb;split at hb<;>first|(cases hb;done)|simp_all
omit ok in
theorem yb (H:bV E h K w) {b:Nat} {cs:List AV} {e:TypeId} {sz:Nat} {ext:Bool} (hc:h.get b=some (.cells cs e sz ext .rw)) (i:Nat):
  w.frozen? ⟨E.aC b,i,none⟩=false:=by
 obtain⟨arr,fz,h1,_,_,hm⟩:=H.cells hc;grind [marks,World.frozen?]
omit ok in
theorem yi (H:bV E h K w) {b:Nat} {cs:List AV} {e:TypeId} {sz:Nat} {ext:Bool} {bk:BK} (hc:h.get b=some (.cells cs e sz ext bk)):
  ∃n,w.shape? (E.aC b)=some (e,n):=by
 obtain⟨arr,fz,h1,_⟩:=H.cells hc;simp_all[World.shape?]
omit ok in
theorem xK (H:bV E h K w) {b:Nat} {cs:List AV} {e:TypeId} {sz:Nat} {ext:Bool} {bk:BK} (hc:h.get b=some (.cells cs e sz ext bk)) (i:Nat):
  (noView ⟨E.aC b,i,none⟩).run P w= .ok () w:=by
 obtain⟨n,hn⟩:=yi H hc;simp[noView,viewAt,hn]
omit ok in
theorem Ll (H:bV E h K w) {b:Nat} {cs:List AV} {e:TypeId} {sz:Nat} {ext:Bool} (hc:h.get b=some (.cells cs e sz ext .rw)) (i:Nat):
  (stringish ⟨E.aC b,i,none⟩).run P w= .ok false w:=by
 obtain⟨n,hn⟩:=yi H hc;simp[stringish,hn,yb H hc]
omit ok in
theorem Lc (H:bV E h K w) {b b':Nat} {cs cs':List AV} {e e':TypeId} {sz sz':Nat} {ext ext':Bool}
  (hc:h.get b=some (.cells cs e sz ext .rw)) (hc':h.get b'=some (.cells cs' e' sz' ext' .rw)) (i i':Nat):
  (mayBeOne ⟨E.aC b,i,none⟩ ⟨E.aC b',i',none⟩).run P w= .ok false w:=by
 obtain⟨n,hn⟩:=yi H hc;obtain⟨n',hn'⟩:=yi H hc';simp[mayBeOne,Ll H hc,Ll H hc',hn']
theorem NG (H:bV E h K w) {t:TypeId} {x y:AV} {b:Bool} (hb:eqOp tab h t x y= .ok b):
   (Op.equal t (ag E x) (ag E y)).run P w= .ok b w/\
   (∀op ox oy,(op= .eql\/op= .neq)->(eqGuard op t ox oy (ag E x) (ag E y)).run P w= .ok () w):=by
 unfold eqOp at hb;split at hb
 . rename_i a i c j;obtain⟨u,hu,hb⟩:=ay.1 hb;have hP:=ok.und t u (dx.1 hu);split at hb
   . obtain⟨n,hn,hb⟩:=ay.1 hb;obtain⟨_,hz,hb⟩:=ay.1 hb;have hz:=eI.1 hz;have hn0:n≠0:=by
       rintro rfl;simp at hz
     refine⟨?_,fun op ox oy ho=>by rcases ho with rfl|rfl<;>simp[eqGuard,ag]⟩;have hstep:(Op.equal t (ag E (.ptr a i)) (ag E (.ptr c j))).run P w=(sameAddr ⟨E.aC a,i,none⟩ ⟨E.aC c,j,none⟩).run P w:=by
       have key:∀n,(Op.equalIn (n+1) t (ag E (.ptr a i)) (ag E (.ptr c j))).run P w=(sameAddr ⟨E.aC a,i,none⟩ ⟨E.aC c,j,none⟩).run P w:=by
         intro n;simp only[Op.equalIn,underlying,Sem.run_bind,run_program,Result.andThen_ok,hP,Sem.run_pure,ag,kS ok hn,Ec,hn0,not_false_eq_true,BB]
       exact key 9999
     rw[hstep];by_cases hac:Nat.beq a c=true
     . rw[An hac]at hb
       cases hb;have:=Ag hac;subst this;simp only[sameAddr,D9,BB,Sem.run_pure];congr 1
       rw[Az];simp_all
     . rw[Al hac]at hb;split at hb
       . rename_i h1 h2
         cases hb;have hne:E.aC a≠E.aC c:=fun e'=>hac (by rw[H.inj a c _ _ h1 h2 (by simp[AO.ro]) e'];simp_all)
         simp[sameAddr,hne,yb H h1,xK H h1,xK H h2,Lc H h1 h2]
       grind
   grind
 . split at hb
   . rename_i hg;refine⟨?_,fun op ox oy ho=>?_⟩
     . have:=rA ok (E:=E) 8 t _ _ b hb 9992 w;exact this
     . exact run_eqGuard_agg w op t ox oy _ _ (ok.lX t false hg)
   grind
 . cases hb
 . refine⟨rA ok (E:=E) 8 t _ _ b hb 9992 w,fun op ox oy ho=>?_⟩;have hrx:∀v,x= .raw v->∃a,v= .pointer (some a):=by
     grind [NH]
   have hry:∀v,y= .raw v->∃a,v= .pointer (some a):=by
     grind [NI]
   have hne:∀cs,ag E x= .agg cs->∀ds,ag E y= .agg ds->False:=by
     intro cs hx ds hy
     cases x<;>simp only[ag]at hx<;>(try cases hx)
     . cases y<;>simp only[ag]at hy<;>(try cases hy)
       all_goals grind
     grind
   have hni:ag E x= .nilIface->ag E y= .nilIface->False:=by
     intro hx hy
     cases x<;>simp only[ag]at hx<;>(try cases hx)
     . cases y<;>simp only[ag]at hy<;>(try cases hy)
       all_goals grind
     grind
   rcases ho with rfl|rfl<;>(unfold eqGuard;split)
   all_goals simp_all
omit ok in
theorem FH (op:BinOp) (t:TypeId) (ox oy:Operand) (k j:IntKind) (a b:Int):(eqGuard op t ox oy (.int k a) (.int j b)).run P w= .ok () w:=by
 cases op<;>simp[eqGuard]
omit ok in
theorem Yt (op:BinOp) (t:TypeId) (ox oy:Operand) (a b:ByteArray):(eqGuard op t ox oy (.string a) (.string b)).run P w= .ok () w:=by
 cases op<;>simp[eqGuard]
omit ok in
theorem yy {t:TypeId} {x y:AV} {b:Bool} (hb:eqOp tab h t x y= .ok b):(∀v,x= .raw v->∃a,v= .pointer (some a))/\(∀v,y= .raw v->∃a,v= .pointer (some a)):=by
 grind [eqOp,NH,NI]
omit ok in
theorem LS {x:AV} (hx:∀v,x= .raw v->∃a,v= .pointer (some a)):(∀k b,ag E x≠ .float k b)/\(∀k a b,ag E x≠ .complex k a b)/\
  (∀k a,ag E x= .int k a->x= .int k a)/\(∀s,ag E x= .string s->∃l,x= .str l):=by
 cases x
 all_goals grind [ag]
omit ok in
theorem Lq (t:TypeId) (x y:AV) (hi:∀k j a b,x= .int k a->y= .int j b->False) (hs:∀a b,x= .str a->y= .str b->False)
   (hx:∀v,x= .raw v->∃a,v= .pointer (some a)) (hy:∀v,y= .raw v->∃a,v= .pointer (some a)):
   Go.binOp .eql t (ag E x) (ag E y)=(do pure (.bool (<-Op.equal t (ag E x) (ag E y))))/\
   Go.binOp .neq t (ag E x) (ag E y)=(do pure (.bool (!(<-Op.equal t (ag E x) (ag E y))))):=by
 obtain⟨x1,x2,x3,x4⟩:=LS (E:=E) hx;obtain⟨y1,y2,y3,y4⟩:=LS (E:=E) hy;generalize ag E x=X at*
 generalize ag E y=Y at*
 constructor
 . unfold Go.binOp;split<;>simp_all
   all_goals grind
 . unfold Go.binOp;split<;>simp_all
   all_goals grind
theorem X9 (H:bV E h K w) {op:BinOp} {t:TypeId} {x y v:AV} (hb:binOp tab h op t x y= .ok v) (ox oy:Operand):
   (do eqGuard op t ox oy (ag E x) (ag E y);Go.binOp op t (ag E x) (ag E y)).run P w= .ok (ag E v) w:=by
 unfold binOp at hb;split at hb
 . simp only[ag];rw[Sem.run_bind,FH];exact LJ (yk:= .i64) hb
 . simp only[ag];rw[Sem.run_bind,FH];exact LJ (yk:= .i64) hb
 . rename_i hs1 hs2;split at hb
   . rename_i e;subst e;simp only[ag];rw[Sem.run_bind,FH];exact Yv hb t ⟨fun e=>hs1 e,fun e=>hs2 e⟩
   grind
 . simp only[ag];rw[Sem.run_bind,Yt]
   cases op<;>exact Zh (P:=P) hb
 . obtain⟨b,hb',hb⟩:=ay.1 hb
   cases hb;obtain⟨h1,h2⟩:=NG ok H hb';rw[Sem.run_bind,h2 .eql ox oy (.inl rfl),Result.andThen_ok];rw[(Lq (E:=E) t x y (fun k j a b e1 e2=>by grind) (fun a b e1 e2=>by grind) (yy hb').1 (yy hb').2).1,Sem.run_bind,h1];simp[ag]
 . obtain⟨b,hb',hb⟩:=ay.1 hb
   cases hb;obtain⟨h1,h2⟩:=NG ok H hb';rw[Sem.run_bind,h2 .neq ox oy (.inr rfl),Result.andThen_ok];rw[(Lq (E:=E) t x y (fun k j a b e1 e2=>by grind) (fun a b e1 e2=>by grind) (yy hb').1 (yy hb').2).2,Sem.run_bind,h1];simp[ag]
 grind
end
end
section
variable [Inhabited aK]
def iX (n:Nat) (l:List Value):List Value:=
 match n with
 |0=>[]
 |n+1=>l++iX n l
theorem xY (E:Env) (n:Nat) (l:List AV):bK E (rep n l)=iX n (bK E l):=by
 induction n with
 |zero=>rfl
 |succ n ih=>simp[rep,iX,ih]
theorem E3 (n:Nat) (l:List Value):(iX n l).length=n*l.length:=by
 induction n with
 |zero=>simp[iX]
 |succ n ih=>grind [iX]
theorem Pt (c:Nat) (l:List Value) (k:Nat) (hk:l.length=k) (h0:0<k):
  (List.range (c*k)).map (fun i=>l.toArray[i % k]!)=iX c l:=by
 induction c with
 |zero=>simp[iX]
 |succ c ih=>
  rw[show(c+1)*k=k+c*k from by rw[Bi];omega,List.range_add,BE,Dv];congr 1
  . grind [List.ext_getElem,List.length_map,Nat.mod_eq_of_lt]
  simp_all[BQ]
theorem Lf (n:Nat) (l:List Value) (h0:0<l.length):Builtin.zeroCells l.toArray n=(iX n l).toArray:=by
 grind [Builtin.zeroCells,Array.toList_range,Pt]
theorem Vu (n:Nat) (l:List Value) (h0:0<l.length):madeCells l.toArray (n*l.length)=(iX n l).toArray:=by
 unfold madeCells;apply Array.ext';rw[Array.toList_map,Array.toList_range];exact Pt n l l.length rfl h0
def vP (cs:List Value) (off:Nat) (vs:List Value):List Value:=cs.take off++(vs++cs.drop (off+vs.length))
theorem Vc (E:Env) (cs:List AV) (off:Nat) (vs:List AV):bK E (oA cs off vs)=vP (bK E cs) off (bK E vs):=by
 simp[oA,vP,vu,Fa]
theorem Zp (off:Nat):∀(vs:List Value) (j:Nat) (cs:Array Value),off+j+vs.length<=cs.size->
  ((vs.zipIdx j).foldl (fun cs (x:Value×Nat)=>cs.setIfInBounds (off+x.2) x.1) cs)=(vP cs.toList (off+j) vs).toArray:=by
 intro vs;induction vs with
 |nil=>simp_all[vP]
 |cons v vs ih=>
  intro j cs h;simp only[List.zipIdx_cons,Bo];rw[ih (j+1) _ (by grind)];have:=list_seg_step cs.toList (off+j) v vs (by omega);simp only[vP,Em,AW];rw[show off+(j+1)=off+j+1 from by omega];rw[<-BP,this];simp
section
variable {P:Program} {tab:bC} (ok:bZ P tab) {E:Env} {h:AH} {K:KS} {w:World}
theorem Gk {place:Nat->Option (Nat×Nat)}:∀(ps:List (Nat×AV)) (qs:List (Nat×Nat×AV)) (cs out:List AV),
  (ps.length=qs.length/\ ∀i,i<ps.length->∀p q,ps[i]? =some p->qs[i]? =some q->place p.1=some (q.1,q.2.1)/\p.2=q.2.2)->
  fill cs qs= .ok out->Instr.fill place (bK E cs).toArray (ps.map fun p=>(p.1,ag E p.2))=some (bK E out).toArray:=by
 intro ps;induction ps with
 |nil=>
  intro qs cs out hq hf;have:qs=[]:=Ay hq.1.symm;subst this
  cases hf;rfl
 | cons p ps ih=>
  intro qs cs out hq hf
  cases qs with
  |nil=>grind
  | cons q qs=>
   obtain⟨off,n,v⟩:=q;obtain⟨l,hl,hf⟩:=ay.1 hf;obtain⟨_,hc,hf⟩:=ay.1 hf;have hc:=eI.1 hc;rw[Ad]at hc;have hc1:=Ag hc.1;have hc2:=Ak hc.2;obtain⟨h1,h2⟩:=hq.2 0 (by simp) p (off,n,v) rfl rfl;simp only[A0,Instr.fill,h1,h2,pf hl];rw[Al (by simp[hc1];omega)];have hz:(bK E l).toArray.zipIdx.foldl (fun cs (x:Value×Nat)=>cs.setIfInBounds (off+x.2) x.1) (bK E cs).toArray=(bK E (oA cs off l)).toArray:=by
    have:=Zp off (bK E l) 0 (bK E cs).toArray (by simp_all);rw[Vc,<-Array.foldl_toList];grind
   rw[hz];refine ih qs _ out ⟨by simpa using hq.1,fun i hi p' q' hp' hq'=>?_⟩ hf;exact hq.2 (i+1) (by simpa using hi) p' q' (by simpa using hp') (by grind)
include ok
theorem U8 {fs:Array Field}:∀(ps:List (Nat×AV)) (qs:List (Nat×Nat×AV)),sP tab fs ps= .ok qs->
  (ps.length=qs.length/\ ∀i,i<ps.length->∀p q,ps[i]? =some p->qs[i]? =some q->
   (∃f i,fs[p.1]? =some f/\P.info? f.type=some i/\q.1=f.offset/\q.2.1=i.size)/\p.2=q.2.2):=by
 intro ps;induction ps with
 |nil=>grind [sP]
 | cons p ps ih=>
  intro qs hq;obtain⟨i,v⟩:=p;obtain⟨f,hf,hq⟩:=ay.1 hq;obtain⟨n,hn,hq⟩:=ay.1 hq;obtain⟨r,hr,hq⟩:=ay.1 hq
  cases hq;obtain⟨h1,h2⟩:=ih r hr;refine⟨by grind,fun j hj p q hp hq=>?_⟩
  cases j with
  |zero=>
   obtain⟨x,hx,rfl⟩:=ok.siz _ _ (dx.1 hn);grind [dx]
  |succ j=>exact h2 j (by simpa using hj) p q (by simpa using hp) (by simpa using hq)
theorem VY:∀(l:List Field),(∀f∈l,(tab.siz.get f.type).isSome=true)->
  ∃ps:List (Nat×Nat),l.mapM (fun(f:Field)=>(P.info? f.type).map fun i=>(f.offset,i.size))=some ps/\
   ∀(i:Nat) (f:Field) (x:TypeInfo),l[i]? =some f->P.info? f.type=some x->ps[i]? =some (f.offset,x.size):=by
 intro l;induction l with
 |nil=>simp_all
 |cons f l ih=>
  intro hl;obtain⟨ps,h1,h2⟩:=ih (fun f hf=>hl f (by grind));obtain⟨n,hn⟩:=Bz.1 (hl f (by simp));obtain⟨x,hx,rfl⟩:=ok.siz _ _ hn;refine⟨(f.offset,x.size)::ps,?_,?_⟩
  all_goals grind
theorem Ya {t:TypeId} {ps:List (Nat×AV)} {v:AV} (hb:build tab t ps= .ok v):
   (Instr.build t (ps.map fun p=>(p.1,ag E p.2)).toArray).run P w= .ok (ag E v) w:=by
 obtain⟨z,hz,hb⟩:=ay.1 hb;obtain⟨zc,hzc,hb⟩:=ay.1 hb;obtain⟨u,hu,hb⟩:=ay.1 hb;have hP:=ok.und t u (dx.1 hu);obtain⟨it,hit,hiz⟩:=ok.mg t z (dx.1 hz);split at hb
 . rename_i fs;obtain⟨_,hs,hb⟩:=ay.1 hb;obtain⟨qs,hq,hb⟩:=ay.1 hb;obtain⟨cs,hc,hb⟩:=ay.1 hb
   cases hb;have hs:=eI.1 hs;obtain⟨pl,hp1,hp2⟩:=VY ok fs.toList (fun f hf=>AG.1 hs f hf);obtain⟨hl,hq⟩:=U8 ok ps qs hq;have hfill:=Gk (E:=E) (place:=fun i=>pl[i]?) ps qs zc cs ⟨hl,fun i hi p q hp hq'=>by
    grind⟩ hc
   have hbuilt:P.built t (ps.map fun p=>(p.1,ag E p.2))=some (bK E cs).toArray:=by
    unfold Program.built;simp only[hit,hP,hiz E,hp1,pf hzc];grind
   exact run_build w t _ _ (by omega)
 . obtain⟨n,hn,hb⟩:=ay.1 hb;obtain⟨cs,hc,hb⟩:=ay.1 hb
   cases hb;obtain⟨ie,hie,rfl⟩:=ok.siz _ _ (dx.1 hn);have hfill:=Gk (E:=E) (place:=fun i=>some (i*ie.size,ie.size)) ps _ zc cs ⟨by simp,fun i hi p q hp hq=>by
    rw[AI,hp]at hq;grind⟩ hc
   have hbuilt:P.built t (ps.map fun p=>(p.1,ag E p.2))=some (bK E cs).toArray:=by
    unfold Program.built;simp only[hit,hP,hiz E,hie,pf hzc];omega
   exact run_build w t _ _ (by omega)
 grind
theorem U5 (H:bV E h K w) {t:TypeId} {len:Nat} {ps:List (Nat×AV)} {v:AV} {h':AH} (hb:buildSlice tab h t len ps= .ok (v,h'))
   (hE:E.aC h.next=w.heap.size):
   h'.next=h.next+1/\ ∃w',(Instr.buildSlice t len (ps.map fun p=>(p.1,ag E p.2)).toArray).run P w= .ok (ag E v) w'/\bV E h' K w'/\Kept K w w':=by
 obtain⟨u,hu,hb⟩:=ay.1 hb;have hP:=ok.und t u (dx.1 hu);split at hb
 . rename_i e;obtain⟨n,hn,hb⟩:=ay.1 hb;obtain⟨_,hc,hb⟩:=ay.1 hb;obtain⟨z,hz,hb⟩:=ay.1 hb;obtain⟨zc,hzc,hb⟩:=ay.1 hb;obtain⟨_,hzl,hb⟩:=ay.1 hb;obtain⟨cs,hf,hb⟩:=ay.1 hb;obtain⟨⟨h1,b⟩,hr,hb⟩:=ay.1 hb
   cases hb;have hc:=Ak (eI.1 hc);have hzl:=Ag (eI.1 hzl);obtain⟨n',_,rfl,rfl⟩:=ju hr;have hfill:=Gk (E:=E) (place:=fun i=>some (i*n,n)) ps _ (rep len zc) cs ⟨by simp,fun i hi p q hp hq=>by
     rw[AI,hp]at hq;grind⟩ hf
   have hmade:((Array.range (len*n)).map fun i=>(if len*n=0 then #[]else(bK E zc).toArray)[i % (if len*n=0 then #[]else(bK E zc).toArray).size]!)=(bK E (rep len zc)).toArray:=by
     rw[xY];by_cases h0:len*n=0
     . rw[h0];have:iX len (bK E zc)=[]:=Ay (by rw[E3,cE,hzl];exact h0);grind
     . simp only[Al h0];have hn0:0<n:=Nat.pos_of_ne_zero (fun e=>h0 (by rw[e];simp));have:=Vu len (bK E zc) (by rw[cE,hzl];omega);rw[cE,hzl]at this;exact this
   obtain⟨H',hk⟩:=Mk H hE cs e n';refine⟨rfl,_,?_,H',hk⟩;unfold Instr.buildSlice;simp only[Sem.run_bind,underlying,run_program,Result.andThen_ok,hP,Sem.run_pure,kS ok hn];rw[Al (by omega)];by_cases h0:len*n=0
   . grind [Sem.run_bind,Sem.run_pure,Result.andThen_ok,rm,ag,gV.val]
   . simp only[Al h0]at hmade⊢;simp only[Sem.run_bind,vU ok hz E,Sem.run_pure,Result.andThen_ok,pf hzc];rw[hmade,hfill];grind [Sem.run_bind,rm,Result.andThen_ok,Sem.run_pure,ag,gV.val]
 grind
theorem Vq (H:bV E h K w) {t:TypeId} {len cap v:AV} {h':AH} (hb:makeSlice tab h t len cap= .ok (v,h')) (hE:E.aC h.next=w.heap.size):
  h'.next=h.next+1/\ ∃w',(Instr.makeSlice t (ag E len) (ag E cap)).run P w= .ok (ag E v) w'/\bV E h' K w'/\Kept K w w':=by
 simp[makeSlice]at hb
end
end
section
variable [Inhabited aK]
section
variable {P:Program} {tab:bC} (ok:bZ P tab) {E:Env} {h:AH} {K:KS} {w:World}
def gL (o:Option Value) (d n:Nat):Prop:=
 match o with
 |none=>n=d
 |some v=>∃k,v= .int k (n:Int)
theorem u7 (k:IntKind) (n y:Nat) (code:BoundsCode) (hn:n<=y):(Instr.sliceBound (.int k (n:Int)) y code).run P w= .ok n w:=by
 have:=run_sliceBound (P:=P) w k (n:Int) y code (by omega) (by omega);grind
theorem u9 {isSlice:Bool} {len cap l u m:Nat} {lo hi mx:Option Value} (hl:gL lo 0 l) (hu:gL hi len u) (hm:gL mx cap m)
  (hs:mx=none\/ ∃v,hi=some v) (h1:l<=u) (h2:u<=m) (h3:m<=cap):(Instr.sliceBounds isSlice len cap lo hi mx).run P w= .ok (l,u,m) w:=by
 unfold Instr.sliceBounds
 cases mx with
 | none=>
  simp only[gL]at hm
  cases hi with
  |none=>
   simp only[gL]at hu
   cases lo with
   |none=>simp_all[gL]
   |some v=>obtain⟨k,rfl⟩:=hl;simp_all[u7]
  |some v=>
   obtain⟨k,rfl⟩:=hu
   cases lo with
   |none=>simp_all[gL,u7]
   |some v=>obtain⟨k',rfl⟩:=hl;simp_all[u7]
 |some v=>
  obtain⟨km,rfl⟩:=hm;obtain⟨v',rfl⟩:=hs.resolve_left (by simp);obtain⟨k,rfl⟩:=hu
  cases lo with
  |none=>simp_all[gL,u7]
  |some v=>obtain⟨k',rfl⟩:=hl;simp_all[u7]
theorem mz {ts:T AV} {ρ:Operand->Value} (hρ:∀x v,ev ts x= .ok v->ρ x=ag E v) {d:R Nat} {dn:Nat} (hd:d= .ok dn) {o:Option Operand} {n:Nat}
  (hn:gh ts d o= .ok n):gL (o.map ρ) dn n:=by
 cases o with
 |none=>rw[hd]at hn;cases hn;exact rfl
 |some x=>
  obtain⟨v,hv,hn⟩:=ay.1 hn;obtain⟨k,rfl⟩:=vF hn;exact⟨k,by rw[hρ x _ hv];rfl⟩
theorem extract_mk (s:List UInt8) (l u:Nat):(⟨s.toArray⟩:ByteArray).extract l u=⟨((s.drop l).take (u - l)).toArray⟩:=by
 apply ByteArray.ext;simp_all
theorem MM (H:bV E h K w) {b c:Nat} {cap:gV} (hc:capLow h b cap= .ok c):c<=cap.val (E.cap b):=by
 cases cap with
 |lit n=>cases hc;exact Ac _
 | tail k=>
  obtain⟨⟨cs,e,sz,ext,bk⟩,h1,hc⟩:=ay.1 hc;obtain⟨_,h2,hc⟩:=ay.1 hc
  cases hc;have h2:=eI.1 h2;simp only[Ad]at h2;obtain⟨hx,hz⟩:=h2;have hz0:0<sz:=Nat.pos_of_ne_zero (by rintro rfl;simp_all);obtain⟨arr,fz,_,⟨rest,harr⟩,hsz,_⟩:=H.cells (je h1);rw[An hx]at hsz;have hl:=Aj List.length harr;simp at hl;have:cs.length / sz<=E.cap b:=by
   rw[Nat.div_le_iff_le_mul_add_pred hz0];have:cs.length<=E.cap b*sz:=by omega
   rw[Nat.mul_comm]at this;omega
  show cs.length / sz - k<=E.cap b - k
  omega
include ok
theorem V8 (H:bV E h K w) {ts:T AV} {ρ:Operand->Value} (hρ:∀x v,ev ts x= .ok v->ρ x=ag E v) {t:TypeId} {x v:AV} {h':AH} {lo hi mx:Option Operand}
   (hs:ke tab ts h t x lo hi mx= .ok (v,h')):
   h'=h/\(Instr.sliceAt t (ag E x) (lo.map ρ) (hi.map ρ) (mx.map ρ)).run P w= .ok (ag E v) w:=by
 unfold ke at hs;obtain⟨d,hd,hs⟩:=ay.1 hs;have hP:=ok.und t d (dx.1 hd);split at hs
 . rename_i s _;obtain⟨_,hm,hs⟩:=ay.1 hs;obtain⟨l,hl,hs⟩:=ay.1 hs;obtain⟨u,hu,hs⟩:=ay.1 hs;obtain⟨_,hb,hs⟩:=ay.1 hs
   cases hs;have hm:=eI.1 hm
   cases mx with
   |some x=>grind
   | none=>
     have hb:=eI.1 hb;rw[Ad]at hb;have hb1:=Ak hb.1;have hb2:=Ak hb.2;refine⟨rfl,?_⟩;rw[run_sliceAt_string (P:=P) w t _ _ _ _ hP];unfold Instr.slice;simp only[Sem.run_bind,underlying,run_program,Result.andThen_ok,hP,Sem.run_pure,ag,BW,DT,Ax,Bc,size_mk];rw[u9 (mz hρ rfl hl) (mz hρ rfl hu) (show gL none s.length s.length from rfl) (.inl rfl) hb1 hb2 (Ac _)];simp[extract_mk]
 . rename_i e _;have hel:P.elem t=e:=by grind [Program.elem]
   obtain⟨n,hn,hs⟩:=ay.1 hs;obtain⟨l,hl,hs⟩:=ay.1 hs;obtain⟨u,hu,hs⟩:=ay.1 hs;obtain⟨m,hm,hs⟩:=ay.1 hs;obtain⟨_,hb,hs⟩:=ay.1 hs
   cases hs;have hb:=eI.1 hb;simp only[Ad,BX]at hb;have hb1:=Ag hb.1.1.1;have hb2:=Ag hb.1.1.2;have hb3:=Ag hb.1.2;subst hb1 hb2 hb3;refine⟨rfl,?_⟩;have hmx:mx.map ρ=none\/ ∃v,hi.map ρ=some v:=by
     rcases hb.2 with h|h
     . simp_all
     . right;cases hi<;>simp_all
   rw[run_sliceAt_slice (P:=P) w t _ _ _ _ (by rw[hel];exact hP)];simp only[ag];rw[run_slice_any (P:=P) w t none 0 0 (by rw[hel];exact hP),hel,
     u9 (mz hρ rfl hl) (mz hρ rfl hu) (mz hρ rfl hm) hmx (Ac _) (Ac _) (Ac _),Result.andThen_ok,kS ok hn]
   simp[sliced]
 . rename_i e b off len cap _;have hel:P.elem t=e:=by grind [Program.elem]
   obtain⟨c,hc,hs⟩:=ay.1 hs;obtain⟨n,hn,hs⟩:=ay.1 hs;obtain⟨l,hl,hs⟩:=ay.1 hs;obtain⟨u,hu,hs⟩:=ay.1 hs;have hcap:=MM H hc;have hgo:∀m,gL (mx.map ρ) (cap.val (E.cap b)) m->(mx.map ρ=none\/ ∃v,hi.map ρ=some v)->l<=u->u<=m->m<=cap.val (E.cap b)->
       (Instr.sliceAt t (ag E (.sl b off len cap)) (lo.map ρ) (hi.map ρ) (mx.map ρ)).run P w=
        .ok (.slice (some ⟨E.aC b,if m=l then off else off+l*n,none⟩) (u - l) (m - l)) w:=by
     intro m hm hmx h1 h2 h3;rw[run_sliceAt_slice (P:=P) w t _ _ _ _ (by rw[hel];exact hP)];simp only[ag];rw[run_slice_any (P:=P) w t _ _ _ (by rw[hel];exact hP),hel,
       u9 (mz hρ rfl hl) (mz hρ rfl hu) hm hmx h1 h2 h3,Result.andThen_ok,kS ok hn,Result.andThen_ok]
     grind [sliced,add_lit]
   split at hs
   . obtain⟨m,hm,hs⟩:=ay.1 hs;obtain⟨_,hb,hs⟩:=ay.1 hs
     cases hs;have hb:=eI.1 hb;simp only[Ad]at hb;have hb1:=Ak hb.1.1.1;have hb2:=Ak hb.1.1.2;have hb3:=Ak hb.1.2;refine⟨rfl,?_⟩;have hm':gL (Option.map ρ (some ‹Operand›)) (cap.val (E.cap b)) m:=by
       have:=mz hρ rfl hm;exact this
     rw[hgo m hm' (.inr (by cases hi<;>simp_all)) hb1 hb2 (by omega)];simp only[ag,gV.val];by_cases e:m=l
     . simp[e]
     grind [Nat.eq_of_beq_eq_true]
   . cases cap with
     | lit m=>
       obtain⟨_,hb,hs⟩:=ay.1 hs
       cases hs;have hb:=eI.1 hb;simp only[Ad]at hb;have hb1:=Ak hb.1;have hb2:=Ak hb.2;refine⟨rfl,?_⟩;rw[hgo m rfl (.inl rfl) hb1 hb2 (Ac _)];simp only[ag,gV.val];simp_all
     | tail k=>
       obtain⟨_,hb,hs⟩:=ay.1 hs;have hb:=eI.1 hb;simp only[Ad]at hb;have hb1:=Ak hb.1;have hb2:=Ak hb.2;have hcap':c<=E.cap b - k:=hcap;have hgo':=hgo (E.cap b - k) rfl (.inl rfl) hb1 (by omega) (Ac _);grind [Nat.eq_of_beq_eq_true,ag,gV.val,Nat.blt,Nat.le_of_ble_eq_true,Nat.ble_eq_true_of_le]
 . rename_i e a c _;have hel:P.elem t=e:=by grind [Program.elem]
   obtain⟨n,hn,hs⟩:=ay.1 hs;obtain⟨l,hl,hs⟩:=ay.1 hs;obtain⟨u,hu,hs⟩:=ay.1 hs;obtain⟨_,hb,hs⟩:=ay.1 hs
   cases hs;have hb:=eI.1 hb;simp only[Ad]at hb;have hb1:=Ag hb.1.1;have hb2:=Ag hb.1.2;subst hb1 hb2;have hm:mx=none:=by cases mx<;>simp_all
   subst hm;refine⟨rfl,?_⟩;rw[run_sliceAt_slice (P:=P) w t _ _ _ _ (by rw[hel];exact hP)];simp only[ag];rw[run_slice_any (P:=P) w t _ _ _ (by rw[hel];exact hP),hel,
     u9 (mz hρ rfl hl) (mz hρ rfl hu) (show gL (Option.map ρ (none:Option Operand)) c c from rfl) (.inl rfl) (Ac _) (Ao _) (Ac _),Result.andThen_ok,kS ok hn]
   cases a<;>simp[sliced,Addr.add]
 . rename_i e b off l0 n0 k _;have hel:P.elem t=e:=by grind [Program.elem]
   obtain⟨n,hn,hs⟩:=ay.1 hs;obtain⟨l,hl,hs⟩:=ay.1 hs;obtain⟨u,hu,hs⟩:=ay.1 hs;obtain⟨_,hb,hs⟩:=ay.1 hs
   cases hs;have hb:=eI.1 hb;simp only[Ad]at hb;have hb1:=Ag hb.1.1;have hb2:=Ag hb.1.2;subst hb1 hb2;have hm:mx=none:=by cases mx<;>simp_all
   subst hm;refine⟨rfl,?_⟩;rw[run_sliceAt_slice (P:=P) w t _ _ _ _ (by rw[hel];exact hP)];simp only[ag];rw[run_slice_any (P:=P) w t _ _ _ (by rw[hel];exact hP),hel,
     u9 (mz hρ rfl hl) (mz hρ rfl hu) (show gL (Option.map ρ (none:Option Operand)) (E.cap b - k - l0) (E.cap b - k - l0)from rfl) (.inl rfl) (Ac _) (Ao _) (Ac _),Result.andThen_ok,kS ok hn]
   simp[sliced,Addr.add]
 grind
end
end
section
variable [Inhabited aK]
section
variable {P:Program} {tab:bC} (ok:bZ P tab) {E:Env} {h:AH} {K:KS} {w:World}
theorem KW (E:Env) (s:List UInt8):bK E (ofBytes s)=s.map fun b=>Value.int .u8 b.toNat:=by
 simp only[ofBytes,qn,Dv];rfl
theorem vt {cs:List AV} {s:List UInt8} (hb:bytesOf cs= .ok s):
  ∃ns:List Int,bK E cs=ns.map (Value.int .u8)/\ns.map (fun n=>UInt8.ofNat n.toNat)=s:=by
 induction cs generalizing s with
 |nil=>simp only[bytesOf]at hb;simp_all
 |cons c cs ih=>
  unfold bytesOf at hb;split at hb
  . grind
  . rename_i n l e
    cases e;obtain⟨r,hr,hb⟩:=ay.1 hb
    cases hb;obtain⟨ns,h1,h2⟩:=ih hr;exact⟨(n:Int)::ns,by simp[h1,ag],by grind⟩
  grind
def zr:AV->Nat
 | .str s=>s.length
 |_=>0
theorem foldl_push (ns:List Int):∀(r:List UInt8),ns.foldl (fun(r:ByteArray) n=>r.push (UInt8.ofNat n.toNat)) ⟨r.toArray⟩=⟨(r++ns.map fun n=>UInt8.ofNat n.toNat).toArray⟩:=by
 induction ns with
 |nil=>grind
 |cons n ns ih=>
  simp_all
theorem V6 (w:World) (arr:Array Value) (e:TypeId) (fz:Nat×Nat):(w.alloc (.cells arr e fz)).shape? w.heap.size=some (e,arr.size):=by
 grind [World.shape?,heap_alloc_new]
theorem Vr (w:World) (arr:Array Value) (e:TypeId) (n:Nat):
  (w.alloc (.cells arr e)).freeze {block:=w.heap.size,off:=n} 1=w.alloc (.cells arr e (n,n+1)):=by
 unfold World.freeze World.alloc;simp only[Nat.one_ne_zero,Bc];congr 1
 grind
include ok
theorem VD (H:bV E h K w) {src dst:TypeId} {x v:AV} {h':AH} (hc:convert tab h src dst x= .ok (v,h'))
   (hE:h.next<h'.next->E.aC h.next=w.heap.size/\E.cap h.next=grownCap w (zr x) 0 (P.elem dst)):
   (h.next<=h'.next/\h'.next<=h.next+1)/\ ∃w',(Go.convert src dst (ag E x)).run P w= .ok (ag E v) w'/\bV E h' K w'/\Kept K w w':=by
 unfold convert at hc;obtain⟨a,ha,hc⟩:=ay.1 hc;obtain⟨b,hb,hc⟩:=ay.1 hc;have hPa:=ok.und src a (dx.1 ha);have hPb:=ok.und dst b (dx.1 hb);split at hc
 . cases hc;refine⟨by omega,w,?_,H,Kept.refl K w⟩;simp only[ag];unfold Go.convert;simp[underlying,hPa,hPb,Conv.intToInt]
 . cases hc;refine⟨by omega,w,?_,H,Kept.refl K w⟩;simp only[ag];unfold Go.convert;simp[underlying,hPa,hPb]
 . rename_i e s _ _;obtain⟨d,hd,hc⟩:=ay.1 hc;have hPe:=ok.und e d (dx.1 hd);split at hc
   . obtain⟨n,hn,hc⟩:=ay.1 hc;obtain⟨_,h1,hc⟩:=ay.1 hc;obtain⟨⟨h2,b2⟩,hr,hc⟩:=ay.1 hc
     cases hc;obtain⟨n',hn',rfl,rfl⟩:=ju hr;rw[hn]at hn';cases hn';have h1:=Ag (eI.1 h1);subst h1;have hel:P.elem dst=e:=by grind [Program.elem]
     obtain⟨hE1,hE2⟩:=hE (by simp);rw[hel]at hE2;simp only[zr]at hE2;have hge:=grownCap_ge w s.length 0 e;have hrun:(Go.convert src dst (ag E (.str s))).run P w= .ok (.slice (some ⟨w.heap.size,0,none⟩) s.length (grownCap w s.length 0 e))
         (w.drew.alloc (.cells ((s.map fun b=>Value.int .u8 b.toNat).toArray++Array.replicate (grownCap w s.length 0 e - s.length) (.int .u8 0)) e (grownCap w s.length 0 e,grownCap w s.length 0 e+1))):=by
       simp only[ag];unfold Go.convert;have hq:(Question.appendCap s.length 0 e).cut (w.tape w.drawn (.appendCap s.length 0 e))=grownCap w s.length 0 e:=rfl;simp only[Sem.run_bind,underlying,run_program,Result.andThen_ok,hPa,hPb,hPe,Sem.run_pure,Conv.stringToBytes,run_choose,Question.forced,Ax,Bc,rm,markStringish,run_shape,size_mk,hq,World.drew_eq,World.size_drew];grind [V6,World.size_drew,run_freeze,Result.andThen_ok,Vr]
     have hv:ag E (.sl h.next 0 s.length (.tail 0))= .slice (some ⟨w.heap.size,0,none⟩) s.length (grownCap w s.length 0 e):=by
       grind [ag,gV.val]
     rw[<-hv]at hrun;refine⟨by simp,_,hrun,H.drew.new (by simp_all) ?_,(Kept.drew K w).trans (Kept.alloc (by simpa using H.kb) _)⟩
     . refine⟨_,_,rfl,⟨_,by rw[Array.toList_append,List.toList_toArray,KW]⟩,?_,?_⟩
       all_goals grind [marks]
   grind
 . rename_i e _ hns;obtain⟨d,hd,hc⟩:=ay.1 hc;have hPe:=ok.und e d (dx.1 hd);split at hc
   . cases hc;refine⟨by omega,w,?_,H,Kept.refl K w⟩;simp only[ag];rw[run_convert_bytes_string w src dst e _ _ _ hPa hPe hPb];simp[Conv.bytesToString];rfl
   . obtain⟨cs,hcs,hc⟩:=ay.1 hc;obtain⟨s,hs,hc⟩:=ay.1 hc
     cases hc;refine⟨by omega,w,?_,H,Kept.refl K w⟩;obtain⟨ns,h1,h2⟩:=vt (E:=E) hs;simp only[ag];rw[run_convert_bytes_string w src dst e _ _ _ hPa hPe hPb,run_bytesToString w _ _ _ ns (by rw[<-h1];exact H.gj hcs)];have:=foldl_push ns [];rw[show(⟨([]:List UInt8).toArray⟩:ByteArray)=ByteArray.empty from rfl]at this;rw[this,h2];rfl
   . cases hc;refine⟨by omega,w,?_,H,Kept.refl K w⟩;simp only[ag];rw[run_convert_bytes_string w src dst e _ _ _ hPa hPe hPb];simp[Conv.bytesToString,loadCells,loadCellsFrom];rfl
   . cases hc;refine⟨by omega,w,?_,H,Kept.refl K w⟩;rename_i a _ _ _;simp only[ag];rw[run_convert_bytes_string w src dst e _ _ _ hPa hPe hPb]
     cases a<;>simp[Conv.bytesToString,loadCells,loadCellsFrom]<;>rfl
   grind
 . rename_i e b off n c _ _;obtain⟨d,hd,hc⟩:=ay.1 hc;have hPe:=ok.und e d (dx.1 hd);split at hc
   . rename_i heq;obtain⟨⟨cs,e',sz,ext,bk⟩,hcs,hc⟩:=ay.1 hc;obtain⟨_,hro,hc⟩:=ay.1 hc
     cases hc;have hro:bk≠ .ro/\bk≠ .cold:=by grind [eI]
     have hcs:=je hcs;have heq:=Ag heq;subst heq
     cases hPa.symm.trans hPb;obtain⟨arr,fz,hh,hpre,hsz,hm⟩:=H.cells hcs;have hnr:¬(AO.cells cs e' sz ext bk).ro:=by cases bk<;>simp_all[AO.ro]
     have hfz:w.freeze {block:=E.aC b,off:=arr.size} 1=w.put (E.aC b) (.cells arr e' (arr.size,arr.size+1)):=by
       unfold World.freeze World.put;simp only[Nat.one_ne_zero,Bc];congr 1
       have he:=(Ab.1 hh).2;apply Array.ext
       . simp
       . intro j h1 h2;rw[Array.getElem_modify,Array.getElem_setIfInBounds (by grind)];by_cases ej:E.aC b=j
         . subst ej;simp only[BB,he]
           cases bk with
           |rw=>grind [marks]
           |mark=>grind [marks]
           |any=>grind [marks]
           |ro=>grind
           |cold=>grind
         grind
     refine⟨by simp,_,?_,H.put hcs hnr ⟨arr,(arr.size,arr.size+1),rfl,hpre,hsz,rfl⟩,H.dZ hcs hnr _⟩;simp only[ag];unfold Go.convert;have hshape:w.shape? (E.aC b)=some (e',arr.size):=by grind [World.shape?]
     simp only[Sem.run_bind,underlying,run_program,Result.andThen_ok,hPa,hPe,Sem.run_pure,D9,markStringish,run_shape,hshape,run_freeze,hfz]
   grind
 grind
end
end
section
variable [Inhabited aK]
section
variable {P:Program} {tab:bC} (ok:bZ P tab) {E:Env} {h:AH} {K:KS} {w:World}
theorem LP {n m:Nat} {y:AV} {news:List AV} (hs:source h n y= .ok (m,news)):
  news.length=m*n/\(∀w:World,(Builtin.lenOf (ag E y)).run P w= .ok m w)/\
  ∀w:World,bV E h K w->∀k,k<=m->(Builtin.firstCells n k (ag E y)).run P w= .ok (bK E (news.take (k*n))).toArray w:=by
 cases y<;>simp only[source]at hs<;>(try cases hs)
 case str s=>
  obtain⟨_,h1,hsz⟩:=ay.1 hs;have hs:=hsz;cases hs;have h1:=Ag (eI.1 h1);subst h1;refine⟨by simp[ofBytes],fun w=>by simp[ag,Builtin.lenOf,size_mk],fun w _ k hk=>?_⟩;grind [ag,Builtin.firstCells,extract_mk,Sem.run_pure,vu,KW,List.map_take]
 case nils=>
  simp_all[ag,Builtin.lenOf,Builtin.firstCells]
 case sl b off len cap=>
  obtain⟨cs,hcs,hsz⟩:=ay.1 hs;have hs:=hsz;cases hs;obtain⟨cs0,e,sz,ext,bk,hc,hl,rfl⟩:=OC hcs;refine⟨by grind,fun w=>by simp[ag,Builtin.lenOf],fun w H k hk=>?_⟩;simp only[ag,Builtin.firstCells];have hk':k*n<=m*n:=A5 _ hk;have hr:readN h b off (k*n)= .ok ((cs0.drop off).take (k*n)):=by
   grind [readN,lK,ay,eI,Nat.ble_eq_true_of_le]
  rw[H.gj hr];grind
 case emp b off l n' k'=>
  simp_all[ag,Builtin.lenOf,Builtin.firstCells,loadCells,loadCellsFrom]
 case raw v=>
  have key:∃a c,v= .slice a 0 c/\m=0/\news=[]:=by
   grind
  obtain⟨a,c,rfl,rfl,rfl⟩:=key;refine⟨by simp,fun w=>by simp[ag,Builtin.lenOf],fun w _ k hk=>?_⟩;have:k=0:=by omega
  subst this
  cases a<;>simp[ag,Builtin.firstCells,loadCells,loadCellsFrom]
theorem VI {argTypes:Array TypeId} {t u ty e:TypeId} {du:TypeDesc} {i:TypeInfo} (h0:argTypes[0]? =some t) (h1:argTypes[1]? =some u)
  (ht:P.underlying t=some (.slice e)) (hu:P.underlying u=some du) (hnz:∀k,du≠ .int k) (hi:P.info? e=some i)
  {base:Option Addr} {sLen sCap m:Nat} {Y:Value} {news:Array Value} (hlen:(Builtin.lenOf Y).run P w= .ok m w)
  (hf:(Builtin.firstCells i.size m Y).run P w= .ok news w) (hroom:sLen+m<=sCap):
  (Builtin.append_ argTypes ty #[.slice base sLen sCap,Y]).run P w=
   (match base with
    |none=>(Result.ok () w:Result Unit)
    |some a=>(storeCells (a.add (sLen*i.size)) news.toList).run P w).andThen fun _ w'=> .ok (.slice base (sLen+m) sCap) w':=by
 unfold Builtin.append_;simp only[h0,h1,AX,A1,Bg];simp only[Sem.run_bind,underlying,run_program,Result.andThen_ok,ht,hu,Sem.run_pure,sizeOf,typeInfo,hi,Ax,Bc,hlen,DN,BB,An hroom,hf]
 cases base<;>simp[Result.andThen]
theorem VH {argTypes:Array TypeId} {t u ty e:TypeId} {du:TypeDesc} {i:TypeInfo} {z:Value} (h0:argTypes[0]? =some t) (h1:argTypes[1]? =some u)
  (ht:P.underlying t=some (.slice e)) (hu:P.underlying u=some du) (hnz:∀k,du≠ .int k) (hi:P.info? e=some i) (hzero:i.zero=some z)
  {base:Option Addr} {sLen sCap m:Nat} {Y:Value} {olds news:Array Value} (hlen:(Builtin.lenOf Y).run P w= .ok m w)
  (hf:(Builtin.firstCells i.size m Y).run P w.drew= .ok news w.drew) (ho:(Builtin.firstCells i.size sLen (.slice base sLen sCap)).run P w.drew= .ok olds w.drew)
  (hroom:¬sLen+m<=sCap) (h63:sLen+m<=16777216) (hb:(sLen+m)*i.bytes<=16777216):
  (Builtin.append_ argTypes ty #[.slice base sLen sCap,Y]).run P w=
   .ok (.slice (some ⟨w.heap.size,0,none⟩) (sLen+m) (grownCap w (sLen+m) sCap e))
    (w.drew.alloc (.cells (olds++news++Builtin.zeroCells z.cells (grownCap w (sLen+m) sCap e - (sLen+m))) e)):=by
 have hfit:=growslice_fits (need:=sLen+m) (old:=sCap) (bytes:=i.bytes) (by omega) (by omega);have h63':¬(((sLen+m:Nat):Int)>IntKind.i64.max/\(False\/i.bytes=0)):=by
  have:IntKind.i64.max=9223372036854775807:=by decide
  rw[this];omega
 have hfit':¬(Builtin.nextslicecap (sLen+m) sCap*i.bytes>2 ^ 48):=by
  have:(2:Nat) ^ 48=281474976710656:=by decide
  rw[this];omega
 have hq:(Question.appendCap (sLen+m) sCap e).cut (w.tape w.drawn (.appendCap (sLen+m) sCap e))=grownCap w (sLen+m) sCap e:=rfl;unfold Builtin.append_;simp only[h0,h1,AX,A1,Bg];simp only[Sem.run_bind,underlying,run_program,Result.andThen_ok,ht,hu,Sem.run_pure,sizeOf,typeInfo,hi,Ax,Bc,hlen,DN,BB,Al hroom];rw[Al (by omega)];simp only[Sem.run_bind,run_program,Result.andThen_ok,hi,Sem.run_pure];rw[Al hfit'];simp only[Sem.run_bind,run_choose,Question.forced,Ax,Bc,Result.andThen_ok,hq,World.drew_eq,run_askRoom,ho,hf,zeroValue,typeInfo,run_program,hi,hzero,Sem.run_pure,rm,World.size_drew]
theorem Nf (ok:bZ P tab) {e:TypeId} {n:Nat} {u:Unit} (hz:np tab e n= .ok u):
   ∃z,(∀E,∀i,P.info? e=some i->i.zero=some (ag E z))/\ ∀E,(ag E z).cells.size=n:=by
 obtain⟨z,h1,hzz⟩:=ay.1 hz;have hz:=hzz;obtain⟨zc,h2,hzz⟩:=ay.1 hz;have hz:=hzz;have h3:=Ag (eI.1 hz);obtain⟨i,hi,hzz⟩:=ok.mg _ _ (dx.1 h1);refine⟨z,fun E i' hi'=>?_,fun E=>?_⟩
 . rw[hi]at hi';grind
 simp_all[pf]
theorem O0 (H:bV E h K w) (hE:E.aC h.next=w.heap.size) (cs:List AV) (e:TypeId) (n c:Nat) {zs:Array Value} (hc:E.cap h.next=c)
  (hs:cs.length+zs.size=c*n):
  bV E (h.new (.cells cs e n true .rw)) K (w.alloc (.cells ((bK E cs).toArray++zs) e))/\Kept K w (w.alloc (.cells ((bK E cs).toArray++zs) e)):=
 ⟨H.new hE ⟨_,_,rfl,⟨zs.toList,by simp⟩,by simp_all,rfl⟩,Kept.alloc H.kb _⟩
theorem qvv (H:bV E h K w) (hE:E.aC h.next=w.heap.size) (cs:List AV) (e:TypeId) (n c:Nat) (bk:BK) (hno:bk≠ .ro) (hbk:∀n,marks bk (0,0) n) {zs:Array Value} (hc:E.cap h.next=c)
  (hs:cs.length+zs.size=c*n):
  bV E (h.new (.cells cs e n true bk)) K (w.alloc (.cells ((bK E cs).toArray++zs) e))/\Kept K w (w.alloc (.cells ((bK E cs).toArray++zs) e)):=
 ⟨H.new hE ⟨_,_,rfl,⟨zs.toList,by simp⟩,by simp_all,hbk _⟩ (by cases bk<;>simp_all[AO.ro]),Kept.alloc H.kb _⟩
def oC (w:World) (X:Value) (m:Nat) (e:TypeId):Nat×Nat:=
 match X with
 | .slice base n c=>if n+m<=c then((base.map (·.block)).getD 0,c)else(w.heap.size,grownCap w (n+m) c e)
 |_=>(0,0)
structure kZ (P:Program) (E:Env) (h:AH) (K:KS) (argTypes:Array TypeId) (ty e:TypeId) (i:TypeInfo) (Y:Value) (m:Nat) (news:List AV):Prop where
 len:news.length=m*i.size
 room:∀(w:World),bV E h K w->∀(base:Option Addr) (sLen sCap:Nat),sLen+m<=sCap->
  (Builtin.append_ argTypes ty #[.slice base sLen sCap,Y]).run P w=
   (match base with
    |none=>(Result.ok () w:Result Unit)
    |some a=>(storeCells (a.add (sLen*i.size)) (bK E news)).run P w).andThen fun _ w'=> .ok (.slice base (sLen+m) sCap) w'
 grow:∀(w:World),bV E h K w->∀(base:Option Addr) (sLen sCap:Nat) (olds:Array Value) (z:Value),i.zero=some z->
  (Builtin.firstCells i.size sLen (.slice base sLen sCap)).run P w.drew= .ok olds w.drew->
  ¬sLen+m<=sCap->sLen+m<=16777216->(sLen+m)*i.bytes<=16777216->
  (Builtin.append_ argTypes ty #[.slice base sLen sCap,Y]).run P w=
   .ok (.slice (some ⟨w.heap.size,0,none⟩) (sLen+m) (grownCap w (sLen+m) sCap e))
    (w.drew.alloc (.cells (olds++(bK E news).toArray++Builtin.zeroCells z.cells (grownCap w (sLen+m) sCap e - (sLen+m))) e))
theorem Tw {argTypes:Array TypeId} {t u ty e:TypeId} {du:TypeDesc} {i:TypeInfo} (h0:argTypes[0]? =some t) (h1:argTypes[1]? =some u)
   (ht:P.underlying t=some (.slice e)) (hu:P.underlying u=some du) (hnz:∀k,du≠ .int k) (hi:P.info? e=some i) {n m:Nat} (hin:i.size=n)
   {y:AV} {news:List AV} (hs:source h n y= .ok (m,news)):kZ P E h K argTypes ty e i (ag E y) m news:=by
 obtain⟨hnl,hlen,hf⟩:=LP (P:=P) (E:=E) (K:=K) hs;have hfm:∀w:World,bV E h K w->(Builtin.firstCells i.size m (ag E y)).run P w= .ok (bK E news).toArray w:=by
   grind
 refine⟨by rw[hin];omega,?_,?_⟩
 . intro w H base sLen sCap hr;rw[VI h0 h1 ht hu hnz hi (hlen w) (hfm w H) hr]
 . intro w H base sLen sCap olds z hz ho hr h63 hb;exact VH h0 h1 ht hu hnz hi hz (hlen w) (hfm w.drew H.drew) ho hr h63 hb
theorem TB {argTypes:Array TypeId} {t u ty e:TypeId} {k:IntKind} {i:TypeInfo} (h0:argTypes[0]? =some t) (h1:argTypes[1]? =some u)
   (ht:P.underlying t=some (.slice e)) (hu:P.underlying u=some (.int k)) (hi:P.info? e=some i) {z:AV} (hz:i.zero=some (ag E z)) {zc:List AV} (hzc:z.cells= .ok zc)
   (hzl:zc.length=i.size) (hi0:i.size≠0) {y:AV} {m:Nat} (hy:asNat y= .ok m) (hm:m<=1048576) (hmb:m*i.bytes<=16777216):kZ P E h K argTypes ty e i (ag E y) m (rep m zc):=by
 obtain⟨ky,rfl⟩:=vF hy;have hzz:Builtin.zeroCells (ag E z).cells m=(bK E (rep m zc)).toArray:=by
   rw[pf hzc,xY];exact Lf m _ (by simp;omega)
 have hrl:(rep m zc).length=m*i.size:=by
   have:=Aj List.length (xY E m zc);rw[cE,E3,cE,hzl]at this;omega
 have hwrap:IntKind.i64.wrap (m:Int)=m:=by rw[IntKind.wrap_i64];omega
 have hb48:¬((m:Int)*(i.bytes:Int)>2 ^ 48):=by
   have h3:((m*i.bytes:Nat):Int)<=((16777216:Nat):Int):=Int.ofNat_le.2 hmb;rw[Int.natCast_mul]at h3;omega
 have happ:∀w:World,(if m*i.size=0 then pure #[]else do pure (Builtin.zeroCells (<-zeroValue e).cells m):Sem (Array Value)).run P w= .ok (bK E (rep m zc)).toArray w:=by
   simp_all[Ay,zeroValue,typeInfo]
 refine⟨hrl,?_,?_⟩
 . intro w H base sLen sCap hr;unfold Builtin.append_;simp only[h0,h1,AX,A1,Bg];simp only[Sem.run_bind,underlying,run_program,Result.andThen_ok,ht,hu,Sem.run_pure,sizeOf,typeInfo,hi,BB,ag,Go.asInt,Go.asIntOf,hwrap];rw[Al (by omega)];simp only[Sem.run_bind,run_program,Result.andThen_ok,hi,Sem.run_pure];rw[Al hb48];simp only[Sem.run_bind,Sem.run_pure,Result.andThen_ok,Da,An hr,Dl,Ax,Bc];have:=happ w;simp only[zeroValue,typeInfo]at this;simp only[zeroValue,typeInfo];rw[this]
   cases base<;>simp[Result.andThen]
 . intro w H base sLen sCap olds z' hz' ho hr h63 hb;rw[hz]at hz'
   cases hz';have hfit:=growslice_fits (need:=sLen+m) (old:=sCap) (bytes:=i.bytes) (by omega) (by omega);have h63':¬(((sLen+m:Nat):Int)>IntKind.i64.max/\(True\/i.bytes=0)):=by
    have:IntKind.i64.max=9223372036854775807:=by decide
    rw[this];omega
   have hfit':¬(Builtin.nextslicecap (sLen+m) sCap*i.bytes>2 ^ 48):=by
    have:(2:Nat) ^ 48=281474976710656:=by decide
    rw[this];omega
   have hq:(Question.appendCap (sLen+m) sCap e).cut (w.tape w.drawn (.appendCap (sLen+m) sCap e))=grownCap w (sLen+m) sCap e:=rfl;unfold Builtin.append_;simp only[h0,h1,AX,A1,Bg];simp only[Sem.run_bind,underlying,run_program,Result.andThen_ok,ht,hu,Sem.run_pure,sizeOf,typeInfo,hi,BB,ag,Go.asInt,Go.asIntOf,hwrap];rw[Al (by omega)];simp only[Sem.run_bind,run_program,Result.andThen_ok,hi,Sem.run_pure];rw[Al hb48];simp only[Sem.run_bind,Sem.run_pure,Result.andThen_ok,Da,Al hr,Dl,Ax,Bc,run_program,hi];rw[Al h63'];simp only[Sem.run_bind,run_program,Result.andThen_ok,hi,Sem.run_pure];rw[Al hfit'];simp only[Sem.run_bind,run_choose,Question.forced,Ax,Bc,Result.andThen_ok,hq,World.drew_eq,run_program,hi,Sem.run_pure,run_askRoom,ho];have:=happ w.drew;simp_all[zeroValue,typeInfo,rm]
include ok
theorem Lg (H:bV E h K w) {argTypes:Array TypeId} {ty e:TypeId}
   {n by_ m:Nat} (hn:siz tab e= .ok n) (hn0:n≠0) (hby:tab.byt.get e=some by_)
   {x v:AV} {Y:Value} {news:List AV} {h':AH} (hsrc:∀i,P.info? e=some i->kZ P E h K argTypes ty e i Y m news) (ha:bW tab h e n by_ x m news= .ok (v,h'))
   (hE:h.next<h'.next->E.aC h.next=(oC w (ag E x) m e).1/\E.cap h.next=(oC w (ag E x) m e).2):
   (h.next<=h'.next/\h'.next<=h.next+1)/\ ∃w',(Builtin.append_ argTypes ty #[ag E x,Y]).run P w= .ok (ag E v) w'/\bV E h' K w'/\Kept K w w':=by
 obtain⟨i,hi,hin⟩:=ok.siz _ _ (dx.1 hn);obtain⟨i',hi',hiby⟩:=ok.byt _ _ hby;rw[hi]at hi';cases hi';have hS:=hsrc i hi;have hnl:news.length=m*n:=by rw[<-hin];exact hS.len
 unfold bW at ha;split at ha
 ·
   by_cases hm:Nat.beq m 0=true
   . rw[hm]at ha
     cases ha;have:=Ag hm;subst this;refine⟨by omega,w,?_,H,Kept.refl K w⟩;simp only[ag];rw[hS.room w H _ _ _ (by omega)];rfl
   . have hm':Nat.beq m 0=false:=Ar.2 hm;rw[hm']at ha;obtain⟨_,hc,haz⟩:=ay.1 ha;have ha:=haz;obtain⟨_,hzo,haz⟩:=ay.1 ha;have ha:=haz;obtain⟨⟨h2,b2⟩,hr,haz⟩:=ay.1 ha;have ha:=haz;cases ha;obtain⟨n',hn',rfl,rfl⟩:=ju hr;rw[hn]at hn';cases hn';have hc:=eI.1 hc;rw[Ad]at hc;have hc1:=Ak hc.1;have hc2:=Ak hc.2;have hm0:¬m<=0:=fun h=>hm (by rw[Nat.le_zero.1 h];rfl)
     obtain⟨z,hz,hzl⟩:=Nf ok hzo;have hzi:=hz E i hi;obtain⟨hE1,hE2⟩:=hE (by simp);simp only[ag,oC,AA,Al hm0]at hE1 hE2;have hrun:=hS.grow w H none 0 0 #[] _ hzi
      (by simp[Builtin.firstCells]) (by omega) (by omega) (by rw[hiby];grind)
     obtain⟨H',hk⟩:=O0 (w:=w.drew) H.drew (by simp_all) news e n (grownCap w m 0 e) (zs:=Builtin.zeroCells (ag E z).cells (grownCap w m 0 e - m))
      (by rw[hE2]) (by
        have:=grownCap_ge w m 0 e;rw[size_zeroCells,hzl E,hnl,<-Bi];grind)
     refine⟨by simp,_,?_,H',(Kept.drew K w).trans hk⟩;grind [ag,gV.val]
 . rename_i b off len cap;obtain⟨c,hc,haz⟩:=ay.1 ha;clear ha;have ha:=haz;clear haz;obtain⟨⟨cs,e',sz,ext,bk⟩,hcs,haz⟩:=ay.1 ha;clear ha;have ha:=haz;clear haz;obtain⟨_,hty,haz⟩:=ay.1 ha;clear ha;have ha:=haz;clear haz;obtain⟨_,hsz,haz⟩:=ay.1 ha;clear ha;have ha:=haz;have hcap:=MM H hc;have hcs:=je hcs;have hty:=eI.1 hty;rw[Ad]at hty;have hty1:=Ag hty.1;have hty2:=Ag hty.2;subst hty1 hty2;have hsz:=eI.1 hsz;rw[Ad]at hsz;have hsz1:=Ak hsz.1;have hsz2:=Ak hsz.2;by_cases hroom:Nat.ble (len+m) c=true
   ·
     rw[hroom]at ha;obtain⟨h2,hw,haz⟩:=ay.1 ha;have ha:=haz;cases ha;have hle:=Ak hroom;obtain⟨w',hst,H',hk⟩:=xD (P:=P) H hw;refine⟨by rw[xq hw];omega,w',?_,H',hk⟩;simp only[ag];rw[hS.room w H _ _ _ (by omega)];simp_all[add_lit]
   . have hroom':Nat.ble (len+m) c=false:=Ar.2 hroom;rw[hroom']at ha;obtain⟨_,hold,haz⟩:=ay.1 ha;clear ha;have ha:=haz;obtain⟨_,hzo,haz⟩:=ay.1 ha;have ha:=haz;have hold:=Ak (eI.1 hold);obtain⟨z,hz,hzl⟩:=Nf ok hzo;have hzi:=hz E i hi;have hnr:¬len+m<=c:=fun h=>hroom (DH h)
     have hro:∀w:World,bV E h K w->(Builtin.firstCells i.size len (.slice (some ⟨E.aC b,off,none⟩) len (cap.val (E.cap b)))).run P w= .ok (bK E ((cs.drop off).take (len*sz))).toArray w:=by
      intro w H;rw[hin];have hr:readN h b off (len*sz)= .ok ((cs.drop off).take (len*sz)):=by
        grind [readN,ay,eI]
      exact H.gj hr
     have hol:((cs.drop off).take (len*sz)).length=len*sz:=by grind
     cases cap with
     |lit cn=>
      obtain⟨⟨h2,b2⟩,hr,haz⟩:=ay.1 ha;have ha:=haz;cases ha;obtain⟨n',hn',rfl,rfl⟩:=ju hr;rw[hn]at hn';cases hn';have hcn:c=cn:=by grind [capLow]
      subst hcn;obtain⟨hE1,hE2⟩:=hE (by simp);simp only[ag,oC,gV.val,Al hnr]at hE1 hE2;have hrun:=hS.grow w H (some ⟨E.aC b,off,none⟩) len c _ _ hzi
        (hro w.drew H.drew) hnr hsz2 (by rw[hiby];omega)
      obtain⟨H',hk⟩:=O0 (w:=w.drew) H.drew (by simp_all) ((cs.drop off).take (len*sz)++news) e sz (grownCap w (len+m) c e) (zs:=Builtin.zeroCells (ag E z).cells (grownCap w (len+m) c e - (len+m)))
        (by rw[hE2]) (by
          have:=grownCap_ge w (len+m) c e;rw[size_zeroCells,hzl E,Bn,hol,hnl,<-Bi,<-Bi];grind)
      refine⟨by simp,_,?_,H',(Kept.drew K w).trans hk⟩;simp_all[ag,gV.val]
     | tail k=>
      obtain⟨_,htl,haz⟩:=ay.1 ha;have ha:=haz;obtain⟨⟨h2,b2⟩,hr,haz⟩:=ay.1 ha;have ha:=haz;cases ha;obtain⟨n',hn',rfl,rfl⟩:=ju hr;rw[hn]at hn';cases hn';have htl:=eI.1 htl;simp only[Ad]at htl;obtain⟨⟨⟨⟨⟨htl1,htl2⟩,hext⟩,hbk⟩,hbk2⟩,hone⟩:=htl;have htl1:=Ag htl1;have htl2:=Ag htl2;subst htl1 htl2;have hbk:bk≠ .ro/\bk≠ .cold:=⟨by grind,by grind⟩;have hnro:¬(AO.cells cs e sz ext bk).ro:=by cases bk<;>simp_all[AO.ro]
      obtain⟨arr,fz,hh,⟨rest,harr⟩,hasz,hm⟩:=H.cells hcs;rw[An hext]at hasz;have hcl:cs.length<=arr.size:=by
        have:=Aj List.length harr;simp at this;omega
      obtain⟨hE1,hE2⟩:=hE (by simp);simp only[ag,oC,gV.val,Nat.sub_zero]at hE1 hE2;by_cases hfit:len+m<=E.cap b
      . rw[An hfit]at hE1 hE2;have hbound:(len+m)*sz<=arr.size:=by rw[hasz];simp_all[A5]
        rw[Bi]at hbound;have hst:=C6 (P:=P) (E.aC b) (len*sz) e fz (bK E news) 0 arr w hh (L4 hm hbk) (by simp_all)
          (by
            intro v hv;rw[qn]at hv;obtain⟨u,hu,rfl⟩:=AL.1 hv;grind [Ld])
        have e1:(arr.toList.take (len*sz+0)++bK E news++arr.toList.drop (len*sz+0+(bK E news).length)).length=arr.size:=by
          simp;omega
        refine⟨by simp,_,?_,H.rename (c:= .cells (arr.toList.take (len*sz+0)++bK E news++arr.toList.drop (len*sz+0+(bK E news).length)).toArray e fz) hcs hnro hE1 ?_ (fun hx=>by cases bk<;>exact hx),H.dZ hcs hnro _⟩
        . simp only[ag,gV.val,Nat.sub_zero];rw[hS.room w H _ _ _ (by omega)];simp_all[add_lit]
        . refine⟨_,fz,rfl,⟨arr.toList.drop (len*sz+0+(bK E news).length),?_⟩,?_,?_⟩
          . simp_all[vu,Ee]
          . rw[An rfl,Bb,e1,hE2];omega
          . rw[Bb,e1]
            cases bk with
            |rw=>exact hm
            |mark=>exact .inr hm
            |any=>exact hm
            |ro=>grind
            |cold=>grind
      . rw[Al hfit]at hE1 hE2;have hrun:=hS.grow w H (some ⟨E.aC b,0,none⟩) len (E.cap b) _ _ hzi
          (by have:=hro w.drew H.drew;simpa [gV.val]using this) hfit hsz2 (by rw[hiby];omega)
        obtain⟨H',hk⟩:=qvv (w:=w.drew) (h:=h.kill b) (H.drew.kill b) (by simp_all) (cs.take (len*sz)++news) e sz (grownCap w (len+m) (E.cap b) e)
          bk.grown (by cases bk<;>simp[BK.grown]) (by cases bk<;>simp_all[marks,BK.grown])
          (zs:=Builtin.zeroCells (ag E z).cells (grownCap w (len+m) (E.cap b) e - (len+m)))
          (by simp_all) (by
            have:=grownCap_ge w (len+m) (E.cap b) e;rw[size_zeroCells,hzl E,Bn,hnl,BT,Nat.min_eq_left (by omega),<-Bi,<-Bi];grind)
        refine⟨by simp,_,?_,H',(Kept.drew K w).trans hk⟩;simp_all[ag,gV.val]
 grind
end
end
section
variable [Inhabited aK]
theorem put_same {w:World} {g:Nat} {o:Obj} (hg:w.heap[g]? =some o):w.put g o=w:=by
 unfold World.put;have hlt:=(Ab.1 hg).1;have he:=(Ab.1 hg).2;have:w.heap.setIfInBounds g o=w.heap:=by
  grind
 rw[this]
section
variable {P:Program} {tab:bC} (ok:bZ P tab) {E:Env} {h:AH} {K:KS} {w:World}
theorem Of {b:Nat} {es:List (AV×AV×Nat)} {c:Nat} (hm:wP h b= .ok (es,c)):h.get b=some (.mp es c):=by
 grind [wP]
theorem bV.map (H:bV E h K w) {b:Nat} {es:List (AV×AV×Nat)} {c:Nat} (hm:h.get b=some (.mp es c)):
  w.heap[E.aC b]? =some (.map (es.map (qE E)).toArray c):=by
 obtain⟨o,h1,h2⟩:=H.obj b _ hm;rw[h1,h2]
theorem LL {b c:Nat} {es:Array MapEntry} (hb:w.heap[b]? =some (.map es c)):(getObj b).run P w= .ok (.map es c) w:=by
 grind [getObj,Sem.run]
theorem WZ {b c:Nat} {es:Array MapEntry} (hb:w.heap[b]? =some (.map es c)) (o:Obj):(setObj b o).run P w= .ok () (w.put b o):=by
 grind [setObj,Sem.run,World.put]
include ok
theorem U9 {t:TypeId} {k:AV}:∀(es:List (AV×AV×Nat)) (i:Nat) (r:Option (Nat×AV×AV×Nat)),findKey tab t k es i= .ok r->∀w,
  (Instr.findAsking t (ag E k) (es.map (qE E)) i).run P w= .ok (r.map fun x=>(x.1,ag E x.2.2.1)) w:=by
 intro es;induction es with
 |nil=>intro i r hr w;cases hr;rfl
 |cons e es ih=>
  intro i r hr w;obtain⟨a,v,n⟩:=e;obtain⟨b,hb,hr⟩:=ay.1 hr;have he:=rA ok (E:=E) 8 t _ _ b hb 9992 w;simp only[A0,Instr.findAsking,Sem.run_bind];have he':(Op.equal t (ag E k) (qE E (a,v,n)).key).run P w= .ok b w:=he;rw[he',Result.andThen_ok]
  cases b with
  |true=>cases hr;rfl
  |false=>grind
theorem W6 {t:TypeId} {d:TypeDesc} (hd:P.underlying t=some d) {k a:AV} {b:Bool} (hb:eqT tab 8 t k a= .ok b) {b':Bool}
   (hs:Instr.sameNow d (ag E k) (ag E a)=some b'):b'=b:=by
 have h1:=rA ok (E:=E) 8 t k a b hb 0 default;obtain⟨n,hn⟩:∃n,8+0=n+1:=⟨7,rfl⟩;rw[hn]at h1;generalize ag E k=X at*
 generalize ag E a=Y at*
 unfold Instr.sameNow at hs;split at hs
 . split at hs
   . cases hs;rename_i e;subst e;simp only[Op.equalIn,Sem.run_bind,underlying,run_program,Result.andThen_ok,hd,Sem.run_pure,BB]at h1;grind
   grind
 . cases hs;simp only[Op.equalIn,Sem.run_bind,underlying,run_program,Result.andThen_ok,hd,Sem.run_pure]at h1;grind
 . cases hs;simp only[Op.equalIn,Sem.run_bind,underlying,run_program,Result.andThen_ok,hd,Sem.run_pure]at h1;grind
 grind
theorem Xo {t:TypeId} {d:TypeDesc} (hd:P.underlying t=some d) {k:AV}:∀(es:List (AV×AV×Nat)) (i:Nat) (r:Option (Nat×AV×AV×Nat)),findKey tab t k es i= .ok r->∀r',
  Instr.findNow d (ag E k) (es.map (qE E)) i=some r'->r'=r.map fun x=>(x.1,ag E x.2.2.1):=by
 intro es;induction es with
 |nil=>grind [findKey,Instr.findNow]
 |cons e es ih=>
  grind [findKey,ay,Instr.findNow,qE,W6]
theorem ve {t:TypeId} {d:TypeDesc} (hd:P.underlying t=some d) {k:AV} {es:List (AV×AV×Nat)} {r:Option (Nat×AV×AV×Nat)} (hr:findKey tab t k es 0= .ok r) (w:World):
  (Instr.findKey t (ag E k) (es.map (qE E))).run P w= .ok (r.map fun x=>(x.1,ag E x.2.2.1)) w:=by
 unfold Instr.findKey;simp only[Sem.run_bind,underlying,run_program,Result.andThen_ok,hd,Sem.run_pure]
 cases hn:Instr.findNow d (ag E k) (es.map (qE E)) 0 with
 |none=>grind [U9]
 |some r'=>rw[Xo ok hd es 0 r hr r' hn];rfl
theorem XA (H:bV E h K w) {t:TypeId} {m k v:AV} {c:Bool} (hl:lookup tab h t m k c= .ok v):
  (Instr.lookup t (ag E m) (ag E k) c).run P w= .ok (ag E v) w:=by
 simp[lookup]at hl
theorem KV (H:bV E h K w) {t:TypeId} {m k x:AV} {h':AH} (hl:mapUpdate tab h t m k x= .ok h'):
  h'.next=h.next/\ ∃w',(Instr.mapUpdate t (ag E m) (ag E k) (ag E x)).run P w= .ok () w'/\bV E h' K w'/\Kept K w w':=by
 simp[mapUpdate]at hl
theorem Vw (H:bV E h K w) {t:TypeId} {m k v:AV} {h':AH} (hl:mapEntry tab h t m k= .ok (v,h')):
  h'.next=h.next/\ ∃w',(Instr.mapEntry t (ag E m) (ag E k)).run P w= .ok (ag E v) w'/\bV E h' K w'/\Kept K w w':=by
 simp[mapEntry]at hl
theorem U7 (H:bV E h K w) {t:TypeId} {m s x:AV} {h':AH} (hl:entryStore h m s x= .ok h'):
  h'.next=h.next/\ ∃w',(Instr.entryStore t (ag E m) (ag E s) (ag E x)).run P w= .ok () w'/\bV E h' K w'/\Kept K w w':=by
 simp[entryStore]at hl
theorem Wx (H:bV E h K w) {argTypes:Array TypeId} {t ty:TypeId} (h0:argTypes[0]? =some t) {m k:AV} {h':AH} (hl:delete tab h t m k= .ok h'):
  h'.next=h.next/\ ∃w',(Builtin.delete_ argTypes ty #[ag E m,ag E k]).run P w= .ok (.tuple #[]) w'/\bV E h' K w'/\Kept K w w':=by
 simp[delete]at hl
theorem V0 (H:bV E h K w) {t:TypeId} {x v:AV} {h':AH} (hl:rangeOp tab h t x= .ok (v,h')) (hE:E.aC h.next=w.heap.size):
  h'.next=h.next+1/\ ∃w',(Instr.range t (ag E x)).run P w= .ok (ag E v) w'/\bV E h' K w'/\Kept K w w':=by
 simp[rangeOp]at hl
end
end
section
variable [Inhabited aK]
section
variable {P:Program} {tab:bC} (ok:bZ P tab) {E:Env} {h:AH} {K:KS} {w:World}
theorem rB {ts:T AV} {ρ:Operand->Value} (hρ:∀x v,ev ts x= .ok v->ρ x=ag E v):∀(l:List Operand) (vs:List AV),kF ts l= .ok vs->l.map ρ=bK E vs:=by
 intro l;induction l with
 |nil=>simp_all[kF]
 |cons x l ih=>
  intro vs h;obtain⟨v,hv,h⟩:=ay.1 h;obtain⟨vs',hvs,h⟩:=ay.1 h
  cases h;simp_all
theorem Lm {ts:T AV} {ρ:Operand->Value} (hρ:∀x v,ev ts x= .ok v->ρ x=ag E v):∀(l:List (Nat×Operand)) (vs:List (Nat×AV)),mD ts l= .ok vs->
  l.map (fun p=>(p.1,ρ p.2))=vs.map fun p=>(p.1,ag E p.2):=by
 intro l;induction l with
 |nil=>grind [mD]
 |cons x l ih=>
  grind [mD,ay]
theorem Wj (H:bV E h K w) {it v:AV} (he:entryOp h it= .ok v):(Instr.entry (ag E it)).run P w= .ok (ag E v) w:=by
 simp[entryOp]at he
theorem XC {k:IntKind}:∀(l:List AV) (x:Int) (v:AV),tH k x l= .ok v->((bK E l).foldlM Builtin.min2 (.int k x)).run P w= .ok (ag E v) w:=by
 intro l;induction l with
 |nil=>intro x v h;cases h;rfl
 |cons a l ih=>
  intro x v h
  cases a<;>simp only[tH]at h<;>(try cases h)
  grind [ct,ag,Builtin.min2]
theorem XB {k:IntKind}:∀(l:List AV) (x:Int) (v:AV),tG k x l= .ok v->((bK E l).foldlM Builtin.max2 (.int k x)).run P w= .ok (ag E v) w:=by
 intro l;induction l with
 |nil=>intro x v h;cases h;rfl
 |cons a l ih=>
  intro x v h
  cases a<;>simp only[tG]at h<;>(try cases h)
  grind [ct,ag,Builtin.max2]
theorem Vg (H:bV E h K w) {argTypes:Array TypeId} {type:TypeId} {x v:AV} {h':AH} (hs:sliceData h x= .ok (v,h')):
  h'=h/\(Builtin.unsafeSliceData_ argTypes type #[ag E x]).run P w= .ok (ag E v) w:=by
 simp[sliceData]at hs
include ok in
theorem UX (H:bV E h K w) {argTypes:Array TypeId} {t ty:TypeId} (h0:argTypes[0]? =some t) {x y v:AV} {h':AH} (hs:unsafeString tab h t x y= .ok (v,h')):
  h'.next=h.next/\ ∃w',(Builtin.unsafeString_ argTypes ty #[ag E x,ag E y]).run P w= .ok (ag E v) w'/\bV E h' K w'/\Kept K w w':=by
 simp[unsafeString]at hs
def mU (P:Program) (w:World) (b:Builtin) (argTypes:Array TypeId) (X:Value) (m:Nat):Nat×Nat:=
 match b with
 | .append=>oC w X m (P.elem (argTypes.getD 0 0))
 |_=>(w.heap.size,0)
def wC:List AV->Nat
 |[_, .str s]=>s.length
 |[_, .sl _ _ n _]=>n
 |[_, .int _ (.ofNat n)]=>n
 |_=>0
include ok
theorem VN (H:bV E h K w) {b:Builtin} {argTypes:Array TypeId} {args:List AV} {v:AV} {h':AH} (hb:builtin tab b argTypes args h= .ok (v,h'))
   (hE:h.next<h'.next->E.aC h.next=(mU P w b argTypes (((bK E args)[0]?).getD undef) (wC args)).1/\E.cap h.next=(mU P w b argTypes (((bK E args)[0]?).getD undef) (wC args)).2)
   (ty:TypeId) (consts:Array Bool):
   (h.next<=h'.next/\h'.next<=h.next+1)/\ ∃w',(Go.builtin b argTypes ty consts (bK E args).toArray).run P w= .ok (.value (ag E v)) w'/\bV E h' K w'/\Kept K w w':=by
 unfold builtin at hb;split at hb
 ·
   rename_i x;obtain⟨t,ht,hb⟩:=ay.1 hb;obtain⟨u,hu,hb⟩:=ay.1 hb;have ht:=dx.1 ht;have hP:=ok.und t u (dx.1 hu);have hgo:∀(n:Nat),(Builtin.len_ argTypes ty (bK E [x]).toArray).run P w= .ok (Go.goInt n) w->
       (Go.builtin .len argTypes ty consts (bK E [x]).toArray).run P w= .ok (.value (ag E (goInt n))) w:=by
     intro n hn;simp only[Go.builtin,Sem.run_bind,hn,Result.andThen_ok,Sem.run_pure];rfl
   split at hb
   . rename_i e;obtain⟨d,hd,hb⟩:=ay.1 hb;have hPe:=ok.und e d (dx.1 hd);split at hb
     . cases hb;refine⟨by omega,w,hgo _ ?_,H,Kept.refl K w⟩;unfold Builtin.len_;simp_all[underlying]
     grind
   . obtain⟨n,hn,hb⟩:=ay.1 hb
     cases hb;refine⟨by omega,w,hgo _ ?_,H,Kept.refl K w⟩;unfold Builtin.len_;unfold lenOf at hn;split at hn<;>(try cases hn)
     case h_7=>
       obtain⟨⟨es,c⟩,hm,hn⟩:=ay.1 hn
       cases hn;have hw:=H.map (Of hm);simp[ht,underlying,hP,ag,LL hw]
     all_goals simp[ht,underlying,hP,ag,size_mk]
 ·
   rename_i x;obtain⟨t,ht,hb⟩:=ay.1 hb;obtain⟨u,hu,hb⟩:=ay.1 hb;have ht:=dx.1 ht;have hP:=ok.und t u (dx.1 hu);split at hb
   . cases hb;refine⟨by omega,w,?_,H,Kept.refl K w⟩;simp[Go.builtin,Builtin.cap_,ht,underlying,hP,ag,goInt,Go.goInt]
   . cases hb;refine⟨by omega,w,?_,H,Kept.refl K w⟩;simp[Go.builtin,Builtin.cap_,ht,underlying,hP,ag,goInt,Go.goInt,gV.val]
   grind
 ·
   rename_i x y;obtain⟨t,ht,hb⟩:=ay.1 hb;obtain⟨u,hu,hb⟩:=ay.1 hb;have ht:=dx.1 ht;have hu:=dx.1 hu;obtain⟨du,hdu,hb⟩:=ay.1 hb;have hPu:=ok.und u du (dx.1 hdu);split at hb
   . rename_i ki _;obtain⟨dt,hdt,hb⟩:=ay.1 hb;have hPt:=ok.und t dt (dx.1 hdt);split at hb
     . rename_i e;unfold Lw at hb;obtain⟨n,hn,hb⟩:=ay.1 hb;obtain⟨by_,hby,hb⟩:=ay.1 hb;obtain⟨_,hnz,hb⟩:=ay.1 hb;obtain⟨m,hm,hb⟩:=ay.1 hb;obtain⟨_,hlim,hb⟩:=ay.1 hb;obtain⟨z,hz,hb⟩:=ay.1 hb;obtain⟨zc,hzc,hb⟩:=ay.1 hb;obtain⟨_,hzl,hb⟩:=ay.1 hb;have hnz:n≠0:=by
        have:=eI.1 hnz;rintro rfl;simp_all
       have hlim:=eI.1 hlim;rw[Ad]at hlim;have hl1:=Ak hlim.1;have hl2:=Ak hlim.2;have hzl:=Ag (eI.1 hzl);obtain⟨i,hi,hin⟩:=ok.siz _ _ (dx.1 hn);obtain⟨i',hi',hiby⟩:=ok.byt _ _ (dx.1 hby);rw[hi]at hi';cases hi';obtain⟨i',hi',hzi⟩:=ok.mg _ _ (dx.1 hz);rw[hi]at hi';cases hi';have hsl:wC [x,y]=m:=by
        obtain⟨k,rfl⟩:=vF hm;rfl
       have hel:P.elem (argTypes.getD 0 0)=e:=by
        have:argTypes.getD 0 0=t:=by
          rw[BS,ht];rfl
        rw[this];grind [Program.elem]
       have hE':h.next<h'.next->E.aC h.next=(oC w (ag E x) m e).1/\E.cap h.next=(oC w (ag E x) m e).2:=by
        grind [mU,ct]
       obtain⟨h1,w',h2,h3,h4⟩:=Lg ok H (ty:=ty) (argTypes:=argTypes) (Y:=ag E y) hn hnz (dx.1 hby)
        (fun i' hi'=>by
          rw[hi]at hi';cases hi';exact TB ht hu hPt hPu hi (hzi E) hzc (by rw[hzl,hin]) (by rw[hin];omega) hm hl1 (by rw[hiby];omega)) hb hE'
       refine⟨h1,w',?_,h3,h4⟩;simp only[Go.builtin,Sem.run_bind];have:(bK E [x,y]).toArray=#[ag E x,ag E y]:=rfl;rw[this,h2];rfl
     grind
   . rename_i hni;obtain⟨dt,hdt,hb⟩:=ay.1 hb;have hPt:=ok.und t dt (dx.1 hdt);split at hb
     . rename_i e;obtain⟨n,hn,hb⟩:=ay.1 hb;obtain⟨by_,hby,hb⟩:=ay.1 hb;obtain⟨_,hnz,hb⟩:=ay.1 hb;obtain⟨⟨m,news⟩,hs,hb⟩:=ay.1 hb;have hnz:n≠0:=by
        have:=eI.1 hnz;rintro rfl;simp_all
       have hm:wC [x,y]=m:=by
        cases y<;>simp only[source]at hs<;>(try cases hs)<;>(try rfl)
        . obtain⟨_,_,hs⟩:=ay.1 hs
          cases hs;rfl
        . obtain⟨_,_,hs⟩:=ay.1 hs
          cases hs;rfl
        . split at hs<;>first|(rename_i hv;cases hv;cases hs;rfl)|(rename_i hv;cases hv;done)|grind|grind
       have hel:P.elem (argTypes.getD 0 0)=e:=by
        have:argTypes.getD 0 0=t:=by
          rw[BS,ht];rfl
        rw[this];grind [Program.elem]
       have hE':h.next<h'.next->E.aC h.next=(oC w (ag E x) m e).1/\E.cap h.next=(oC w (ag E x) m e).2:=by
        grind [mU,ct]
       obtain⟨h1,w',h2,h3,h4⟩:=Lg ok H (ty:=ty) (argTypes:=argTypes) (Y:=ag E y) hn hnz (dx.1 hby)
        (fun i hi=>by
          obtain⟨i',hi',hin⟩:=ok.siz _ _ (dx.1 hn);rw[hi]at hi';grind [Tw]) hb hE'
       refine⟨h1,w',?_,h3,h4⟩;simp only[Go.builtin,Sem.run_bind];have:(bK E [x,y]).toArray=#[ag E x,ag E y]:=rfl;rw[this,h2];rfl
     grind
 ·
   rename_i x y;obtain⟨t,ht,hb⟩:=ay.1 hb;obtain⟨u,hu,hb⟩:=ay.1 hb;have ht:=dx.1 ht;have hP:=ok.und t u (dx.1 hu);split at hb
   . rename_i e;obtain⟨n,hn,hb⟩:=ay.1 hb;obtain⟨⟨m,cs⟩,hs,hb⟩:=ay.1 hb;obtain⟨hnl,hlen,hf⟩:=LP (P:=P) (E:=E) (K:=K) hs;have hgo:∀(base:Option Addr) (dLen c:Nat),ag E x= .slice base dLen c->(Builtin.copy_ argTypes ty (bK E [x,y]).toArray).run P w=
        ((match base with
          |none=>(Result.ok () w:Result Unit)
          |some a=>(storeCells a (bK E (cs.take (Nat.min m dLen*n)))).run P w).andThen fun _ w'=> .ok (Go.goInt (Nat.min m dLen)) w'):=by
       intro base dLen c hx;unfold Builtin.copy_;have h2:(bK E [x,y]).toArray=#[ag E x,ag E y]:=rfl;rw[h2];simp only[ht,AX,A1,Bg,Sem.run_bind,underlying,run_program,Result.andThen_ok,hP,Sem.run_pure,hx,hlen,kS ok hn,
        hf w H (Nat.min m dLen) (Nat.min_le_left _ _)]
       cases base<;>simp[Result.andThen]
     cases x with
     | nils=>
       simp only at hb
       cases hb;refine⟨by omega,w,?_,H,Kept.refl K w⟩;simp only[Go.builtin,Sem.run_bind];rw[hgo none 0 0 rfl];simp[Result.andThen,goInt,ag,Go.goInt]
     | emp b off l n' k=>
       simp only at hb
       cases hb;refine⟨by omega,w,?_,H,Kept.refl K w⟩;simp only[Go.builtin,Sem.run_bind];rw[hgo _ 0 _ rfl];simp[Result.andThen,goInt,ag,Go.goInt,storeCells]
     | sl b off len cap=>
       simp only at hb;obtain⟨h2,hw,hb⟩:=ay.1 hb
       cases hb;obtain⟨w',hst,H',hk⟩:=xD (P:=P) H hw;refine⟨by rw[xq hw];omega,w',?_,H',hk⟩;simp only[Go.builtin,Sem.run_bind];rw[hgo _ len _ rfl];simp only[hst,Result.andThen_ok];rfl
     |_=>cases hb
   grind
 ·
   rename_i x;obtain⟨t,ht,hb⟩:=ay.1 hb;obtain⟨u,hu,hb⟩:=ay.1 hb;have ht:=dx.1 ht;have hP:=ok.und t u (dx.1 hu);have h2:(bK E [x]).toArray=#[ag E x]:=rfl;split at hb
   . cases hb;simp_all[Kept.refl,Go.builtin,Builtin.clear_,underlying,ag]
   . cases hb;simp_all[Kept.refl,Go.builtin,Builtin.clear_,underlying,ag]
   . cases hb;simp_all[Kept.refl,Go.builtin,Builtin.clear_,underlying,ag]
   . obtain⟨⟨es,c⟩,hm,hb⟩:=ay.1 hb
     cases hb;have hm:=Of hm;have hw:=H.map hm;have hnr:¬(AO.mp es c).ro:=fun h=>h
     refine⟨by simp,_,?_,H.put hm hnr (c:= .map #[] c) rfl,H.dZ hm hnr _⟩;simp only[Go.builtin,Builtin.clear_,h2,ht,AX,A1,Sem.run_bind,underlying,run_program,Result.andThen_ok,hP,Sem.run_pure,ag,LL hw,WZ hw];rfl
   . rename_i e b off len cap _ _;obtain⟨z,hz,hb⟩:=ay.1 hb;obtain⟨zc,hzc,hb⟩:=ay.1 hb;obtain⟨h2',hw,hb⟩:=ay.1 hb
     cases hb;obtain⟨w',hst,H',hk⟩:=xD (P:=P) H hw;refine⟨by rw[xq hw];omega,w',?_,H',hk⟩;have hzz:Builtin.zeroCells (ag E z).cells len=(bK E (rep len zc)).toArray:=by
       rw[pf hzc,xY];grind [Lf,E3,Builtin.zeroCells]
     simp only[Go.builtin,Builtin.clear_,h2,ht,AX,A1,Sem.run_bind,underlying,run_program,Result.andThen_ok,hP,Sem.run_pure,ag];grind [rep,dF,storeCells,Sem.run_bind,vU,Result.andThen_ok,Sem.run_pure]
   grind
 ·
   rename_i m k;obtain⟨t,ht,hb⟩:=ay.1 hb;obtain⟨h2,hd,hb⟩:=ay.1 hb
   cases hb;obtain⟨h3,w',h4,h5,h6⟩:=Wx ok H (ty:=ty) (dx.1 ht) hd;grind [bK,ag,Go.builtin,Sem.run_bind,Result.andThen_ok,Sem.run_pure]
 ·
   obtain⟨h1,h2⟩:=Vg (P:=P) H (type:=ty) (argTypes:=argTypes) hb;subst h1;refine⟨by omega,w,?_,H,Kept.refl K w⟩;simp only[Go.builtin,Sem.run_bind];rw[show ∀x:AV,(bK E [x]).toArray=#[ag E x]from fun _=>rfl,h2];rfl
 ·
   obtain⟨t,ht,hb⟩:=ay.1 hb;obtain⟨h1,w',h2,h3,h4⟩:=UX ok H (ty:=ty) (dx.1 ht) hb;refine⟨by omega,w',?_,h3,h4⟩;simp only[Go.builtin,Sem.run_bind];rw[show ∀x y:AV,(bK E [x,y]).toArray=#[ag E x,ag E y]from fun _ _=>rfl,h2];rfl
 ·
   obtain⟨v',hv,hb⟩:=ay.1 hb;simp_all[Kept.refl,Go.builtin,Builtin.min_,ag,XC]
 . obtain⟨v',hv,hb⟩:=ay.1 hb;simp_all[Kept.refl,Go.builtin,Builtin.max_,ag,XB]
 grind
end
end
section
variable [Inhabited aK]
section
variable {P:Program} {tab:bC} (ok:bZ P tab) {E:Env} {h:AH} {K:KS} {w:World}
include ok
theorem Vm (H:bV E h K w) {src dst t:TypeId} (hs:P.underlying src=some (.pointer t)) (hd:P.underlying dst=some .unsafePointer) {x v:AV} {h':AH}
  (hc:convertTo tab h t x= .ok (v,h')):h'=h/\(Go.convert src dst (ag E x)).run P w= .ok (ag E v) w:=by
 simp[convertTo]at hc
theorem UW (H:bV E h K w) {src dst u:TypeId} (hs:P.underlying src=some .unsafePointer) (hd:P.underlying dst=some (.pointer u)) {x v:AV} {h':AH}
  (hc:convertFrom tab h u x= .ok (v,h')):h'=h/\(Go.convert src dst (ag E x)).run P w= .ok (ag E v) w:=by
 simp[convertFrom]at hc
theorem U6 (H:bV E h K w) {src dst:TypeId} {x v:AV} {h':AH} (hc:pb tab h src dst x= .ok (v,h'))
   (hE:h.next<h'.next->E.aC h.next=w.heap.size/\E.cap h.next=grownCap w (zr x) 0 (P.elem dst)):
   (h.next<=h'.next/\h'.next<=h.next+1)/\ ∃w',(Go.convert src dst (ag E x)).run P w= .ok (ag E v) w'/\bV E h' K w'/\Kept K w w':=by
 obtain⟨d,hd,hc1⟩:=ay.1 hc;have hPd:=ok.und dst d (dx.1 hd);split at hc1
 . obtain⟨s,hs,hc2⟩:=ay.1 hc1;have hPs:=ok.und src s (dx.1 hs);split at hc2
   . obtain⟨h1,h2⟩:=Vm ok H hPs hPd hc2;grind [Kept.refl]
   grind
 . obtain⟨s,hs,hc2⟩:=ay.1 hc1;have hPs:=ok.und src s (dx.1 hs);split at hc2
   . obtain⟨h1,h2⟩:=UW ok H hPs hPd hc2;grind [Kept.refl]
   grind
 . exact VD ok H hc1 hE
end
end
section
variable [Inhabited aK]
section
variable {P:Program} {tab:bC} (ok:bZ P tab) {E:Env} {h:AH} {K:KS} {w:World}
theorem iv {ρ:Operand->Value} {o:Oper} {s:Sem Value} {a:Value} {w w':World} (hx:execOp ρ o=(do pure (.value (<-s)))) (hs:s.run P w= .ok a w'):
  (execOp ρ o).run P w= .ok (.value a) w':=by
 rw[hx];simp_all
theorem CI {ρ:Operand->Value} {o:Oper} {s:Sem Unit} {w w':World} (hx:execOp ρ o=(do s;pure .skip)) (hs:s.run P w= .ok () w'):
  (execOp ρ o).run P w= .ok .skip w':=by
 rw[hx];simp_all
def aU (P:Program) (s:Sem Next) (E:Env) (K:KS) (w:World) (v:AV) (h':AH):Prop:=
 ∃r w',s.run P w= .ok r w'/\Yields r (ag E v)/\bV E h' K w'/\Kept K w w'
theorem aU.value {s:Sem Next} {v:AV} {h':AH} {w':World} (hs:s.run P w= .ok (.value (ag E v)) w') (H:bV E h' K w') (hk:Kept K w w'):aU P s E K w v h':=
 ⟨_,w',hs, .inl rfl,H,hk⟩
theorem aU.same {s:Sem Next} {v:AV} (H:bV E h K w) (hs:s.run P w= .ok (.value (ag E v)) w):aU P s E K w v h:=
 ⟨_,w,hs, .inl rfl,H,Kept.refl K w⟩
theorem Cm {s:Sem Next} {h':AH} {w':World} (hs:s.run P w= .ok .skip w') (H:bV E h' K w') (hk:Kept K w w'):aU P s E K w (.bO []) h':=
 ⟨_,w',hs, .inr ⟨rfl,rfl⟩,H,hk⟩
theorem LW (ok:bZ P tab) {t:TypeId} {f:Nat} {fd:Field} (hf:vV tab t f= .ok fd):∃fs,P.underlying t=some (.struct fs)/\fs[f]? =some fd:=by
 obtain⟨d,hd,hf⟩:=ay.1 hf;have hP:=ok.und t d (dx.1 hd);grind [dx]
theorem QA {s:List UInt8} {i:Nat} {b:UInt8} (h:s[i]? =some b):(⟨s.toArray⟩:ByteArray)[i]? =some b:=by
 obtain⟨hlt,rfl⟩:=Ae.1 h;exact getElem?_pos (⟨s.toArray⟩:ByteArray) i (show i<(⟨s.toArray⟩:ByteArray).size from hlt)
def Good (P:Program) (o:Oper) (ts:T AV) (h:AH) (v:AV) (h':AH) (w:World) (ρ:Operand->Value):Prop:=
 ∃f:Nat×Nat,∀E K,bV E h K w->(∀x u,ev ts x= .ok u->ρ x=ag E u)->
  (h.next<h'.next->E.aC h.next=f.1/\E.cap h.next=f.2)->(h.next<=h'.next/\h'.next<=h.next+1)/\aU P (execOp ρ o) E K w v h'
theorem FL {e:TypeId} {cs:List AV} {ext:Bool} {bk:BK} {h':AH} {b:Nat} (hn:newRow tab h e cs ext bk= .ok (h',b)):h.next<h'.next:=by
 obtain⟨n,hs,rfl,rfl⟩:=ju hn;simp
theorem Vd {t:TypeId} {len:Nat} {ps:List (Nat×AV)} {v:AV} {h':AH} (hb:buildSlice tab h t len ps= .ok (v,h')):h.next<h'.next:=by
 obtain⟨u,hu,hb1⟩:=ay.1 hb;split at hb1
 . obtain⟨n,_,hb2⟩:=ay.1 hb1;obtain⟨_,_,hb3⟩:=ay.1 hb2;obtain⟨_,_,hb4⟩:=ay.1 hb3;obtain⟨_,_,hb5⟩:=ay.1 hb4;obtain⟨_,_,hb6⟩:=ay.1 hb5;obtain⟨_,_,hb7⟩:=ay.1 hb6;obtain⟨⟨h1,b⟩,hn,hb8⟩:=ay.1 hb7
   cases hb8;exact FL hn
 grind
theorem Vv {t:TypeId} {l c v:AV} {h':AH} (hb:makeSlice tab h t l c= .ok (v,h')):h.next<h'.next:=by
 simp[makeSlice]at hb
theorem WY {t:TypeId} {x v:AV} {h':AH} (hb:rangeOp tab h t x= .ok (v,h')):h.next<h'.next:=by
 simp[rangeOp]at hb
theorem LH (ok:bZ P tab) {e:TypeId} {z:AV} {zc:List AV} (hzc:z.cells= .ok zc) {h1:AH} {b:Nat} (hn:newRow tab h e zc= .ok (h1,b)) (H:bV E h K w) (hE:E.aC h.next=w.heap.size):
  b=h.next/\h1.next=h.next+1/\(Go.newVar e (ag E z)).run P w= .ok ⟨E.aC h.next,0,none⟩ (w.alloc (.cells (bK E zc).toArray e))/\bV E h1 K (w.alloc (.cells (bK E zc).toArray e))/\Kept K w (w.alloc (.cells (bK E zc).toArray e)):=by
 obtain⟨n,hs,rfl,rfl⟩:=ju hn;refine⟨rfl,rfl,?_,(Mk H hE zc e n).1,Kept.alloc H.kb _⟩;rw[Go.newVar,rm,pf hzc,hE]
set_option maxHeartbeats 1000000 in
include ok in
theorem Le {ts:T AV} {o:Oper} {v:AV} {h':AH} (hp:fk tab ts h o= .ok (v,h')) (w:World) (ρ:Operand->Value):Good P o ts h v h' w ρ:=by
 unfold fk at hp
 cases hop:o.op<;>rw[hop]at hp<;>dsimp only at hp
 case move x=>
  obtain⟨u,hu,hp1⟩:=ay.1 hp
  cases hp1;exact⟨(0,0),fun E K H hρ _=>⟨by omega,aU.same H (by simp_all[execOp])⟩⟩
 case assign x=>
  obtain⟨u,hu,hp1⟩:=ay.1 hp
  cases hp1;exact⟨(0,0),fun E K H hρ _=>⟨by omega,aU.same H (by simp_all[execOp])⟩⟩
 case pick c a b=>
  obtain⟨u,hu,hp1⟩:=ay.1 hp;refine⟨(0,0),fun E K H hρ _=>?_⟩;have hc:=hρ _ _ hu;split at hp1
  . obtain⟨x,hx,hp2⟩:=ay.1 hp1
    cases hp2;exact⟨by omega,aU.same H (by simp_all[execOp,ag,asBool])⟩
  . obtain⟨x,hx,hp2⟩:=ay.1 hp1
    cases hp2;exact⟨by omega,aU.same H (by simp_all[execOp,ag,asBool])⟩
  grind
 case alloc e=>
  obtain⟨z,hz,hp1⟩:=ay.1 hp;obtain⟨zc,hzc,hp2⟩:=ay.1 hp1;obtain⟨⟨h1,b⟩,hn,hp3⟩:=ay.1 hp2
  cases hp3;refine⟨(w.heap.size,0),fun E K H hρ hE=>?_⟩;have hE1:E.aC h.next=w.heap.size:=(hE (FL hn)).1;obtain⟨rfl,h2,h3,h4,h5⟩:=LH ok hzc hn H hE1;exact⟨by grind,aU.value (iv (s:=Instr.alloc e true (.tuple #[])) (by grind [execOp]) (by simp[Instr.alloc,vU ok hz E,h3,ag])) h4 h5⟩
 case box e x=>
  obtain⟨z,hz,hp1⟩:=ay.1 hp;obtain⟨zc,hzc,hp2⟩:=ay.1 hp1;obtain⟨⟨h1,b⟩,hn,hp3⟩:=ay.1 hp2
  cases hp3;refine⟨(w.heap.size,0),fun E K H hρ hE=>?_⟩;have hE1:E.aC h.next=w.heap.size:=(hE (FL hn)).1;obtain⟨rfl,h2,h3,h4,h5⟩:=LH ok hzc hn H hE1;simp_all[aU.value,Instr.box,execOp,ag]
 case build t ps=>
  obtain⟨l,hl,hp1⟩:=ay.1 hp;obtain⟨u,hu,hp2⟩:=ay.1 hp1
  cases hp2;refine⟨(0,0),fun E K H hρ _=>⟨by omega,aU.same H ?_⟩⟩;refine iv (s:=Instr.build t (ps.map fun(i,x)=>(i,ρ x))) (by grind [execOp]) ?_;have:=Ya ok (E:=E) (w:=w) hu;rw[<-Lm hρ _ _ hl]at this;rw[<-this];congr 2
  grind
 case buildSlice t n ps=>
  obtain⟨l,hl,hp1⟩:=ay.1 hp;refine⟨(w.heap.size,0),fun E K H hρ hE=>?_⟩;obtain⟨h1,w',h2,h3,h4⟩:=U5 ok H hp1 (hE (Vd hp1)).1;rw[<-Lm hρ _ _ hl]at h2;refine⟨by omega,aU.value (iv (s:=Instr.buildSlice t n (ps.map fun(i,x)=>(i,ρ x))) (by grind [execOp]) ?_) h3 h4⟩;rw[<-h2];congr 2
  grind
 case load t a=>
  obtain⟨x,hx,hp1⟩:=ay.1 hp;split at hp1
  . obtain⟨u,hu,hp2⟩:=ay.1 hp1
    cases hp2;refine⟨(0,0),fun E K H hρ _=>⟨by omega,aU.same H ?_⟩⟩;grind [iv,Instr.loadAt,execOp,ag,Instr.sureAddr,LF]
  grind
 case store t a x=>
  obtain⟨y,hy,hp1⟩:=ay.1 hp;split at hp1
  . obtain⟨u,hu,hp2⟩:=ay.1 hp1;obtain⟨h1,hh,hp3⟩:=ay.1 hp2
    cases hp3;refine⟨(0,0),fun E K H hρ _=>?_⟩;obtain⟨w',h2,h3,h4⟩:=VU ok H hh;refine⟨by have:=Vi (tab:=tab) hh;omega,Cm (CI (s:=Instr.storeAt t (ρ a) (ρ x)) (by grind [execOp]) ?_) h3 h4⟩;grind [Instr.storeAt,ag,Instr.sureAddr]
  grind
 case nilCheck x=>
  obtain⟨y,hy,hp1⟩:=ay.1 hp;split at hp1
  . cases hp1;exact⟨(0,0),fun E K H hρ _=>⟨by omega,aU.same H (by simp_all[execOp,ag])⟩⟩
  . cases hp1;exact⟨(0,0),fun E K H hρ _=>⟨by omega,aU.same H (by simp_all[execOp,ag])⟩⟩
  grind
 case binOp op t x y yt=>
  obtain⟨a,ha,hp1⟩:=ay.1 hp;obtain⟨b,hb,hp2⟩:=ay.1 hp1;obtain⟨c,hc,hp3⟩:=ay.1 hp2
  cases hp3;refine⟨(0,0),fun E K H hρ _=>⟨by omega,aU.same H ?_⟩⟩;have:=X9 ok H hc x y;grind [iv,execOp]
 case unOp op t x=>
  obtain⟨a,ha,hp1⟩:=ay.1 hp;obtain⟨c,hc,hp3⟩:=ay.1 hp1
  cases hp3;refine⟨(0,0),fun E K H hρ _=>⟨by omega,aU.same H ?_⟩⟩;grind [iv,execOp,qwi]
 case convert s d x=>
  obtain⟨a,ha,hp1⟩:=ay.1 hp;refine⟨(w.heap.size,grownCap w (zr a) 0 (P.elem d)),fun E K H hρ hE=>?_⟩;obtain⟨h1,w',h2,h3,h4⟩:=U6 ok H hp1 hE;refine⟨h1,aU.value (iv (s:=Go.convert s d (ρ x)) (by grind [execOp]) ?_) h3 h4⟩;rw[hρ _ _ ha];exact h2
 case makeInterface t x=>
  obtain⟨d,hd,hp1⟩:=ay.1 hp;have hP:=ok.und t d (dx.1 hd);split at hp1
  . grind
  . rename_i hni;obtain⟨a,ha,hp2⟩:=ay.1 hp1
    cases hp2;refine⟨(0,0),fun E K H hρ _=>⟨by omega,aU.same H ?_⟩⟩;refine iv (s:=Instr.makeInterface t (ρ x)) (by grind [execOp]) ?_;unfold Instr.makeInterface;simp only[Sem.run_bind,underlying,run_program,Result.andThen_ok,hP,Sem.run_pure]
    cases d<;>first|exact absurd rfl (hni _)|(rw[hρ _ _ ha];simp[ag])
 case makeFunc fn fst cap=>
  split at hp
  . rename_i f;obtain⟨a,ha,hp1⟩:=ay.1 hp;obtain⟨b,hb,hp2⟩:=ay.1 hp1
    cases hp2;refine⟨(0,0),fun E K H hρ _=>⟨by omega,aU.same H ?_⟩⟩;refine iv (s:=Instr.makeFunc (.func f) (fst.map ρ) (cap.map ρ)) (by grind [execOp]) ?_;have h1:=rB hρ _ _ ha;have h2:=rB hρ _ _ hb;simp only[Instr.makeFunc,Sem.run_pure,ag,<-h1,<-h2];congr 3<;>simp[<-Array.toList_inj]
  grind
 case makeMap t r=>
  cases r with
  |some x=>cases hp
  | none=>
    cases hp;refine⟨(w.heap.size,0),fun E K H hρ hE=>⟨by simp,?_⟩⟩;refine aU.value (w':=w.alloc (.map #[] 0)) (iv (s:=Instr.makeMap t none) (by grind [execOp]) ?_) (H.new (hE (by simp)).1 (by simp[qf])) (Kept.alloc H.kb _);simp_all[Instr.makeMap,ag]
 case makeSlice t l c=>
  obtain⟨a,ha,hp1⟩:=ay.1 hp;obtain⟨b,hb,hp2⟩:=ay.1 hp1;refine⟨(w.heap.size,0),fun E K H hρ hE=>?_⟩;obtain⟨h1,w',h2,h3,h4⟩:=Vq ok H hp2 (hE (Vv hp2)).1;refine⟨by omega,aU.value (iv (s:=Instr.makeSlice t (ρ l) (ρ c)) (by grind [execOp]) ?_) h3 h4⟩;rw[hρ _ _ ha,hρ _ _ hb];exact h2
 case slice t x lo hi mx=>
  obtain⟨a,ha,hp1⟩:=ay.1 hp;refine⟨(0,0),fun E K H hρ hE=>?_⟩;grind [V8,aU.same,iv,execOp]
 case fieldAddr st x f=>
  obtain⟨fd,hf,hp1⟩:=ay.1 hp;obtain⟨n,hn,hp2⟩:=ay.1 hp1;obtain⟨_,hck,hp3⟩:=ay.1 hp2;obtain⟨a,ha,hp4⟩:=ay.1 hp3;obtain⟨fs,hP,hfd⟩:=LW ok hf;have hn0:n≠0:=by
    intro e;simp_all[R.check]
  split at hp4
  . cases hp4;refine⟨(0,0),fun E K H hρ _=>⟨by omega,aU.same H ?_⟩⟩;refine iv (s:=Instr.fieldAt st (ρ x) f) (by grind [execOp]) ?_;unfold Instr.fieldAt;simp[underlying,hP,hfd,hρ _ _ ha,ag,Instr.sureAddr,fieldPlace,kS ok hn,hn0,add_lit]
  grind
 case field t x f=>
  obtain⟨fd,hf,hp1⟩:=ay.1 hp;obtain⟨a,ha,hp2⟩:=ay.1 hp1;obtain⟨fs,hP,hfd⟩:=LW ok hf;split at hp2
  . obtain⟨u,hu,hp3⟩:=ay.1 hp2
    cases hp3;refine⟨(0,0),fun E K H hρ _=>⟨by omega,aU.same H ?_⟩⟩;refine iv (s:=Instr.field t (ρ x) f) (by grind [execOp]) ?_;unfold Instr.field;simp[underlying,hP,hfd,hρ _ _ ha,ag,asAgg,yH ok hu E w]
  grind
 case indexAddr t x ix=>
  obtain⟨y,hy,hp0⟩:=ay.1 hp;obtain⟨i,hi,hp1⟩:=ay.1 hp0;obtain⟨d,hd,hp2⟩:=ay.1 hp1;obtain⟨a,ha,hp3⟩:=ay.1 hp2;have hP:=ok.und t d (dx.1 hd);obtain⟨k,rfl⟩:=vF hi;split at hp3
  . obtain⟨_,hck,hp4⟩:=ay.1 hp3;obtain⟨n,hn,hp5⟩:=ay.1 hp4
    cases hp5;have hlt:=eI.1 hck;simp only[B6]at hlt;refine⟨(0,0),fun E K H hρ _=>⟨by omega,aU.same H ?_⟩⟩;refine iv (s:=Instr.indexAt t (ρ x) (ρ ix)) (by grind [execOp]) ?_;unfold Instr.indexAt;simp[underlying,hP,hρ _ _ ha,hρ _ _ hy,ag,Go.asIntOf,Instr.sureAddr,kS ok hn,hlt,add_lit]
  . obtain⟨_,hck,hp4⟩:=ay.1 hp3;obtain⟨n,hn,hp5⟩:=ay.1 hp4
    cases hp5;have hlt:=eI.1 hck;simp only[B6]at hlt;refine⟨(0,0),fun E K H hρ _=>⟨by omega,aU.same H ?_⟩⟩;refine iv (s:=Instr.indexAt t (ρ x) (ρ ix)) (by grind [execOp]) ?_;unfold Instr.indexAt;simp[underlying,hP,hρ _ _ ha,hρ _ _ hy,ag,Go.asIntOf,kS ok hn,hlt,add_lit]
  grind
 case index t x ix=>
  obtain⟨y,hy,hp0⟩:=ay.1 hp;obtain⟨i,hi,hp1⟩:=ay.1 hp0;obtain⟨d,hd,hp2⟩:=ay.1 hp1;obtain⟨a,ha,hp3⟩:=ay.1 hp2;have hP:=ok.und t d (dx.1 hd);obtain⟨k,rfl⟩:=vF hi;split at hp3
  . obtain⟨_,hck,hp4⟩:=ay.1 hp3;obtain⟨n,hn,hp5⟩:=ay.1 hp4;obtain⟨u,hu,hp6⟩:=ay.1 hp5
    cases hp6;have hlt:=eI.1 hck;simp only[B6]at hlt;refine⟨(0,0),fun E K H hρ _=>⟨by omega,aU.same H ?_⟩⟩;refine iv (s:=Instr.index t (ρ x) (ρ ix)) (by grind [execOp]) ?_;unfold Instr.index;simp[underlying,hP,hρ _ _ ha,hρ _ _ hy,ag,Go.asIntOf,kS ok hn,hlt,yH ok hu E w]
  . obtain⟨b,hb,hp4⟩:=ay.1 hp3
    cases hp4;have hb:=dx.1 hb;refine⟨(0,0),fun E K H hρ _=>⟨by omega,aU.same H ?_⟩⟩;refine iv (s:=Instr.index t (ρ x) (ρ ix)) (by simp[execOp,hop]) ?_;unfold Instr.index;simp[underlying,hP,hρ _ _ ha,hρ _ _ hy,ag,Go.asIntOf];rw[QA hb];rfl
  . cases hp3
 case lookup t m k c=>
  obtain⟨a,ha,hp1⟩:=ay.1 hp;obtain⟨b,hb,hp2⟩:=ay.1 hp1;obtain⟨u,hu,hp3⟩:=ay.1 hp2
  cases hp3;refine⟨(0,0),fun E K H hρ _=>⟨by omega,aU.same H ?_⟩⟩;refine iv (s:=Instr.lookup t (ρ m) (ρ k) c) (by simp[execOp,hop]) ?_;rw[hρ _ _ ha,hρ _ _ hb];exact XA ok H hu
 case mapUpdate t m k x=>
  obtain⟨a,ha,hp1⟩:=ay.1 hp;obtain⟨b,hb,hp2⟩:=ay.1 hp1;obtain⟨c,hc,hp3⟩:=ay.1 hp2;obtain⟨h1,hh,hp4⟩:=ay.1 hp3
  cases hp4;refine⟨(0,0),fun E K H hρ _=>?_⟩;obtain⟨h2,w',h3,h4,h5⟩:=KV ok H hh;refine⟨by omega,Cm (CI (s:=Instr.mapUpdate t (ρ m) (ρ k) (ρ x)) (by simp[execOp,hop]) ?_) h4 h5⟩;rw[hρ _ _ ha,hρ _ _ hb,hρ _ _ hc];exact h3
 case insert t m k x=>
  obtain⟨a,ha,hp1⟩:=ay.1 hp;obtain⟨b,hb,hp2⟩:=ay.1 hp1;obtain⟨c,hc,hp3⟩:=ay.1 hp2;obtain⟨h1,hh,hp4⟩:=ay.1 hp3
  cases hp4;refine⟨(0,0),fun E K H hρ _=>?_⟩;obtain⟨h2,w',h3,h4,h5⟩:=KV ok H hh;refine⟨by omega,Cm (CI (s:=Instr.mapUpdate t (ρ m) (ρ k) (ρ x)) (by grind [execOp]) ?_) h4 h5⟩;rw[hρ _ _ ha,hρ _ _ hb,hρ _ _ hc];exact h3
 case mapEntry t m k=>
  obtain⟨a,ha,hp1⟩:=ay.1 hp;obtain⟨b,hb,hp2⟩:=ay.1 hp1;refine⟨(0,0),fun E K H hρ _=>?_⟩;obtain⟨h2,w',h3,h4,h5⟩:=Vw ok H hp2;refine⟨by omega,aU.value (iv (s:=Instr.mapEntry t (ρ m) (ρ k)) (by grind [execOp]) ?_) h4 h5⟩;rw[hρ _ _ ha,hρ _ _ hb];exact h3
 case entryStore t m s x=>
  obtain⟨a,ha,hp1⟩:=ay.1 hp;obtain⟨b,hb,hp2⟩:=ay.1 hp1;obtain⟨c,hc,hp3⟩:=ay.1 hp2;obtain⟨h1,hh,hp4⟩:=ay.1 hp3
  cases hp4;refine⟨(0,0),fun E K H hρ _=>?_⟩;obtain⟨h2,w',h3,h4,h5⟩:=U7 ok (t:=t) H hh;simp_all[Cm,execOp]
 case range t x=>
  obtain⟨a,ha,hp1⟩:=ay.1 hp;refine⟨(w.heap.size,0),fun E K H hρ hE=>?_⟩;obtain⟨h2,w',h3,h4,h5⟩:=V0 ok H hp1 (hE (WY hp1)).1;refine⟨by omega,aU.value (iv (s:=Instr.range t (ρ x)) (by simp[execOp,hop]) ?_) h4 h5⟩;rw[hρ _ _ ha];exact h3
 case entry it=>
  obtain⟨a,ha,hp1⟩:=ay.1 hp;obtain⟨u,hu,hp2⟩:=ay.1 hp1
  cases hp2;refine⟨(0,0),fun E K H hρ _=>⟨by omega,aU.same H ?_⟩⟩;refine iv (s:=Instr.entry (ρ it)) (by simp[execOp,hop]) ?_;rw[hρ _ _ ha];exact Wj H hu
 case typeAssert x xt t c=>
  obtain⟨d,hd,hp1⟩:=ay.1 hp;obtain⟨a,ha,hp2⟩:=ay.1 hp1;have hP:=ok.und t d (dx.1 hd);have hx:execOp ρ o=(do pure (.value (<-Instr.typeAssert (ρ x) xt t c))):=by simp[execOp,hop]
  split at hp2
  . grind
  . rename_i u v' hni;split at hp2
    . rename_i hut;subst hut
      cases hp2;refine⟨(0,0),fun E K H hρ _=>⟨by omega,aU.same H (iv hx ?_)⟩⟩;unfold Instr.typeAssert;rw[hρ _ _ ha];simp only[Sem.run_bind,underlying,run_program,Result.andThen_ok,hP,Sem.run_pure,ag]
      cases d<;>first|exact absurd rfl (hni _)|(cases c<;>simp[ag])
    . rename_i hut;obtain⟨_,hck,hp3⟩:=ay.1 hp2;obtain⟨z,hz,hp4⟩:=ay.1 hp3
      cases hp4;have hc:c=true:=eI.1 hck;subst hc;refine⟨(0,0),fun E K H hρ _=>⟨by omega,aU.same H (iv hx ?_)⟩⟩;unfold Instr.typeAssert;rw[hρ _ _ ha];simp only[Sem.run_bind,underlying,run_program,Result.andThen_ok,hP,Sem.run_pure,ag]
      cases d<;>first|exact absurd rfl (hni _)|(simp[ag,hut,vU ok hz E])
  . rename_i hni;obtain⟨_,hck,hp3⟩:=ay.1 hp2;obtain⟨z,hz,hp4⟩:=ay.1 hp3
    cases hp4;have hc:c=true:=eI.1 hck;subst hc;refine⟨(0,0),fun E K H hρ _=>⟨by omega,aU.same H (iv hx ?_)⟩⟩;unfold Instr.typeAssert;rw[hρ _ _ ha];simp only[Sem.run_bind,underlying,run_program,Result.andThen_ok,hP,Sem.run_pure,ag]
    cases d<;>first|exact absurd rfl (hni _)|(simp[ag,vU ok hz E])
  . cases hp2
 case extract t i=>
  obtain⟨a,ha,hp1⟩:=ay.1 hp;split at hp1
  . obtain⟨u,hu,hp2⟩:=ay.1 hp1
    cases hp2;have hu:=dx.1 hu;refine⟨(0,0),fun E K H hρ _=>⟨by omega,aU.same H ?_⟩⟩;simp_all[Instr.extract,execOp,ag,kT]
  . cases hp1
 case call c=>
  split at hp
  . rename_i b hb;obtain⟨l,hl,hp1⟩:=ay.1 hp;refine⟨mU P w b c.argTypes (((c.args.toList.map ρ)[0]?).getD undef) (wC l),fun E K H hρ hE=>?_⟩;have hmap:=rB hρ _ _ hl;rw[hmap]at hE;obtain⟨h1,w',h2,h3,h4⟩:=VN ok H hp1 hE o.type (c.args.map fun| .const _=>true|_=>false);refine⟨h1,_,w',?_, .inl rfl,h3,h4⟩;rw[<-h2,<-hmap];have:(c.args.toList.map ρ).toArray=c.args.map ρ:=by simp[<-Array.toList_inj]
    rw[this];grind [execOp,resolve,invoke]
  . cases hp
 all_goals grind
end
end
end Go.Am
namespace Go.Am
section
def ak.enter (fn:Func) (f:FuncId) (body:Code) (args:List AV) (kind:CallKind):ak:=
 {fn:=f,nt:=Nat.max fn.ntmps args.length,tmps:=T.ofList args,todo:=[.code body],defers:=[],mode:= .run,kind,round:=none}
def ak.put (fr:ak) (d:Option Tmp) (v:AV):T AV:=
 match d with
 |some d=>bif Nat.blt d fr.nt then fr.tmps.set d (some v)else fr.tmps
 |none=>fr.tmps
def ak.finish (fr:ak) (v:AV):R ak:=
 match fr.todo with
 | .inRegion ops (i::rest)::k=> .ok {fr with tmps:=fr.put ((ops[i]?).bind (·.dst)) v,todo:= .inRegion ops rest::k}
 | .fe l::k=> .ok {fr with todo:= .endRange l::k}
 | .beginRound::k=> .ok {fr with todo:=k}
 |_=> .no "finish"
def ak.raise (fr:ak) (c:List xg):ak:=
 match fr.mode with
 | .panicking d=>{fr with mode:= .panicking (c++d)}
 |_=>{fr with mode:= .panicking c}
def exitTo (id:Nat):List bU->Option (List bU)
 | .inBlock j::k=>bif Nat.beq j id then some k else exitTo id k
 |_::k=>exitTo id k
 |[]=>none
inductive ed where
 |next (m:AM)
 |alts (l:List AM)
 |done (v:AV) (h:AH)
section
variable (tab:bC) (sub:FuncId->List AV->AH->R (List (AV×AH)))
def wanted (ops:Array Oper) (o:Oper) (ts:T AV):R Bool:=
 match o.guard with
 |none=> .ok true
 |some (j,w)=>
  match((ops[j]?).bind (·.dst)).bind ts.get with
  |some (.bool b)=> .ok (b==w)
  |some (.raw _)=> .no "guard"
  |_=> .ok false
def doReturn (fr:ak) (cs:List ak) (v:AV) (h:AH):R ed:=
 match cs with
 |[]=>
  match fr.kind with
  | .normal=> .ok (.done v h)
  |_=> .no "doReturn: end"
 | c::rest=>
  match fr.kind with
  | .normal=>do .ok (.next {fr:= <-c.finish v,cs:=rest,h})
  | .deferred=>
   match c.mode with
   | .panicking ({recovered:=true, .. }::_)=> .ok (.next {fr:={c with mode:= .returning},cs:=rest,h})
   |_=> .ok (.next {fr:=c,cs:=rest,h})
  |_=> .no "doReturn: kind"
def leave (fr:ak) (cs:List ak) (h:AH) (jump:Option Code):R ed:=
 match fr.round with
 |none=>
  match jump with
  |none=> .ok (.next {fr:={fr with mode:= .returning},cs,h})
  |some .ret=> .ok (.next {fr:={fr with mode:= .returning},cs,h})
  |_=> .no "leave"
 | some l=>
  match h.get l,cs with
  |some (.loop _ _ fn ts nt ps a b d),_::_=>
   doReturn fr cs (.bool jump.isNone) (h.set l (.loop (if jump.isNone then .ready else .done) jump fn ts nt ps a b d))
  |_,_=> .no "leave: loop"
def Hq (b:ByteArray) (c:UInt8):Int:=
 match(List.range b.size).find? fun i=>b[i]! ==c with
 |some i=>(i:Nat)
 |none=> -1
def extern (tag:Nat) (fn:Func) (args:List AV) (h:AH):R (AV×AH):=
 match tag,args with
 |1,[.str a, .str b]=> .ok (.int .i64 (Extern.BytealgCompare.cmp ⟨a.toArray⟩ ⟨b.toArray⟩),h)
 |2,[x]=> .ok (x,h)
 | 3,[.int .i64 (.ofNat n)]=>do
  let t<-R.of "MakeNoZero" fn.resultTypes[0]?
  match<-und tab t with
  | .slice e=>do
   let sz<-siz tab e
   R.check "MakeNoZero" (Nat.ble n 1048576&&Nat.beq sz 1)
   let (h',b)<-newRow tab h e [] true
   .ok (.sl b 0 n (.tail 0),h')
  |_=> .no "MakeNoZero"
 | 4,[x,y]=>do
  let t<-R.of "overlaps" fn.params[0]?
  match<-und tab t with
  | .slice e=>do
   let sz<-siz tab e
   R.check "overlaps: size" (!(Nat.beq sz 0))
   match x,y with
   | .nils, .nils=> .ok (.bool false,h)
   | .nils, .sl .. => .ok (.bool false,h)
   | .sl .., .nils=> .ok (.bool false,h)
   | .sl a i n _, .sl b j m _=>do
    match h.get a,h.get b with
    |some (.cells _ _ _ _ .rw),some (.cells _ _ _ _ .rw)=>
     bif Nat.beq n 0||Nat.beq m 0 then .ok (.bool false,h)
     else .ok (.bool (Nat.beq a b&&Nat.blt i (j+m*sz)&&Nat.blt j (i+n*sz)),h)
    |_,_=> .no "overlaps"
   |_,_=> .no "overlaps"
  |_=> .no "overlaps"
 |5,[.str a, .int .u8 c]=> .ok (.int .i64 (Hq ⟨a.toArray⟩ c.toNat.toUInt8),h)
 |6,[.str a, .int .u8 c]=> .ok (.int .i64 (a.count c.toNat.toUInt8:Nat),h)
 |_,_=> .no "extern"
def yz (f:FuncId) (fn:Func) (args:List AV) (h:AH):R (AV×AH):=
 match tab.ext.get f with
 |some tag=>extern tab tag fn args h
 |none=> .no "extern"
def callFn (fr:ak) (cs:List ak) (h:AH) (f:FuncId) (args:List AV) (kind:CallKind):R ed:=
 match tab.fns.get f with
 | some fn=>
  match fn.body with
  | some body=>
   bif tab.merge f&&kind== .normal then do
    let outs<-sub f args h
    let ms<-outs.mapM fun(v,h')=>do R.ok {fr:= <-fr.finish v,cs,h:=h':AM}
    .ok (.alts ms)
   else .ok (.next {fr:=ak.enter fn f body args kind,cs:=fr::cs,h})
  | none=>
   match kind with
   | .normal=>do
    let (v,h')<-yz tab f fn args h
    .ok (.next {fr:= <-fr.finish v,cs,h:=h'})
   |_=> .no "callFn: no body"
 |none=> .no "callFn: no function"
def callYield (fr:ak) (cs:List ak) (h:AH) (l:Nat) (args:List AV) (kind:CallKind):R ed:= .no "callYield"
def callTarget (fr:ak) (cs:List ak) (h:AH) (d:AD) (kind:CallKind):R ed:=
 match d.target with
 | .fn (.func f) captured=>callFn tab sub fr cs h f (d.args++captured) kind
 | .mP l=>callYield fr cs h l d.args kind
 |_=> .no "callTarget"
def rn (f:AV) (args:List AV):R AD:=
 match f with
 | .fn fn first captured=> .ok {target:= .fn fn captured,args:=first++args}
 | .mP l=> .ok {target:= .mP l,args}
 |_=> .no "resolve"
def tryRecover (fr:ak) (cs:List ak):R (Option (AV×List ak)):=
 match fr.kind,cs with
 | .deferred,c::rest=>
  match c.mode with
  | .panicking ({v,recovered:=false}::older)=> .ok (some (v,{c with mode:= .panicking ({v,recovered:=true}::older)}::rest))
  |_=> .ok none
 | .normal,_::_=> .ok none
 |_,_=> .no "recover"
def oper (fr:ak) (cs:List ak) (h:AH) (o:Oper):R ed:=do
 match o.op with
 | .call c=>do
  match c.callee with
  | .value f=>do
   let args<-kF fr.tmps c.args.toList
   let d<-rn (<-ev fr.tmps f) args
   callTarget tab sub fr cs h d .normal
  | .builtin .recover=>
   match fr.round with
   |none=>do
    match<-tryRecover fr cs with
    |some (v,cs')=>do .ok (.next {fr:= <-fr.finish v,cs:=cs',h})
    |none=>do .ok (.next {fr:= <-fr.finish .ij,cs,h})
   |some _=> .no "recover in a round"
  |_=>do
   let (v,h')<-fk tab fr.tmps h o
   .ok (.next {fr:= <-fr.finish v,cs,h:=h'})
 | .defer c=>do
  match c.callee,fr.round with
  | .value f,none=>do
   let args<-kF fr.tmps c.args.toList
   let d<-rn (<-ev fr.tmps f) args
   .ok (.next {fr:= <-ak.finish {fr with defers:=d::fr.defers} (.bO []),cs,h})
  |_,_=> .no "defer"
 | .panic x=>do
  match<-ev fr.tmps x with
  | .iface t v=> .ok (.next {fr:=fr.raise [{v:= .iface t v,recovered:=false}],cs,h})
  |_=> .no "panic"
 | .next it s=>do
  let l<-nextOp h (<-ev fr.tmps it) s
  let ms<-l.mapM fun(v,h')=>do R.ok {fr:= <-fr.finish v,cs,h:=h':AM}
  match ms with
  |[m]=> .ok (.next m)
  |ms=> .ok (.alts ms)
 |_=>do
  let (v,h')<-fk tab fr.tmps h o
  .ok (.next {fr:= <-fr.finish v,cs,h:=h'})
inductive qH where
 |pure|read|alloc|lD
deriving DecidableEq
def cls (tab:bC) (o:Oper):qH:=
 match o.op with
 | .move _| .assign _| .pick .. | .build .. | .unOp .. | .makeInterface .. | .makeFunc .. | .slice .. | .fieldAddr .. | .field .. | .indexAddr .. | .index .. | .extract .. | .nilCheck _| .typeAssert .. => .pure
 | .load .. | .lookup .. | .entry _| .binOp .. => .read
 | .convert a b _=>match tab.und.get a,tab.und.get b with
  |some (.int _),some (.int _)=> .pure
  |_,_=> .lD
 | .alloc _| .box .. | .buildSlice .. | .makeMap .. | .makeSlice .. => .alloc
 | .call c=>match c.callee with
  | .builtin .len=> .read
  | .builtin .cap| .builtin .min| .builtin .max=> .pure
  |_=> .lD
 |_=> .lD
structure DS where
 ts:T AV
 h:AH
 aS:T (List Nat)
 reads:List (Nat×T AV×AV)
 aI:List (Nat×Nat)
def jh (h:AH):List (Nat×Nat)->AH
 |[]=>h
 |(_,b)::l=>jh (h.kill b) l
def restore (h h0:AH):List (Nat×Nat)->AH
 |[]=>h
 |(_,b)::l=>restore {h with t:=h.t.set b (h0.get b)} h0 l
def da (i:Nat) (l:List Nat):Bool:=l.any (Nat.beq i)
def iV (o:Oper):List Nat:=(o.after.toList.filter (Region.binds .any)).map (·.on)
def oQ (j:Nat) (l:List Nat):List Nat:=bif da j l then l else j::l
def wL:List Nat->List Nat->List Nat
 |[],l=>l
 |j::m,l=>wL m (oQ j l)
def zj (aS:T (List Nat)):List Nat->List Nat
 |[]=>[]
 |j::l=>oQ j (wL ((aS.get j).getD []) (zj aS l))
def eS (aS:T (List Nat)) (o:Oper):List Nat:=zj aS (iV o)
def isReady (aS:T (List Nat)) (i:Nat) (o:Oper):Bool:=(aS.get i).isNone&&(iV o).all fun j=>(aS.get j).isSome
def looks (ops:Array Oper) (o:Oper):List Tmp:=
  (o.op.operands.toList.filterMap fun| .tmp t=>some t|_=>none)++
  (match o.guard with
   |some (g,_)=>((ops[g]?).bind (·.dst)).toList
   |none=>[])
def yf (aS:T (List Nat)) (t:Tmp) (pre:List Nat):Nat->List Oper->Bool
 |_,[]=>true
 |j,o::l=>(match o.dst with
  |some d=>bif Nat.beq d t&&(aS.get j).isSome then da j pre else true
  |none=>true)&&yf aS t pre (j+1) l
def yT (aS:T (List Nat)) (ops:Array Oper) (i:Nat) (a:Tmp) (an:List Nat):Nat->List Oper->Bool
 |_,[]=>true
 |j,o::l=>(match o.dst with
  |some d=>bif Nat.beq d a then Nat.beq i j else true
  |none=>true)&&(bif (aS.get j).isSome then da j an|| !(da a (looks ops o))else true)&&yT aS ops i a an (j+1) l
def jQ (aS:T (List Nat)) (ops:Array Oper) (i:Nat) (o:Oper):Bool:=
  (looks ops o).all (fun t=>yf aS t (iV o) 0 ops.toList)&&
  (match o.dst with
   |some d=>yT aS ops i d (eS aS o) 0 ops.toList
   |none=>true)
def ua (ts:T AV) (h:AH) (o:Oper):R (AV×AH):=do
 match o.op with
 | .call c=>do
  match c.callee with
  | .value f=>do
   let args<-kF ts c.args.toList
   let d<-rn (<-ev ts f) args
   match d.target with
   | .fn (.func f) captured=>do
    match tab.fns.get f with
    | some fn=>
     match fn.body with
     |some _=>do
      match<-sub f (d.args++captured) h with
      |[(v,h')]=> .ok (v,h')
      |_=> .no "draw: more than one end"
     |none=>yz tab f fn (d.args++captured) h
    |none=> .no "draw: function"
   |_=> .no "draw: target"
  | .builtin .recover=> .no "draw: recover"
  |_=>fk tab ts h o
 | .defer _| .panic _| .next .. | .go _=> .no "draw: effect"
 |_=>fk tab ts h o
def jg (nt:Nat) (ts:T AV) (o:Oper) (v:AV):T AV:=
 match o.dst with
 |some d=>bif Nat.blt d nt then ts.set d (some v)else ts
 |none=>ts
def vx (ops:Array Oper) (nt:Nat) (i:Nat) (o:Oper) (s:DS):R (Option DS):=do
 R.check "draw: temporaries" (jQ s.aS ops i o)
 let aS:=s.aS.set i (some (eS s.aS o))
 if !(<-wanted ops o s.ts)then .ok (some {s with ts:=jg nt s.ts o (.bO []),aS})
 else
  match cls tab o with
  | .lD=> .ok none
  | .alloc=>do
   let (v,h1)<-fk tab s.ts {t:= .e,next:=s.h.next} o
   R.check "draw: a block" (Nat.beq h1.next (s.h.next+1))
   let obj<-R.of "draw: block" (h1.get s.h.next)
   .ok (some {s with ts:=jg nt s.ts o v,h:=s.h.new obj,aS,aI:=(i,s.h.next)::s.aI})
  | c=>
   match(match c with| .pure=>fk tab s.ts {t:= .e,next:=0} o|_=> .no "read")with
   | .ok (v,h1)=>do
    R.check "draw: no block" (Nat.beq h1.next 0)
    .ok (some {s with ts:=jg nt s.ts o v,aS})
   | .no _=>
    match fk tab s.ts (jh s.h s.aI) o with
    | .ok (v,_)=> .ok (some {s with ts:=jg nt s.ts o v,aS,reads:=(i,s.ts,v)::s.reads})
    | .no _=> .ok none
def lI (ops:Array Oper) (nt:Nat):Nat->List Oper->DS->R DS
 |_,[],s=> .ok s
 | i,o::l,s=>
  bif isReady s.aS i o then do
   match<-vx tab ops nt i o s with
   |some s'=>lI ops nt (i+1) l s'
   |none=>lI ops nt (i+1) l s
  else lI ops nt (i+1) l s
def jW (aS:T (List Nat)):Nat->List Oper->List (Nat×Oper)
 |_,[]=>[]
 |i,o::l=>bif isReady aS i o then(i,o)::jW aS (i+1) l else jW aS (i+1) l
def reread (ops:Array Oper) (h:AH):List (Nat×T AV×AV)->R Unit
 |[]=> .ok ()
 |(i,ts,v)::l=>do
  let o<-R.of "reread" ops[i]?
  let (u,_)<-fk tab ts h o
  R.check "draw: a read behind an effect" (AV.beq u v)
  reread ops h l
def Gx (ops:Array Oper) (nt:Nat) (i:Nat) (o:Oper) (s:DS):R DS:=do
 R.check "draw: temporaries" (jQ s.aS ops i o)
 let b<-wanted ops o s.ts
 R.check "draw: not wanted" b
 let an:=eS s.aS o
 let hid:=s.aI.filter fun x=> !(da x.1 an)
 let (v,h1)<-ua tab sub s.ts (jh s.h hid) o
 R.check "draw: next" (Nat.ble s.h.next h1.next)
 let h2:=restore h1 s.h hid
 let reads:=s.reads.filter fun x=> !(da x.1 an)
 reread tab ops (jh h2 hid) reads
 .ok {ts:=jg nt s.ts o v,h:=h2,aS:=s.aS.set i (some an),reads,aI:=hid}
def vM (ops:Array Oper) (nt:Nat):Nat->DS->R DS
 |0,_=> .no "draw: fuel"
 | n+1,s=>do
  let s1<-lI tab ops nt 0 ops.toList s
  match jW s1.aS 0 ops.toList with
  |[]=>do
   R.check "draw: not all" ((List.range ops.size).all fun i=>(s1.aS.get i).isSome)
   .ok s1
  |[(i,o)]=>do
   let s2<-Gx tab sub ops nt i o s1
   vM ops nt n s2
  |_=> .no "draw: two effects"
def qF:Nat->List Oper->Bool
 |_,[]=>true
 |i,o::l=>(iV o).all (fun p=>Nat.blt p i)&&qF (i+1) l
def draw (ops:Array Oper) (nt:Nat) (ts:T AV) (h:AH):R (T AV×AH):=do
 R.check "draw: order" (qF 0 ops.toList)
 let s<-vM tab sub ops nt (ops.size+1) {ts,h,aS:= .e,reads:=[],aI:=[]}
 .ok (s.ts,s.h)
def results (h:AH) (ts:T AV):List ResultVar->R (List AV)
 |[]=> .ok []
 | .tmp t::l=>do
  let vs<-results h ts l
  .ok ((ts.get t).getD (.bO [])::vs)
 | .cell a t::l=>do
  match ts.get a with
  |some (.ptr b off)=>do
   let v<-loadVar tab h t b off
   let vs<-results h ts l
   .ok (v::vs)
  |_=> .no "results"
def result (vs:List AV):AV:=
 match vs with
 |[v]=>v
 |vs=> .bO vs
def unwind (fr:ak) (cs:List ak) (h:AH):R ed:=
 match fr.defers with
 |{target:= .collected b, .. }::ds=>
  match h.get b with
  |some (.qR (some calls))=> .ok (.next {fr:={fr with defers:=calls++ds},cs,h:=h.set b (.qR none)})
  |_=> .no "unwind: collected"
 |d::ds=>callTarget tab sub {fr with defers:=ds} cs h d .deferred
 | []=>
  match fr.mode with
  | .run=> .no "unwind"
  | .panicking chain=>
   match cs with
   |c::rest=> .ok (.next {fr:=c.raise chain,cs:=rest,h})
   |[]=> .no "a panic at the end"
  | .returning=>
   match tab.fns.get fr.fn with
   |none=> .no "unwind: function"
   |some fn=>do
    let vs<-results tab h fr.tmps fn.results.toList
    doReturn fr cs (result vs) h
def step (m:AM):R ed:=
 let fr:=m.fr
 let cs:=m.cs
 let h:=m.h
 match fr.mode with
 | .run=>
  match fr.todo with
  |[]=>leave fr cs h none
  | .code .ret::_=>leave fr cs h (some .ret)
  | .code .skip::k=> .ok (.next {fr:={fr with todo:=k},cs,h})
  | .code (.label _)::k=> .ok (.next {fr:={fr with todo:=k},cs,h})
  | .inBlock _::k=> .ok (.next {fr:={fr with todo:=k},cs,h})
  | .inScope _::k=> .ok (.next {fr:={fr with todo:=k},cs,h})
  | .code (.seq a b)::k=> .ok (.next {fr:={fr with todo:= .code a:: .code b::k},cs,h})
  | .code (.cond c a b)::k=>do
   match<-ev fr.tmps c with
   | .bool true=> .ok (.next {fr:={fr with todo:= .code a::k},cs,h})
   | .bool false=> .ok (.next {fr:={fr with todo:= .code b::k},cs,h})
   |_=> .no "cond"
  | .code (.block id b)::k=> .ok (.next {fr:={fr with todo:= .code b:: .inBlock id::k},cs,h})
  | .code (.loop b)::k=> .ok (.next {fr:={fr with todo:= .code b:: .inLoop b::k},cs,h})
  | .inLoop b::k=> .ok (.next {fr:={fr with todo:= .code b:: .inLoop b::k},cs,h})
  | .code (.scope b)::k=> .ok (.next {fr:={fr with todo:= .code b:: .inScope b::k},cs,h})
  | .code (.exit id)::k=>
   match exitTo id k with
   |some k'=> .ok (.next {fr:={fr with todo:=k'},cs,h})
   |none=>leave fr cs h (some (.exit id))
  | .code (.rangeFunc _ _ _ _)::_=> .no "rangeFunc"
  | .endRange l::k=>
   match h.get l with
   |some (.loop st pending fn ts nt ps a b d)=>
    match st with
    | .busy=> .no "endRange: busy"
    |_=> .ok (.next {fr:={fr with todo:=(pending.map bU.code).toList++k},cs,h:=h.set l (.loop .exhausted pending fn ts nt ps a b d)})
   |_=> .no "endRange"
  | .beginRound::k=>
   match fr.round with
   |some l=>
    match h.get l with
    |some (.loop .ready pending fn ts nt ps a b d)=> .ok (.next {fr:={fr with todo:=k},cs,h:=h.set l (.loop .busy pending fn ts nt ps a b d)})
    |_=> .no "beginRound"
   |none=> .no "beginRound"
  | .code (.region _ ops false)::k=> .ok (.next {fr:={fr with todo:= .inRegion ops (List.range ops.size)::k},cs,h})
  | .code (.region _ ops true)::k=>do
   let (ts,h')<-draw tab sub ops fr.nt fr.tmps h
   .ok (.next {fr:={fr with tmps:=ts,todo:=k},cs,h:=h'})
  | .inRegion _ []::k=> .ok (.next {fr:={fr with todo:=k},cs,h})
  | .inRegion ops (i::_)::_=>
   match ops[i]? with
   |some o=>do
    if<-wanted ops o fr.tmps then oper tab sub fr cs h o
    else do .ok (.next {fr:= <-fr.finish (.bO []),cs,h})
   |none=> .no "region"
  |_=> .no "item"
 |_=>unwind tab sub fr cs h
end
mutual
def runs (tab:bC):Nat->List AM->R (List (AV×AH))
 |0,_=> .no "fuel"
 |_+1,[]=> .ok []
 |n+1,m::l=>do
  let a<-run tab n m
  let b<-runs tab n l
  .ok (a++b)
def run (tab:bC):Nat->AM->R (List (AV×AH))
 |0,_=> .no "fuel"
 | n+1,m=>
  match step tab (fun f args h=>match tab.fns.get f with
   |some fn=>match fn.body with
    |some body=>run tab n {fr:=ak.enter fn f body args .normal,cs:=[],h}
    |none=> .no "run: body"
   |none=> .no "run: function") m with
  | .no w=> .no w
  | .ok (.done v h)=> .ok [(v,h)]
  | .ok (.next m')=>run tab n m'
  | .ok (.alts l)=>runs tab n l
end
end
end Go.Am
namespace Go.Am
open Go.RowKit
section
variable [Inhabited aK]
def dQ (E:Env):bU->Item
 | .code c=> .code c
 | .inBlock id=> .inBlock id
 | .inLoop b=> .inLoop b
 | .inScope b=> .inScope b
 | .inRegion ops l=> .inRegion ops l
 | .fe l=> .inRangeFunc (E.aC l)
 | .endRange l=> .endRangeFunc (E.aC l)
 | .beginRound=> .beginRound
def pE (E:Env) (x:xg):PanicEntry:={v:=ag E x.v,recovered:=x.recovered}
def fy (E:Env):qe->FrameMode
 | .run=> .run
 | .returning=> .returning
 | .panicking c=> .panicking (c.map (pE E))
def bN (E:Env) (fr:ak):Frame:=
 {fn:=fr.fn,tmps:=iQ E fr.tmps fr.nt,todo:=fr.todo.map (dQ E),defers:=fr.defers.map (eD E),mode:=fy E fr.mode,kind:=fr.kind,roundOf:=fr.round.map E.aC}
def ak.WF (fr:ak):Prop:=∀t,fr.nt<=t->fr.tmps.get t=none
def aw (D:Nat->Prop) (E E':Env):Prop:=∀i,D i->E'.aC i=E.aC i/\E'.cap i=E.cap i
theorem aw.refl (D:Nat->Prop) (E:Env):aw D E E:=fun _ _=>⟨rfl,rfl⟩
theorem aw.trans {D D':Nat->Prop} {E E' E'':Env} (h:aw D E E') (h':aw D' E' E'') (hd:∀i,D i->D' i):aw D E E'':=
 fun i hi=>⟨(h' i (hd i hi)).1.trans (h i hi).1,(h' i (hd i hi)).2.trans (h i hi).2⟩
structure Rel (D:Nat->Prop) (E:Env) (K:KS) (m:AM) (base:List Frame) (fr:Frame) (cs:List Frame) (w:World):Prop where
 all:∀E',aw D E E'->bV E' m.h K w/\bN E' m.fr=fr/\m.cs.map (bN E')++base=cs
 eG:∀i,D i->i<m.h.next
 wf:m.fr.WF/\ ∀f∈m.cs,f.WF
def gY (P:Program) (lo:Nat) (M0:Machine) (D:Nat->Prop) (E:Env) (K:KS) (m':AM) (base:List Frame) (w:World):Prop:=
 ∃fr' cs' w' E' D',Steps P M0 (lone fr' cs' w')/\Rel D' E' K m' base fr' cs' w'/\aw D E E'/\(∀i,D i->D' i)/\Kept K w w'/\lo<=m'.h.next/\ ∀i,D' i->D i\/lo<=i
def Ends (P:Program) (lo:Nat) (M0:Machine) (D:Nat->Prop) (E:Env) (K:KS) (v:AV) (h:AH) (base:List Frame) (f:FuncId) (w:World):Prop:=
 ∃fr' w' v' E' D',Steps P M0 (lone fr' base w')/\fr'.fn=f/\fr'.leaving P w' (.returned v')/\(∀E'',aw D' E' E''->bV E'' h K w'/\ag E'' v=v')/\
  aw D E E'/\(∀i,D i->D' i)/\(∀i,D' i->i<h.next)/\Kept K w w'/\lo<=h.next/\ ∀i,D' i->D i\/lo<=i
section
variable {P:Program} {D D1:Nat->Prop} {E E1:Env} {K:KS} {m:AM} {base:List Frame} {M0 M1:Machine} {w w1:World} {v:AV} {h:AH} {f:FuncId}
theorem gY.trans {lo lo1:Nat} (hs:Steps P M0 M1) (ha:aw D E E1) (hd:∀i,D i->D1 i) (hk:Kept K w w1) (hlo:lo<=lo1) (hnew:∀i,D1 i->D i\/lo<=i) (hg:gY P lo1 M1 D1 E1 K m base w1):gY P lo M0 D E K m base w:=by
 obtain⟨fr',cs',w',E',D',h1,h2,h3,h4,h5,h6,h7⟩:=hg;refine⟨fr',cs',w',E',D',hs.trans h1,h2,ha.trans h3 hd,fun i hi=>h4 i (hd i hi),hk.trans h5,Av hlo h6,fun i hi=>?_⟩;grind
theorem Ends.trans {lo lo1:Nat} (hs:Steps P M0 M1) (ha:aw D E E1) (hd:∀i,D i->D1 i) (hk:Kept K w w1) (hlo:lo<=lo1) (hnew:∀i,D1 i->D i\/lo<=i) (hg:Ends P lo1 M1 D1 E1 K v h base f w1):Ends P lo M0 D E K v h base f w:=by
 obtain⟨fr',w',v',E',D',h1,h2,h3,h4,h5,h6,h7,h8,h9',h9⟩:=hg;refine⟨fr',w',v',E',D',hs.trans h1,h2,h3,h4,ha.trans h5 hd,fun i hi=>h6 i (hd i hi),h7,hk.trans h8,Av hlo h9',fun i hi=>?_⟩;grind
end
theorem tn {fr fr':Frame} {cs cs':List Frame} {w w':World} (h:lone fr cs w=lone fr' cs' w'):fr=fr'/\cs=cs'/\w=w':=by
 grind [lone]
def One (P:Program) (M0:Machine) (E:Env) (K:KS) (m':AM) (base:List Frame) (w:World):Prop:=
 ∃w',Go.step P M0= .next (lone (bN E m'.fr) (m'.cs.map (bN E)++base) w')/\bV E m'.h K w'/\Kept K w w'
section
variable {P:Program} {D:Nat->Prop} {E:Env} {K:KS} {m m':AM} {base:List Frame} {fr:Frame} {cs:List Frame} {w:World}
theorem Rel.o7 (hR:Rel D E K m base fr cs w) (f:Nat->Nat×Nat):∃E1,aw D E E1/\ ∀i,m.h.next<=i->E1.aC i=(f i).1/\E1.cap i=(f i).2:=by
 refine⟨⟨fun i=>if i<m.h.next then E.aC i else(f i).1,fun i=>if i<m.h.next then E.cap i else(f i).2⟩,fun i hi=>?_,fun i hi=>?_⟩
 . have:=hR.eG i hi;grind
 grind
theorem Rel.one (hR:Rel D E K m base fr cs w) (M0:Machine)
   (f:Nat->Nat×Nat) (hn:m.h.next<=m'.h.next) (hwf:m'.fr.WF/\ ∀f∈m'.cs,f.WF)
   (h1:∀E',aw D E E'->bV E' m.h K w->bN E' m.fr=fr->m.cs.map (bN E')++base=cs->(∀i,m.h.next<=i->i<m'.h.next->E'.aC i=(f i).1/\E'.cap i=(f i).2)->One P M0 E' K m' base w):
   gY P m.h.next M0 D E K m' base w:=by
 obtain⟨E1,ha,hE⟩:=hR.o7 f;let D1:Nat->Prop:=fun i=>D i\/(m.h.next<=i/\i<m'.h.next)
 have hE1:∀E',aw D1 E1 E'->One P M0 E' K m' base w:=by
   intro E' he;have hd:aw D E E':=ha.trans he (fun i hi=> .inl hi);obtain⟨g1,g2,g3⟩:=hR.all E' hd;refine h1 E' hd g1 g2 g3 (fun i hi hj=>?_);have h2:=he i (.inr ⟨hi,hj⟩);have h3:=hE i hi;omega
 obtain⟨w',s1,s2,s3⟩:=hE1 E1 (aw.refl _ _);refine⟨_,_,w',E1,D1, .one s1,⟨?_,?_,hwf⟩,ha,fun i hi=> .inl hi,s3,hn,fun i hi=>hi.elim .inl (fun h=> .inr h.1)⟩
 . intro E' he;obtain⟨w2,t1,t2,t3⟩:=hE1 E' he;rw[s1]at t1;grind [tn]
 . intro i hi;rcases hi with hi|hi
   . have:=hR.eG i hi;omega
   omega
end
end
section
variable [Inhabited aK]
theorem FE (E:Env) (ts:T AV) (nt t:Nat) (hwf:∀t,nt<=t->ts.get t=none):(iQ E ts nt).getD t undef=ag E ((ts.get t).getD (.bO [])):=by
 unfold iQ;by_cases ht:t<nt
 . simp[Array.getD,ht,wQ]
 . simp[Array.getD,ht,hwf t (by omega)];rfl
theorem tmps_get? (E:Env) (ts:T AV) (nt t:Nat):(iQ E ts nt)[t]? =if t<nt then some (ag E ((ts.get t).getD (.bO [])))else none:=by
 grind [iQ,wQ]
theorem YP (E:Env) (ts:T AV) (nt:Nat):(iQ E ts nt).size=nt:=by simp[iQ]
def ik (ts:T AV) (nt:Nat) (d:Tmp) (v:AV):T AV:=bif Nat.blt d nt then ts.set d (some v)else ts
theorem Ga (ts:T AV) (nt:Nat) (d:Tmp) (v:AV) (t:Nat):(ik ts nt d v).get t=if d<nt/\t=d then some v else ts.get t:=by
 unfold ik;by_cases h:d<nt
 . have:Nat.blt d nt=true:=by simp_all
   grind [T.bp]
 . have:Nat.blt d nt=false:=by
    cases hb:Nat.blt d nt
    . rfl
    . exact absurd (by simp_all) h
   grind
theorem qwg (E:Env) (ts:T AV) (nt:Nat) (d:Tmp) (v:AV):(iQ E ts nt).setIfInBounds d (ag E v)=iQ E (ik ts nt d v) nt:=by
 apply B8
 grind [tmps_get?,YP,Ga]
theorem qy8 {ts:T AV} {nt:Nat} (h:∀t,nt<=t->ts.get t=none) (d:Tmp) (v:AV):∀t,nt<=t->(ik ts nt d v).get t=none:=by
 grind [Ga]
theorem qq {fr:ak} (hwf:fr.WF) (E:Env) {x:Operand} {u:AV} (h:ev fr.tmps x= .ok u):(bN E fr).eval x=ag E u:=by
 cases x<;>simp only[ev]at h<;>(try cases h)
 . exact FE E fr.tmps fr.nt _ hwf
 all_goals simp_all[K7,Frame.eval,ag]
theorem CK (fr:ak) (d:Option Tmp) (v:AV):fr.put d v=match d with|some d=>ik fr.tmps fr.nt d v|none=>fr.tmps:=by
 cases d<;>rfl
theorem lF {fr fr':ak} {v:AV} (h:fr.finish v= .ok fr') (E:Env):(bN E fr).finish (ag E v)=bN E fr'/\(fr.WF->fr'.WF)/\fr'.fn=fr.fn:=by
 obtain⟨fn,nt,tmps,todo,defers,mode,kind,round⟩:=fr;unfold ak.finish at h;grind [CK,Frame.finish,bN,dQ,qwg,ak.WF,qy8]
def bot (fr:ak):List ak->FuncId
 |[]=>fr.fn
 |c::cs=>bot c cs
theorem iG {fr fr':ak} (h:fr'.fn=fr.fn) (cs:List ak):bot fr' cs=bot fr cs:=by
 cases cs with
 |nil=>exact h
 |cons c cs=>rfl
theorem Ln (E:Env) (id:Nat):∀(k:List bU),Go.exitTo id (k.map (dQ E))=(exitTo id k).map (List.map (dQ E)):=by
 intro k;induction k with
 |nil=>rfl
 |cons x k ih=>
  cases x<;>simp only[A0,dQ,Go.exitTo,exitTo,ih]
  rename_i j;by_cases h:j=id
  . simp_all
  grind [Nat.eq_of_beq_eq_true]
section
variable {P:Program} {D:Nat->Prop} {E:Env} {K:KS} {m:AM} {base:List Frame} {fr:Frame} {cs:List Frame} {w:World}
theorem Rel.kD (hR:Rel D E K m base fr cs w) (fr':ak) (hwf:fr'.WF) (h:∀E' cs',Go.step P (lone (bN E' m.fr) cs' w)= .next (lone (bN E' fr') cs' w)):
  gY P m.h.next (lone fr cs w) D E K {fr:=fr',cs:=m.cs,h:=m.h} base w:=
 hR.one (m':={fr:=fr',cs:=m.cs,h:=m.h}) _ (fun _=>(0,0)) (Ac _) ⟨hwf,hR.wf.2⟩
  (fun E' _ H e1 e2 _=>⟨w,by rw[<-e1,<-e2];grind,H,Kept.refl K w⟩)
theorem ET {fr:Frame} {cs:List Frame} {s:Sem Next} {r:Next} {x:Value} {w w':World} (hs:s.run P w= .ok r w') (hr:Yields r x):
  (stepG.apply P true fr cs none s w).bare= .go {frame:=fr.finish x,callers:=cs,status:= .running,dying:=none} w':=by
 rcases hr with rfl|⟨rfl,rfl⟩<;>simp[stepG.apply,hs]
theorem qzg {fr:Frame} {cs:List Frame} {ops:Array Oper} {i:Nat} {rest:List Nat} {k:List Item} {o:Oper} (hm:fr.mode= .run) (ht:fr.todo= .inRegion ops (i::rest)::k)
  (ho:ops[i]? =some o) (hw:Region.wanted o (yielded ops fr.tmps)=true) (hd:fr.roundOf=none\/ ∀c,o.op≠ .defer c) (w:World):
  stepG P true {frame:=fr,callers:=cs,status:= .running,dying:=none} w=stepG.apply P true fr cs none (execOp fr.eval o) w:=by
 have:stepG P true {frame:=fr,callers:=cs,status:= .running,dying:=none} w=stepG.oper P true fr cs none w:=by
  grind [stepG,stepG.exec]
 rw[this];grind [stepG.oper,Frame.oper?]
end
end
section
variable [Inhabited aK]
theorem TJ {α:Type}:∀(l:List α) (k:Nat) (t:T α) (j:Nat),(T.gP l k t).get j=if k<=j/\j<k+l.length then l[j - k]? else t.get j:=by
 intro l;induction l with
 |nil=>
  grind [T.gP]
 |cons x l ih=>
  grind [T.gP,T.bp]
theorem mn {α:Type} (l:List α) (j:Nat):(T.ofList l).get j=l[j]? :=by
 unfold T.ofList;rw[TJ];by_cases h:j<l.length
 . rw[An (by omega)];simp
 . rw[Al (by omega),BF (by omega)];rfl
theorem rr (fn:Func) (f:FuncId) (body:Code) (args:List AV) (kind:CallKind):(ak.enter fn f body args kind).WF:=by
 intro t ht;grind [ak.enter,mn]
theorem nh {P:Program} {fn:Func} {f:FuncId} {body:Code} (hf:P.funcs[f]? =some fn) (hb:fn.body=some body) (E:Env) (args:List AV) (kind:CallKind):
   Frame.enter P f (bK E args).toArray kind=bN E (ak.enter fn f body args kind):=by
 unfold Frame.enter ak.enter bN;simp only[hf,hb,DB,Bf,BD,A0,D3,dQ,fy,BW];congr 1
 apply B8
 intro j;rw[tmps_get?,mn,Array.getElem?_append,Bb,cE,AX,kT,Ew];by_cases h1:j<args.length
 . have h2:j<Nat.max fn.ntmps args.length:=AE h1 (Nat.le_max_right _ _);rw[An h1,An h2,Ai h1];simp
 . rw[Al h1,BF (by omega:args.length<=j)];have:Nat.max fn.ntmps args.length=max fn.ntmps args.length:=rfl;rw[this];by_cases h2:j<fn.ntmps
   . rw[An (by omega),An (by omega)];rfl
   grind
theorem E8 {ops:Array Oper} {o:Oper} {ts:T AV} {nt:Nat} (hwf:∀t,nt<=t->ts.get t=none) {b:Bool} (h:wanted ops o ts= .ok b) (E:Env):
  Region.wanted o (yielded ops (iQ E ts nt))=b:=by
 unfold wanted at h;unfold Region.wanted
 cases hg:o.guard with
 |none=>rw[hg]at h;grind
 | some gw=>
  obtain⟨j,u⟩:=gw;rw[hg]at h;simp only at h⊢;unfold yielded
  cases hd:(ops[j]?).bind (·.dst)with
  |none=>
   rw[hd]at h;grind
  |some d=>
   rw[hd]at h;simp only[DB]at h⊢;rw[tmps_get?];by_cases hlt:d<nt
   . rw[An hlt]
     cases hv:ts.get d with
     |none=>rw[hv]at h;cases h;rfl
     |some v=>
      rw[hv]at h
      cases v<;>simp only at h<;>first|(cases h;done)|(cases h;simp[ag])
   grind
end
section
variable [Inhabited aK]
instance:LawfulMonad R:=LawfulMonad.mk'
 (id_map:=by intro α x;cases x<;>rfl)
 (pure_bind:=by intros;rfl)
 (bind_assoc:=by intro α β γ x f g;cases x<;>rfl)
theorem vR {P:Program} {w:World} {r:Nat} {o:Obj} (h:w.heap[r]? =some o) (hn:∀c e f,o≠ .cells c e f):(getObj r).run P w= .ok o w:=by
 grind [getObj,Sem.run]
theorem mapM_mem {α β:Type} {g:α->R β}:∀{l:List α} {ms:List β},l.mapM g= .ok ms->∀x∈l,∃y∈ms,g x= .ok y:=by
 intro l;induction l with
 |nil=>grind
 |cons a l ih=>
  intro ms h x hx;rw[List.mapM_cons]at h;obtain⟨b,hb,h1⟩:=ay.1 h;obtain⟨bs,hbs,h2⟩:=ay.1 h1
  cases h2;grind
def Out (P:Program) (lo:Nat) (M0:Machine) (D:Nat->Prop) (E:Env) (K:KS) (b:FuncId) (base:List Frame) (w:World):ed->Prop
 | .next m'=>bot m'.fr m'.cs=b/\gY P lo M0 D E K m' base w
 | .alts l=>∃m'∈l,bot m'.fr m'.cs=b/\gY P lo M0 D E K m' base w
 | .done v h=>Ends P lo M0 D E K v h base b w
theorem Out.trans {P:Program} {D D1:Nat->Prop} {E E1:Env} {K:KS} {base:List Frame} {M0 M1:Machine} {w w1:World} {b:FuncId} {out:ed} {lo lo1:Nat}
  (hs:Steps P M0 M1) (ha:aw D E E1) (hd:∀i,D i->D1 i) (hk:Kept K w w1) (hlo:lo<=lo1) (hnew:∀i,D1 i->D i\/lo<=i) (hg:Out P lo1 M1 D1 E1 K b base w1 out):Out P lo M0 D E K b base w out:=by
 cases out with
 |next m'=>exact⟨hg.1,hg.2.trans hs ha hd hk hlo hnew⟩
 |alts l=>
  obtain⟨m',h1,h2,h3⟩:=hg;exact⟨m',h1,h2,h3.trans hs ha hd hk hlo hnew⟩
 |done v h=>exact Ends.trans hs ha hd hk hlo hnew hg
def lO (P:Program) (tab:bC) (sub:FuncId->List AV->AH->R (List (AV×AH))):Prop:=
 ∀f fn body args h outs,tab.fns.get f=some fn->fn.body=some body->sub f args h= .ok outs->∀(D:Nat->Prop) (E:Env) (K:KS) (w:World) (argsC:Array Value),
  (∀E',aw D E E'->bV E' h K w/\(bK E' args).toArray=argsC)->(∀i,D i->i<h.next)->∀cs,∃v h',(v,h')∈outs/\Ends P h.next (lone (Frame.enter P f argsC .normal) cs w) D E K v h' cs f w
def lN (P:Program) (tab:bC):Prop:=
 ∀f fn args h v h',tab.fns.get f=some fn->fn.body=none->yz tab f fn args h= .ok (v,h')->∀w,∃g:Nat×Nat,∀E K,bV E h K w->(h.next<h'.next->E.aC h.next=g.1/\E.cap h.next=g.2)->
  (h.next<=h'.next/\h'.next<=h.next+1)/\ ∃w',(callFunc f (bK E args).toArray).run P w= .ok (.value (ag E v)) w'/\bV E h' K w'/\Kept K w w'
structure Ctx (P:Program) (M0:Machine) (frC:Frame) (csC:List Frame) (w:World) (kind:CallKind) (dC:Deferred):Prop where
 enter:∀f a w',(invoke dC.target dC.args).run P w= .ok (.enter f a) w'->Go.step P M0= .next (lone (Frame.enter P f a kind) (frC::csC) w')
 round:∀l f t a b w',(invoke dC.target dC.args).run P w= .ok (.round l f t a b) w'->Go.step P M0= .next (lone (Frame.round l f t a b kind) (frC::csC) w')
 value:∀v w',(invoke dC.target dC.args).run P w= .ok (.value v) w'->kind= .normal->Go.step P M0= .next (lone (frC.finish v) csC w')
section
variable {P:Program} {tab:bC} (ok:bZ P tab) {sub:FuncId->List AV->AH->R (List (AV×AH))} (hsub:lO P tab sub) (hext:lN P tab)
variable {D:Nat->Prop} {E:Env} {K:KS} {base:List Frame} {frC:Frame} {csC:List Frame} {w:World}
include ok hsub hext in
theorem Vy {fr:ak} {cs:List ak} {h:AH} {f:FuncId} {args:List AV} {kind:CallKind} {out:ed} (hc:callFn tab sub fr cs h f args kind= .ok out)
   (hR:Rel D E K {fr,cs,h} base frC csC w) (M0:Machine) {dC:Deferred} (hctx:Ctx P M0 frC csC w kind dC)
   (hinv:∀E',aw D E E'->invoke dC.target dC.args=callFunc f (bK E' args).toArray):Out P h.next M0 D E K (bot fr cs) base w out:=by
 unfold callFn at hc;split at hc
 . rename_i fn hfn;have hP:=ok.fns f fn hfn;have hn:fn.name≠ "runtime.NumGoroutine" :=by simpa using ok.xk f fn hfn
   split at hc
   . rename_i body hb;have hrun:∀a,(callFunc f a).run P w= .ok (.enter f a) w:=by
       simp_all[callFunc]
     have hstep:∀E',aw D E E'->Go.step P M0= .next (lone (Frame.enter P f (bK E' args).toArray kind) (frC::csC) w):=fun E' he=>
       hctx.enter _ _ _ (by rw[hinv E' he,hrun])
     by_cases hm:(tab.merge f&&kind== .normal)=true
     . simp only[hm,B9]at hc;obtain⟨outs,ho,hc1⟩:=ay.1 hc;obtain⟨ms,hms,hc2⟩:=ay.1 hc1
       cases hc2;have hk:kind= .normal:=eq_of_beq ((Ad _ _▸hm).2:(kind== .normal)=true);subst hk;have hargs:∀E',aw D E E'->(bK E' args).toArray=(bK E args).toArray:=by
         grind [aw.refl]
       obtain⟨v,h',hmem,he⟩:=hsub f fn body args h outs hfn hb ho D E K w (bK E args).toArray (fun E' he=>⟨(hR.all E' he).1,hargs E' he⟩) hR.eG (frC::csC);obtain⟨fr',w',v',E',D',s1,s2,s3,s4,s5,s6,s7,s8,s9,s10⟩:=he;obtain⟨y,hy,hg⟩:=mapM_mem hms _ hmem;obtain⟨fr1,hfin,hg1⟩:=ay.1 hg
       cases hg1;have hfc:=lF hfin;refine⟨_,hy,iG (hfc E).2.2 cs,frC.finish v',csC,w',E',D',?_,⟨?_,s7,?_⟩,s5,s6,s8,s9,s10⟩
       . exact(Steps.head (hstep E (aw.refl _ _)) s1).trans (.one (step_leave_returned s3))
       . intro E'' he';obtain⟨g1,g2⟩:=s4 E'' he';obtain⟨k1,k2,k3⟩:=hR.all E'' (s5.trans he' s6);grind
       . exact⟨(hfc E).2.1 hR.wf.1,hR.wf.2⟩
     . have hm':(tab.merge f&&kind== .normal)=false:=by grind
       simp only[hm',Bk]at hc
       cases hc;refine⟨rfl,?_⟩;refine hR.one (m':={fr:=ak.enter fn f body args kind,cs:=fr::cs,h}) M0 (fun _=>(0,0)) (Ac _) ⟨rr _ _ _ _ _,?_⟩ ?_
       . intro g hg;rcases Ap.1 hg with rfl|hg
         . exact hR.wf.1
         . exact hR.wf.2 g hg
       . intro E' he H e1 e2 _;refine⟨w,?_,H,Kept.refl K w⟩;rw[hstep E' he,nh hP hb];grind
   . rename_i hb;split at hc
     . obtain⟨⟨v,h'⟩,hx,hc1⟩:=ay.1 hc;obtain⟨fr1,hfin,hc2⟩:=ay.1 hc1
       cases hc2;obtain⟨g,hg⟩:=hext f fn args h v h' hfn hb hx w;have hfc:=lF hfin;refine⟨iG (hfc E).2.2 cs,?_⟩;obtain⟨E1,ha1,hE1⟩:=hR.o7 (fun _=>g);have hn:=(hg E1 K (hR.all E1 ha1).1 (fun _=>hE1 h.next (Ac _))).1;refine hR.one (m':={fr:=fr1,cs,h:=h'}) M0 (fun _=>g) hn.1 ⟨(hfc E).2.1 hR.wf.1,hR.wf.2⟩ ?_;intro E' he H e1 e2 hE';obtain⟨_,w',s1,s2,s3⟩:=hg E' K H (fun hlt=>hE' h.next (Ac _) hlt);refine⟨w',?_,s2,s3⟩;rw[hctx.value (ag E' v) w' (by rw[hinv E' he,s1]) rfl,<-e1,<-e2,(hfc E').1]
     grind
 grind
omit ok hsub hext in
theorem UT {fr:ak} {cs:List ak} {h:AH} {l:Nat} {args:List AV} {kind:CallKind} {out:ed} (hc:callYield fr cs h l args kind= .ok out)
  (hR:Rel D E K {fr,cs,h} base frC csC w) (M0:Machine) {dC:Deferred} (hctx:Ctx P M0 frC csC w kind dC)
  (hinv:∀E',aw D E E'->invoke dC.target dC.args=Instr.yield (E'.aC l) (bK E' args).toArray):Out P h.next M0 D E K (bot fr cs) base w out:=by
 simp[callYield]at hc
include ok hsub hext in
theorem xl {fr:ak} {cs:List ak} {h:AH} {d:AD} {kind:CallKind} {out:ed} (hc:callTarget tab sub fr cs h d kind= .ok out)
  (hR:Rel D E K {fr,cs,h} base frC csC w) (M0:Machine) {dC:Deferred} (hctx:Ctx P M0 frC csC w kind dC) (hd:∀E',aw D E E'->eD E' d=dC):Out P h.next M0 D E K (bot fr cs) base w out:=by
 unfold callTarget at hc;grind [Vy,eD,oJ,invoke,ey,UT]
end
end
section
variable [Inhabited aK]
theorem yh {P:Program} {w:World} {r:Nat} {o:Obj} (h:w.heap[r]? =some o) (hn:∀c e f,o≠ .cells c e f) (o':Obj):(setObj r o').run P w= .ok () (w.put r o'):=by
 simp only[setObj,Sem.run,h];rfl
section
variable {P:Program} {h:AH}
theorem WO {it:AV} {s:Bool} {l:List (AV×AH)} (hn:nextOp h it s= .ok l) (w:World) (ty:TypeId):
  ∃j:Nat,∀E K,bV E h K w->∃(v:AV) (h':AH),l[j]? =some (v,h')/\h'.next=h.next/\ ∃w',(Instr.next (ag E it) s ty).run P w= .ok (ag E v) w'/\bV E h' K w'/\Kept K w w':=by
 simp[nextOp]at hn
end
end
section
variable [Inhabited aK]
section
variable {P:Program} {tab:bC} (ok:bZ P tab) {sub:FuncId->List AV->AH->R (List (AV×AH))} (hsub:lO P tab sub) (hext:lN P tab)
variable {D:Nat->Prop} {E:Env} {K:KS} {base:List Frame} {frC:Frame} {csC:List Frame} {w:World}
variable {fr:ak} {cs:List ak} {h:AH} {ops:Array Oper} {i:Nat} {rest:List Nat} {k:List bU} {o:Oper}
structure jk (frC:Frame) (ops:Array Oper) (i:Nat) (rest:List Nat) (o:Oper):Prop where
 mode:frC.mode= .run
 todo:∃k,frC.todo= .inRegion ops (i::rest)::k
 op:ops[i]? =some o
 wanted:Region.wanted o (yielded ops frC.tmps)=true
theorem mT (hR:Rel D E K {fr,cs,h} base frC csC w) (hm:fr.mode= .run) (ht:fr.todo= .inRegion ops (i::rest)::k) (ho:ops[i]? =some o) (hw:wanted ops o fr.tmps= .ok true):jk frC ops i rest o:=by
 obtain⟨_,e,_⟩:=hR.all E (aw.refl _ _);subst e;refine⟨by grind [bN,fy],⟨k.map (dQ E),by grind [bN,dQ]⟩,ho,?_⟩;exact E8 hR.wf.1 hw E
theorem jk.step (a:jk frC ops i rest o) (hd:frC.roundOf=none\/ ∀c,o.op≠ .defer c) (csC:List Frame) (w:World):
  stepG P true {frame:=frC,callers:=csC,status:= .running,dying:=none} w=stepG.apply P true frC csC none (execOp frC.eval o) w:=by
 obtain⟨k,hk⟩:=a.todo;exact qzg a.mode hk a.op a.wanted hd w
theorem jk.value (a:jk frC ops i rest o) (hd:frC.roundOf=none\/ ∀c,o.op≠ .defer c) (csC:List Frame) {w w':World} {r:Next} {x:Value} (hs:(execOp frC.eval o).run P w= .ok r w') (hr:Yields r x):
  Go.step P (lone frC csC w)= .next (lone (frC.finish x) csC w'):=
 step_lone_go (by rw[a.step hd,ET hs hr])
theorem M5 {ts:T AV} {v:AV} {h':AH} (hp:fk tab ts h o= .ok (v,h')):∀c,o.op≠ .defer c:=by
 grind [fk]
include ok in
theorem Yg (hR:Rel D E K {fr,cs,h} base frC csC w) (a:jk frC ops i rest o) {v:AV} {h':AH} (hp:fk tab fr.tmps h o= .ok (v,h')) {fr':ak} (hf:fr.finish v= .ok fr'):
  Out P h.next (lone frC csC w) D E K (bot fr cs) base w (.next {fr:=fr',cs,h:=h'}):=by
 obtain⟨f,hgood⟩:=Le ok hp w frC.eval;have hfc:=lF hf;have hρ:∀E',aw D E E'->∀x u,ev fr.tmps x= .ok u->frC.eval x=ag E' u:=by
  intro E' he x u hx;rw[<-(hR.all E' he).2.1];exact qq hR.wf.1 E' hx
 obtain⟨E1,ha1,hE1⟩:=hR.o7 (fun _=>f);have hn:=(hgood E1 K (hR.all E1 ha1).1 (hρ E1 ha1) (fun _=>hE1 h.next (Ac _))).1;refine⟨iG (hfc E).2.2 cs,?_⟩;refine hR.one (m':={fr:=fr',cs,h:=h'}) _ (fun _=>f) hn.1 ⟨(hfc E).2.1 hR.wf.1,hR.wf.2⟩ ?_;intro E' he H e1 e2 hE';obtain⟨_,r,w',s1,s2,s3,s4⟩:=hgood E' K H (hρ E' he) (fun hlt=>hE' h.next (Ac _) hlt);refine⟨w',?_,s3,s4⟩;rw[a.value (.inr (M5 hp)) csC s1 s2,<-e1,<-e2,(hfc E').1]
theorem sN {u:AV} {args:List AV} {d:AD} (hd:rn u args= .ok d) (E:Env):Deferred.ofValue (ag E u) (bK E args).toArray=pure (eD E d):=by
 unfold rn at hd;split at hd
 . cases hd;simp[Deferred.ofValue,ag,eD,oJ]
 all_goals grind [Deferred.ofValue,ag,eD,oJ]
theorem vg {f:Value} {a:Array Value} {d:AD} (h:∀E',aw D E E'->Deferred.ofValue f a=pure (eD E' d)):∀E',aw D E E'->eD E' d=eD E d:=by
 intro E' he;have h1:=h E' he;rw[h E (aw.refl _ _)]at h1;have h2:(pure (eD E d):Sem Deferred).run default default=(pure (eD E' d):Sem Deferred).run default default:=by rw[h1]
 simpa using h2.symm
theorem Fx (a:jk frC ops i rest o) (hd:frC.roundOf=none\/ ∀c,o.op≠ .defer c) {dC:Deferred} (hx:(execOp frC.eval o).run P w=(invoke dC.target dC.args).run P w):
   Ctx P (lone frC csC w) frC csC w .normal dC:=by
 obtain⟨k,hk⟩:=a.todo;refine⟨fun f x w' hr=>?_,fun l f t x b w' hr=>?_,fun v w' hr _=>?_⟩
 . refine step_lone_go ?_;rw[a.step hd];simp_all[stepG.apply]
 . refine step_lone_go ?_;rw[a.step hd];simp_all[stepG.apply]
 . exact a.value hd csC (by rw[hx,hr]) (.inl rfl)
theorem U0 {r:Option (AV×List ak)} (hr:tryRecover fr cs= .ok r) (E:Env) (base:List Frame):
   Go.tryRecover (bN E fr) (cs.map (bN E)++base)=r.map (fun x=>(ag E x.1,x.2.map (bN E)++base)):=by
 unfold tryRecover at hr;split at hr
 . rename_i _ c rest hk;have hk':(bN E fr).kind= .deferred:=hk;split at hr
   . grind [bN,pE,fy,Go.tryRecover]
   . cases hr;simp only[A0,BH,Go.tryRecover,hk',BW];split
     . rename_i heq;simp only[bN,fy]at heq;split at heq
       . grind
       . grind
       . rename_i chain hch
         cases chain with
         |nil=>grind
         |cons p older=>
          obtain⟨v',rc⟩:=p;simp_all[pE]
     . rfl
 all_goals grind [bN,Go.tryRecover]
theorem Vj {v:AV} {cs':List ak} (hr:tryRecover fr cs= .ok (some (v,cs'))):(∀f∈cs,f.WF)->(∀f∈cs',f.WF)/\(∀fr',fr'.fn=fr.fn->bot fr' cs'=bot fr cs):=by
 intro hwf;unfold tryRecover at hr;split at hr
 . rename_i _ c rest hk;split at hr
   . cases hr;refine⟨fun f hf=>?_,fun fr' hf=>?_⟩
     . rcases Ap.1 hf with rfl|hf
       . exact hwf c As
       grind
     grind [bot,iG]
   grind
 all_goals grind
include ok hsub hext in
theorem WV {out:ed} (hop:oper tab sub fr cs h o= .ok out) (hR:Rel D E K {fr,cs,h} base frC csC w) (hm:fr.mode= .run) (ht:fr.todo= .inRegion ops (i::rest)::k)
   (ho:ops[i]? =some o) (hw:wanted ops o fr.tmps= .ok true):Out P h.next (lone frC csC w) D E K (bot fr cs) base w out:=by
 have a:=mT hR hm ht ho hw;have hρ:∀E',aw D E E'->∀x u,ev fr.tmps x= .ok u->frC.eval x=ag E' u:=by
   intro E' he x u hx;rw[<-(hR.all E' he).2.1];exact qq hR.wf.1 E' hx
 have hpure:∀{out:ed},(do let (v,h')<-fk tab fr.tmps h o;R.ok (ed.next {fr:= <-fr.finish v,cs,h:=h'}):R ed)= .ok out->Out P h.next (lone frC csC w) D E K (bot fr cs) base w out:=by
   grind [ay,Yg]
 unfold oper at hop;split at hop
 . rename_i c hc;split at hop
   ·
     rename_i f hf;obtain⟨args,hargs,hop1⟩:=ay.1 hop;obtain⟨u,hu,hop2⟩:=ay.1 hop1;obtain⟨d,hd,hop3⟩:=ay.1 hop2;have hres:∀E',aw D E E'->Deferred.ofValue (frC.eval f) (c.args.map frC.eval)=pure (eD E' d):=by
       intro E' he;rw[<-sN hd E',hρ E' he _ _ hu,<-rB (hρ E' he) _ _ hargs];congr 1
       simp[<-Array.toList_inj]
     have hrob:=vg hres;refine xl ok hsub hext hop3 hR _ (dC:=eD E d) (Fx a (.inr (by rw[hc];intro c' e;cases e)) ?_) hrob;grind [execOp,resolve,aw.refl]
   ·
     rename_i hb;split at hop
     . rename_i hround;have hr0:frC.roundOf=none:=by
         rw[<-(hR.all E (aw.refl _ _)).2.1];simp[bN,hround]
       obtain⟨r,hr,hop1⟩:=ay.1 hop;have hnd:frC.roundOf=none\/ ∀c,o.op≠ .defer c:= .inl hr0;have hrun:(execOp frC.eval o).run P w= .ok .recover w:=by
         simp[execOp,hc,resolve,hb,invoke,Go.builtin]
       have hstep:∀E',aw D E E'->(stepG P true {frame:=frC,callers:=csC,status:= .running,dying:=none} w).bare=
          (match r.map (fun x=>(ag E' x.1,x.2.map (bN E')++base))with
           |some (v,callers)=> .go {frame:=frC.finish v,callers,status:= .running,dying:=none} w
           |none=> .go {frame:=frC.finish .nilIface,callers:=csC,status:= .running,dying:=none} w):=by
         intro E' he;obtain⟨_,e1,e2⟩:=hR.all E' he;rw[<-U0 hr E' base,e1,e2,a.step hnd];simp only[stepG.apply,hrun,hr0,Sem.runT_eq,BB]
         cases Go.tryRecover frC csC<;>simp
       split at hop1
       . rename_i v cs';obtain⟨fr',hf,hop2⟩:=ay.1 hop1
         cases hop2;have hfc:=lF hf;obtain⟨g1,g2⟩:=Vj hr hR.wf.2;refine⟨g2 _ (hfc E).2.2,?_⟩;refine hR.one (m':={fr:=fr',cs:=cs',h}) _ (fun _=>(0,0)) (Ac _) ⟨(hfc E).2.1 hR.wf.1,g1⟩ ?_;intro E' he H e1 e2 _;refine⟨w,step_lone_go ?_,H,Kept.refl K w⟩;rw[hstep E' he,<-(hfc E').1,e1];rfl
       . obtain⟨fr',hf,hop2⟩:=ay.1 hop1
         cases hop2;have hfc:=lF hf;refine⟨iG (hfc E).2.2 cs,?_⟩;refine hR.one (m':={fr:=fr',cs,h}) _ (fun _=>(0,0)) (Ac _) ⟨(hfc E).2.1 hR.wf.1,hR.wf.2⟩ ?_;intro E' he H e1 e2 _;refine⟨w,step_lone_go ?_,H,Kept.refl K w⟩;rw[hstep E' he,<-(hfc E').1,e1,e2];rfl
     . cases hop
   grind
 ·
   rename_i c hc;split at hop
   . rename_i f hf hround;have hr0:frC.roundOf=none:=by
       rw[<-(hR.all E (aw.refl _ _)).2.1];simp[bN,hround]
     obtain⟨args,hargs,hop1⟩:=ay.1 hop;obtain⟨u,hu,hop2⟩:=ay.1 hop1;obtain⟨d,hd,hop3⟩:=ay.1 hop2;obtain⟨fr',hfin,hop4⟩:=ay.1 hop3
     cases hop4;have hres:∀E',aw D E E'->Deferred.ofValue (frC.eval f) (c.args.map frC.eval)=pure (eD E' d):=by
       intro E' he;rw[<-sN hd E',hρ E' he _ _ hu,<-rB (hρ E' he) _ _ hargs];congr 1
       simp[<-Array.toList_inj]
     have hfc:=lF hfin;refine⟨(iG (hfc E).2.2 cs).trans (iG (by rfl) cs),?_⟩;refine hR.one (m':={fr:=fr',cs,h}) _ (fun _=>(0,0)) (Ac _) ⟨(hfc E).2.1 hR.wf.1,hR.wf.2⟩ ?_;intro E' he H e1 e2 _;refine⟨w,step_lone_go ?_,H,Kept.refl K w⟩;have hrun:(execOp frC.eval o).run P w= .ok (.defer (eD E' d)) w:=by
       simp[execOp,hc,resolve,hf,hres E' he]
     rw[a.step (.inl hr0),<-(hfc E').1,<-e2];simp only[stepG.apply,hrun,Sem.runT_eq,BB,GStep.bare_after,GStep.bare_go];rw[<-e1];rfl
   . cases hop
 ·
   rename_i x hx;obtain⟨u,hu,hop1⟩:=ay.1 hop;split at hop1
   . rename_i t v
     cases hop1;have hnd:∀c,o.op≠ .defer c:=by rw[hx];intro c e;cases e
     refine⟨iG (by unfold ak.raise;split<;>rfl) cs,?_⟩;refine hR.one (m':={fr:=fr.raise [{v:= .iface t v,recovered:=false}],cs,h}) _ (fun _=>(0,0)) (Ac _) ⟨by unfold ak.raise;split<;>exact hR.wf.1,hR.wf.2⟩ ?_;intro E' he H e1 e2 _;refine⟨w,step_lone_go ?_,H,Kept.refl K w⟩;have hrun:(execOp frC.eval o).run P w= .halt (.panic (ag E' (.iface t v))) w:=by
       simp[execOp,hx,hρ E' he _ _ hu,ag,Instr.panic,goPanic,Sem.run,Result.andThen]
     rw[a.step (.inr hnd),<-e2];simp only[stepG.apply,hrun,Sem.runT_eq,BB,GStep.bare_after,GStep.bare_go];rw[<-e1];simp[Frame.raise,ak.raise,bN,hm,fy,pE]
   . cases hop1
 ·
   rename_i it s hn;obtain⟨u,hu,hop1⟩:=ay.1 hop;obtain⟨l,hl,hop2⟩:=ay.1 hop1;obtain⟨ms,hms,hop3⟩:=ay.1 hop2;have hnd:∀c,o.op≠ .defer c:=by rw[hn];intro c e;cases e
   obtain⟨j,hj⟩:=WO (P:=P) hl w o.type;obtain⟨v,h',hv,hh,_⟩:=hj E K (hR.all E (aw.refl _ _)).1;obtain⟨y,hy,hg⟩:=mapM_mem hms _ (BA hv);obtain⟨fr',hfin,hg1⟩:=ay.1 hg
   cases hg1;have hfc:=lF hfin;have hgets:bot fr' cs=bot fr cs/\gY P h.next (lone frC csC w) D E K {fr:=fr',cs,h:=h'} base w:=by
     refine⟨iG (hfc E).2.2 cs,?_⟩;refine hR.one (m':={fr:=fr',cs,h:=h'}) _ (fun _=>(0,0)) (by simp only;omega) ⟨(hfc E).2.1 hR.wf.1,hR.wf.2⟩ ?_;intro E' he H e1 e2 _;obtain⟨v2,h2,hv2,_,w',s1,s2,s3⟩:=hj E' K H;rw[hv]at hv2
     cases hv2;refine⟨w',?_,s2,s3⟩;rw[a.value (.inr hnd) csC (iv (s:=Instr.next (frC.eval it) s o.type) (by simp[execOp,hn]) (by rw[hρ E' he _ _ hu];exact s1)) (.inl rfl),<-e1,<-e2,(hfc E').1]
   split at hop3
   . cases hop3;rcases Ap.1 hy with rfl|hy
     . exact hgets
     . cases hy
   . cases hop3;exact⟨_,hy,hgets⟩
 grind
end
end
section
variable [Inhabited aK]
section
variable {P:Program} {tab:bC} (ok:bZ P tab) {sub:FuncId->List AV->AH->R (List (AV×AH))} (hsub:lO P tab sub) (hext:lN P tab)
variable {D:Nat->Prop} {E:Env} {K:KS} {base:List Frame} {frC:Frame} {csC:List Frame} {w:World}
variable {fr:ak} {cs:List ak} {h:AH}
theorem VG (E:Env) (l:List xg):(l.map (pE E)).dropWhile (fun e=> !e.goexit)=[]:=by
 induction l with
 |nil=>rfl
 |cons a l ih=>simp_all[pE]
theorem C8 {v:AV} {m':AM} (hd:doReturn fr cs v h= .ok (.next m')) (hwf:∀f∈cs,f.WF) (w:World):
   m'.h=h/\bot m'.fr m'.cs=bot fr cs/\(m'.fr.WF/\ ∀f∈m'.cs,f.WF)/\
   ∀ E base,(Go.doReturn P true (bN E fr) (cs.map (bN E)++base) none (ag E v) w).bare=
     .go {frame:=bN E m'.fr,callers:=m'.cs.map (bN E)++base,status:= .running,dying:=none} w:=by
 unfold doReturn at hd;split at hd
 . split at hd<;>cases hd
 . rename_i c rest;have hc:=hwf c As;have hrest:∀f∈rest,f.WF:=fun f hf=>hwf f (AP _ hf)
   split at hd
   . rename_i hk;obtain⟨fr1,hf,hd1⟩:=ay.1 hd
     cases hd1;have hfc:=lF hf;refine⟨rfl,iG (hfc ⟨fun _=>0,fun _=>0⟩).2.2 rest,⟨(hfc ⟨fun _=>0,fun _=>0⟩).2.1 hc,hrest⟩,fun E base=>?_⟩;have hk':(bN E fr).kind= .normal:=hk;simp_all[Go.doReturn]
   . rename_i hk;split at hd
     . cases hd;refine⟨rfl,iG (by rfl) rest,⟨hc,hrest⟩,fun E base=>?_⟩;have hk':(bN E fr).kind= .deferred:=hk;simp_all[Go.doReturn,bN,fy,pE,VG]
     . cases hd;refine⟨rfl,rfl,⟨hc,hrest⟩,fun E base=>?_⟩;have hk':(bN E fr).kind= .deferred:=hk;simp only[A0,BH,Go.doReturn,hk'];split
       . rename_i heq;simp only[bN,fy]at heq;split at heq
         . grind
         . grind
         . rename_i chain hch
           cases chain with
           |nil=>grind
           |cons p older=>
            obtain⟨v',rc⟩:=p;simp_all[pE]
       . rfl
   grind
include ok in
theorem V3 {ts:T AV} {nt:Nat} (hwf:∀t,nt<=t->ts.get t=none) (H:bV E h K w):∀(l:List ResultVar) (vs:List AV),results tab h ts l= .ok vs->
  (l.mapM (m:=Sem) fun
   | .tmp t=>pure ((iQ E ts nt).getD t undef)
   | .cell a t=>do Go.loadVar t (<-asAddr ((iQ E ts nt).getD a undef))).run P w= .ok (bK E vs) w:=by
 intro l;induction l with
 |nil=>simp_all[results]
 | cons x l ih=>
  intro vs hr;rw[List.mapM_cons]
  cases x with
  |tmp t=>
   grind [results,ay,Sem.run_bind,Sem.run_pure,Result.andThen_ok,FE,ct]
  |cell a t=>
   simp only[results]at hr;split at hr
   . rename_i b off ha;obtain⟨v,h1,h2⟩:=ay.1 hr;obtain⟨vs1,h3,h4⟩:=ay.1 h2
     cases h4;have hv:=LF ok H h1;have hva:asAddr (ag E (.ptr b off))=pure ⟨E.aC b,off,none⟩:=rfl;grind [Sem.run_bind,Sem.run_pure,Result.andThen_ok,FE,ct]
   grind
include ok in
theorem VP {fn:Func} {ts:T AV} {nt:Nat} (hwf:∀t,nt<=t->ts.get t=none) (H:bV E h K w) {vs:List AV} (hr:results tab h ts fn.results.toList= .ok vs):
  (Go.results fn (iQ E ts nt)).run P w= .ok (ag E (result vs)) w:=by
 have h1:=V3 ok hwf H _ _ hr;unfold Go.results;rw[Array.mapM_eq_mapM_toList,map_eq_pure_bind,Sem.run_bind,Sem.run_bind];erw[h1]
 cases vs with
 |nil=>simp[result,ag]
 |cons v vs=>
  cases vs with
  |nil=>simp[result]
  |cons u vs=>simp[result,ag]
end
end
section
variable [Inhabited aK]
section
variable {P:Program} {tab:bC} (ok:bZ P tab) {sub:FuncId->List AV->AH->R (List (AV×AH))} (hsub:lO P tab sub) (hext:lN P tab)
variable {D:Nat->Prop} {E:Env} {K:KS} {base:List Frame} {frC:Frame} {csC:List Frame} {w:World}
variable {fr:ak} {cs:List ak} {h:AH}
theorem xX {E E':Env} (e:bN E' fr=bN E fr):iQ E' fr.tmps fr.nt=iQ E fr.tmps fr.nt/\fr.todo.map (dQ E')=fr.todo.map (dQ E)/\
  fr.defers.map (eD E')=fr.defers.map (eD E)/\fy E' fr.mode=fy E fr.mode/\fr.round.map E'.aC=fr.round.map E.aC:=by
 grind [bN]
def oG (P:Program) (fr:Frame) (callers:List Frame) (w:World) (jump:Option Code):GStep:=
 match fr.roundOf with
 |none=>if jump matches none|some .ret then .go {frame:={fr with mode:= .returning},callers,status:= .running,dying:=none} w else .ended (.stuck "exit, goto: no such block or label" (fr.pos P)) w
 |some l=>
  let (r,es):=(Instr.endRound l jump).runT P w #[]
  GStep.after (seen P fr.fn es)<|match r with
  | .ok v w=>Go.doReturn P true fr callers none v w
  | .halt _ w=> .ended (.stuck "range over a function: no such loop" (fr.pos P)) w
theorem KX {c:ak} {rest:List ak} {v:AV} {out:ed} (hd:doReturn fr (c::rest) v h= .ok out):∃m',out= .next m':=by
 grind [doReturn,ay]
theorem EZ {jump:Option Code} {out:ed} (hl:leave fr cs h jump= .ok out) (hR:Rel D E K {fr,cs,h} base frC csC w)
   (hx:stepG P true {frame:=frC,callers:=csC,status:= .running,dying:=none} w=oG P frC csC w jump):Out P h.next (lone frC csC w) D E K (bot fr cs) base w out:=by
 unfold leave at hl;split at hl
 . have hret:(jump=none\/jump=some .ret)->Out P h.next (lone frC csC w) D E K (bot fr cs) base w (.next {fr:={fr with mode:= .returning},cs,h}):=by
     intro hj;refine⟨iG (by rfl) cs,?_⟩;refine hR.one (m':={fr:={fr with mode:= .returning},cs,h}) _ (fun _=>(0,0)) (Ac _) ⟨hR.wf.1,hR.wf.2⟩ ?_;intro E' he H e1 e2 _;refine⟨w,step_lone_go ?_,H,Kept.refl K w⟩;rw[hx];have hr0:frC.roundOf=none:=by rw[<-e1];grind [bN]
     have hgo:(oG P frC csC w jump).bare= .go {frame:={frC with mode:= .returning},callers:=csC,status:= .running,dying:=none} w:=by
       unfold oG;rw[hr0];rcases hj with rfl|rfl<;>rfl
     rw[hgo,<-e1,<-e2];grind [bN,fy]
   grind
 . rename_i l hround;split at hl
   . rename_i _ st pd fn ts nt ps a b d c rest hg;obtain⟨m',rfl⟩:=KX hl
     . obtain⟨h1,h2,h3,h4⟩:=C8 (P:=P) hl hR.wf.2 w;refine⟨h2,?_⟩;refine hR.one _ (fun _=>(0,0)) (by rw[h1];simp_all) h3 ?_;intro E' he H e1 e2 _;obtain⟨o,ho,hoo,hw⟩:=H.obj l _ hg;subst hoo;let o':Obj:= .loop {state:=if jump.isNone then .ready else .done,pending:=jump,fn,tmps:=iQ E' ts nt,params:=ps,assign:=a,body:=b,defers:=E'.aC d}
       have hrun:(Instr.endRound (E'.aC l) jump).run P w= .ok (.bool jump.isNone) (w.put (E'.aC l) o'):=by
         unfold Instr.endRound Instr.getLoop;simp only[Sem.run_bind,vR ho (by simp),Result.andThen_ok,Sem.run_pure,yh ho (by simp)];rfl
       refine⟨w.put (E'.aC l) o',step_lone_go ?_,?_,H.dZ hg (by simp[AO.ro]) _⟩
       . rw[hx];have hr0:frC.roundOf=some (E'.aC l):=by rw[<-e1];grind [bN]
         unfold oG;rw[hr0];simp only[Sem.runT_eq,hrun,GStep.bare_after];have:=(C8 (P:=P) hl hR.wf.2 (w.put (E'.aC l) o')).2.2.2 E' base;rw[e1,e2]at this;exact this
       . rw[h1];refine H.put hg (by simp[AO.ro]) ⟨?_,hw⟩;by_cases hj:jump.isNone<;>simp[o',hj]
   grind
theorem VT (hm:frC.mode≠ .run):stepG P true {frame:=frC,callers:=csC,status:= .running,dying:=none} w=Go.unwind P true frC csC none w:=by
 grind [stepG]
include ok hsub hext in
theorem VV {out:ed} (hu:unwind tab sub fr cs h= .ok out) (hm:∀(_:fr.mode= .run),False) (hR:Rel D E K {fr,cs,h} base frC csC w):Out P h.next (lone frC csC w) D E K (bot fr cs) base w out:=by
 have hmC:frC.mode≠ .run:=by
   rw[<-(hR.all E (aw.refl _ _)).2.1];intro e;simp only[bN,fy]at e;grind
 have hx:=VT (P:=P) (csC:=csC) (w:=w) hmC;unfold unwind at hu;split at hu
 ·
   rename_i b args ds hds;split at hu
   . rename_i calls hb
     cases hu;refine⟨iG (by rfl) cs,?_⟩;refine hR.one (m':={fr:={fr with defers:=calls++ds},cs,h:=h.set b (.qR none)}) _ (fun _=>(0,0)) (Ac _) ⟨hR.wf.1,hR.wf.2⟩ ?_;intro E' he H e1 e2 _;obtain⟨o,ho,hoo⟩:=H.obj b _ hb;simp only[qf]at hoo;refine⟨w.put (E'.aC b) (.deferred none),step_lone_go ?_,H.put hb (by simp[AO.ro]) (by simp[qf]),H.dZ hb (by simp[AO.ro]) _⟩;rw[hx];have hrun:(Instr.takeDeferred (E'.aC b)).run P w= .ok (calls.map (eD E')) (w.put (E'.aC b) (.deferred none)):=by
       simp_all[Instr.takeDeferred,vR,yh]
     have hdef:frC.defers={target:= .collected (E'.aC b),args:=(bK E' args).toArray}::ds.map (eD E'):=by
       rw[<-e1];grind [bN,eD,oJ]
     grind [Go.unwind,Sem.runT_eq,GStep.bare_after,GStep.bare_go,bN]
   grind
 ·
   rename_i d ds hnc hds;have hR':Rel D E K {fr:={fr with defers:=ds},cs,h} base (bN E {fr with defers:=ds}) csC w:=by
     refine⟨fun E' he=>?_,hR.eG,hR.wf.1,hR.wf.2⟩;obtain⟨g1,g2,g3⟩:=hR.all E' he;refine⟨g1,?_,g3⟩;obtain⟨h1,h2,h3,h4,h5⟩:=xX (g2.trans (hR.all E (aw.refl _ _)).2.1.symm);rw[hds]at h3;grind [bN]
   have hdrob:∀E',aw D E E'->eD E' d=eD E d:=by
     intro E' he;obtain⟨g1,g2,g3⟩:=hR.all E' he;obtain⟨h1,h2,h3,h4,h5⟩:=xX (g2.trans (hR.all E (aw.refl _ _)).2.1.symm);rw[hds]at h3;grind
   have hfr:frC=bN E fr:=(hR.all E (aw.refl _ _)).2.1.symm;have hdef:frC.defers=eD E d::ds.map (eD E):=by
     rw[hfr];grind [bN]
   have hfr':({frC with defers:=ds.map (eD E)}:Frame)=bN E {fr with defers:=ds}:=by
     rw[hfr];rfl
   have hux:Go.unwind P true frC csC none w=callDeferred P (bN E {fr with defers:=ds}) csC none (eD E d) w:=by
     have hnc':∀b,(eD E d).target≠ .collected b:=by
       intro b e;obtain⟨t,a⟩:=d
       cases t with
       |fn f c=>grind [eD,oJ]
       |mP l=>grind [eD,oJ]
       |collected r=>grind
     grind [Go.unwind]
   obtain⟨tg,tc,htgt⟩:∃g c,(eD E d).target= .fn g c:=by
     obtain⟨t,a⟩:=d
     cases t with
     |fn f c=>exact⟨_,_,rfl⟩
     |mP l=>exact⟨_,_,rfl⟩
     |collected r=>grind
   rw[<-iG (fr:=fr) (fr':={fr with defers:=ds}) rfl cs];refine(xl ok hsub hext hu hR' (lone frC csC w) (dC:=eD E d) ⟨fun f x w' hr=>?_,fun l f t x b w' hr=>?_,fun v w' hr hk=>?_⟩ hdrob)
   all_goals grind [step_lone_go,callDeferred,Sem.runT_eq,GStep.bare_after,GStep.bare_go]
 . have hdef:frC.defers=[]:=by
     rw[<-(hR.all E (aw.refl _ _)).2.1];grind [bN]
   split at hu
   . cases hu
   ·
     rename_i chain hmode;split at hu
     . rename_i c rest
       cases hu;refine⟨iG (by grind [ak.raise]) rest,?_⟩;refine hR.one (m':={fr:=c.raise chain,cs:=rest,h}) _ (fun _=>(0,0)) (Ac _)
        ⟨by have:=hR.wf.2 c As;unfold ak.raise;split<;>exact this,fun f hf=>hR.wf.2 f (AP _ hf)⟩ ?_
       intro E' he H e1 e2 _;refine⟨w,step_lone_go ?_,H,Kept.refl K w⟩;have hmd:frC.mode= .panicking (chain.map (pE E')):=by rw[<-e1];grind [bN,fy]
       have hcat:frC.catches P=false:=by
        unfold Frame.catches;rw[<-e1]
        cases P.funcs[(bN E' fr).fn]? with
        |some _=>rfl
        | none=>
          cases htd:fr.todo with
          |nil=>grind [bN]
          |cons x l=>cases x<;>simp[bN,htd,dQ]
       rw[hx];unfold Go.unwind;simp only[hdef,hmd,hcat,Ax,Bc];rw[<-e2];unfold Frame.raise ak.raise
       cases hcm:c.mode<;>simp[bN,hcm,fy]
     grind
   ·
     split at hu
     . cases hu
     . rename_i fn hfn;obtain⟨vs,hvs,hu1⟩:=ay.1 hu;have hP:=ok.fns _ _ hfn;have hmd:frC.mode= .returning:=by rw[<-(hR.all E (aw.refl _ _)).2.1];grind [bN,fy]
       have hres:∀E',aw D E E'->(Go.results fn frC.tmps).run P w= .ok (ag E' (result vs)) w:=by
        intro E' he;obtain⟨g1,g2,g3⟩:=hR.all E' he;rw[<-g2];exact VP ok hR.wf.1 g1 hvs
       have hfn':frC.fn=fr.fn:=by rw[<-(hR.all E (aw.refl _ _)).2.1];rfl
       have hP':P.funcs[frC.fn]? =some fn:=by rw[hfn'];exact hP
       have hxx:∀E',aw D E E'->(stepG P true {frame:=frC,callers:=csC,status:= .running,dying:=none} w).bare=(Go.doReturn P true frC csC none (ag E' (result vs)) w).bare:=by
        grind [Go.unwind,Sem.runT_eq,GStep.bare_after]
       cases cs with
       |cons c rest=>
        obtain⟨m',rfl⟩:=KX hu1;obtain⟨h1,h2,h3,h4⟩:=C8 (P:=P) hu1 hR.wf.2 w;refine⟨h2,?_⟩;refine hR.one _ (fun _=>(0,0)) (by rw[h1];grind) h3 ?_;intro E' he H e1 e2 _;refine⟨w,step_lone_go ?_,by rw[h1];exact H,Kept.refl K w⟩;rw[hxx E' he];have:=h4 E' base;grind
       |nil=>
        unfold doReturn at hu1;simp only at hu1;split at hu1
        . rename_i hk
          cases hu1;have hk':frC.kind= .normal:=by rw[<-(hR.all E (aw.refl _ _)).2.1];exact hk
          have hcs:csC=base:=by rw[<-(hR.all E (aw.refl _ _)).2.2];rfl
          subst hcs;refine⟨frC,w,ag E (result vs),E,D,Steps.refl P _,hfn',⟨hmd,hdef,hk',fn,hP',hres E (aw.refl _ _)⟩,?_,aw.refl _ _,fun _ hi=>hi,hR.eG,Kept.refl K w,Ac _,fun _ hi=> .inl hi⟩;intro E'' he;refine⟨(hR.all E'' he).1,?_⟩;have h1:=hres E'' he;rw[hres E (aw.refl _ _)]at h1;grind
        grind
end
end
section
variable [Inhabited aK]
section
variable {P:Program} {tab:bC} (ok:bZ P tab) {sub:FuncId->List AV->AH->R (List (AV×AH))} (hsub:lO P tab sub) (hext:lN P tab)
variable {D:Nat->Prop} {E:Env} {K:KS} {base:List Frame} {frC:Frame} {csC:List Frame} {w:World}
variable {fr:ak} {cs:List ak} {h:AH}
theorem Rel.grow {m:AM} (hR:Rel D E K m base frC csC w) (m':AM) (fr':Frame) (w':World) (f:Nat->Nat×Nat) (hn:m.h.next<=m'.h.next) (hwf:m'.fr.WF/\ ∀f∈m'.cs,f.WF) (hcs:m'.cs=m.cs)
   (h1:∀E',aw D E E'->bV E' m.h K w->bN E' m.fr=frC->(∀i,m.h.next<=i->i<m'.h.next->E'.aC i=(f i).1/\E'.cap i=(f i).2)->bV E' m'.h K w'/\bN E' m'.fr=fr'):
   ∃D1 E1,Rel D1 E1 K m' base fr' csC w'/\aw D E E1/\(∀i,D i->D1 i)/\(∀i,m.h.next<=i->i<m'.h.next->∀E',aw D1 E1 E'->E'.aC i=(f i).1)/\(∀i,D1 i->D i\/m.h.next<=i):=by
 obtain⟨E1,ha,hE⟩:=hR.o7 f;let D1:Nat->Prop:=fun i=>D i\/(m.h.next<=i/\i<m'.h.next)
 have hnew:∀i,m.h.next<=i->i<m'.h.next->∀E',aw D1 E1 E'->E'.aC i=(f i).1/\E'.cap i=(f i).2:=by
   intro i hi hj E' he;have h2:=he i (.inr ⟨hi,hj⟩);have h3:=hE i hi;omega
 refine⟨D1,E1,⟨fun E' he=>?_,fun i hi=>?_,hwf⟩,ha,fun i hi=> .inl hi,fun i hi hj E' he=>(hnew i hi hj E' he).1,fun i hi=>hi.elim .inl (fun h=> .inr h.1)⟩
 . have hd:aw D E E':=ha.trans he (fun i hi=> .inl hi);obtain⟨g1,g2,g3⟩:=hR.all E' hd;grind
 . rcases hi with hi|hi
   . have:=hR.eG i hi;omega
   omega
theorem K8 {M0:Machine} {frC':Frame} {fr0:Frame} {w0:World} {s:Sem Next} {dC:Deferred} (hM:M0=lone fr0 csC w0)
   (hx:(stepG P true {frame:=fr0,callers:=csC,status:= .running,dying:=none} w0).bare=(stepG.apply P true frC' csC none s w).bare)
   (ht:∃l k,frC'.todo= .inRangeFunc l::k) (hs:s.run P w=(invoke dC.target dC.args).run P w):Ctx P M0 frC' csC w .normal dC:=by
 subst hM;obtain⟨l,k,ht⟩:=ht;refine⟨fun f x w' hr=>?_,fun l f t x b w' hr=>?_,fun v w' hr _=>?_⟩
 . refine step_lone_go ?_;rw[hx];simp_all[stepG.apply]
 . refine step_lone_go ?_;rw[hx];simp_all[stepG.apply]
 . refine step_lone_go ?_;rw[hx,ET (by rw[hs,hr]) (.inl rfl)]
def Hb (P:Program) (tab:bC) (sub:FuncId->List AV->AH->R (List (AV×AH))):Prop:=
 ∀ (fr:ak) (cs:List ak) (h:AH) (id:Nat) (ops:Array Oper) (k:List bU) (ts:T AV) (h':AH),fr.mode= .run->fr.todo= .code (.region id ops true)::k->draw tab sub ops fr.nt fr.tmps h= .ok (ts,h')->
  ∀(D:Nat->Prop) (E:Env) (K:KS) (base:List Frame) (frC:Frame) (csC:List Frame) (w:World),Rel D E K {fr,cs,h} base frC csC w->
   gY P h.next (lone frC csC w) D E K {fr:={fr with tmps:=ts,todo:=k},cs,h:=h'} base w
include ok hsub hext in
theorem V2 {f:Operand} {ps:Array Tmp} {a b:Code} {k:List bU} {out:ed} (hm:fr.mode= .run) (ht:fr.todo= .code (.rangeFunc f ps a b)::k) (hR:Rel D E K {fr,cs,h} base frC csC w)
   (hs : (do
     let d<-rn (<-ev fr.tmps f) [.mP (bif fr.round.isNone then h.next+1 else h.next)]
     match fr.round with
     | none=>
       let h1:=h.new (.qR (some []))
       let h2:=h1.new (.loop .ready none fr.fn fr.tmps fr.nt ps a b h.next)
       callTarget tab sub {fr with todo:= .fe (h.next+1)::k,defers:={target:= .collected h.next,args:=[]}::fr.defers} cs h2 d .normal
     | some l=>
       match h.get l with
       | some (.loop _ _ _ _ _ _ _ _ dd)=>
         let h2:=h.new (.loop .ready none fr.fn fr.tmps fr.nt ps a b dd)
         callTarget tab sub {fr with todo:= .fe h.next::k} cs h2 d .normal
       |_=> .no "rangeFunc: loop" :R ed)= .ok out):Out P h.next (lone frC csC w) D E K (bot fr cs) base w out:=by
 obtain⟨u,hu,hs1⟩:=ay.1 hs;obtain⟨d,hd,hs2⟩:=ay.1 hs1;have hρ:∀E',aw D E E'->∀x u,ev fr.tmps x= .ok u->frC.eval x=ag E' u:=by
   intro E' he x u hx;rw[<-(hR.all E' he).2.1];exact qq hR.wf.1 E' hx
 have hmC:frC.mode= .run:=by rw[<-(hR.all E (aw.refl _ _)).2.1];grind [bN,fy]
 have htC:frC.todo= .code (.rangeFunc f ps a b)::k.map (dQ E):=by rw[<-(hR.all E (aw.refl _ _)).2.1];grind [bN,dQ]
 have hfnC:frC.fn=fr.fn:=by rw[<-(hR.all E (aw.refl _ _)).2.1];rfl
 have hrob:∀E',aw D E E'->bN E' fr=bN E fr:=fun E' he=>(hR.all E' he).2.1.trans (hR.all E (aw.refl _ _)).2.1.symm
 split at hs2
 . have hr0:frC.roundOf=none:=by rw[<-(hR.all E (aw.refl _ _)).2.1];grind [bN]
   let N:=w.heap.size
   let w1:=w.alloc (.deferred (some []))
   let w2:=w1.alloc (.loop {state:= .ready,pending:=none,fn:=fr.fn,tmps:=frC.tmps,params:=ps,assign:=a,body:=b,defers:=N})
   let frC':Frame:={frC with todo:= .inRangeFunc (N+1)::k.map (dQ E),defers:={target:= .collected N,args:=#[]}::frC.defers,mode:= .run}
   have hparts:∀E',aw D E E'->iQ E' fr.tmps fr.nt=frC.tmps/\k.map (dQ E')=k.map (dQ E)/\fr.defers.map (eD E')=frC.defers/\fy E' fr.mode=frC.mode/\fr.kind=frC.kind/\fr.round.map E'.aC=frC.roundOf:=by
     intro E' he;have e1:=(hR.all E' he).2.1;obtain⟨_,g2,_⟩:=xX (hrob E' he);simp only[ht,A0,Dg]at g2;exact⟨by rw[<-e1];rfl,g2.2,by rw[<-e1];rfl,by rw[<-e1];rfl,by rw[<-e1];rfl,by rw[<-e1];rfl⟩
   obtain⟨D1,E1,hR1,ha1,hd1,hb1,hw1⟩:=hR.grow {fr:={fr with todo:= .fe (h.next+1)::k,defers:={target:= .collected h.next,args:=[]}::fr.defers},cs,h:=(h.new (.qR (some []))).new (.loop .ready none fr.fn fr.tmps fr.nt ps a b h.next)}
     frC' w2 (fun i=>(N+(i - h.next),0)) (by grind [AH.cP]) ⟨hR.wf.1,hR.wf.2⟩ rfl (by
       intro E' he H e1 hE';have b1:E'.aC h.next=N:=by have:=(hE' h.next (Ac _) (by grind [AH.cP])).1;omega
       have b2:E'.aC (h.next+1)=N+1:=by have:=(hE' (h.next+1) (by simp) (by simp_all)).1;omega
       have H1:bV E' (h.new (.qR (some []))) K w1:=H.new b1 (by simp[qf]);have hsz:w1.heap.size=N+1:=by simp[w1,N]
       obtain⟨p1,p2,p3,p4,p5,p6⟩:=hparts E' he;refine⟨H1.new (by simp_all) ⟨?_,hR.wf.1⟩,?_⟩
       all_goals grind [bN,dQ,eD,oJ,dF])
   have hrun:(Instr.enterLoop frC.fn frC.tmps ps a b frC.roundOf).run P w= .ok (N+1,[{target:= .collected N,args:=#[]}]) w2:=by
     rw[hr0,hfnC];unfold Instr.enterLoop;simp[N];rfl
   have hresv:∀E',aw D1 E1 E'->Deferred.ofValue (frC.eval f) #[.func (.yield (N+1)) #[] #[]]=pure (eD E' d):=by
     intro E' he;rw[<-sN hd E',hρ E' (ha1.trans he hd1) _ _ hu];have h3:E'.aC (h.next+1)=N+1:=by
       have:=hb1 (h.next+1) (by simp) (by simp_all) E' he;omega
     grind [ct,dF,ag]
   have hdrob:=vg hresv;rw[<-iG (fr:=fr) (fr':={fr with todo:= .fe (h.next+1)::k,defers:={target:= .collected h.next,args:=[]}::fr.defers}) rfl cs];refine Out.trans (Steps.refl P _) ha1 hd1 ?_ (by grind [AH.cP]) hw1 (xl ok hsub hext hs2 hR1 (lone frC csC w) (dC:=eD E1 d) ?_ hdrob)
   . exact(Kept.alloc (hR.all E (aw.refl _ _)).1.kb _).trans (Kept.alloc (fun b hb=>by have:=(hR.all E (aw.refl _ _)).1.kb b hb;simp[w1];omega) _)
   . refine K8 (s:=do let d<-resolve frC'.eval {callee:= .value f,args:=#[.const (.func (.yield (N+1)) #[] #[])],argTypes:=#[]} 0;invoke d.target d.args) rfl ?_ ⟨N+1,_,rfl⟩ ?_
     . grind [stepG,stepG.exec,Sem.runT_eq,GStep.bare_after]
     . have he:frC'.eval f=frC.eval f:=by cases f<;>rfl
       have h2:=hresv E1 (aw.refl _ _);grind [resolve,Frame.eval]
 . rename_i l hround;split at hs2
   . rename_i st pd fn' ts nt ps' a' b' dd hl;let N:=w.heap.size
     let blkL:=E.aC l
     have hloop:∀E',aw D E E'->∃o,w.heap[E'.aC l]? =some (.loop o)/\o.defers=E'.aC dd:=by
       intro E' he;obtain⟨o,ho,hoo,_⟩:=(hR.all E' he).1.obj l _ hl;grind
     have hr0:∀E',aw D E E'->frC.roundOf=some (E'.aC l):=by
       intro E' he;rw[<-(hR.all E' he).2.1];grind [bN]
     obtain⟨o,ho,hod⟩:=hloop E (aw.refl _ _);have hdd:∀E',aw D E E'->E'.aC dd=o.defers:=by
       grind [aw.refl]
     let w2:=w.alloc (.loop {state:= .ready,pending:=none,fn:=fr.fn,tmps:=frC.tmps,params:=ps,assign:=a,body:=b,defers:=o.defers})
     let frC':Frame:={frC with todo:= .inRangeFunc N::k.map (dQ E),mode:= .run}
     have hparts:∀E',aw D E E'->iQ E' fr.tmps fr.nt=frC.tmps/\k.map (dQ E')=k.map (dQ E)/\fr.defers.map (eD E')=frC.defers/\fy E' fr.mode=frC.mode/\fr.kind=frC.kind/\fr.round.map E'.aC=frC.roundOf:=by
       intro E' he;have e1:=(hR.all E' he).2.1;obtain⟨_,g2,_⟩:=xX (hrob E' he);simp only[ht,A0,Dg]at g2;exact⟨by rw[<-e1];rfl,g2.2,by rw[<-e1];rfl,by rw[<-e1];rfl,by rw[<-e1];rfl,by rw[<-e1];rfl⟩
     obtain⟨D1,E1,hR1,ha1,hd1,hb1,hw1⟩:=hR.grow {fr:={fr with todo:= .fe h.next::k},cs,h:=h.new (.loop .ready none fr.fn fr.tmps fr.nt ps a b dd)}
       frC' w2 (fun _=>(N,0)) (by simp) ⟨hR.wf.1,hR.wf.2⟩ rfl (by
         intro E' he H e1 hE';have b1:E'.aC h.next=N:=(hE' h.next (Ac _) (by simp)).1;obtain⟨p1,p2,p3,p4,p5,p6⟩:=hparts E' he;refine⟨H.new b1 ⟨?_,hR.wf.1⟩,?_⟩
         all_goals grind [bN,dQ])
     have hrun:(Instr.enterLoop frC.fn frC.tmps ps a b frC.roundOf).run P w= .ok (N,[]) w2:=by
       rw[hr0 E (aw.refl _ _),hfnC];unfold Instr.enterLoop Instr.getLoop;simp only[Sem.run_bind,vR ho (by simp),run_newObj,Result.andThen_ok,Sem.run_pure];rfl
     have hresv:∀E',aw D1 E1 E'->Deferred.ofValue (frC.eval f) #[.func (.yield N) #[] #[]]=pure (eD E' d):=by
       intro E' he;rw[<-sN hd E',hρ E' (ha1.trans he hd1) _ _ hu];have h3:E'.aC h.next=N:=hb1 h.next (Ac _) (by simp) E' he;grind [ct,dF,ag]
     have hdrob:=vg hresv;rw[<-iG (fr:=fr) (fr':={fr with todo:= .fe h.next::k}) rfl cs];refine Out.trans (Steps.refl P _) ha1 hd1 ?_ (by simp only[AH.cP];omega) hw1 (xl ok hsub hext hs2 hR1 (lone frC csC w) (dC:=eD E1 d) ?_ hdrob)
     . exact Kept.alloc (hR.all E (aw.refl _ _)).1.kb _
     . refine K8 (s:=do let d<-resolve frC'.eval {callee:= .value f,args:=#[.const (.func (.yield N) #[] #[])],argTypes:=#[]} 0;invoke d.target d.args) rfl ?_ ⟨N,_,rfl⟩ ?_
       . unfold stepG stepG.exec;simp only[hmC,htC,Sem.runT_eq,hrun,GStep.bare_after];rfl
       . have he:frC'.eval f=frC.eval f:=by cases f<;>rfl
         have h2:=hresv E1 (aw.refl _ _);simp only[Sem.run_bind,resolve,he];have hargs:Array.map frC'.eval #[.const (.func (.yield N) #[] #[])]=#[.func (.yield N) #[] #[]]:=by simp[Frame.eval]
         rw[hargs,h2];simp
   grind
end
end
section
variable [Inhabited aK]
section
variable {P:Program} {tab:bC} (ok:bZ P tab) {sub:FuncId->List AV->AH->R (List (AV×AH))} (hsub:lO P tab sub) (hext:lN P tab) (hdraw:Hb P tab sub)
variable {D:Nat->Prop} {E:Env} {K:KS} {base:List Frame} {frC:Frame} {csC:List Frame} {w:World}
theorem Yz (hm:frC.mode= .run) (ht:frC.todo=[]):stepG P true {frame:=frC,callers:=csC,status:= .running,dying:=none} w=oG P frC csC w none:=by
 grind [stepG,stepG.exec,oG]
theorem YA {k:List Item} (hm:frC.mode= .run) (ht:frC.todo= .code .ret::k):stepG P true {frame:=frC,callers:=csC,status:= .running,dying:=none} w=oG P frC csC w (some .ret):=by
 grind [stepG,stepG.exec,oG]
theorem Xy {id:Nat} {k:List Item} (hm:frC.mode= .run) (ht:frC.todo= .code (.exit id)::k) (hk:Go.exitTo id k=none):stepG P true {frame:=frC,callers:=csC,status:= .running,dying:=none} w=oG P frC csC w (some (.exit id)):=by
 grind [stepG,stepG.exec,oG]
theorem lH {fr:ak} {cs:List ak} {h:AH} (hR:Rel D E K {fr,cs,h} base frC csC w) (k:List bU)
  (hx:∀E' cs',Go.step P (lone (bN E' fr) cs' w)= .next (lone (bN E' {fr with todo:=k}) cs' w)):
  Out P h.next (lone frC csC w) D E K (bot fr cs) base w (.next {fr:={fr with todo:=k},cs,h}):=
 ⟨iG (by rfl) cs,hR.kD {fr with todo:=k} hR.wf.1 hx⟩
include ok hsub hext hdraw in
theorem Fk {m:AM} {out:ed} (hs:step tab sub m= .ok out) (hR:Rel D E K m base frC csC w):Out P m.h.next (lone frC csC w) D E K (bot m.fr m.cs) base w out:=by
 obtain⟨fr,cs,h⟩:=m;unfold step at hs;simp only at hs;split at hs
 . rename_i hm;have hmC:frC.mode= .run:=by rw[<-(hR.all E (aw.refl _ _)).2.1];grind [bN,fy]
   split at hs
   ·
     have htC:frC.todo=[]:=by rw[<-(hR.all E (aw.refl _ _)).2.1];grind [bN]
     grind [EZ,Yz]
   . rename_i k ht;have htC:frC.todo= .code .ret::k.map (dQ E):=by rw[<-(hR.all E (aw.refl _ _)).2.1];grind [bN,dQ]
     grind [EZ,YA]
   . rename_i k ht
     cases hs;exact lH hR k (fun E' cs'=>step_lone_go (by simp_all[stepG,stepG.exec,bN,fy,dQ]))
   . rename_i l k ht
     cases hs;exact lH hR k (fun E' cs'=>step_lone_go (by simp_all[stepG,stepG.exec,bN,fy,dQ]))
   . rename_i l k ht
     cases hs;exact lH hR k (fun E' cs'=>step_lone_go (by simp_all[stepG,stepG.exec,bN,fy,dQ]))
   . rename_i l k ht
     cases hs;exact lH hR k (fun E' cs'=>step_lone_go (by simp_all[stepG,stepG.exec,bN,fy,dQ]))
   . cases hs;exact lH hR _ (fun E' cs'=>step_lone_go (by simp_all[stepG,stepG.exec,bN,fy,dQ]))
   ·
     obtain⟨u,hu,hs1⟩:=ay.1 hs;split at hs1
     . cases hs1;exact lH hR _ (fun E' cs'=>step_lone_go (by
         have:=qq hR.wf.1 E' hu;simp_all[ag,stepG,stepG.exec,bN,fy,dQ]))
     . cases hs1;exact lH hR _ (fun E' cs'=>step_lone_go (by
         have:=qq hR.wf.1 E' hu;simp_all[ag,stepG,stepG.exec,bN,fy,dQ]))
     grind
   . cases hs;exact lH hR _ (fun E' cs'=>step_lone_go (by simp_all[stepG,stepG.exec,bN,fy,dQ]))
   . cases hs;exact lH hR _ (fun E' cs'=>step_lone_go (by simp_all[stepG,stepG.exec,bN,fy,dQ]))
   . cases hs;exact lH hR _ (fun E' cs'=>step_lone_go (by simp_all[stepG,stepG.exec,bN,fy,dQ]))
   . cases hs;exact lH hR _ (fun E' cs'=>step_lone_go (by simp_all[stepG,stepG.exec,bN,fy,dQ]))
   ·
     rename_i id k ht;split at hs
     . cases hs;exact lH hR _ (fun E' cs'=>step_lone_go (by simp_all[stepG,stepG.exec,bN,fy,dQ,Ln]))
     . have htC:frC.todo= .code (.exit id)::k.map (dQ E):=by rw[<-(hR.all E (aw.refl _ _)).2.1];grind [bN,dQ]
       grind [EZ,Xy,Ln]
   ·
     grind [V2]
   ·
     rename_i l k ht;split at hs
     . rename_i st pd fn ts nt ps a b d hl;have hbusy:st≠ .busy:=by grind
       have hs1:(R.ok (ed.next {fr:={fr with todo:=(pd.map bU.code).toList++k},cs,h:=h.set l (.loop .exhausted pd fn ts nt ps a b d)}):R ed)= .ok out:=by
         cases st<;>first|exact hs|grind
       cases hs1;refine⟨iG (by rfl) cs,?_⟩;refine hR.one (m':={fr:={fr with todo:=(pd.map bU.code).toList++k},cs,h:=h.set l (.loop .exhausted pd fn ts nt ps a b d)}) _ (fun _=>(0,0)) (Ac _) ⟨hR.wf.1,hR.wf.2⟩ ?_;intro E' he H e1 e2 _;obtain⟨o,ho,hoo,hw⟩:=H.obj l _ hl;subst hoo;let o':Obj:= .loop {state:= .exhausted,pending:=pd,fn,tmps:=iQ E' ts nt,params:=ps,assign:=a,body:=b,defers:=E'.aC d}
       have hrun:(Instr.endLoop (E'.aC l)).run P w= .ok pd (w.put (E'.aC l) o'):=by
         unfold Instr.endLoop Instr.getLoop;have:(st==LoopState.busy)=false:=by cases st<;>first|rfl|grind
         simp only[Sem.run_bind,vR ho (by simp),Result.andThen_ok,Sem.run_pure,this,Ax,Bc,yh ho (by simp)];rfl
       refine⟨w.put (E'.aC l) o',step_lone_go ?_,H.put hl (by simp[AO.ro]) ⟨rfl,hw⟩,H.dZ hl (by simp[AO.ro]) _⟩;have htC:frC.todo= .endRangeFunc (E'.aC l)::k.map (dQ E'):=by rw[<-e1];grind [bN,dQ]
       rw[<-e2];have hgoal:bN E' {fr with todo:=(pd.map bU.code).toList++k}={frC with todo:=(pd.map Item.code).toList++k.map (dQ E')}:=by
         rw[<-e1]
         cases pd<;>simp[bN,dQ]
       grind [stepG,stepG.exec,Sem.runT_eq,GStep.bare_after,GStep.bare_go]
     grind
   ·
     rename_i k ht;split at hs
     . rename_i l hround;split at hs
       . rename_i pd fn ts nt ps a b d hl
         cases hs;refine⟨iG (by rfl) cs,?_⟩;refine hR.one (m':={fr:={fr with todo:=k},cs,h:=h.set l (.loop .busy pd fn ts nt ps a b d)}) _ (fun _=>(0,0)) (Ac _) ⟨hR.wf.1,hR.wf.2⟩ ?_;intro E' he H e1 e2 _;obtain⟨o,ho,hoo,hw⟩:=H.obj l _ hl;subst hoo;let o':Obj:= .loop {state:= .busy,pending:=pd,fn,tmps:=iQ E' ts nt,params:=ps,assign:=a,body:=b,defers:=E'.aC d}
         have hr0:frC.roundOf=some (E'.aC l):=by rw[<-e1];grind [bN]
         have htC:frC.todo= .beginRound::k.map (dQ E'):=by rw[<-e1];grind [bN,dQ]
         have hrun:(do frC.roundOf.elim (stuck "beginRound: no round") Instr.beginRound;pure .skip:Sem Next).run P w= .ok .skip (w.put (E'.aC l) o'):=by
          rw[hr0];simp only[Option.elim_some,Instr.beginRound,Instr.getLoop];simp only[Sem.run_bind,vR ho (by simp),Result.andThen_ok,Sem.run_pure,yh ho (by simp)];rfl
         refine⟨w.put (E'.aC l) o',step_lone_go ?_,H.put hl (by simp[AO.ro]) ⟨rfl,hw⟩,H.dZ hl (by simp[AO.ro]) _⟩;rw[<-e2];have hgoal:bN E' {fr with todo:=k}={frC with todo:=k.map (dQ E')}:=by
          rw[<-e1];rfl
         have hx:stepG P true {frame:=frC,callers:=cs.map (bN E')++base,status:= .running,dying:=none} w=stepG.apply P true frC (cs.map (bN E')++base) none (do frC.roundOf.elim (stuck "beginRound: no round") Instr.beginRound;pure .skip) w:=by
          grind [stepG,stepG.exec]
         rw[hx,ET hrun (.inr ⟨rfl,rfl⟩)];grind [Frame.finish]
       grind
     grind
   . cases hs;exact lH hR _ (fun E' cs'=>step_lone_go (by simp_all[stepG,stepG.exec,bN,fy,dQ]))
   . rename_i id ops k ht;obtain⟨⟨ts,h'⟩,hd,hs1⟩:=ay.1 hs
     cases hs1;exact⟨iG (by rfl) cs,hdraw fr cs h id ops k ts h' hm ht hd D E K base frC csC w hR⟩
   . cases hs;exact lH hR _ (fun E' cs'=>step_lone_go (by simp_all[stepG,stepG.exec,bN,fy,dQ]))
   ·
     rename_i ops i rest k ht;split at hs
     . rename_i o ho;obtain⟨b,hb,hs1⟩:=ay.1 hs
       cases b with
       |true=>grind [WV]
       | false=>
         obtain⟨fr',hf,hs2⟩:=ay.1 hs1
         cases hs2;have hfc:=lF hf;refine⟨iG (hfc E).2.2 cs,hR.kD fr' ((hfc E).2.1 hR.wf.1) (fun E' cs'=>step_lone_go ?_)⟩;have hw:=E8 hR.wf.1 hb E';rw[<-(hfc E').1];have h1:(bN E' fr).todo= .inRegion ops (i::rest)::k.map (dQ E'):=by grind [bN,dQ]
         have h2:(bN E' fr).mode= .run:=by grind [bN,fy]
         have h3:Region.wanted o (yielded ops (bN E' fr).tmps)=false:=hw;unfold stepG stepG.exec;simp[h1,h2,ho,h3];rfl
     grind
   grind
 grind [VV]
end
end
section
variable [Inhabited aK]
section
variable {P:Program} {tab:bC} (ok:bZ P tab) (hext:lN P tab) (hdraw:∀sub,lO P tab sub->Hb P tab sub)
def Js (P:Program) (tab:bC) (m:AM) (outs:List (AV×AH)):Prop:=
 ∀(D:Nat->Prop) (E:Env) (K:KS) (base:List Frame) (frC:Frame) (csC:List Frame) (w:World),Rel D E K m base frC csC w->
  ∃v h',(v,h')∈outs/\Ends P m.h.next (lone frC csC w) D E K v h' base (bot m.fr m.cs) w
include ok hext hdraw in
theorem Y5:∀n,(∀m outs,run tab n m= .ok outs->Js P tab m outs)/\
  (∀l outs,runs tab n l= .ok outs->∀m∈l,∀outs',(∀x∈outs,x∈outs')->Js P tab m outs'):=by
 intro n;induction n with
 |zero=>
  grind [run,runs]
 |succ n ih=>
  refine⟨fun m outs h=>?_,fun l outs h=>?_⟩
  . let sub:FuncId->List AV->AH->R (List (AV×AH)):=fun f args h=>match tab.fns.get f with
     | some fn=>match fn.body with
       |some body=>run tab n {fr:=ak.enter fn f body args .normal,cs:=[],h}
       |none=> .no "run: body"
     |none=> .no "run: function"
    have hsub:lO P tab sub:=by
     intro f fn body args h outs hfn hb ho D E K w argsC hargs hdom cs;simp only[sub,hfn,hb]at ho;have hP:=ok.fns f fn hfn;have hR:Rel D E K {fr:=ak.enter fn f body args .normal,cs:=[],h} cs (Frame.enter P f argsC .normal) cs w:=by
       refine⟨fun E' he=>?_,hdom,rr _ _ _ _ _,fun f hf=>by cases hf⟩;grind [nh]
     exact ih.1 _ _ ho D E K cs _ cs w hR
    intro D E K base frC csC w hR;change (match step tab sub m with
     | .no w=>R.no w
     | .ok (.done v h)=> .ok [(v,h)]
     | .ok (.next m')=>run tab n m'
     | .ok (.alts l)=>runs tab n l)= .ok outs at h
    cases hs:step tab sub m with
    |no w=>rw[hs]at h;cases h
    |ok out=>
     rw[hs]at h;have ho:=Fk ok hsub hext (hdraw sub hsub) hs hR
     cases out with
     | done v hh=>
       cases h;exact⟨v,hh,As,ho⟩
     | next m'=>
       obtain⟨hb,fr',cs',w',E',D',s1,s2,s3,s4,s5,s6,s7⟩:=ho;obtain⟨v,h',hm,he⟩:=ih.1 m' outs h D' E' K base fr' cs' w' s2;rw[hb]at he;grind [Ends.trans]
     | alts l=>
       obtain⟨m',hml,hb,fr',cs',w',E',D',s1,s2,s3,s4,s5,s6,s7⟩:=ho;obtain⟨v,h',hm,he⟩:=ih.2 l outs h m' hml outs (fun _ hx=>hx) D' E' K base fr' cs' w' s2;rw[hb]at he;grind [Ends.trans]
  . intro m hm outs' hsub'
    cases l with
    |nil=>cases hm
    |cons x l=>
     obtain⟨a,ha,h1⟩:=ay.1 h;obtain⟨b,hb,h2⟩:=ay.1 h1
     cases h2;rcases Ap.1 hm with rfl|hm
     . intro D E K base frC csC w hR;obtain⟨v,h',hx,he⟩:=ih.1 m a ha D E K base frC csC w hR;grind
     grind
end
end
section
variable [Inhabited aK]
section
variable {tab:bC} {ts ts':T AV} {h:AH}
theorem vy:∀(l:List Operand),(∀x∈l,ev ts x=ev ts' x)->kF ts l=kF ts' l:=by
 intro l;induction l with
 |nil=>intro _;rfl
 |cons x l ih=>
  grind [kF]
theorem KZ:∀(l:List (Nat×Operand)),(∀x∈l.map (·.2),ev ts x=ev ts' x)->mD ts l=mD ts' l:=by
 intro l;induction l with
 |nil=>intro _;rfl
 |cons x l ih=>
  grind [mD]
theorem vh (o:Oper) (hx:∀x∈o.op.operands,ev ts x=ev ts' x):fk tab ts h o=fk tab ts' h o:=by
 obtain⟨dst,op,type,pos,after,guard⟩:=o
 cases op<;>simp only[Op.operands]at hx<;>simp only[fk]
 case build t ps=>rw[KZ ps.toList fun x hm=>hx x (by grind)]
 case buildSlice t n ps=>rw[KZ ps.toList fun x hm=>hx x (by grind)]
 case makeFunc fn first captured=>
  rw[vy first.toList fun x hm=>hx x (by grind),vy captured.toList fun x hm=>hx x (by grind)]
 case call c=>
  grind [vy,Call.operands]
 case slice t x lo hi mx=>
  have h0:ev ts x=ev ts' x:=hx x (by simp);have h1:∀y,lo=some y->ev ts y=ev ts' y:=fun y e=>hx y (by simp[e])
  have h2:∀y,hi=some y->ev ts y=ev ts' y:=fun y e=>hx y (by simp[e])
  have h3:∀y,mx=some y->ev ts y=ev ts' y:=fun y e=>hx y (by simp[e])
  rw[h0]
  cases lo<;>cases hi<;>cases mx<;>simp_all[ke,gh]
 case makeMap t r=>cases r<;>rfl
 all_goals grind
theorem Wi {sub:FuncId->List AV->AH->R (List (AV×AH))} (o:Oper) (hx:∀x∈o.op.operands,ev ts x=ev ts' x):ua tab sub ts h o=ua tab sub ts' h o:=by
 have hp:=vh (tab:=tab) (h:=h) o hx;unfold ua
 cases hop:o.op
 case call c=>
  rw[hop]at hx;simp only
  cases hc:c.callee with
  |builtin b=>cases b<;>simp only[hp]
  |value f=>
   have h1:ev ts f=ev ts' f:=hx f (by grind [Op.operands,Call.operands]);have h2:kF ts c.args.toList=kF ts' c.args.toList:=vy c.args.toList fun x hm=>hx x (by grind [Op.operands,Call.operands])
   grind
  |invoke r m=>omega
 all_goals grind
theorem Fe {ops:Array Oper} {o:Oper} (h:∀t∈looks ops o,ts.get t=ts'.get t):(∀x∈o.op.operands,ev ts x=ev ts' x)/\wanted ops o ts=wanted ops o ts':=by
 constructor
 . intro x hx
   cases x with
   |tmp t=>
    have:=h t (EH _ (List.mem_filterMap.2 ⟨.tmp t,by grind,rfl⟩));grind [ev]
   |const v=>rfl
   |func f=>rfl
   |global g=>rfl
 . unfold wanted
   cases hg:o.guard with
   |none=>rfl
   | some gw=>
    obtain⟨g,want⟩:=gw;simp only
    cases hd:(ops[g]?).bind (·.dst)with
    |none=>rfl
    |some d=>
     have:=h d (DJ _ (by grind));grind
end
end
section
variable [Inhabited aK]
theorem jS:∀(l:List (Nat×Nat)) (h:AH),(jh h l).next=h.next:=by
 intro l;induction l with
 |nil=>intro h;rfl
 |cons x l ih=>grind [jh,AH.ig]
theorem jf:∀(l:List (Nat×Nat)) (h:AH) (i:Nat),(jh h l).get i=if ∃x∈l,x.2=i then none else h.get i:=by
 intro l;induction l with
 |nil=>grind [jh]
 |cons x l ih=>
  intro h i;simp only[jh,ih,oc];by_cases h1:∃y∈l,y.2=i
  . rw[An h1,An (by grind)]
  . rw[Al h1];by_cases h2:i=x.2
    . rw[An h2,An ⟨x,As,h2.symm⟩]
    grind
theorem xB:∀(l:List (Nat×Nat)) (h h0:AH),(restore h h0 l).next=h.next:=by
 intro l;induction l with
 |nil=>intro h h0;rfl
 |cons x l ih=>grind [restore]
theorem pc:∀(l:List (Nat×Nat)) (h h0:AH) (i:Nat),(restore h h0 l).get i=if ∃x∈l,x.2=i then h0.get i else h.get i:=by
 intro l;induction l with
 |nil=>grind [restore]
 |cons x l ih=>
  intro h h0 i;simp only[restore,ih];have hg:({h with t:=h.t.set x.2 (h0.get x.2)}:AH).get i=if i=x.2 then h0.get x.2 else h.get i:=T.bp _ _ _ _
  rw[hg];by_cases h1:∃y∈l,y.2=i
  . rw[An h1,An (by grind)]
  . rw[Al h1];by_cases h2:i=x.2
    . rw[An h2,An ⟨x,As,h2.symm⟩,h2]
    grind
section
variable {E:Env} {h h0 h1 h2:AH} {K:KS} {w w':World}
def Rest (E:Env) (h h0:AH) (K:KS):KS:=⟨fun b=>K b\/ ∃i o,h.get i=some o/\h0.get i=none/\b=E.aC i,K.b⟩
theorem bV.part (H:bV E h K w) (hs:∀i o,h0.get i=some o->h.get i=some o) (hd:∀i o,h0.get i=some o->i<h0.next):bV E h0 (Rest E h h0 K) w:=by
 refine⟨fun i o hi=>H.obj i o (hs i o hi),?_,fun i j oi oj hi hj=>H.inj i j oi oj (hs i oi hi) (hs j oj hj),hd,?_,fun i o hi=>H.im i o (hs i o hi),fun b hb=> .inl (H.k0 b hb)⟩
 . rintro i o hi hr (hk|⟨j,oj,hj,hn,e⟩)
   . exact H.nk i o (hs i o hi) hr hk
   . have:=H.inj i j o oj (hs i o hi) hj hr e;grind
 . rintro b (hk|⟨j,oj,hj,hn,e⟩)
   . exact H.kb b hk
   . subst e;exact H.lt hj
theorem bV.join (H:bV E h K w) (H1:bV E h1 (Rest E h h0 K) w') (hk:Kept (Rest E h h0 K) w w')
   (hg:∀i o,h2.get i=some o->h1.get i=some o\/(h.get i=some o/\h0.get i=none)) (hd:∀i o,h2.get i=some o->i<h2.next):bV E h2 K w':=by
 refine⟨?_,?_,?_,hd,?_,?_,H.k0⟩
 . intro i o hi;rcases hg i o hi with g|⟨g,n⟩
   . exact H1.obj i o g
   . obtain⟨c,hc,ho⟩:=H.obj i o g;refine⟨c,?_,ho⟩;rw[<-hc];exact hk.block _ (.inr ⟨i,o,g,n,rfl⟩)
 . intro i o hi hr hK;rcases hg i o hi with g|⟨g,n⟩
   . exact H1.nk i o g hr (.inl hK)
   . exact H.nk i o g hr hK
 . intro i j oi oj hi hj hr e;rcases hg i oi hi with g|⟨g,n⟩<;>rcases hg j oj hj with g'|⟨g',n'⟩
   . exact H1.inj i j oi oj g g' hr e
   . exact absurd (.inr ⟨j,oj,g',n',e⟩) (H1.nk i oi g hr)
   . by_cases hrj:oj.ro
     . exact absurd (H.k0 _ (H1.im j oj g' hrj)) (by rw[<-e];exact H.nk i oi g hr)
     . exact absurd (.inr ⟨i,oi,g,n,e.symm⟩) (H1.nk j oj g' hrj)
   . exact H.inj i j oi oj g g' hr e
 . intro b hb;exact H1.kb b (.inl hb)
 . intro i o hi hr;rcases hg i o hi with g|⟨g,n⟩
   . exact H1.im i o g hr
   . exact H.im i o g hr
theorem Kept.part (hk:Kept (Rest E h h0 K) w w'):Kept K w w':=
 ⟨hk.os,hk.tape,hk.output,hk.size,fun b hb=>hk.block b (.inl hb),hk.drawn⟩
end
end
section
variable [Inhabited aK]
section
variable {P:Program} {tab:bC} (ok:bZ P tab) {sub:FuncId->List AV->AH->R (List (AV×AH))} (hsub:lO P tab sub) (hext:lN P tab)
variable {D:Nat->Prop} {E:Env} {K:KS} {base:List Frame} {frC:Frame} {csC:List Frame} {w:World}
def wE (P:Program) (M0:Machine) (D N:Nat->Prop) (E:Env) (K:KS) (m':AM) (base:List Frame) (w:World):Prop:=
 ∃fr' cs' w' E',Steps P M0 (lone fr' cs' w')/\Rel (fun i=>D i\/N i) E' K m' base fr' cs' w'/\aw D E E'/\Kept K w w'
open Classical in
theorem Rel.re {m m':AM} (hR:Rel D E K m base frC csC w) (M0:Machine) (N:Nat->Prop) (f:Nat->Nat×Nat) (hN:∀i,N i->¬D i) (hlt:∀i,D i\/N i->i<m'.h.next) (hwf:m'.fr.WF/\ ∀f∈m'.cs,f.WF)
  (h1:∀E',aw D E E'->bV E' m.h K w->bN E' m.fr=frC->m.cs.map (bN E')++base=csC->(∀i,N i->E'.aC i=(f i).1/\E'.cap i=(f i).2)->One P M0 E' K m' base w):
  wE P M0 D N E K m' base w:=by
 let E1:Env:=⟨fun i=>if N i then(f i).1 else E.aC i,fun i=>if N i then(f i).2 else E.cap i⟩
 have ha:aw D E E1:=by
  intro i hi;have:¬N i:=fun hn=>hN i hn hi
  grind
 have hE:∀i,N i->E1.aC i=(f i).1/\E1.cap i=(f i).2:=by
  grind
 have hE1:∀E',aw (fun i=>D i\/N i) E1 E'->One P M0 E' K m' base w:=by
  intro E' he;have hd:aw D E E':=ha.trans he (fun i hi=> .inl hi);obtain⟨g1,g2,g3⟩:=hR.all E' hd;refine h1 E' hd g1 g2 g3 (fun i hi=>?_);have h2:=he i (.inr hi);have h3:=hE i hi;omega
 obtain⟨w',s1,s2,s3⟩:=hE1 E1 (aw.refl _ _);refine⟨_,_,w',E1, .one s1,⟨?_,hlt,hwf⟩,ha,s3⟩;intro E' he;obtain⟨w2,t1,t2,t3⟩:=hE1 E' he;rw[s1]at t1;grind [tn]
variable {fr fr':ak} {cs:List ak} {h h0 h1 h2:AH} {ops:Array Oper} {i:Nat} {rest:List Nat} {k:List bU} {o:Oper} {v:AV}
theorem Rel.live (hR:Rel D E K {fr,cs,h} base frC csC w) {i:Nat} {ob:AO} (hi:h.get i=some ob):D i:=by
 by_cases hd:D i
 . exact hd
 . have ha:aw D E ⟨fun j=>if j=i then w.heap.size else E.aC j,E.cap⟩:=by
    intro j hj;have:¬j=i:=fun e=>hd (e▸hj)
    grind
   have:=(hR.all _ ha).1.lt hi;grind
include ok in
theorem vv (hR:Rel D E K {fr,cs,h} base frC csC w) (a:jk frC ops i rest o) (hp:fk tab fr.tmps h0 o= .ok (v,h1)) (hf:fr.finish v= .ok fr')
  (hs:∀i o,h0.get i=some o->h.get i=some o) (hd0:∀i o,h0.get i=some o->i<h0.next)
  (hg:∀i o,h2.get i=some o->h1.get i=some o\/(h.get i=some o/\h0.get i=none)) (hd2:∀i o,h2.get i=some o->i<h2.next\/(h1.get i=some o/\h1.next<=h2.next))
  (N:Nat->Prop) (hN1:h0.next<h1.next->N h0.next) (hN:∀i,N i->i=h0.next/\ ¬D i) (hlt:∀i,D i\/N i->i<h2.next):
  wE P (lone frC csC w) D N E K {fr:=fr',cs,h:=h2} base w:=by
 obtain⟨f,hgood⟩:=Le ok hp w frC.eval;have hfc:=lF hf;have hρ:∀E',aw D E E'->∀x u,ev fr.tmps x= .ok u->frC.eval x=ag E' u:=by
  intro E' he x u hx;rw[<-(hR.all E' he).2.1];exact qq hR.wf.1 E' hx
 refine hR.re (m':={fr:=fr',cs,h:=h2}) _ N (fun _=>f) (fun i hi=>(hN i hi).2) hlt ⟨(hfc E).2.1 hR.wf.1,hR.wf.2⟩ ?_;intro E' he H e1 e2 hE';obtain⟨_,r,w',s1,s2,s3,s4⟩:=hgood E' _ (H.part hs hd0) (hρ E' he) (fun hlt=>hE' h0.next (hN1 hlt));refine⟨w',?_,H.join s3 s4 hg (fun i o hi=>(hd2 i o hi).elim id (fun h=>AE (s3.eG i o h.1) h.2)),s4.part⟩;rw[a.value (.inr (M5 hp)) csC s1 s2,<-e1,<-e2,(hfc E').1]
theorem CW {M0:Machine} {N:Nat->Prop} {m':AM} {lo:Nat} (hg:wE P M0 D N E K m' base w) (hlo:lo<=m'.h.next) (hN:∀i,N i->lo<=i):gY P lo M0 D E K m' base w:=by
 obtain⟨fr',cs',w',E',h1,h2,h3,h4⟩:=hg;exact⟨fr',cs',w',E',_,h1,h2,h3,fun i hi=> .inl hi,h4,hlo,fun i hi=>hi.elim .inl (fun h=> .inr (hN i h))⟩
theorem Rel.fB (hR:Rel D E K {fr,cs,h} base frC csC w) {E':Env} (he:aw D E E'):Rest E' h h0 K=Rest E h h0 K:=by
 unfold Rest;congr 1
 funext b
 apply propext;constructor
 . rintro(hk|⟨i,o,h1,h2,e⟩)
   . grind
   . exact .inr ⟨i,o,h1,h2,by rw[e,(he i (hR.live h1)).1]⟩
 . rintro(hk|⟨i,o,h1,h2,e⟩)
   . grind
   . exact .inr ⟨i,o,h1,h2,by rw[e,(he i (hR.live h1)).1]⟩
include ok hsub hext in
theorem ZE (hR :Rel D E K {fr,cs,h} base frC csC w) (a:jk frC ops i rest o) (hp:ua tab sub fr.tmps h0 o= .ok (v,h1)) (hf:fr.finish v= .ok fr')
   (hs:∀i o,h0.get i=some o->h.get i=some o) (hd0:∀i o,h0.get i=some o->i<h0.next)
   (hg:∀i o,h2.get i=some o->h1.get i=some o\/(h.get i=some o/\h0.get i=none)) (hd2:∀i o,h2.get i=some o->i<h2.next\/(h1.get i=some o/\h1.next<=h2.next))
   (hle:h0.next<=h1.next) (hnx:h2.next=h1.next) (hltD:∀i,D i->i<h0.next):
   gY P h0.next (lone frC csC w) D E K {fr:=fr',cs,h:=h2} base w:=by
 have hpure:fk tab fr.tmps h0 o= .ok (v,h1)->gY P h0.next (lone frC csC w) D E K {fr:=fr',cs,h:=h2} base w:=by
   intro hp;refine CW (vv ok hR a hp hf hs hd0 hg hd2 (fun i=>i=h0.next/\h0.next<h1.next) (fun h=>⟨rfl,h⟩) (fun i hi=>⟨hi.1,fun hd=>by have:=hltD i hd;omega⟩) ?_) (by grind) (fun i hi=>by omega);grind
 have hfc:=lF hf;have hρ:∀E',aw D E E'->∀x u,ev fr.tmps x= .ok u->frC.eval x=ag E' u:=by
   intro E' he x u hx;rw[<-(hR.all E' he).2.1];exact qq hR.wf.1 E' hx
 unfold ua at hp;split at hp
 . rename_i c hc;split at hp
   . rename_i f hcf;obtain⟨args,hargs,hp1⟩:=ay.1 hp;obtain⟨u,hu,hp2⟩:=ay.1 hp1;obtain⟨d,hd,hp3⟩:=ay.1 hp2;have hres:∀E',aw D E E'->Deferred.ofValue (frC.eval f) (c.args.map frC.eval)=pure (eD E' d):=by
       intro E' he;rw[<-sN hd E',hρ E' he _ _ hu,<-rB (hρ E' he) _ _ hargs];congr 1
       grind
     have hrob:=vg hres;have hnd:∀c',o.op≠ .defer c':=by rw[hc];grind
     have hctx:Ctx P (lone frC csC w) frC csC w .normal (eD E d):=Fx a (.inr hnd) (by grind [execOp,resolve,aw.refl]);split at hp3
     . rename_i g captured htg;have hinv:∀E',aw D E E'->invoke (eD E d).target (eD E d).args=callFunc g (bK E' (d.args++captured)).toArray:=by
         grind [eD,oJ,invoke,ey]
       split at hp3
       . rename_i fn hfn;have hP:=ok.fns g fn hfn;have hn:fn.name≠ "runtime.NumGoroutine" :=by simpa using ok.xk g fn hfn
         split at hp3
         . rename_i body hb;obtain⟨outs,ho,hp4⟩:=ay.1 hp3;split at hp4
           . cases hp4;have hrun:∀a,(callFunc g a).run P w= .ok (.enter g a) w:=by
               intro a;simp[callFunc,hP,hn,hb]
             have hstep:∀E',aw D E E'->Go.step P (lone frC csC w)= .next (lone (Frame.enter P g (bK E' (d.args++captured)).toArray .normal) (frC::csC) w):=fun E' he=>
               hctx.enter _ _ _ (by rw[hinv E' he,hrun])
             have hargsC:∀E',aw D E E'->(bK E' (d.args++captured)).toArray=(bK E (d.args++captured)).toArray:=by
               grind [aw.refl]
             obtain⟨v2,h2',hmem,he2⟩:=hsub g fn body _ h0 _ hfn hb ho D E (Rest E h h0 K) w (bK E (d.args++captured)).toArray
               (fun E' he=>⟨by rw[<-hR.fB he];exact(hR.all E' he).1.part hs hd0,hargsC E' he⟩) hltD (frC::csC)
             rcases Ap.1 hmem with e|hmem
             . cases e;obtain⟨fr1,w',vC,E',D',s1,s2,s3,s4,s5,s6,s7,s8,s9,s10⟩:=he2;refine⟨frC.finish vC,csC,w',E',D',?_,⟨?_,?_,?_⟩,s5,s6,s8.part,by grind,s10⟩
               . exact(Steps.head (hstep E (aw.refl _ _)) s1).trans (.one (step_leave_returned s3))
               . intro E'' he';obtain⟨g1,g2⟩:=s4 E'' he';have hag:=s5.trans he' s6;obtain⟨k1,k2,k3⟩:=hR.all E'' hag;refine⟨k1.join (by rw[hR.fB hag];exact g1) (by rw[hR.fB hag];exact s8) hg (fun i o hi=>(hd2 i o hi).elim id (fun h=>AE (g1.eG i o h.1) h.2)),?_,k3⟩;rw[<-(hfc E'').1,<-g2,<-k2]
               . grind
               . exact⟨(hfc E).2.1 hR.wf.1,hR.wf.2⟩
             grind
           grind
         . rename_i hb;obtain⟨gg,hgg⟩:=hext g fn _ h0 v h1 hfn hb hp3 w;refine CW (N:=fun i=>i=h0.next/\h0.next<h1.next) (hR.re (m':={fr:=fr',cs,h:=h2}) _ _ (fun _=>gg) (fun i hi hd=>by have:=hltD i hd;omega) ?_ ⟨(hfc E).2.1 hR.wf.1,hR.wf.2⟩ ?_) (by grind) (fun i hi=>by omega)
           . grind
           . intro E' he H e1 e2 hE';obtain⟨_,w',s1,s2,s3⟩:=hgg E' _ (H.part hs hd0) (fun hlt=>hE' h0.next ⟨rfl,hlt⟩);refine⟨w',?_,H.join s2 s3 hg (fun i o hi=>(hd2 i o hi).elim id (fun h=>AE (s2.eG i o h.1) h.2)),s3.part⟩;rw[hctx.value (ag E' v) w' (by rw[hinv E' he,s1]) rfl,<-e1,<-e2,(hfc E').1]
       grind
     grind
   all_goals grind
 all_goals grind
end
end
section
variable [Inhabited aK]
section
variable {tab:bC} {ts:T AV} {h h':AH} {v:AV}
theorem VR {t:TypeId} {x:AV} {lo hi mx:Option Operand} (hp:ke tab ts h t x lo hi mx= .ok (v,h')):h'=h:=by
 unfold ke at hp;simp only[cond_eq_ite]at hp
 repeat' (first
  |(cases hp;done)
  |(cases hp;rfl)
  |(obtain⟨_,_,hp⟩:=ay.1 hp)
  |split at hp)
theorem Vf {b:Builtin} {l:List AV} {at_:Array TypeId} (hb:b= .len\/b= .cap\/b= .min\/b= .max) (hp:builtin tab b at_ l h= .ok (v,h')):h'=h:=by
 unfold builtin at hp;rcases hb with rfl|rfl|rfl|rfl
 all_goals (repeat' (first
  |contradiction
  |(cases hp;done)
  |(cases hp;rfl)
  |(obtain⟨_,_,hp⟩:=ay.1 hp)
  |split at hp))
theorem ZK {src dst:TypeId} (h:(match tab.und.get src,tab.und.get dst with
  |some (.int _),some (.int _)=>qH.pure
  |_,_=>qH.lD)=qH.pure\/(match tab.und.get src,tab.und.get dst with
  |some (.int _),some (.int _)=>qH.pure
  |_,_=>qH.lD)=qH.read):∃k j,tab.und.get src=some (.int k)/\tab.und.get dst=some (.int j):=by
 grind
theorem OJ {src dst:TypeId} {k j:IntKind} (h1:tab.und.get src=some (.int k)) (h2:tab.und.get dst=some (.int j)) {x:AV} (hp:pb tab h src dst x= .ok (v,h')):∃i n,x= .int i n/\v= .int j (j.wrap n)/\h'=h:=by
 have e1:und tab src= .ok (.int k):=dx.2 h1;have e2:und tab dst= .ok (.int j):=dx.2 h2;grind [pb,ay,convert]
theorem LU {src dst:TypeId} {k j:IntKind} (h1:tab.und.get src=some (.int k)) (h2:tab.und.get dst=some (.int j)) (i:IntKind) (n:Int) (h:AH):pb tab h src dst (.int i n)= .ok (.int j (j.wrap n),h):=by
 have e1:und tab src= .ok (.int k):=dx.2 h1;have e2:und tab dst= .ok (.int j):=dx.2 h2;unfold pb;rw[e2];unfold convert;rw[e1,e2];rfl
theorem xy {o:Oper} (hc:cls tab o≠ .lD/\cls tab o≠ .alloc) (hp:fk tab ts h o= .ok (v,h')):h'=h:=by
 obtain⟨dst,op,type,pos,after,guard⟩:=o;unfold fk at hp
 cases op<;>simp only[cls]at hc<;>simp only at hp
 case slice t x lo hi mx=>
  grind [ay,VR]
 case call c=>
  grind [ay,Vf]
 case convert src dst x=>
  grind [ay,OJ]
 all_goals first
  |exact absurd rfl hc.1
  |exact absurd rfl hc.2
  |(repeat' (first
   |(cases hp;done)
   |(cases hp;rfl)
   |(obtain⟨_,_,hp⟩:=ay.1 hp)
   |split at hp))
end
end
section
variable [Inhabited aK]
def Kind (tab:bC) (ops:Array Oper) (s:DS) (j:Nat) (o:Oper) (tj:T AV) (v:AV):Prop:=
  (wanted ops o tj= .ok false/\v= .bO []/\ ∀x∈s.aI,x.1≠j)\/
  (wanted ops o tj= .ok true/\
    (((∃h1,fk tab tj {t:= .e,next:=0} o= .ok (v,h1)/\h1.next=0)/\ ∀x∈s.aI,x.1≠j)\/
     (∃b h1 ob,((j,b)∈s.aI/\ ∀x∈s.aI,x.1=j->x.2=b)/\fk tab tj {t:= .e,next:=b} o= .ok (v,h1)/\h1.next=b+1/\h1.get b=some ob/\s.h.get b=some ob)\/
     (((j,tj,v)∈s.reads/\ ∀x∈s.aI,x.1≠j)/\cls tab o≠ .lD/\cls tab o≠ .alloc/\ ∃hr,fk tab tj hr o= .ok (v,hr)/\ ∀b ob,hr.get b=some ob->b<hr.next/\s.h.get b=some ob/\ ∀x∈s.aI,x.2≠b)))
def cB (ops:Array Oper) (ts0:T AV) (s:DS) (j:Nat) (o:Oper) (tj:T AV):Prop:=
 ∀t∈looks ops o,(∃i oi,ops[i]? =some oi/\oi.dst=some t/\i∈iV o/\(s.aS.get i).isSome/\tj.get t=s.ts.get t)\/
  (tj.get t=ts0.get t/\ ∀i oi a,ops[i]? =some oi->oi.dst=some t->s.aS.get i=some a->i=j\/j∈a)
def Cr (tab:bC) (ops:Array Oper) (nt:Nat) (ts0:T AV) (s:DS) (j:Nat):Prop:=
 ∃o tj v,ops[j]? =some o/\(∀d,o.dst=some d->d<nt->s.ts.get d=some v)/\cB ops ts0 s j o tj/\Kind tab ops s j o tj v
structure dy (tab:bC) (ops:Array Oper) (nt:Nat) (ts0:T AV) (lo:Nat) (s:DS) (X:Nat->Prop):Prop where
 cx:∀j,X j->(s.aS.get j).isSome
 rU:∀j a,X j->s.aS.get j=some a->∀i∈a,X i
 op:∀j,(s.aS.get j).isSome->∃o,ops[j]? =some o
 shape:∀j a o,s.aS.get j=some a->ops[j]? =some o->(∀i∈iV o,i∈a/\(s.aS.get i).isSome)/\ ∀i∈a,i∈iV o\/ ∃p∈iV o,∃ap,s.aS.get p=some ap/\i∈ap
 uniq:∀i j oi oj d,(s.aS.get i).isSome->ops[i]? =some oi->ops[j]? =some oj->oi.dst=some d->oj.dst=some d->i=j
 qG:∀t,(∀j o,(s.aS.get j).isSome->ops[j]? =some o->o.dst≠some t)->s.ts.get t=ts0.get t
 lZ:∀j,(s.aS.get j).isSome->¬X j->Cr tab ops nt ts0 s j
 al:∀x∈s.aI,x.2<s.h.next/\(s.aS.get x.1).isSome/\lo<=x.2
 nx:lo<=s.h.next
 ue:∀t,nt<=t->s.ts.get t=none
 sI:∀x∈s.aI,∀y∈s.aI,x.2=y.2->x=y
 hd:∀i o,s.h.get i=some o->i<s.h.next
theorem eQ {i:Nat} {l:List Nat}:da i l=true↔i∈l:=by
 grind [da,Nat.eq_of_beq_eq_true,Nat.beq_refl]
theorem VX {aS:T (List Nat)} {t:Tmp} {pre:List Nat}:∀(l:List Oper) (k:Nat),yf aS t pre k l=true->∀j o,l[j]? =some o->o.dst=some t->(aS.get (k+j)).isSome->k+j∈pre:=by
 intro l;induction l with
 |nil=>grind
 | cons x l ih=>
  intro k h j o hj hd hc;simp only[yf,Ad]at h
  cases j with
  |zero=>
   grind [Nat.beq_refl,eQ]
  |succ j=>
   have:=ih (k+1) h.2 j o (by grind) hd (by rw[show k+1+j=k+(j+1)from by omega];exact hc);rw[show k+1+j=k+(j+1)from by omega]at this;omega
theorem Xn {aS:T (List Nat)} {ops:Array Oper} {i:Nat} {a:Tmp} {an:List Nat}:∀(l:List Oper) (k:Nat),yT aS ops i a an k l=true->∀j o,l[j]? =some o->
  (o.dst=some a->i=k+j)/\((aS.get (k+j)).isSome->a∈looks ops o->k+j∈an):=by
 intro l;induction l with
 |nil=>grind
 | cons x l ih=>
  intro k h j o hj;simp only[yT,Ad]at h;obtain⟨⟨h1,h2⟩,h3⟩:=h
  cases j with
  |zero=>
   grind [Nat.beq_refl,Nat.eq_of_beq_eq_true,eQ]
  |succ j=>
   have:=ih (k+1) h3 j o (by grind);rw[show k+1+j=k+(j+1)from by omega]at this;omega
theorem yY {aS:T (List Nat)} {ops:Array Oper} {i:Nat} {o:Oper} (h:jQ aS ops i o=true):
   (∀t∈looks ops o,∀j oj,ops[j]? =some oj->oj.dst=some t->(aS.get j).isSome->j∈iV o)/\
   (∀d,o.dst=some d->∀j oj,ops[j]? =some oj->(oj.dst=some d->i=j)/\((aS.get j).isSome->d∈looks ops oj->j∈eS aS o)):=by
 unfold jQ at h;simp only[Ad,AG]at h;constructor
 . intro t ht j oj hj hd hc;have:=VX ops.toList 0 (h.1 t ht) j oj (by grind) hd (by grind);grind
 . intro d hd j oj hj;have h2:=h.2;rw[hd]at h2;have:=Xn ops.toList 0 h2 j oj (by grind);grind
theorem ql {aS:T (List Nat)} {i:Nat} {o:Oper} (h:isReady aS i o=true):aS.get i=none/\ ∀j∈iV o,(aS.get j).isSome:=by
 simp_all[isReady]
end
section
variable [Inhabited aK]
theorem lE (nt:Nat) (ts:T AV) (o:Oper) (v:AV) (t:Nat):(jg nt ts o v).get t=if o.dst=some t/\t<nt then some v else ts.get t:=by
 unfold jg
 cases hd:o.dst with
 |none=>simp
 |some d=>
  have:=Ga ts nt d v t;grind [ik]
theorem qvn {i:Nat} {l:List Nat}:da i l=true↔i∈l:=by
 grind [da,Nat.eq_of_beq_eq_true,Nat.beq_refl]
theorem Og {i j:Nat} {l:List Nat}:i∈oQ j l↔i=j\/i∈l:=by
 grind [oQ,qvn]
theorem YF {i:Nat}:∀{m l:List Nat},i∈wL m l↔i∈m\/i∈l:=by
 intro m;induction m with
 |nil=>grind [wL]
 |cons j m ih=>
  grind [wL,Og]
theorem fY {aS:T (List Nat)} {o:Oper} {i:Nat}:i∈eS aS o↔i∈iV o\/ ∃p∈iV o,∃ap,aS.get p=some ap/\i∈ap:=by
 unfold eS;induction iV o with
 |nil=>simp[zj]
 |cons j l ih=>
  simp only[zj,Og,YF,ih,Ap];constructor
  . rintro(rfl|h|h|⟨p,hp,ap,h1,h2⟩)
    . omega
    . cases ha:aS.get j with
      |none=>rw[ha]at h;cases h
      |some ap=>rw[ha]at h;grind
    all_goals grind
  grind
section
variable {tab:bC} {ops:Array Oper} {nt lo:Nat} {ts0:T AV} {s s':DS} {X:Nat->Prop} {i:Nat} {o:Oper} {v:AV}
theorem dy.float (H:dy tab ops nt ts0 lo s X) (hi:ops[i]? =some o) (hr:isReady s.aS i o=true) (hok:jQ s.aS ops i o=true)
   (e1:s'.ts=jg nt s.ts o v) (e2:s'.aS=s.aS.set i (some (eS s.aS o))) (eh:∀b ob,s.h.get b=some ob->s'.h.get b=some ob) (en:s.h.next<=s'.h.next)
   (ea:s'.aI=s.aI\/(s'.aI=(i,s.h.next)::s.aI/\s'.h.next=s.h.next+1)) (er:∀x∈s.reads,x∈s'.reads) (hd':∀b ob,s'.h.get b=some ob->b<s'.h.next)
   (hk:Kind tab ops s' i o s.ts v):dy tab ops nt ts0 lo s' X:=by
 obtain⟨hnone,hpre⟩:=ql hr;obtain⟨hok1,hok2⟩:=yY hok;have hanc:∀j,s'.aS.get j=if j=i then some (eS s.aS o)else s.aS.get j:=by
   grind [T.bp]
 have hold:∀j,(s.aS.get j).isSome->j≠i/\s'.aS.get j=s.aS.get j:=by
   grind
 have hnd:∀j oj d,(s.aS.get j).isSome->ops[j]? =some oj->oj.dst=some d->o.dst≠some d:=by
   grind
 have hts:∀t,o.dst≠some t->s'.ts.get t=s.ts.get t:=by
   grind [lE]
 refine⟨?_,?_,?_,?_,?_,?_,?_,?_,Av H.nx en,?_,?_,hd'⟩
 . intro j hj;rw[(hold j (H.cx j hj)).2];exact H.cx j hj
 . intro j a hj ha;rw[(hold j (H.cx j hj)).2]at ha;exact H.rU j a hj ha
 . intro j hj;rw[hanc]at hj;by_cases h1:j=i
   . grind
   . rw[Al h1]at hj;exact H.op j hj
 . intro j a oj ha hoj;rw[hanc]at ha;by_cases h1:j=i
   . grind [fY]
   . rw[Al h1]at ha;obtain⟨g1,g2⟩:=H.shape j a oj ha hoj;grind
 . intro a b oa ob d ha hoa hob hda hdb;rw[hanc]at ha;by_cases h1:a=i
   . grind
   . rw[Al h1]at ha;exact H.uniq a b oa ob d ha hoa hob hda hdb
 . intro t ht;have h1:o.dst≠some t:=ht i o (by rw[hanc,An rfl];rfl) hi;rw[hts t h1];exact H.qG t (fun j oj hj hoj=>ht j oj (by rw[(hold j hj).2];exact hj) hoj)
 . intro j hj hx;by_cases h1:j=i
   . subst h1;refine⟨o,s.ts,v,hi,?_,?_,hk⟩
     . grind [lE]
     . intro t ht;by_cases hw:∃jj oj,ops[jj]? =some oj/\oj.dst=some t/\(s.aS.get jj).isSome
       . obtain⟨jj,oj,g1,g2,g3⟩:=hw;refine .inl ⟨jj,oj,g1,g2,hok1 t ht jj oj g1 g2 g3,by rw[(hold jj g3).2];exact g3,?_⟩;exact(hts t (hnd jj oj t g3 g1 g2)).symm
       . refine .inr ⟨H.qG t (fun jj oj g3 g1 g2=>hw ⟨jj,oj,g1,g2,g3⟩),?_⟩;grind
   . have hj':(s.aS.get j).isSome:=by rw[hanc,Al h1]at hj;exact hj
     obtain⟨oj,tj,vj,g1,g2,g3,g4⟩:=H.lZ j hj' hx;refine⟨oj,tj,vj,g1,?_,?_,?_⟩
     . intro d hd hlt;rw[hts d (hnd j oj d hj' g1 hd)];exact g2 d hd hlt
     . intro t ht;rcases g3 t ht with⟨i1,oi1,k1,k2,k3,k4,k5⟩|⟨k1,k2⟩
       . refine .inl ⟨i1,oi1,k1,k2,k3,by rw[(hold i1 k4).2];exact k4,?_⟩;rw[k5,hts t (hnd i1 oi1 t k4 k1 k2)]
       . refine .inr ⟨k1,?_⟩;intro i' oi a q1 q2 q3;rw[hanc]at q3;by_cases h2:i'=i
         . subst h2;rw[An rfl]at q3;rw[hi]at q1
           cases q1;cases q3;exact .inr ((hok2 t q2 j oj g1).2 hj' ht)
         . rw[Al h2]at q3;exact k2 i' oi a q1 q2 q3
     . have hnoA:(∀x∈s.aI,x.1≠j)->∀x∈s'.aI,x.1≠j:=by
         intro hx x hm;rcases ea with ea|⟨ea,_⟩<;>rw[ea]at hm
         . exact hx x hm
         . rcases Ap.1 hm with rfl|hm
           . exact fun e=>h1 e.symm
           . exact hx x hm
       rcases g4 with⟨k1,k2,k3⟩|⟨k1,k2⟩
       . exact .inl ⟨k1,k2,hnoA k3⟩
       . refine .inr ⟨k1,?_⟩;rcases k2 with k2|⟨b,h1',ob,m1,m2,m3,m4,m5⟩|⟨m1,m2,m3,hr',m4,m5⟩
         . exact .inl ⟨k2.1,hnoA k2.2⟩
         . refine .inr (.inl ⟨b,h1',ob,?_,m2,m3,m4,eh _ _ m5⟩);rcases ea with ea|⟨ea,_⟩<;>rw[ea]
           . exact m1
           . refine⟨AP _ m1.1,fun x hm e=>?_⟩;rcases Ap.1 hm with rfl|hm
             . exact absurd e.symm h1
             . exact m1.2 x hm e
         . refine .inr (.inr ⟨⟨er _ m1.1,hnoA m1.2⟩,m2,m3,hr',m4,?_⟩);intro b ob hb;obtain⟨n1,n2,n3⟩:=m5 b ob hb;refine⟨n1,eh _ _ n2,?_⟩;intro x hx';rcases ea with ea|⟨ea,_⟩<;>rw[ea]at hx'
           . exact n3 x hx'
           . rcases Ap.1 hx' with rfl|hx'
             . have:=H.hd b ob n2;omega
             . exact n3 x hx'
 . intro x hx;rcases ea with ea|⟨ea,hnx⟩<;>rw[ea]at hx
   . have:=H.al x hx;exact⟨by omega,by rw[(hold _ this.2.1).2];exact this.2.1,this.2.2⟩
   . rcases Ap.1 hx with rfl|hx
     . exact⟨by omega,by rw[hanc,An rfl];rfl,H.nx⟩
     . have:=H.al x hx;exact⟨by omega,by rw[(hold _ this.2.1).2];exact this.2.1,this.2.2⟩
 . intro t ht;rw[e1,lE,Al (fun h=>absurd h.2 (Nat.not_lt.2 ht))];exact H.ue t ht
 . intro x hx y hy e;rcases ea with ea|⟨ea,hnx⟩<;>rw[ea]at hx hy
   . exact H.sI x hx y hy e
   . rcases Ap.1 hx with rfl|hx<;>rcases Ap.1 hy with rfl|hy
     . rfl
     . have:=(H.al y hy).1;omega
     . have:=(H.al x hx).1;omega
     . exact H.sI x hx y hy e
end
end
section
variable [Inhabited aK]
section
variable {tab:bC} {ops:Array Oper} {nt lo:Nat} {ts0:T AV} {s s':DS} {X:Nat->Prop} {i:Nat} {o:Oper} {v:AV}
theorem La (hf:vx tab ops nt i o s= .ok (some s')) (hi:ops[i]? =some o) (hr:isReady s.aS i o=true) (H:dy tab ops nt ts0 lo s X):dy tab ops nt ts0 lo s' X:=by
 obtain⟨_,hck,hf1⟩:=ay.1 hf;have hok:=eI.1 hck;obtain⟨b,hb,hf2⟩:=ay.1 hf1;have hnoA:∀x∈s.aI,x.1≠i:=by
  intro x hx e;have:=(H.al x hx).2.1;rw[e,(ql hr).1]at this;grind
 cases b with
 |false=>
  cases hf2;exact H.float hi hr hok rfl rfl (fun _ _ h=>h) (Ac _) (.inl rfl) (fun _ h=>h) H.hd (.inl ⟨hb,rfl,hnoA⟩)
 | true =>
  simp only[Dl,Ax,Bc]at hf2;split at hf2
  . grind
  ·
    obtain⟨⟨u,h1⟩,hp,hf3⟩:=ay.1 hf2;obtain⟨_,hn,hf4⟩:=ay.1 hf3;obtain⟨ob,hob,hf5⟩:=ay.1 hf4
    cases hf5;have hn:=Ag (eI.1 hn);have hob:=dx.1 hob;refine H.float (v:=u) hi hr hok rfl rfl ?_ (by simp) (.inr ⟨rfl,rfl⟩) (fun _ h=>h) ?_ (.inr ⟨hb, .inr (.inl ⟨s.h.next,h1,ob,⟨As,?_⟩,hp,hn,hob,?_⟩)⟩)
    . intro b ob' hg;have:=H.hd b ob' hg;grind [AH.aX]
    . intro b ob' hg;rw[AH.aX]at hg;split at hg
      . simp_all
      . have:=H.hd b ob' hg;grind [AH.cP]
    all_goals grind [AH.aX]
  ·
    rename_i hne hna;split at hf2
    . rename_i u h1 hm;obtain⟨_,hn,hf3⟩:=ay.1 hf2
      cases hf3;have hn:=Ag (eI.1 hn);have hp:fk tab s.ts {t:= .e,next:=0} o= .ok (u,h1):=by
        grind
      exact H.float (v:=u) hi hr hok rfl rfl (fun _ _ h=>h) (Ac _) (.inl rfl) (fun _ h=>h) H.hd (.inr ⟨hb, .inl ⟨⟨h1,hp,hn⟩,hnoA⟩⟩)
    . split at hf2
      . rename_i u h1 hp
        cases hf2;have hsame:=xy (tab:=tab) (o:=o) ⟨fun e=>hne (by rw[e]),fun e=>hna (by rw[e])⟩ hp;subst hsame;refine H.float (v:=u) hi hr hok rfl rfl (fun _ _ h=>h) (Ac _) (.inl rfl) (fun _ h=>AP _ h) H.hd
          (.inr ⟨hb, .inr (.inr ⟨⟨As,hnoA⟩,fun e=>hne (by rw[e]),fun e=>hna (by rw[e]),_,hp,?_⟩)⟩)
        intro b ob hg;rw[jf]at hg;split at hg
        . cases hg
        . rename_i hnx;refine⟨by rw[jS];exact H.hd b ob hg,hg,fun x hx e=>hnx ⟨x,hx,e⟩⟩
      grind
theorem xw:∀(l:List Oper) (k:Nat) (s s':DS),(∀j o,l[j]? =some o->ops[k+j]? =some o)->lI tab ops nt k l s= .ok s'->dy tab ops nt ts0 lo s X->dy tab ops nt ts0 lo s' X:=by
 intro l;induction l with
 |nil=>grind [lI]
 |cons o l ih=>
  intro k s s' hl h H;have hl':∀j o',l[j]? =some o'->ops[k+1+j]? =some o':=by
    intro j o' hj;have:=hl (j+1) o' (by grind);rw[show k+1+j=k+(j+1)from by omega];omega
  simp only[lI]at h;by_cases hr:isReady s.aS k o=true
  . simp only[hr,B9]at h;obtain⟨x,hx,h1⟩:=ay.1 h
    cases x with
    |none=>grind
    |some s1=>exact ih (k+1) s1 s' hl' h1 (La hx (by simpa using hl 0 o rfl) hr H)
  grind
theorem NY:∀(l:List Oper) (k:Nat) (aS:T (List Nat)) (j:Nat) (o:Oper),l[j]? =some o->isReady aS (k+j) o=true->(k+j,o)∈jW aS k l:=by
 intro l;induction l with
 |nil=>grind
 | cons x l ih=>
  intro k aS j o hj hr;simp only[jW]
  cases j with
  |zero=>
   grind
  |succ j=>
   have h1:=ih (k+1) aS j o (by grind) (by rw[show k+1+j=k+(j+1)from by omega];exact hr);rw[show k+1+j=k+(j+1)from by omega]at h1;grind
theorem Lt:∀(l:List Oper) (k:Nat) (aS:T (List Nat)) (j:Nat) (o:Oper),(j,o)∈jW aS k l->∃j',j=k+j'/\l[j']? =some o/\isReady aS j o=true:=by
 intro l;induction l with
 |nil=>grind [jW]
 | cons x l ih=>
  intro k aS j o h;simp only[jW]at h
  cases hr:isReady aS k x with
  |true=>
   rw[hr]at h;rcases Ap.1 h with e|h
   . simp_all
   . obtain⟨j',h1,h2,h3⟩:=ih (k+1) aS j o h;exact⟨j'+1,by omega,by grind,h3⟩
  |false=>
   rw[hr]at h;obtain⟨j',h1,h2,h3⟩:=ih (k+1) aS j o h;exact⟨j'+1,by omega,by grind,h3⟩
end
end
section
variable [Inhabited aK]
structure eT (ops:Array Oper) (fr0:ak) (cs:List ak) (k:List bU) (base:List Frame) (s:DS) (X:Nat->Prop) (D:Nat->Prop) (E:Env) (K:KS)
  (tsR:T AV) (hR:AH) (l:List Nat) (frC:Frame) (csC:List Frame) (w:World):Prop where
 rel:Rel D E K {fr:={fr0 with tmps:=tsR,todo:= .inRegion ops l::k},cs,h:=hR} base frC csC w
 hr:∀i ob,hR.get i=some ob↔s.h.get i=some ob/\ ∀x∈s.aI,x.2=i->X x.1
 hn:hR.next=s.h.next
 pN:∀j o t,X j->ops[j]? =some o->o.dst=some t->tsR.get t=s.ts.get t
 pM:∀t,(∀j o,X j->ops[j]? =some o->o.dst≠some t)->tsR.get t=fr0.tmps.get t
 dp:∀x∈s.aI,¬X x.1->¬D x.2
section
variable {P:Program} {tab:bC} (ok:bZ P tab)
variable {D:Nat->Prop} {E:Env} {K:KS} {base:List Frame} {frC:Frame} {csC:List Frame} {w:World}
variable {ops:Array Oper} {fr0:ak} {cs:List ak} {k:List bU} {lo:Nat} {s:DS} {X:Nat->Prop} {tsR:T AV} {hR:AH} {j:Nat} {l:List Nat} {o:Oper} {v:AV}
theorem Y9 {fr fr':ak} {h:AH} {i:Nat} {rest:List Nat} {k:List bU} (hR:Rel D E K {fr,cs,h} base frC csC w) (hm:fr.mode= .run) (ht:fr.todo= .inRegion ops (i::rest)::k) (ho:ops[i]? =some o) (hw:wanted ops o fr.tmps= .ok false)
  (hf:fr.finish (.bO [])= .ok fr'):wE P (lone frC csC w) D (fun _=>False) E K {fr:=fr',cs,h} base w:=by
 have hfc:=lF hf;refine hR.re (m':={fr:=fr',cs,h}) _ _ (fun _=>(0,0)) (fun _ h=>h.elim) (fun i hi=>hi.elim (hR.eG i) False.elim) ⟨(hfc E).2.1 hR.wf.1,hR.wf.2⟩ ?_;intro E' he H e1 e2 _;refine⟨w,step_lone_go ?_,H,Kept.refl K w⟩;have hw':=E8 hR.wf.1 hw E';rw[<-(hfc E').1,<-e1,<-e2];have h1:(bN E' fr).todo= .inRegion ops (i::rest)::k.map (dQ E'):=by grind [bN,dQ]
 have h2:(bN E' fr).mode= .run:=by grind [bN,fy]
 have h3:Region.wanted o (yielded ops (bN E' fr).tmps)=false:=hw';unfold stepG stepG.exec;simp[h1,h2,ho,h3];rfl
theorem YD (H:dy tab ops fr0.nt fr0.tmps lo s X) (R:eT ops fr0 cs k base s X D E K tsR hR l frC csC w) {tj:T AV} (hl:cB ops fr0.tmps s j o tj) (hx:¬X j) (hready:∀p∈iV o,X p):
   ∀t∈looks ops o,tsR.get t=tj.get t:=by
 intro t ht;rcases hl t ht with⟨i,oi,h1,h2,h3,_,h5⟩|⟨h1,h2⟩
 . rw[h5,R.pN i oi t (hready i h3) h1 h2]
 . rw[h1];refine R.pM t (fun i oi hi hoi hd=>?_);have hc:=H.cx i hi
   cases ha:s.aS.get i with
   |none=>rw[ha]at hc;cases hc
   |some a=>
    rcases h2 i oi a hoi hd ha with e|hm
    . grind
    . exact hx (H.rU i a hi ha j hm)
theorem dy.uo (H:dy tab ops fr0.nt fr0.tmps lo s X) (hC:(s.aS.get j).isSome) (ho:ops[j]? =some o) (hready:∀p∈iV o,X p):dy tab ops fr0.nt fr0.tmps lo s (fun i=>X i\/i=j):=by
 refine⟨?_,?_,H.op,H.shape,H.uniq,H.qG,fun i hi hx=>H.lZ i hi (fun h=>hx (.inl h)),H.al,H.nx,H.ue,H.sI,H.hd⟩
 . rintro i (hi|rfl)
   . exact H.cx i hi
   omega
 . rintro i a (hi|rfl) ha x hx
   . exact .inl (H.rU i a hi ha x hx)
   . obtain⟨g1,g2⟩:=H.shape i a o ha ho;rcases g2 x hx with hp|⟨p,hp,ap,h1,h2⟩
     . grind
     . exact .inl (H.rU p ap (hready p hp) h1 x h2)
theorem RJ (H:dy tab ops fr0.nt fr0.tmps lo s X) (R:eT ops fr0 cs k base s X D E K tsR hR l frC csC w) (hC:(s.aS.get j).isSome) (ho:ops[j]? =some o) (hdst:∀d,o.dst=some d->d<fr0.nt->s.ts.get d=some v):
   (∀i oi t,(X i\/i=j)->ops[i]? =some oi->oi.dst=some t->(jg fr0.nt tsR o v).get t=s.ts.get t)/\
   (∀t,(∀i oi,(X i\/i=j)->ops[i]? =some oi->oi.dst≠some t)->(jg fr0.nt tsR o v).get t=fr0.tmps.get t):=by
 constructor
 . intro i oi t hi hoi hd;rw[lE];by_cases h1:o.dst=some t/\t<fr0.nt
   . rw[An h1,hdst t h1.1 h1.2]
   . rw[Al h1];rcases hi with hi|rfl
     . exact R.pN i oi t hi hoi hd
     . rw[ho]at hoi
       cases hoi;have hge:fr0.nt<=t:=DD (fun hlt=>h1 ⟨hd,hlt⟩);rw[H.ue t hge];exact R.rel.wf.1 t hge
 . intro t ht;rw[lE,Al (fun h=>ht j o (.inr rfl) ho h.1)];exact R.pM t (fun i oi hi hoi=>ht i oi (.inl hi) hoi)
theorem EW (ho:ops[j]? =some o) (v:AV):ak.finish {fr0 with tmps:=tsR,todo:= .inRegion ops (j::l)::k} v= .ok {fr0 with tmps:=jg fr0.nt tsR o v,todo:= .inRegion ops l::k}:=by
 unfold ak.finish;simp only[ho,DB];congr 1
end
end
section
variable [Inhabited aK]
section
variable {P:Program} {tab:bC} (ok:bZ P tab) {sub:FuncId->List AV->AH->R (List (AV×AH))} (hsub:lO P tab sub) (hext:lN P tab)
variable {D:Nat->Prop} {E:Env} {K:KS} {base:List Frame} {frC:Frame} {csC:List Frame} {w:World}
variable {ops:Array Oper} {fr0:ak} {cs:List ak} {k:List bU} {lo:Nat} {s:DS} {X:Nat->Prop} {tsR:T AV} {hR:AH} {j:Nat} {l:List Nat} {o:Oper} {v:AV}
def tC (P:Program) (ops:Array Oper) (fr0:ak) (cs:List ak) (k:List bU) (base:List Frame) (s:DS) (X:Nat->Prop) (D:Nat->Prop) (E:Env) (K:KS) (lo:Nat) (l:List Nat) (frC:Frame) (csC:List Frame) (w:World):Prop:=
 ∃tsR' hR' frC' csC' w' D' E',Steps P (lone frC csC w) (lone frC' csC' w')/\eT ops fr0 cs k base s X D' E' K tsR' hR' l frC' csC' w'/\aw D E E'/\(∀i,D i->D' i)/\Kept K w w'/\(∀i,D' i->D i\/lo<=i)
include ok in
theorem MW (H:dy tab ops fr0.nt fr0.tmps lo s X) (R:eT ops fr0 cs k base s X D E K tsR hR (j::l) frC csC w) (hm:fr0.mode= .run) (ho:ops[j]? =some o) (hC:(s.aS.get j).isSome) (hx:¬X j)
   (hready:∀p∈iV o,X p):tC P ops fr0 cs k base s (fun i=>X i\/i=j) D E K lo l frC csC w:=by
 obtain⟨o',tj,v,ho',hdst,hlook,hkind⟩:=H.lZ j hC hx;rw[ho]at ho'
 cases ho';have hl:=YD H R hlook hx hready;obtain⟨hops,hwant⟩:=Fe hl;obtain⟨htr1,htr0⟩:=RJ H R hC ho hdst;have hfin:=EW (fr0:=fr0) (tsR:=tsR) (l:=l) (k:=k) ho v;have hdomR:=(R.rel.all E (aw.refl _ _)).1.eG;have wrap:∀(N:Nat->Prop) (hR2:AH),wE P (lone frC csC w) D N E K {fr:={fr0 with tmps:=jg fr0.nt tsR o v,todo:= .inRegion ops l::k},cs,h:=hR2} base w->
     (∀i ob,hR2.get i=some ob↔s.h.get i=some ob/\ ∀x∈s.aI,x.2=i->X x.1\/x.1=j)->hR2.next=s.h.next->(∀i,N i->(j,i)∈s.aI)->
     tC P ops fr0 cs k base s (fun i=>X i\/i=j) D E K lo l frC csC w:=by
   intro N hR2 hg hchar hnx hN;obtain⟨frC',csC',w',E1,s1,s2,s3,s4⟩:=hg;refine⟨_,hR2,frC',csC',w',_,E1,s1,⟨s2,hchar,hnx,htr1,htr0,?_⟩,s3,fun i hi=> .inl hi,s4,fun i hi=>hi.elim .inl (fun h=> .inr ((H.al _ (hN i h)).2.2))⟩;rintro x hxm hnx' (hd|hn)
   . exact R.dp x hxm (fun h=>hnx' (.inl h)) hd
   . have:=H.sI x hxm _ (hN _ hn) rfl;grind
 have hcharA:(∀x∈s.aI,x.1≠j)->∀i ob,hR.get i=some ob↔s.h.get i=some ob/\ ∀x∈s.aI,x.2=i->X x.1\/x.1=j:=by
   intro hno i ob;rw[R.hr i ob];grind
 rcases hkind with⟨hw,rfl,hno⟩|⟨hw,hk⟩
 . exact wrap _ hR (Y9 R.rel hm rfl ho (by rw[hwant];exact hw) hfin) (hcharA hno) R.hn (fun _ h=>h.elim)
 . have a:=mT R.rel hm rfl ho (by rw[hwant];exact hw);rcases hk with⟨⟨h1,hp,hn1⟩,hno⟩|⟨b,h1,ob,⟨hb1,hb2⟩,hp,hn1,hob,hsb⟩|⟨⟨_,hno⟩,_,_,hr,hp,hrr⟩
   . refine wrap _ hR (vv ok R.rel a (h0:={t:= .e,next:=0}) (h1:=h1) (h2:=hR) (by rw[vh o hops];exact hp) hfin ?_ ?_ ?_ (fun i o h=> .inl (hdomR i o h)) (fun _=>False) ?_ (fun _ h=>h.elim) (fun i hi=>hi.elim (R.rel.eG i) False.elim)) (hcharA hno) R.hn (fun _ h=>h.elim)
     . intro i o' h;cases h
     . intro i o' h;cases h
     . intro i o' h;exact .inr ⟨h,rfl⟩
     omega
   . have hbn:=(H.al _ hb1).1;have hget:∀i,(hR.set b ob).get i=if i=b then some ob else hR.get i:=fun i=>AH.bp _ _ _ _
     refine wrap (fun i=>i=b) (hR.set b ob) (vv ok R.rel a (h0:={t:= .e,next:=b}) (h1:=h1) (h2:=hR.set b ob) (by rw[vh o hops];exact hp) hfin ?_ ?_ ?_ ?_ (fun i=>i=b) ?_ ?_ ?_) ?_ R.hn ?_
     . intro i o' h;cases h
     . intro i o' h;cases h
     . intro i o' h;rw[hget]at h;by_cases e:i=b
       . grind
       . rw[Al e]at h;exact .inr ⟨h,rfl⟩
     . intro i o' h;rw[hget]at h;simp only[AH.eR];by_cases e:i=b
       . rw[e,R.hn];omega
       grind
     . grind
     . rintro i rfl;exact⟨rfl,R.dp _ hb1 hx⟩
     . rintro i (hi|rfl)
       . exact R.rel.eG i hi
       . simp only[AH.eR];rw[R.hn];omega
     . intro i ob';rw[hget];by_cases e:i=b
       . subst e;rw[An rfl,hsb];constructor
         . intro h;refine⟨h,fun x hx e=> .inr ?_⟩;rw[H.sI x hx _ hb1 e]
         grind
       . rw[Al e,R.hr i ob'];grind
     grind
   . refine wrap _ hR (vv ok R.rel a (h0:=hr) (h1:=hr) (h2:=hR) (by rw[vh o hops];exact hp) hfin ?_ ?_ ?_ (fun i o h=> .inl (hdomR i o h)) (fun _=>False) ?_ (fun _ h=>h.elim) (fun i hi=>hi.elim (R.rel.eG i) False.elim)) (hcharA hno) R.hn (fun _ h=>h.elim)
     . grind
     . grind
     . intro i o' h
       cases hg:hr.get i with
       |none=>grind
       | some ob'=>
         grind
     omega
end
end
section
variable [Inhabited aK]
section
variable {tab:bC} {ops:Array Oper} {nt lo:Nat} {ts0:T AV} {s s':DS} {X:Nat->Prop} {i:Nat} {o:Oper} {v:AV}
theorem dy.lD (H:dy tab ops nt ts0 lo s X) (hi:ops[i]? =some o) (hr:isReady s.aS i o=true) (hok:jQ s.aS ops i o=true) (hanX:∀p∈eS s.aS o,X p)
   (e1:s'.ts=jg nt s.ts o v) (e2:s'.aS=s.aS.set i (some (eS s.aS o))) (en:s.h.next<=s'.h.next)
   (ea:∀x∈s'.aI,x∈s.aI) (ea':∀x∈s.aI,x.1∉eS s.aS o->x∈s'.aI) (eh:∀x∈s'.aI,s'.h.get x.2=s.h.get x.2) (hd':∀b ob,s'.h.get b=some ob->b<s'.h.next)
   (er:∀j oj tj vj,(j,tj,vj)∈s.reads->j∉eS s.aS o->ops[j]? =some oj->cls tab oj≠ .lD->cls tab oj≠ .alloc->(j,tj,vj)∈s'.reads/\ ∃hr,fk tab tj hr oj= .ok (vj,hr)/\ ∀b ob,hr.get b=some ob->b<hr.next/\s'.h.get b=some ob/\ ∀x∈s'.aI,x.2≠b):
   dy tab ops nt ts0 lo s' (fun j=>X j\/j=i):=by
 obtain⟨hnone,hpre⟩:=ql hr;obtain⟨hok1,hok2⟩:=yY hok;have hanc:∀j,s'.aS.get j=if j=i then some (eS s.aS o)else s.aS.get j:=by
   grind [T.bp]
 have hold:∀j,(s.aS.get j).isSome->j≠i/\s'.aS.get j=s.aS.get j:=by
   grind
 have hnd:∀j oj d,(s.aS.get j).isSome->ops[j]? =some oj->oj.dst=some d->o.dst≠some d:=by
   grind
 have hts:∀t,o.dst≠some t->s'.ts.get t=s.ts.get t:=by
   grind [lE]
 refine⟨?_,?_,?_,?_,?_,?_,?_,?_,Av H.nx en,?_,?_,hd'⟩
 . rintro j (hj|rfl)
   . rw[(hold j (H.cx j hj)).2];exact H.cx j hj
   grind
 . rintro j a (hj|rfl) ha p hp
   . rw[(hold j (H.cx j hj)).2]at ha;exact .inl (H.rU j a hj ha p hp)
   grind
 . intro j hj;rw[hanc]at hj;by_cases h1:j=i
   . grind
   . rw[Al h1]at hj;exact H.op j hj
 . intro j a oj ha hoj;rw[hanc]at ha;by_cases h1:j=i
   . grind [fY]
   . rw[Al h1]at ha;obtain⟨g1,g2⟩:=H.shape j a oj ha hoj;grind
 . intro a b oa ob d ha hoa hob hda hdb;rw[hanc]at ha;by_cases h1:a=i
   . grind
   . rw[Al h1]at ha;exact H.uniq a b oa ob d ha hoa hob hda hdb
 . intro t ht;have h1:o.dst≠some t:=ht i o (by rw[hanc,An rfl];rfl) hi;rw[hts t h1];exact H.qG t (fun j oj hj hoj=>ht j oj (by rw[(hold j hj).2];exact hj) hoj)
 . intro j hj hx;have h1:j≠i:=fun e=>hx (.inr e)
   have hxj:¬X j:=fun h=>hx (.inl h)
   have hjan:j∉eS s.aS o:=fun h=>hxj (hanX j h)
   have hj':(s.aS.get j).isSome:=by rw[hanc,Al h1]at hj;exact hj
   obtain⟨oj,tj,vj,g1,g2,g3,g4⟩:=H.lZ j hj' hxj;refine⟨oj,tj,vj,g1,?_,?_,?_⟩
   . grind
   . intro t ht;rcases g3 t ht with⟨i1,oi1,k1,k2,k3,k4,k5⟩|⟨k1,k2⟩
     . refine .inl ⟨i1,oi1,k1,k2,k3,by rw[(hold i1 k4).2];exact k4,?_⟩;rw[k5,hts t (hnd i1 oi1 t k4 k1 k2)]
     . refine .inr ⟨k1,?_⟩;intro i' oi a q1 q2 q3;rw[hanc]at q3;by_cases h2:i'=i
       . subst h2;rw[An rfl]at q3;rw[hi]at q1
         cases q1;cases q3;exact .inr ((hok2 t q2 j oj g1).2 hj' ht)
       . rw[Al h2]at q3;exact k2 i' oi a q1 q2 q3
   . rcases g4 with⟨k1,k2,k3⟩|⟨k1,k2⟩
     . exact .inl ⟨k1,k2,fun x hx=>k3 x (ea x hx)⟩
     . refine .inr ⟨k1,?_⟩;rcases k2 with k2|⟨b,h1',ob,m1,m2,m3,m4,m5⟩|⟨m1,m2,m3,_⟩
       . grind
       . have hm:=ea' _ m1.1 hjan;exact .inr (.inl ⟨b,h1',ob,⟨hm,fun x hx=>m1.2 x (ea x hx)⟩,m2,m3,m4,(eh _ hm).trans m5⟩)
       . obtain⟨q1,q2⟩:=er j oj tj vj m1.1 hjan g1 m2 m3;exact .inr (.inr ⟨⟨q1,fun x hx=>m1.2 x (ea x hx)⟩,m2,m3,q2⟩)
 . intro x hx;have:=H.al x (ea x hx);exact⟨by omega,by rw[(hold _ this.2.1).2];exact this.2.1,this.2.2⟩
 . intro t ht;rw[e1,lE,Al (fun h=>absurd h.2 (Nat.not_lt.2 ht))];exact H.ue t ht
 . intro x hx y hy e;exact H.sI x (ea x hx) y (ea y hy) e
theorem M6 {h:AH}:∀(l:List (Nat×T AV×AV)),reread tab ops h l= .ok ()->∀j tj vj,(j,tj,vj)∈l->∃oj h',ops[j]? =some oj/\fk tab tj h oj= .ok (vj,h'):=by
 intro l;induction l with
 |nil=>grind
 |cons x l ih=>
  grind [reread,ay,CY,eI,dx]
end
end
section
variable [Inhabited aK]
section
variable {P:Program} {tab:bC} (ok:bZ P tab) {sub:FuncId->List AV->AH->R (List (AV×AH))} (hsub:lO P tab sub) (hext:lN P tab)
variable {D:Nat->Prop} {E:Env} {K:KS} {base:List Frame} {frC:Frame} {csC:List Frame} {w:World}
variable {ops:Array Oper} {fr0:ak} {cs:List ak} {k:List bU} {lo:Nat} {s s2:DS} {X:Nat->Prop} {tsR:T AV} {hR:AH} {j:Nat} {l:List Nat} {o:Oper}
open Classical in
include ok hsub hext in
theorem ZH (H:dy tab ops fr0.nt fr0.tmps lo s X) (Q:eT ops fr0 cs k base s X D E K tsR hR (j::l) frC csC w) (hm:fr0.mode= .run) (ho:ops[j]? =some o) (hr:isReady s.aS j o=true)
   (hd:Gx tab sub ops fr0.nt j o s= .ok s2) (hready:∀p∈iV o,X p):dy tab ops fr0.nt fr0.tmps lo s2 (fun i=>X i\/i=j)/\tC P ops fr0 cs k base s2 (fun i=>X i\/i=j) D E K lo l frC csC w:=by
 obtain⟨_,hck,hd1⟩:=ay.1 hd;obtain⟨b,hb,hd2⟩:=ay.1 hd1;obtain⟨_,hbt,hd3⟩:=ay.1 hd2;obtain⟨⟨v,h1⟩,hp,hd4⟩:=ay.1 hd3;obtain⟨_,hle,hd5⟩:=ay.1 hd4;obtain⟨_,hrr,hd6⟩:=ay.1 hd5
 cases hd6;have hok:=eI.1 hck;have hbt:b=true:=eI.1 hbt;subst hbt;have hle:=Ak (eI.1 hle);obtain⟨hnone,hpre⟩:=ql hr;obtain⟨hok1,hok2⟩:=yY hok;have hxj:¬X j:=fun h=>by have:=H.cx j h;rw[hnone]at this;grind
 have hanX:∀p∈eS s.aS o,X p:=by
   intro p hp;rcases fY.1 hp with h|⟨q,hq,ap,h1,h2⟩
   . grind
   . exact H.rU q ap (hready q hq) h1 p h2
 generalize hhid:(s.aI.filter fun x=> !(da x.1 (eS s.aS o)))=hid at*
 have hidm:∀x,x∈hid↔x∈s.aI/\x.1∉eS s.aS o:=by
   grind [eQ]
 have hidj:∀x∈hid,x.1≠j:=by
   intro x hx e;have:=(H.al x ((hidm x).1 hx).1).2.1;rw[e,hnone]at this;grind
 have hl:∀t∈looks ops o,tsR.get t=s.ts.get t:=by
   intro t ht;by_cases hw:∃jj oj,ops[jj]? =some oj/\oj.dst=some t/\(s.aS.get jj).isSome
   . obtain⟨jj,oj,g1,g2,g3⟩:=hw;exact Q.pN jj oj t (hready jj (hok1 t ht jj oj g1 g2 g3)) g1 g2
   . rw[Q.pM t (fun jj oj hx hoj hd=>hw ⟨jj,oj,hoj,hd,H.cx jj hx⟩),H.qG t (fun jj oj hc hoj hd=>hw ⟨jj,oj,hoj,hd,hc⟩)]
 obtain⟨hops,hwant⟩:=Fe hl;have a:=mT Q.rel hm rfl ho (by rw[hwant];exact hb);have hfin:=EW (fr0:=fr0) (tsR:=tsR) (l:=l) (k:=k) ho v;let h2:=restore h1 s.h hid
 let pd:=hid.filter fun x=>decide (¬(X x.1\/x.1=j))
 let hR2:=jh h2 pd
 have hg2:∀i,h2.get i=if ∃x∈hid,x.2=i then s.h.get i else h1.get i:=fun i=>pc _ _ _ _
 have hn2:h2.next=h1.next:=xB _ _ _;have hchar:∀i ob,hR2.get i=some ob↔h2.get i=some ob/\ ∀x∈hid,x.2=i->X x.1\/x.1=j:=by
   intro i ob;simp only[hR2,jf];constructor
   . intro h;split at h
     . cases h
     . refine⟨h,fun x hx e=>?_⟩;grind
   grind
 have hR2n:hR2.next=h1.next:=(jS _ _).trans hn2;have hgets:=ZE ok hsub hext Q.rel a (h0:=jh s.h hid) (h1:=h1) (h2:=hR2) (v:=v) (by rw[Wi o hops];exact hp) hfin
   (by
     intro i ob h;rw[jf]at h;split at h
     . cases h
     . refine(Q.hr i ob).2 ⟨h,fun x hx e=>?_⟩;grind)
   (by
     intro i ob h;rw[jf]at h;split at h
     . cases h
     . rw[jS];exact H.hd i ob h)
   (by
     intro i ob h;obtain⟨h3,h4⟩:=(hchar i ob).1 h;rw[hg2]at h3;split at h3
     . rename_i hex;right;refine⟨(Q.hr i ob).2 ⟨h3,fun x hx e=>?_⟩,by rw[jf,An hex]⟩;grind
     grind)
   (by
     intro i ob h;obtain⟨h3,_⟩:=(hchar i ob).1 h;rw[hg2]at h3;rw[hR2n];split at h3
     . have:=H.hd i ob h3;omega
     grind)
   (by rw[jS];omega) hR2n (by intro i hi;rw[jS,<-Q.hn];exact Q.rel.eG i hi)
 obtain⟨frC',csC',w',E1,D1,s1,rel1,ag1,dd1,kp1,_,new1⟩:=hgets;rw[jS]at new1;have hdom2:∀i ob,h2.get i=some ob->i<h2.next:=by
   intro i ob h;rw[hn2];rw[hg2]at h;split at h
   . have:=H.hd i ob h;omega
   . rename_i hne;have h3:=(hchar i ob).2 ⟨by rw[hg2,Al hne];exact h,fun x hx e=>absurd ⟨x,hx,e⟩ hne⟩;have:=(rel1.all E1 (aw.refl _ _)).1.eG i ob h3;rw[<-hR2n];omega
 refine⟨?_,jg fr0.nt tsR o v,hR2,frC',csC',w',D1,E1,s1,⟨rel1,hchar,hR2n.trans hn2.symm,?_,?_,?_⟩,ag1,dd1,kp1,?_⟩
 . refine H.lD ho hr hok hanX rfl rfl (by grind) (fun x hx=>((hidm x).1 hx).1) (fun x hx hn=>(hidm x).2 ⟨hx,hn⟩) ?_ hdom2 ?_
   . intro x hx;rw[hg2,An ⟨x,hx,rfl⟩]
   . intro j' oj tj vj hmr hjan hoj hce hca;have hmf:(j',tj,vj)∈s.reads.filter (fun x=> !(da x.1 (eS s.aS o))):=by
       rw[AB];grind [eQ]
     refine⟨hmf,?_⟩;obtain⟨oj',hr',g1,g2⟩:=M6 _ hrr _ _ _ hmf;rw[hoj]at g1
     cases g1;have hsame:=xy ⟨hce,hca⟩ g2;subst hsame;refine⟨_,g2,?_⟩;intro b ob hg;rw[jf]at hg;split at hg
     all_goals grind [jS]
 . intro i oi t hi hoi hd;rw[lE,lE];by_cases hc:o.dst=some t/\t<fr0.nt
   . rw[An hc,An hc]
   . rw[Al hc,Al hc];rcases hi with hi|rfl
     . exact Q.pN i oi t hi hoi hd
     . rw[ho]at hoi
       cases hoi;have hge:fr0.nt<=t:=DD (fun hlt=>hc ⟨hd,hlt⟩);rw[H.ue t hge];exact Q.rel.wf.1 t hge
 . intro t ht;rw[lE,Al (fun h=>ht j o (.inr rfl) ho h.1)];exact Q.pM t (fun i oi hi hoi=>ht i oi (.inl hi) hoi)
 . intro x hx hnx hD;have hxm:=((hidm x).1 hx).1;rcases new1 x.2 hD with hd|hd
   . exact Q.dp x hxm (fun h=>hnx (.inl h)) hd
   . have:=(H.al x hxm).1;omega
 . intro i hi;rcases new1 i hi with h|h
   . grind
   . exact .inr (Av H.nx h)
end
end
section
variable [Inhabited aK]
theorem bV.same {E:Env} {h h':AH} {K:KS} {w:World} (H:bV E h K w) (hg:∀i ob,h'.get i=some ob->h.get i=some ob) (hn:h.next<=h'.next):bV E h' K w:=
 ⟨fun i o hi=>H.obj i o (hg i o hi),fun i o hi=>H.nk i o (hg i o hi),fun i j oi oj hi hj=>H.inj i j oi oj (hg i oi hi) (hg j oj hj),fun i o hi=>AE (H.eG i o (hg i o hi)) hn,H.kb,fun i o hi=>H.im i o (hg i o hi),H.k0⟩
section
variable {tab:bC} {D:Nat->Prop} {E:Env} {K:KS} {base:List Frame} {frC:Frame} {csC:List Frame} {w:World}
variable {ops:Array Oper} {fr0:ak} {cs:List ak} {k:List bU} {lo:Nat} {s s':DS} {X:Nat->Prop} {tsR:T AV} {hR:AH} {j:Nat} {l:List Nat} {o:Oper}
theorem eT.look (H:dy tab ops fr0.nt fr0.tmps lo s X) (Q:eT ops fr0 cs k base s X D E K tsR hR l frC csC w)
   (ht:∀j o t,X j->ops[j]? =some o->o.dst=some t->s'.ts.get t=s.ts.get t) (hn:s.h.next<=s'.h.next)
   (hg:∀i ob,(s'.h.get i=some ob/\ ∀x∈s'.aI,x.2=i->X x.1)↔(s.h.get i=some ob/\ ∀x∈s.aI,x.2=i->X x.1))
   (ha:∀x∈s'.aI,x∈s.aI\/s.h.next<=x.2):eT ops fr0 cs k base s' X D E K tsR {hR with next:=s'.h.next} l frC csC w:=by
 have hget:∀i,({hR with next:=s'.h.next}:AH).get i=hR.get i:=fun _=>rfl
 refine⟨⟨fun E' he=>?_,fun i hi=>?_,Q.rel.wf⟩,?_,rfl,?_,Q.pM,?_⟩
 . obtain⟨g1,g2,g3⟩:=Q.rel.all E' he;exact⟨g1.same (fun i ob h=>h) (by grind [hn]),g2,g3⟩
 . have:=Q.rel.eG i hi;simp only at this⊢;rw[Q.hn]at this;omega
 . intro i ob;rw[hget,Q.hr i ob,hg i ob]
 . intro j o t hx ho hd;rw[Q.pN j o t hx ho hd,ht j o t hx ho hd]
 . intro x hx hnx hd;rcases ha x hx with h|h
   . exact Q.dp x h hnx hd
   . have:=Q.rel.eG _ hd;rw[Q.hn]at this;omega
theorem OA:∀(l:List Oper) (k:Nat),qF k l=true->∀j o,l[j]? =some o->∀p∈iV o,p<k+j:=by
 intro l;induction l with
 |nil=>grind
 | cons x l ih=>
  intro k h j o hj p hp;simp only[qF,Ad,AG]at h
  cases j with
  |zero=>
   simp_all
  |succ j=>
   have:=ih (k+1) h.2 j o (by grind) p hp;omega
end
section
variable {tab:bC} {D:Nat->Prop} {E:Env} {K:KS} {base:List Frame} {frC:Frame} {csC:List Frame} {w:World}
variable {ops:Array Oper} {fr0:ak} {cs:List ak} {k:List bU} {lo:Nat} {X:Nat->Prop} {tsR:T AV} {l:List Nat}
theorem Xp {s s':DS} {i:Nat} {o:Oper} {hR:AH} (hf:vx tab ops fr0.nt i o s= .ok (some s')) (hi:ops[i]? =some o) (hr:isReady s.aS i o=true) (H:dy tab ops fr0.nt fr0.tmps lo s X)
  (Q:eT ops fr0 cs k base s X D E K tsR hR l frC csC w):∃hR',eT ops fr0 cs k base s' X D E K tsR hR' l frC csC w:=by
 obtain⟨hnone,_⟩:=ql hr;have hxi:¬X i:=fun h=>by have:=H.cx i h;rw[hnone]at this;grind
 have hput:∀(v:AV) j oj t,X j->ops[j]? =some oj->oj.dst=some t->(jg fr0.nt s.ts o v).get t=s.ts.get t:=by
  intro v j oj t hx ho hd;rw[lE,Al];rintro⟨h,_⟩;have:=H.uniq j i oj o t (H.cx j hx) ho hi hd h;grind
 have hsame:∀(v:AV) (s2:DS),s2.ts=jg fr0.nt s.ts o v->s2.h=s.h->s2.aI=s.aI->∃hR',eT ops fr0 cs k base s2 X D E K tsR hR' l frC csC w:=by
  intro v s2 e1 e2 e3;refine⟨_,Q.look H (s':=s2) ?_ (by rw[e2];omega) (fun i ob=>by rw[e2,e3]) (fun x hx=> .inl (by rw[<-e3];exact hx))⟩;grind
 obtain⟨_,hck,hf1⟩:=ay.1 hf;obtain⟨b,hb,hf2⟩:=ay.1 hf1
 cases b with
 |false=>
  cases hf2;exact hsame _ _ rfl rfl rfl
 | true =>
  simp only[Dl,Ax,Bc]at hf2;split at hf2
  . grind
  . obtain⟨⟨u,h1⟩,hp,hf3⟩:=ay.1 hf2;obtain⟨_,hn,hf4⟩:=ay.1 hf3;obtain⟨ob,hob,hf5⟩:=ay.1 hf4
    cases hf5;refine⟨_,Q.look H (hput u) (by simp) ?_ ?_⟩
    . intro i' ob';rw[AH.aX];by_cases e:i'=s.h.next
      . subst e;rw[An rfl];constructor
        . simp_all
        . rintro⟨h1,_⟩;have:=H.hd _ _ h1;omega
      grind
    grind
  . split at hf2
    . obtain⟨_,hn,hf3⟩:=ay.1 hf2
      cases hf3;exact hsame _ _ rfl rfl rfl
    . split at hf2
      . cases hf2;exact hsame _ _ rfl rfl rfl
      grind
theorem x9:∀(l':List Oper) (n:Nat) (s s':DS) (hR:AH),(∀j o,l'[j]? =some o->ops[n+j]? =some o)->lI tab ops fr0.nt n l' s= .ok s'->dy tab ops fr0.nt fr0.tmps lo s X->
  eT ops fr0 cs k base s X D E K tsR hR l frC csC w->∃hR',eT ops fr0 cs k base s' X D E K tsR hR' l frC csC w:=by
 intro l';induction l' with
 |nil=>grind [lI]
 |cons o l' ih=>
  intro n s s' hR hl h H Q;have hl':∀j o',l'[j]? =some o'->ops[n+1+j]? =some o':=by
    intro j o' hj;have:=hl (j+1) o' (by grind);rw[show n+1+j=n+(j+1)from by omega];omega
  simp only[lI]at h;by_cases hr:isReady s.aS n o=true
  . simp only[hr,B9]at h;obtain⟨x,hx,h1⟩:=ay.1 h
    cases x with
    |none=>grind
    |some s1=>
     have hin:ops[n]? =some o:=by simpa using hl 0 o rfl
     grind [Xp,La]
  grind
end
end
section
variable [Inhabited aK]
def eM (listed:Array Bool) (j:Nat):Prop:=listed.getD j false=true
def oN (n:Nat) (listed:Array Bool):Nat:=((List.range n).filter fun i=> !listed.getD i false).length
theorem Wk {p q:Nat->Bool} {i:Nat}:∀(l:List Nat),(∀j,q j=true->p j=true)->i∈l->p i=true->q i=false->(l.filter q).length+1<=(l.filter p).length:=by
 intro l;induction l with
 |nil=>grind
 |cons x l ih=>
  intro hqp hi hp hq;rcases Ap.1 hi with rfl|hi
  . rw[B7,B7,An hp,Al (by rw[hq];simp),AW];have:(l.filter q).length<=(l.filter p).length:=by
     rw[<-Ef,<-Ef];simp_all[List.countP_mono_left]
    omega
  grind
theorem Gy {listed:Array Bool} {i:Nat} (hi:i<listed.size):eM (listed.setIfInBounds i true)=fun j=>eM listed j\/j=i:=by
 funext j
 unfold eM;rw[BS,BS,Eg];grind
theorem Pp {n:Nat} {listed:Array Bool} {i:Nat} (hi:i<n) (hs:i<listed.size) (hx:¬eM listed i):oN n (listed.setIfInBounds i true)+1<=oN n listed:=by
 refine Wk _ ?_ (List.mem_range.2 hi) (by grind [eM]) ?_
 . intro j hj;have h1:¬eM (listed.setIfInBounds i true) j:=by grind [eM]
   rw[Gy hs]at h1;have:¬eM listed j:=fun h=>h1 (.inl h)
   grind [eM]
 simp_all
theorem Oe {n:Nat} {listed:Array Bool} (h:oN n listed=0):∀j,j<n->eM listed j:=by
 grind [oN,List.filter_eq_nil_iff,eM]
end
section
variable [Inhabited aK]
section
variable {P:Program} {tab:bC} (ok:bZ P tab) {sub:FuncId->List AV->AH->R (List (AV×AH))} (hsub:lO P tab sub) (hext:lN P tab)
variable {K:KS} {base:List Frame}
variable {ops:Array Oper} {fr0:ak} {cs:List ak} {k:List bU} {lo:Nat}
def Fin (P:Program) (fr0:ak) (cs:List ak) (k:List bU) (base:List Frame) (K:KS) (lo:Nat) (sF:DS) (D:Nat->Prop) (E:Env) (frC:Frame) (csC:List Frame) (w:World):Prop:=
 ∃frC' csC' w' D' E',Steps P (lone frC csC w) (lone frC' csC' w')/\Rel D' E' K {fr:={fr0 with tmps:=sF.ts,todo:=k},cs,h:=sF.h} base frC' csC' w'/\aw D E E'/\(∀i,D i->D' i)/\Kept K w w'/\(∀i,D' i->D i\/lo<=i)/\lo<=sF.h.next
def oP (tab:bC) (sub:FuncId->List AV->AH->R (List (AV×AH))) (ops:Array Oper) (nt:Nat) (s sF:DS):Prop:=
 (jW s.aS 0 ops.toList=[]/\sF=s)\/ ∃c o n s2,jW s.aS 0 ops.toList=[(c,o)]/\Gx tab sub ops nt c o s= .ok s2/\vM tab sub ops nt n s2= .ok sF
theorem MF {nt n:Nat} {s sF:DS} (h:vM tab sub ops nt n s= .ok sF):∃s1,lI tab ops nt 0 ops.toList s= .ok s1/\oP tab sub ops nt s1 sF:=by
 cases n with
 |zero=>grind [vM]
 |succ n=>
  obtain⟨s1,h1,h2⟩:=ay.1 h;refine⟨s1,h1,?_⟩;split at h2
  . rename_i hc;obtain⟨_,_,h3⟩:=ay.1 h2
    cases h3;exact .inl ⟨hc,rfl⟩
  . rename_i c o hc;obtain⟨s2,h3,h4⟩:=ay.1 h2;exact .inr ⟨c,o,n,s2,hc,h3,h4⟩
  grind
include ok hsub hext in
theorem cq (hm:fr0.mode= .run) (hlt:qF 0 ops.toList=true):∀(fuel t:Nat) (listed:Array Bool) (s sF:DS) (D:Nat->Prop) (E:Env) (tsR:T AV) (hR:AH) (frC:Frame) (csC:List Frame) (w:World),
  listed.size=ops.size->oN ops.size listed<=fuel->oP tab sub ops fr0.nt s sF->dy tab ops fr0.nt fr0.tmps lo s (eM listed)->
  eT ops fr0 cs k base s (eM listed) D E K tsR hR (Region.linearise.go .any ops fuel t listed []) frC csC w->Fin P fr0 cs k base K lo sF D E frC csC w:=by
 have hend:∀(listed:Array Bool) (s sF:DS) (D:Nat->Prop) (E:Env) (tsR:T AV) (hR:AH) (frC:Frame) (csC:List Frame) (w:World),(∀j,j<ops.size->eM listed j)->
    oP tab sub ops fr0.nt s sF->dy tab ops fr0.nt fr0.tmps lo s (eM listed)->eT ops fr0 cs k base s (eM listed) D E K tsR hR [] frC csC w->Fin P fr0 cs k base K lo sF D E frC csC w:=by
  intro listed s sF D E tsR hR frC csC w hall htodo H Q;rcases htodo with⟨_,rfl⟩|⟨c,o,n,s2,hc,_,_⟩
  . have hts:∀t,tsR.get t=sF.ts.get t:=by
      intro t;by_cases hw:∃(j:Nat) (oj:Oper),ops[j]? =some oj/\oj.dst=some t
      . obtain⟨j,oj,h1,h2⟩:=hw;exact Q.pN j oj t (hall j (Ab.1 h1).1) h1 h2
      . rw[Q.pM t (fun j oj _ h1 h2=>hw ⟨j,oj,h1,h2⟩),H.qG t (fun j oj _ h1 h2=>hw ⟨j,oj,h1,h2⟩)]
    have hst:∀E',Go.step P (lone (bN E' {fr0 with tmps:=tsR,todo:= .inRegion ops []::k}) csC w)= .next (lone (bN E' {fr0 with tmps:=tsR,todo:=k}) csC w):=
      fun E'=>step_lone_go (by simp[stepG,stepG.exec,bN,hm,fy,dQ])
    have hconc:∀E',bN E' {fr0 with tmps:=sF.ts,todo:=k}=bN E' {fr0 with tmps:=tsR,todo:=k}:=by
      simp_all[iQ,wQ,bN]
    have hfr:=(Q.rel.all E (aw.refl _ _)).2.1;refine⟨bN E {fr0 with tmps:=tsR,todo:=k},csC,w,D,E, .one (by rw[<-hfr];grind),⟨fun E' he=>?_,fun i hi=>?_,?_,Q.rel.wf.2⟩,aw.refl _ _,fun _ h=>h,Kept.refl K w,fun i hi=> .inl hi,H.nx⟩
    . obtain⟨g1,g2,g3⟩:=Q.rel.all E' he;refine⟨g1.same (fun i ob h=>(Q.hr i ob).2 ⟨h,fun x hx _=>?_⟩) (by simp only;rw[Q.hn];omega),?_,g3⟩
      . obtain⟨o,ho⟩:=H.op _ (H.al x hx).2.1;grind
      grind [tn]
    . have:=Q.rel.eG i hi;rw[Q.hn]at this;omega
    . intro t ht;have:=Q.rel.wf.1 t ht;grind
  . have hcm:(c,o)∈jW s.aS 0 ops.toList:=by rw[hc];grind
    obtain⟨j',h1,h2,h3⟩:=Lt _ _ _ _ _ hcm;have hlt':c<ops.size:=by
      have:=(Ae.1 h2).1;grind
    have:=H.cx c (hall c hlt');rw[(ql h3).1]at this;grind
 intro fuel;induction fuel with
 |zero=>
  grind [Oe,Region.linearise.go]
 | succ fuel ih=>
  intro t listed s sF D E tsR hR frC csC w hsz hu htodo H Q;change eT ops fr0 cs k base s (eM listed) D E K tsR hR (match(Region.ready .any ops listed)[t % (Region.ready .any ops listed).length]? with
    |some i=>Region.linearise.go .any ops fuel (t / (Region.ready .any ops listed).length) (listed.setIfInBounds i true) [i]
    |none=>[].reverse) frC csC w at Q
  have hget:∀j,j<ops.size->(listed.getD j true=false↔¬eM listed j):=by
    grind [eM]
  cases hi:(Region.ready .any ops listed)[t % (Region.ready .any ops listed).length]? with
  | none=>
    rw[hi]at Q;have hnil:Region.ready .any ops listed=[]:=by
      cases hr:Region.ready .any ops listed with
      |nil=>rfl
      | cons x xs=>
        rw[hr]at hi;have hlt:t % (x::xs).length<(x::xs).length:=Nat.mod_lt _ (by simp);rw[DA]at hi;omega
    have hall:∀j,j<ops.size->eM listed j:=by
      intro j;induction j using Nat.strongRecOn with
      | _ j ihj=>
        intro hj;by_cases hx:eM listed j
        . exact hx
        . have hm':j∈Region.ready .any ops listed:=by
           rw[mem_ready];refine⟨(hget j hj).2 hx,ops[j],AU hj,?_⟩;intro e he hb;have hp:e.on∈iV ops[j]:=AL.2 ⟨e,AB.2 ⟨by grind,hb⟩,rfl⟩;have hlt':=OA ops.toList 0 hlt j ops[j] (by grind) e.on hp;grind
          rw[hnil]at hm';grind
    grind
  | some i =>
    rw[hi]at Q;simp only at Q;rw[linearise_go_acc,Ey,DI]at Q;obtain⟨hl1,o,ho,hdeps⟩:=mem_ready.1 (BA hi);have hin:i<ops.size:=(Ab.1 ho).1;have hx:=(hget i hin).1 hl1;have hready:∀p∈iV o,eM listed p:=by
      intro p hp;obtain⟨e,he,rfl⟩:=AL.1 hp;grind
    have hsz':(listed.setIfInBounds i true).size=ops.size:=by grind
    have hu':oN ops.size (listed.setIfInBounds i true)<=fuel:=by
      have:=Pp hin (by omega) hx;omega
    have hX':eM (listed.setIfInBounds i true)=fun j=>eM listed j\/j=i:=Gy (by omega)
    have hfin:∀(s':DS),oP tab sub ops fr0.nt s' sF->dy tab ops fr0.nt fr0.tmps lo s' (fun j=>eM listed j\/j=i)->
        tC P ops fr0 cs k base s' (fun j=>eM listed j\/j=i) D E K lo (Region.linearise.go .any ops fuel (t / (Region.ready .any ops listed).length) (listed.setIfInBounds i true) []) frC csC w->Fin P fr0 cs k base K lo sF D E frC csC w:=by
      intro s' htd H' hc;obtain⟨tsR',hR',frC',csC',w',D',E',c1,c2,c3,c4,c5,c6⟩:=hc;obtain⟨frF,csF,wF,DF,EF,f1,f2,f3,f4,f5,f6,f7⟩:=ih _ (listed.setIfInBounds i true) s' sF D' E' tsR' hR' frC' csC' w' hsz' hu' htd (by rw[hX'];exact H') (by rw[hX'];exact c2);exact⟨frF,csF,wF,DF,EF,c1.trans f1,f2,c3.trans f3 c4,fun x hx=>f4 x (c4 x hx),c5.trans f5,fun x hx=>(f6 x hx).elim (c6 x) .inr,f7⟩
    by_cases hC:(s.aS.get i).isSome=true
    . exact hfin s htodo (H.uo hC ho hready) (MW ok H Q hm ho hC hx hready)
    . have hr:isReady s.aS i o=true:=by
        unfold isReady;simp only[Ad,AG];exact⟨by simp_all,fun p hp=>H.cx p (hready p hp)⟩
      have hcm:(i,o)∈jW s.aS 0 ops.toList:=by
        have:=NY ops.toList 0 s.aS i o (by grind) (by grind);grind
      rcases htodo with⟨hc,_⟩|⟨c,o',n,s2,hc,hd,hloop⟩
      . rw[hc]at hcm;grind
      . rw [hc]at hcm;rcases Ap.1 hcm with e|hcm
        . cases e;obtain⟨H2,tsR',hR',frC',csC',w',D',E',c1,c2,c3,c4,c5,c6⟩:=ZH ok hsub hext H Q hm ho hr hd hready;obtain⟨s3,hpass,htd3⟩:=MF hloop;have hpl:∀j o,ops.toList[j]? =some o->ops[0+j]? =some o:=by
           grind
          obtain⟨hR3,Q3⟩:=x9 ops.toList 0 s2 s3 hR' hpl hpass H2 c2;exact hfin s3 htd3 (xw ops.toList 0 s2 s3 hpl hpass H2) ⟨tsR',hR3,frC',csC',w',D',E',c1,Q3,c3,c4,c5,c6⟩
        grind
end
end
section
variable [Inhabited aK]
section
variable {P:Program} {tab:bC} (ok:bZ P tab) {sub:FuncId->List AV->AH->R (List (AV×AH))} (hsub:lO P tab sub) (hext:lN P tab)
theorem sV (n j:Nat):¬eM (Array.replicate n false) j:=by
 unfold eM;rw[BS,Ew];split<;>simp
include ok hsub hext in
theorem Fb (hmix:P.follows .mixedOrders=true):Hb P tab sub:=by
 intro fr cs h id ops k ts h' hm ht hd D E K base frC csC w hR;obtain⟨_,hlt,hd1⟩:=ay.1 hd;obtain⟨sF,hloop,hd2⟩:=ay.1 hd1
 cases hd2;have hlt:=eI.1 hlt;let s0:DS:={ts:=fr.tmps,h,aS:= .e,reads:=[],aI:=[]}
 let ord:=w.tape w.drawn (.order frC.fn id)
 let l:=Region.linearise.go .any ops ops.size ord (Array.replicate ops.size false) []
 have hstep:∀E',aw D E E'->Go.step P (lone frC csC w)= .next (lone (bN E' {fr with tmps:=fr.tmps,todo:= .inRegion ops l::k}) csC w.drew):=by
  intro E' he;have e1:=(hR.all E' he).2.1;refine step_lone_go ?_;have hmC:frC.mode= .run:=by rw[<-e1];grind [bN,fy]
  have htC:frC.todo= .code (.region id ops true)::k.map (dQ E'):=by rw[<-e1];grind [bN,dQ]
  have hrun:(choose (.order frC.fn id)).run P w= .ok ord w.drew:=by
   rfl
  have hsch:Region.schedule (P.follows .mixedOrders) ops ord=l:=by
   simp only[Region.schedule,hmix,D6,BB];rfl
  have hgoal:bN E' {fr with tmps:=fr.tmps,todo:= .inRegion ops l::k}={frC with todo:= .inRegion ops l::k.map (dQ E')}:=by
   rw[<-e1];rfl
  rw[hgoal];grind [stepG,stepG.exec,GStep.bare_go]
 have hdom:=(hR.all E (aw.refl _ _)).1.eG;have H0:dy tab ops fr.nt fr.tmps h.next s0 (eM (Array.replicate ops.size false)):=by
  have hnone:∀j,s0.aS.get j=none:=fun _=>rfl
  refine⟨fun j hj=>absurd hj (sV _ _),fun j a hj=>absurd hj (sV _ _),?_,?_,?_,fun _ _=>rfl,?_,fun x hx=>(by cases hx),Ac _,hR.wf.1,fun x hx=>(by cases hx),hdom⟩
  all_goals grind
 have Q0:eT ops fr cs k base s0 (eM (Array.replicate ops.size false)) D E K fr.tmps h l (bN E {fr with tmps:=fr.tmps,todo:= .inRegion ops l::k}) csC w.drew:=by
  refine⟨⟨fun E' he=>?_,hR.eG,hR.wf⟩,fun i ob=>⟨fun h=>⟨h,fun x hx=>(by cases hx)⟩,fun h=>h.1⟩,rfl,fun j o t hx=>absurd hx (sV _ _),fun _ _=>rfl,fun x hx=>by cases hx⟩;obtain⟨g1,g2,g3⟩:=hR.all E' he;refine⟨g1.drew,?_,g3⟩;have h1:=hstep E' he;rw[hstep E (aw.refl _ _)]at h1;grind [tn]
 obtain⟨s1,hpass,htodo⟩:=MF hloop;have hpl:∀j o,ops.toList[j]? =some o->ops[0+j]? =some o:=by
  grind
 obtain⟨hR1,Q1⟩:=x9 ops.toList 0 s0 s1 h hpl hpass H0 Q0;have H1:=xw ops.toList 0 s0 s1 hpl hpass H0;obtain⟨frC',csC',w',D',E',f1,f2,f3,f4,f5,f6,f7⟩:=cq ok hsub hext hm hlt ops.size ord (Array.replicate ops.size false) s1 sF D E fr.tmps hR1 _ csC w.drew (by simp)
  (by grind [oN]) htodo H1 Q1
 exact⟨frC',csC',w',E',D',Steps.head (hstep E (aw.refl _ _)) f1,f2,f3,f4,(Kept.drew K w).trans f5,f7,f6⟩
end
end
end Go.Am
