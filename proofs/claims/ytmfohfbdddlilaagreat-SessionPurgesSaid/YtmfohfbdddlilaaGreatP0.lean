/- Part 0: an evaluator, proved sound, and its use at this seat; no condition. -/
import GoSem.Step
import Derived.WalkKit
import Derived.Laws.MakeOwn
import Derived.Laws.Sem
import Derived.Calls
import Derived.Orders
set_option linter.unusedSimpArgs false
set_option linter.unusedVariables false
set_option linter.unusedSectionVars false
set_option linter.deprecated false
abbrev Aa:=@Bool.and_eq_true
abbrev Ab:=@List.getElem?_eq_some_iff
abbrev Ac:=@Int.ofNat_eq_natCast
abbrev Ad:=@decide_eq_true_eq
abbrev Ae:=@Array.getElem?_eq_some_iff
abbrev Af:=@List.getElem?_eq_getElem
abbrev Ag:=@Nat.eq_of_beq_eq_true
abbrev Ah:=@decide_eq_false_iff_not
abbrev Ai:=@Nat.le_refl
abbrev Aj:=@List.mem_cons
abbrev Ak:=@Bool.false_eq_true
abbrev Al:=@Nat.le_of_ble_eq_true
abbrev An:=@List.mem_cons_self
abbrev Ao:=@List.mem_cons_of_mem
abbrev Ap:=@congrArg
abbrev Aq:=@Nat.le_trans
abbrev Ar:=@List.mem_filter
abbrev As:=@Option.map_eq_some_iff
abbrev Au:=@List.mem_map
abbrev Av:=@Bool.eq_false_iff
abbrev Aw:=@Nat.zero_le
abbrev Ax:=@Nat.zero_add
abbrev Ay:=@List.take_of_length_le
abbrev Az:=@List.getElem?_map
abbrev AA:=@List.length_cons
abbrev AB:=@if_false
abbrev AE:=@List.getElem?_cons_zero
abbrev AF:=@List.take_succ_eq_append_getElem
abbrev AG:=@Nat.ble_eq
abbrev AI:=@List.all_eq_true
abbrev AJ:=@List.getElem_mem
abbrev AK:=@List.length_nil
abbrev AL:=@List.length_filter_le
abbrev AN:=@List.length_eq_zero_iff
abbrev AP:=@List.eq_nil_of_length_eq_zero
abbrev AQ:=@Bool.not_eq_true'
abbrev AR:=@List.map_cons
abbrev AS:=@cond_false
abbrev AU:=@Option.getD_some
abbrev AW:=@List.getElem?_toArray
abbrev AX:=@Option.some.injEq
abbrev AY:=@Nat.lt_of_lt_of_le
abbrev AZ:=@List.getElem?_cons_succ
abbrev A1:=@List.map_append
abbrev A2:=@Bool.eq_iff_iff
abbrev A3:=@List.getElem?_append_left
abbrev A4:=@List.length_pos_iff
abbrev A5:=@List.length_append
abbrev A6:=@Array.getElem?_toList
abbrev A7:=@Array.getElem?_eq_getElem
abbrev A8:=@Option.map_some
abbrev A9:=@List.mem_append
abbrev Ba:=@List.getElem?_append_right
abbrev Bb:=@Bool.false_and
abbrev Bc:=@Option.isSome_none
abbrev Bd:=@List.getElem?_take
abbrev Be:=@Nat.not_lt_zero
abbrev Bf:=@List.length_map
abbrev Bg:=@decide_eq_true
abbrev Bh:=@cond_true
abbrev Bi:=@List.length_take
abbrev Bj:=@Bool.true_and
abbrev Bk:=@Decidable.byContradiction
abbrev Bl:=@not_false_eq_true
abbrev Bn:=@List.getElem_of_mem
abbrev Bo:=@of_decide_eq_true
abbrev Bp:=@List.take_length
abbrev Bq:=@List.getElem?_eq_none
abbrev Br:=@decide_eq_false
abbrev Bt:=@List.foldl_cons
abbrev Bu:=@List.append_nil
abbrev Bv:=@List.pairwise_iff_getElem
abbrev Bw:=@Nat.add_zero
abbrev Bx:=@List.length_drop
abbrev By:=@List.cons_append
abbrev Bz:=@List.filter_eq_self
abbrev BA:=@Nat.mul_le_mul_right
abbrev BB:=@Nat.add_mul
abbrev BC:=@List.size_toArray
abbrev BD:=@List.mem_of_getElem?
abbrev BE:=@List.mem_iff_getElem?
abbrev BF:=@Bool.or_eq_true
abbrev BG:=@List.filter_cons
abbrev BH:=@List.pairwise_cons
abbrev BJ:=@List.map_map
abbrev BL:=@Array.getElem?_setIfInBounds
abbrev BM:=@Option.isSome_iff_exists
abbrev BN:=@Bool.not_true
abbrev BO:=@List.takeWhile_cons
abbrev BP:=@beq_iff_eq
abbrev BQ:=@List.mem_singleton
abbrev BR:=@List.nil_append
abbrev BS:=@List.cons.injEq
abbrev BT:=@List.not_mem_nil
abbrev BU:=@List.filter_sublist
abbrev BV:=@List.take_append_drop
abbrev BW:=@List.nodup_cons
abbrev BX:=@List.getElem?_drop
abbrev BZ:=@List.filter_filter
abbrev B0:=@Option.bind_some
abbrev B5:=@Prod.mk.injEq
abbrev B6:=@getElem!_pos
abbrev B7:=@Nat.beq_refl
abbrev B8:=@List.filter_congr
abbrev B9:=@Bool.and_false
abbrev Da:=@Option.map_none
abbrev Db:=@Array.ext_getElem?
abbrev Dc:=@Nat.sub_zero
abbrev Dd:=@Nat.add_assoc
abbrev De:=@Bool.not_false
abbrev Df:=@List.getElem_drop
abbrev Dg:=@List.ext_getElem?
abbrev Dh:=@List.append_assoc
abbrev Di:=@Function.comp_def
abbrev Dj:=@Option.some.inj
abbrev Dk:=@Nat.blt_eq
abbrev Dl:=@Array.size_push
abbrev Dm:=@beq_eq_false_iff_ne
abbrev Dn:=@List.map_congr_left
abbrev Dp:=@Array.getD_eq_getD_getElem?
abbrev Dq:=@List.filter_append
abbrev Dr:=@Array.getElem?_modify
abbrev Ds:=@List.drop_eq_getElem_cons
abbrev Dt:=@not_true_eq_false
abbrev Du:=@List.mem_of_mem_take
abbrev Dv:=@Int.toNat_natCast
abbrev Dw:=@Array.toList_push
abbrev Dx:=@List.eraseIdx_eq_take_drop_succ
abbrev Dy:=@List.toList_toArray
abbrev Dz:=@List.head?_eq_getElem?
abbrev DA:=@Array.getElem?_eq_none
abbrev DB:=@or_false
abbrev DC:=@List.singleton_append
abbrev DD:=@Array.getElem_setIfInBounds
abbrev DE:=@and_true
abbrev DG:=@List.nodup_iff_pairwise_ne
abbrev DH:=@Array.replicate_zero
abbrev DI:=@Array.replicate_succ
abbrev DJ:=@List.dropWhile_cons
abbrev DK:=@List.append_toArray
abbrev DM:=@Bool.and_true
abbrev DN:=@List.find?_cons
abbrev DO:=@Nat.one_mul
abbrev DP:=@List.take_zero
abbrev DQ:=@List.reverse_singleton
abbrev DR:=@List.push_toArray
abbrev DT:=@List.pairwise_map
abbrev DU:=@List.flatMap_cons
abbrev DV:=@List.find?_append
abbrev DW:=@List.filter_eq_nil_iff
abbrev DX:=@List.drop_eq_nil_of_le
abbrev DY:=@Nat.ble_eq_true_of_le
abbrev DZ:=@List.takeWhile_prefix
abbrev D2:=@List.mem_append_right
abbrev D3:=@List.Pairwise.sublist
abbrev D4:=@Nat.lt_succ_self
abbrev D5:=@Nat.le_of_not_lt
abbrev D6:=@List.any_eq_true
abbrev D7:=@List.pairwise_append
abbrev D8:=@List.mem_of_mem_drop
abbrev D9:=@List.getElem?_modify
abbrev Ea:=@List.getElem?_range
abbrev Eb:=@List.flatMap_append
abbrev Ec:=@Array.toList_modify
abbrev Ed:=@Array.toList_filter
abbrev Ee:=@Nat.zero_mul
abbrev Ef:=@Nat.lt_or_ge
abbrev Eg:=@List.map_nil
abbrev Eh:=@Bool.true_or
abbrev Ei:=@List.ne_nil_of_mem
abbrev Ej:=@List.foldl_nil
abbrev Ek:=@List.find?_eq_none
abbrev El:=@List.exists_cons_of_ne_nil
abbrev Em:=@List.Sublist.nodup
abbrev En:=@Bool.not_eq_false'
abbrev Eo:=@Array.getElem?_append_left
abbrev Ep:=@Option.isSome_iff_ne_none
abbrev Er:=@List.getLast?_eq_getElem?
abbrev Es:=@List.getElem?_eq_none_iff
abbrev Et:=@List.getElem_take
abbrev Eu:=@List.getElem?_set
abbrev Ew:=@Int.lt_trichotomy
abbrev Ex:=@List.map_take
abbrev Ey:=@beq_self_eq_true
abbrev Ez:=@Option.bind_eq_some_iff
abbrev EA:=@UInt8.toNat_inj
abbrev EB:=@Array.getElem?_append
abbrev EC:=@List.mem_range
abbrev ED:=@List.mem_append_left
abbrev EE:=@List.find?_nil
abbrev EG:=@List.drop_drop
abbrev EH:=@Array.getElem_toList
abbrev EI:=@Array.getElem_modify
abbrev EJ:=@List.map_drop
abbrev EK:=@Bool.or_false
abbrev EL:=@Bool.and_self
abbrev EM:=@Nat.pos_of_ne_zero
abbrev EN:=@Int.natCast_nonneg
abbrev EO:=@List.findIdx?_eq_some_iff_getElem
abbrev EP:=@decide_false
abbrev ER:=@List.nodup_append
abbrev ES:=@List.foldl_append
abbrev ET:=@List.drop_sublist
abbrev EU:=@List.Sublist.refl
abbrev EV:=@Bool.or_true
abbrev EW:=@List.takeWhile_append_dropWhile
abbrev EX:=@Bool.not_eq_true
abbrev EY:=@Array.ext
abbrev EZ:=@Nat.le_zero
abbrev E0:=@List.take_append_of_le_length
abbrev E2:=@Int.le_refl
abbrev E3:=@Nat.min_eq_left
abbrev E4:=@List.head?_cons
abbrev E5:=@List.countP_eq_length_filter
abbrev E6:=@Option.or_none
abbrev E7:=@Option.none_or
abbrev E8:=@Nat.not_lt
abbrev E9:=@Nat.mul_le_mul
abbrev Fa:=@Nat.le_of_mul_le_mul_right
abbrev Fb:=@List.take_succ
abbrev Fc:=@List.mapM_cons
abbrev Fe:=@Array.toList_setIfInBounds
abbrev Ff:=@List.mem_of_find?_eq_some
abbrev Fg:=@List.extract_eq_take_drop
abbrev Fh:=@List.exists_mem_of_ne_nil
abbrev Fi:=@Classical.byContradiction
abbrev Fj:=@Nat.lt_irrefl
abbrev Fk:=@ByteArray.ext
abbrev Fl:=@Bool.and_comm
abbrev Fm:=@Array.size_setIfInBounds
abbrev Fo:=@Array.getElem?_replicate
abbrev Fp:=@Classical.axiomOfChoice
abbrev Fq:=@Option.map_eq_none_iff
abbrev Fs:=@List.getElem_cons_zero
abbrev Fu:=@List.getElem_cons_succ
abbrev Fv:=@Array.getElem?_extract
abbrev Fw:=@UInt8.lt_iff_toNat_lt
abbrev Fx:=@Nat.le_div_iff_mul_le
abbrev Fy:=@List.eraseIdx_sublist
abbrev FA:=@List.concat_eq_append
abbrev FB:=@Nat.mul_one
abbrev FC:=@Nat.le_succ
abbrev FD:=@List.map_id
abbrev FE:=@List.length_dropLast
abbrev FF:=@Nat.pred_eq_sub_one
abbrev FG:=@List.reverse_append
abbrev FH:=@Array.getElem?_push
namespace Go.Am
inductive R (α:Type) where
 |ok (a:α)
 |no (why:String)
namespace R
def bind {α β:Type}:R α->(α->R β)->R β
 | .ok a,f=>f a
 | .no w,_=> .no w
instance:Monad R where
 pure:=R.ok
 bind:=R.bind
def of {α:Type} (why:String):Option α->R α
 |some a=> .ok a
 |none=> .no why
def check (why:String):Bool->R Unit
 |true=> .ok ()
 |false=> .no why
end R
inductive T (α:Type) where
 |e
 |n (v:Option α) (l r:T α)
namespace T
def get {α:Type}:T α->Nat->Option α
 | .e,_=>none
 | .n v l r,k=>bif Nat.beq k 0 then v else bif Nat.beq (Nat.mod k 2) 1 then l.get (Nat.div k 2)else r.get (Nat.pred (Nat.div k 2))
def cC {α:Type}:Nat->T α->Nat->Option α->T α
 |0,t,_,_=>t
 |f+1, .e,k,x=>
  bif Nat.beq k 0 then .n x .e .e else bif Nat.beq (Nat.mod k 2) 1 then .n none (cC f .e (Nat.div k 2) x) .e else .n none .e (cC f .e (Nat.pred (Nat.div k 2)) x)
 |f+1, .n v l r,k,x=>
  bif Nat.beq k 0 then .n x l r else bif Nat.beq (Nat.mod k 2) 1 then .n v (cC f l (Nat.div k 2) x) r else .n v l (cC f r (Nat.pred (Nat.div k 2)) x)
def set {α:Type} (t:T α) (k:Nat) (x:Option α):T α:=cC (k+1) t k x
def gC {α:Type}:List α->Nat->T α->T α
 |[],_,t=>t
 |x::l,k,t=>gC l (k+1) (t.set k (some x))
def ofList {α:Type} (l:List α):T α:=gC l 0 .e
end T
inductive gi where
 |lit (n:Nat)
 |tail (k:Nat)
deriving DecidableEq
inductive AV where
 |bool (b:Bool)
 |int (k:IntKind) (n:Int)
 |str (s:List UInt8)
 |bo
 |ptr (b off:Nat)
 |nils
 |sl (b off len:Nat) (cap:gi)
 |emp (b off l n k:Nat)
 |bF
 |map (b:Nat)
 |bL
 |fn (f:Fn) (first captured:List AV)
 |nc (l:Nat)
 |gK
 |iface (t:TypeId) (v:AV)
 |agg (cs:List AV)
 |bG (vs:List AV)
 |raw (v:Value)
inductive BK where
 |rw|mark|any|ro|cold
deriving DecidableEq
def BK.grown:BK->BK
 | .rw=> .rw
 |_=> .any
inductive AT where
 |fn (f:Fn) (captured:List AV)
 |nc (l:Nat)
 |collected (r:Nat)
structure AD where
 target:AT
 args:List AV
inductive AO where
 |cells (cs:List AV) (elem:TypeId) (sz:Nat) (ext:Bool) (bk:BK)
 |mp (es:List (AV×AV×Nat)) (clock:Nat)
 |tQ (m:Option Nat) (since:Nat) (seen:List Nat) (stepped:Nat)
 |vB (s:List UInt8) (pos:Nat)
 |loop (st:LoopState) (pending:Option Code) (fn:FuncId) (tmps:T AV) (nt:Nat) (params:Array Tmp) (assign body:Code) (defers:Nat)
 |vM (calls:Option (List AD))
structure AH where
 t:T AO
 next:Nat
namespace AH
def get (h:AH) (b:Nat):Option AO:=h.t.get b
def set (h:AH) (b:Nat) (o:AO):AH:={h with t:=h.t.set b (some o)}
def new (h:AH) (o:AO):AH:={t:=h.t.set h.next (some o),next:=h.next+1}
def kill (h:AH) (b:Nat):AH:={h with t:=h.t.set b none}
end AH
inductive bM where
 |code (c:Code)
 |inBlock (id:Nat)
 |inLoop (body:Code)
 |inScope (body:Code)
 |inRegion (ops:Array Oper) (l:List Nat)
 |kZ (l:Nat)
 |endRange (l:Nat)
 |beginRound
structure vK where
 v:AV
 recovered:Bool
inductive pt where
 |run
 |returning
 |panicking (chain:List vK)
structure ai where
 fn:FuncId
 nt:Nat
 tmps:T AV
 todo:List bM
 defers:List AD
 mode:pt
 kind:CallKind
 round:Option Nat
structure AM where
 fr:ai
 cs:List ai
 h:AH
structure bB where
 und:T TypeDesc
 siz:T Nat
 byt:T Nat
 ly:T AV
 agg:T Bool
 cmp:T Bool
 held:T Bool
 lE:T Bool
 fns:T Func
 ext:T Nat
 merge:FuncId->Bool
def oW:Value->AV
 | .bool b=> .bool b
 | .int k n=> .int k n
 | .string s=> .str s.data.toList
 | .pointer none=> .bo
 | .slice none 0 0=> .nils
 | .map none=> .bF
 | .nilFunc=> .bL
 | .nilIface=> .gK
 |v=> .raw v
def qE:Value->AV
 | .agg cs=> .agg (cs.toList.map oW)
 | .tuple vs=> .bG (vs.toList.map oW)
 |v=>oW v
def ev (ts:T AV):Operand->R AV
 | .tmp t=> .ok ((ts.get t).getD (.bG []))
 | .const v=> .ok (qE v)
 | .func f=> .ok (.fn (.func f) [] [])
 | .global _=> .no "global"
def jS (ts:T AV):List Operand->R (List AV)
 |[]=> .ok []
 |x::l=>do
  let v<-ev ts x
  let vs<-jS ts l
  .ok (v::vs)
def AV.cells:AV->R (List AV)
 | .agg cs=> .ok cs
 | .raw (.agg _)=> .no "cells of a raw value"
 | .raw (.tuple _)=> .no "cells of a raw value"
 | .raw v=> .ok [.raw v]
 |v=> .ok [v]
mutual
def AV.beq:AV->AV->Bool
 | .bool a, .bool b=>a==b
 | .int k a, .int j b=>k==j&&a==b
 | .str a, .str b=>a==b
 | .bo, .bo=>true
 | .ptr a i, .ptr b j=>Nat.beq a b&&Nat.beq i j
 | .nils, .nils=>true
 | .sl a i n c, .sl b j m d=>Nat.beq a b&&Nat.beq i j&&Nat.beq n m&&c==d
 | .emp a i n c e, .emp b j m d f=>Nat.beq a b&&Nat.beq i j&&Nat.beq n m&&Nat.beq c d&&Nat.beq e f
 | .bF, .bF=>true
 | .map a, .map b=>Nat.beq a b
 | .bL, .bL=>true
 | .fn f a b, .fn g c d=>f==g&&gY a c&&gY b d
 | .nc a, .nc b=>Nat.beq a b
 | .gK, .gK=>true
 | .iface t v, .iface u w=>Nat.beq t u&&AV.beq v w
 | .agg a, .agg b=>gY a b
 | .bG a, .bG b=>gY a b
 | .raw (.slice a n c), .raw (.slice b m d)=>decide (a=b)&&Nat.beq n m&&Nat.beq c d
 | .raw (.pointer (some a)), .raw (.pointer (some b))=>decide (a=b)
 |_,_=>false
def gY:List AV->List AV->Bool
 |[],[]=>true
 |a::l,b::m=>AV.beq a b&&gY l m
 |_,_=>false
end
section
variable (tab:bB)
def und (t:TypeId):R TypeDesc:=R.of "und" (tab.und.get t)
def siz (t:TypeId):R Nat:=R.of "siz" (tab.siz.get t)
def zero (t:TypeId):R AV:=R.of "zero" (tab.ly.get t)
def isAgg (t:TypeId):R Bool:=R.of "isAgg" (tab.agg.get t)
def part (t:TypeId) (cs:List AV) (off:Nat):R AV:=do
 if<-isAgg tab t then
  let n<-siz tab t
  .ok (.agg ((cs.drop off).take n))
 else R.of "part" cs[off]?
def jT (h:AH) (b:Nat):R (List AV×TypeId×Nat×Bool×BK):=
 match h.get b with
 |some (.cells cs e sz ext bk)=> .ok (cs,e,sz,ext,bk)
 |_=> .no "cells"
def readN (h:AH) (b off n:Nat):R (List AV):=do
 let (cs,_)<-jT h b
 R.check "readN" (Nat.ble (off+n) cs.length)
 .ok ((cs.drop off).take n)
def oc (cs:List AV) (off:Nat) (vs:List AV):List AV:=cs.take off++(vs++cs.drop (off+vs.length))
def l8:AV->Bool
 | .raw (.slice _ _ _)=>true
 | .raw (.int _ _)=>true
 | .raw (.string _)=>true
 | .raw (.bool _)=>true
 | .raw (.pointer (some _))=>true
 | .agg _| .bG _| .raw _=>false
 |_=>true
def writeN (h:AH) (b off:Nat) (vs:List AV):R AH:=
 match vs with
 |[]=> .ok h
 |_=>do
  let (cs,e,sz,ext,bk)<-jT h b
  R.check "writeN: ro" (bk != .ro&&bk != .cold)
  R.check "writeN: range" (Nat.ble (off+vs.length) cs.length)
  R.check "writeN: cell" (vs.all l8)
  .ok (h.set b (.cells (oc cs off vs) e sz ext bk))
def loadVar (h:AH) (t:TypeId) (b off:Nat):R AV:=do
 if<-isAgg tab t then
  let n<-siz tab t
  let cs<-readN h b off n
  .ok (.agg cs)
 else
  let (cs,_)<-jT h b
  R.of "load" cs[off]?
def storeVar (h:AH) (t:TypeId) (b off:Nat) (v:AV):R AH:=do
 let n<-siz tab t
 let l<-v.cells
 R.check "store: size" (Nat.beq l.length n)
 writeN h b off l
def newRow (h:AH) (elem:TypeId) (cs:List AV) (ext:Bool:=false) (bk:BK:= .rw):R (AH×Nat):=do
 let n<-siz tab elem
 .ok (h.new (.cells cs elem n ext bk),h.next)
def asInt:AV->R (IntKind×Int)
 | .int k n=> .ok (k,n)
 |_=> .no "asInt"
def asNat (v:AV):R Nat:=do
 let (_,n)<-asInt v
 match n with
 | .ofNat k=> .ok k
 | .negSucc _=> .no "asNat"
def goInt (n:Nat):AV:= .int .i64 (.ofNat n)
def intOp (op:BinOp) (k:IntKind) (x y:Int):R AV:=
 match op with
 | .add=> .ok (.int k (k.wrap (x+y)))
 | .sub=> .ok (.int k (k.wrap (x - y)))
 | .mul=> .ok (.int k (k.wrap (x*y)))
 | .quo=>if y=0 then .no "div" else .ok (.int k (k.wrap (x.tdiv y)))
 | .rem=>if y=0 then .no "div" else .ok (.int k (x.tmod y))
 | .and=> .ok (.int k (k.wrap (BitVec.ofInt k.bits x&&&BitVec.ofInt k.bits y).toNat))
 | .or=> .ok (.int k (k.wrap (BitVec.ofInt k.bits x|||BitVec.ofInt k.bits y).toNat))
 | .xor=> .ok (.int k (k.wrap (BitVec.ofInt k.bits x ^^^ BitVec.ofInt k.bits y).toNat))
 | .andNot=> .ok (.int k (k.wrap (BitVec.ofInt k.bits x&&& ~~~ BitVec.ofInt k.bits y).toNat))
 | .eql=> .ok (.bool (x==y))
 | .neq=> .ok (.bool (x !=y))
 | .lss=> .ok (.bool (decide (x<y)))
 | .leq=> .ok (.bool (decide (x<=y)))
 | .gtr=> .ok (.bool (decide (x>y)))
 | .geq=> .ok (.bool (decide (x>=y)))
 |_=> .no "intOp"
def shiftOp (op:BinOp) (k:IntKind) (x y:Int):R AV:=
 if y<0 then .no "shift" else
 match op with
 | .shl=> .ok (.int k (k.wrap (x*2 ^ (min y.toNat k.bits))))
 | .shr=> .ok (.int k (x.fdiv (2 ^ (min y.toNat k.bits))))
 |_=> .no "shiftOp"
def strOp (op:BinOp) (x y:List UInt8):R AV:=
 match op with
 | .add=>if x.length+y.length<=1048576 then .ok (.str (x++y))else .no "string too long"
 | .eql=> .ok (.bool (x==y))
 | .neq=> .ok (.bool (!(x==y)))
 | .lss=> .ok (.bool (Op.bytesLess x y))
 | .leq=> .ok (.bool (Op.bytesLess x y||x==y))
 | .gtr=> .ok (.bool (!(Op.bytesLess x y||x==y)))
 | .geq=> .ok (.bool (!Op.bytesLess x y))
 |_=> .no "strOp"
def eqFields (eq:TypeId->AV->AV->R Bool) (xs ys:List AV):List Field->R Bool
 |[]=> .ok true
 | f::fs=>
  if f.name≠ "_" then do
   let a<-part tab f.type xs f.offset
   let b<-part tab f.type ys f.offset
   if<-eq f.type a b then eqFields eq xs ys fs else .ok false
  else eqFields eq xs ys fs
def eqT:Nat->TypeId->AV->AV->R Bool
 |0,_,_,_=> .no "eqT"
 | d+1,t,x,y=>do
  match<-und tab t,x,y with
  | .bool, .bool a, .bool b=> .ok (a==b)
  | .int _, .int k a, .int j b=>if k=j then .ok (a==b)else .no "eqT kinds"
  | .string, .str a, .str b=> .ok (a==b)
  | .pointer _, .bo, .bo=> .ok true
  | .pointer _, .bo, .ptr _ _=> .ok false
  | .pointer _, .ptr _ _, .bo=> .ok false
  | .pointer _, .raw (.pointer (some _)), .bo=> .ok false
  | .pointer _, .bo, .raw (.pointer (some _))=> .ok false
  | .slice _, .nils, .nils=> .ok true
  | .slice _, .nils, .sl .. => .ok false
  | .slice _, .sl .., .nils=> .ok false
  | .slice _, .nils, .emp .. => .ok false
  | .slice _, .emp .., .nils=> .ok false
  | .map _ _, .bF, .bF=> .ok true
  | .map _ _, .bF, .map _=> .ok false
  | .map _ _, .map _, .bF=> .ok false
  | .func _ _ _, .bL, .bL=> .ok true
  | .func _ _ _, .bL, .fn .. => .ok false
  | .func _ _ _, .fn .., .bL=> .ok false
  | .interface _, .gK, .iface _ _=> .ok false
  | .interface _, .iface _ _, .gK=> .ok false
  | .struct fs, .agg xs, .agg ys=>do
   match tab.held.get t with
   |some false=>eqFields tab (eqT d) xs ys fs.toList
   |_=> .no "eqT held"
  |_,_,_=> .no "eqT"
def eqOp (h:AH) (t:TypeId) (x y:AV):R Bool:=do
 match x,y with
 | .ptr a i, .ptr b j=>
  match<-und tab t with
  | .pointer e=>do
   let n<-siz tab e
   R.check "eqOp: size 0" (!(Nat.beq n 0))
   if Nat.beq a b then .ok (Nat.beq i j)else
    match h.get a,h.get b with
    |some (.cells _ _ _ _ .rw),some (.cells _ _ _ _ .rw)=> .ok false
    |_,_=> .no "eqOp: blocks"
  |_=> .no "eqOp"
 | .agg _, .agg _=>
  match tab.lE.get t with
  |some false=>eqT tab 8 t x y
  |_=> .no "eqOp: guard"
 | .gK, .gK=> .no "eqOp: nil, nil"
 |_,_=>eqT tab 8 t x y
def binOp (h:AH) (op:BinOp) (t:TypeId) (x y:AV):R AV:=
 match op,x,y with
 | .shl, .int k a, .int _ b=>shiftOp .shl k a b
 | .shr, .int k a, .int _ b=>shiftOp .shr k a b
 |_, .int k a, .int j b=>if k=j then intOp op k a b else .no "binOp kinds"
 |_, .str a, .str b=>strOp op a b
 | .eql,x,y=>do .ok (.bool (<-eqOp tab h t x y))
 | .neq,x,y=>do .ok (.bool (!(<-eqOp tab h t x y)))
 |_,_,_=> .no "binOp"
def unOp (op:UnOp) (x:AV):R AV:=
 match op,x with
 | .neg, .int k n=> .ok (.int k (k.wrap (0 - n)))
 | .xor, .int k n=> .ok (.int k (k.wrap (BitVec.ofInt k.bits (if k.signed then -1 else k.max) ^^^ BitVec.ofInt k.bits n).toNat))
 | .not, .bool b=> .ok (.bool (!b))
 |_,_=> .no "unOp"
def bytesOf:List AV->R (List UInt8)
 |[]=> .ok []
 | .int .u8 (.ofNat n)::l=>do
  let r<-bytesOf l
  .ok (UInt8.ofNat n::r)
 |_=> .no "bytesOf"
def l7 (s:List UInt8):List AV:=s.map fun b=> .int .u8 (.ofNat b.toNat)
def convert (h:AH) (src dst:TypeId) (x:AV):R (AV×AH):=do
 match<-und tab src,<-und tab dst,x with
 |_, .int k, .int _ n=> .ok (.int k (k.wrap n),h)
 |_, .string, .str s=> .ok (.str s,h)
 | _, .slice e, .str s=>do
  match<-und tab e with
  | .int .u8=>do
   let n<-siz tab e
   R.check "convert: size" (Nat.beq n 1)
   let (h',b)<-newRow tab h e (l7 s) true .mark
   .ok (.sl b 0 s.length (.tail 0),h')
  |_=> .no "convert to a slice"
 | .slice e, .string,x=>do
  match<-und tab e,x with
  | .int .u8, .nils=> .ok (.str [],h)
  | .int .u8, .sl b off n _=>do
   let s<-bytesOf (<-readN h b off n)
   .ok (.str s,h)
  | .int .u8, .emp .. => .ok (.str [],h)
  | .int .u8, .raw (.slice _ 0 _)=> .ok (.str [],h)
  |_,_=> .no "convert of a slice"
 | .slice _, .slice e, .sl b off n c=>do
  match Nat.beq src dst,<-und tab e with
  |true, .int .u8=>do
   let (cs,e',sz,ext,bk)<-jT h b
   R.check "convert: ro" (bk != .ro&&bk != .cold)
   .ok (.sl b off n c,h.set b (.cells cs e' sz ext .mark))
  |_,_=> .no "convert slices"
 |_,_,_=> .no "convert"
def zW (h:AH) (t:TypeId) (x:AV):R (AV×AH):=do
 match x with
 | .bo=> .ok (.bo,h)
 | .ptr b off=>do
  let (cs,_,_,_,_)<-jT h b
  let n<-siz tab t
  R.check "convert to unsafe.Pointer" (!(Nat.beq n 0)&&Nat.blt off cs.length)
  .ok (.ptr b off,h)
 |_=> .no "convert to unsafe.Pointer"
def zD (h:AH) (u:TypeId) (x:AV):R (AV×AH):=do
 match x with
 | .bo=> .ok (.bo,h)
 | .ptr b off=>do
  let (cs,e,_,_,_)<-jT h b
  let sz<-siz tab u
  R.check "convert from unsafe.Pointer" (Nat.beq e u&& !(Nat.beq sz 0)&&Nat.beq off 0&&Nat.ble sz cs.length)
  .ok (.ptr b off,h)
 |_=> .no "convert from unsafe.Pointer"
def nR (h:AH) (src dst:TypeId) (x:AV):R (AV×AH):=do
 match<-und tab dst with
 | .unsafePointer=>do
  match<-und tab src with
  | .pointer t=>zW tab h t x
  |_=> .no "convert to unsafe.Pointer"
 | .pointer u=>do
  match<-und tab src with
  | .unsafePointer=>zD tab h u x
  |_=> .no "convert to a pointer"
 |_=>convert tab h src dst x
def fill (cs:List AV):List (Nat×Nat×AV)->R (List AV)
 |[]=> .ok cs
 |(off,n,v)::rest=>do
  let l<-v.cells
  R.check "fill" (Nat.beq l.length n&&Nat.ble (off+n) cs.length)
  fill (oc cs off l) rest
def qj (fs:Array Field):List (Nat×AV)->R (List (Nat×Nat×AV))
 |[]=> .ok []
 |(i,v)::rest=>do
  let f<-R.of "field" fs[i]?
  let n<-siz tab f.type
  let r<-qj fs rest
  .ok ((f.offset,n,v)::r)
def build (t:TypeId) (parts:List (Nat×AV)):R AV:=do
 let z<-zero tab t
 let zc<-z.cells
 match<-und tab t with
 | .struct fs=>do
  R.check "build: sizes" (fs.toList.all fun f=>(tab.siz.get f.type).isSome)
  let ps<-qj tab fs parts
  let cs<-fill zc ps
  .ok (.agg cs)
 | .array _ e=>do
  let n<-siz tab e
  let cs<-fill zc (parts.map fun(i,v)=>(i*n,n,v))
  .ok (.agg cs)
 |_=> .no "build"
def rep (n:Nat) (l:List AV):List AV:=
 match n with
 |0=>[]
 |n+1=>l++rep n l
def buildSlice (h:AH) (t:TypeId) (len:Nat) (parts:List (Nat×AV)):R (AV×AH):=do
 match<-und tab t with
 | .slice e=>do
  let n<-siz tab e
  R.check "buildSlice" (Nat.ble (len*n) 16777216)
  let z<-zero tab e
  let zc<-z.cells
  R.check "buildSlice: zero" (Nat.beq zc.length n)
  let cs<-fill (rep len zc) (parts.map fun(i,v)=>(i*n,n,v))
  let (h',b)<-newRow tab h e cs
  .ok (.sl b 0 len (.lit len),h')
 |_=> .no "buildSlice"
def l6 (ts:T AV):List (Nat×Operand)->R (List (Nat×AV))
 |[]=> .ok []
 |(i,x)::l=>do
  let v<-ev ts x
  let r<-l6 ts l
  .ok ((i,v)::r)
def makeSlice (h:AH) (t:TypeId) (len cap:AV):R (AV×AH):=do
 match<-und tab t with
 | .slice e=>do
  let l<-asNat len
  let c<-asNat cap
  let by_<-R.of "byt" (tab.byt.get e)
  R.check "makeSlice" (Nat.ble l c&&Nat.ble c 4194304&&Nat.ble (by_*c) 16777216)
  let n<-siz tab e
  let z<-zero tab e
  let zc<-z.cells
  R.check "makeSlice: zero" (Nat.beq zc.length n&& !(Nat.beq n 0))
  let (h',b)<-newRow tab h e (rep c zc)
  .ok (.sl b 0 l (.lit c),h')
 |_=> .no "makeSlice"
def capLow (h:AH) (b:Nat):gi->R Nat
 | .lit n=> .ok n
 | .tail k=>do
  let (cs,_,sz,ext,_)<-jT h b
  R.check "capLow" (ext&& !(Nat.beq sz 0))
  .ok (Nat.div cs.length sz - k)
def fH (ts:T AV) (d:R Nat):Option Operand->R Nat
 |none=>d
 |some x=>do asNat (<-ev ts x)
def jU (ts:T AV) (h:AH) (t:TypeId) (x:AV) (lo hi mx:Option Operand):R (AV×AH):=do
 match<-und tab t,x with
 | .string, .str s=>do
  R.check "slice: max" mx.isNone
  let l<-fH ts (.ok 0) lo
  let u<-fH ts (.ok s.length) hi
  R.check "slice: bounds" (Nat.ble l u&&Nat.ble u s.length)
  .ok (.str ((s.drop l).take (u - l)),h)
 | .slice e, .nils=>do
  let _<-siz tab e
  let l<-fH ts (.ok 0) lo
  let u<-fH ts (.ok 0) hi
  let m<-fH ts (.ok 0) mx
  R.check "slice: nil" (Nat.beq l 0&&Nat.beq u 0&&Nat.beq m 0&&(mx.isNone||hi.isSome))
  .ok (.nils,h)
 | .slice e, .sl b off len cap=>do
  let c<-capLow h b cap
  let n<-siz tab e
  let l<-fH ts (.ok 0) lo
  let u<-fH ts (.ok len) hi
  match mx with
  |some _=>do
   let m<-fH ts (.ok 0) mx
   R.check "slice: bounds" (Nat.ble l u&&Nat.ble u m&&Nat.ble m c&&hi.isSome)
   .ok (.sl b (bif Nat.beq m l then off else off+l*n) (u - l) (.lit (m - l)),h)
  | none=>
   match cap with
   | .lit m=>do
    R.check "slice: bounds" (Nat.ble l u&&Nat.ble u m)
    .ok (.sl b (bif Nat.beq m l then off else off+l*n) (u - l) (.lit (m - l)),h)
   | .tail k=>do
    R.check "slice: bounds" (Nat.ble l u&&Nat.ble u c)
    bif Nat.beq l 0 then .ok (.sl b off u (.tail k),h)
    else bif Nat.blt l c then .ok (.sl b (off+l*n) (u - l) (.tail (k+l)),h)
    else .ok (.emp b off l n k,h)
 | .slice e, .raw (.slice a 0 c)=>do
  let _<-siz tab e
  let l<-fH ts (.ok 0) lo
  let u<-fH ts (.ok 0) hi
  R.check "slice: raw" (Nat.beq l 0&&Nat.beq u 0&&mx.isNone)
  .ok (.raw (.slice a 0 c),h)
 | .slice e, .emp b off l0 n0 k=>do
  let _<-siz tab e
  let l<-fH ts (.ok 0) lo
  let u<-fH ts (.ok 0) hi
  R.check "slice: emp" (Nat.beq l 0&&Nat.beq u 0&&mx.isNone)
  .ok (.emp b off l0 n0 k,h)
 |_,_=> .no "slice"
def mg (e:TypeId) (n:Nat):R Unit:=do
 let z<-zero tab e
 let zc<-z.cells
 R.check "append: zero" (Nat.beq zc.length n)
def bO (h:AH) (e:TypeId) (n by_:Nat) (x:AV) (m:Nat) (news:List AV):R (AV×AH):=do
 match x with
 | .nils=>
  bif Nat.beq m 0 then .ok (.nils,h)
  else do
   R.check "append: size" (Nat.ble (m*by_) 16777216&&Nat.ble m 16777216)
   mg tab e n
   let (h',b)<-newRow tab h e news true
   .ok (.sl b 0 m (.tail 0),h')
 | .sl b off len cap=>do
  let c<-capLow h b cap
  let (cs,e',sz,ext,bk)<-jT h b
  R.check "append: type" (Nat.beq e e'&&Nat.beq sz n)
  let need:=len+m
  R.check "append: size" (Nat.ble (need*by_) 16777216&&Nat.ble need 16777216)
  bif Nat.ble need c then do
   let h'<-writeN h b (off+len*n) news
   .ok (.sl b off need cap,h')
  else
   R.check "append: old" (Nat.ble (off+len*n) cs.length)>>=fun _=>
   mg tab e n>>=fun _=>
   match cap with
   | .lit _=>do
    let (h',b')<-newRow tab h e ((cs.drop off).take (len*n)++news) true
    .ok (.sl b' 0 need (.tail 0),h')
   | .tail k=>do
    R.check "append: tail" (Nat.beq k 0&&Nat.beq off 0&&ext&&bk != .ro&&bk != .cold&&news.all l8)
    let (h',b')<-newRow tab (h.kill b) e (cs.take (len*n)++news) true bk.grown
    .ok (.sl b' 0 need (.tail 0),h')
 |_=> .no "append"
def source (h:AH) (n:Nat):AV->R (Nat×List AV)
 | .nils=> .ok (0,[])
 | .emp .. => .ok (0,[])
 | .sl b off len _=>do
  let cs<-readN h b off (len*n)
  .ok (len,cs)
 | .str s=>do
  R.check "source: size" (Nat.beq n 1)
  .ok (s.length,l7 s)
 | .raw (.slice _ 0 _)=> .ok (0,[])
 |_=> .no "source"
def ux (ck:TypeId->AV->R Unit) (cs:List AV):List Field->R Unit
 |[]=> .ok ()
 | f::fs=>
  if f.name≠ "_" then do
   let x<-part tab f.type cs f.offset
   ck f.type x
   ux ck cs fs
  else ux ck cs fs
def tb:Nat->TypeId->AV->R Unit
 |0,_,_=> .no "ckKey"
 |d+1,t,v=>do
  match<-und tab t,v with
  | .interface _,_=> .no "ckKey"
  | .array _ _,_=> .no "ckKey"
  | .struct fs, .agg cs=>ux tab (tb d) cs fs.toList
  | .struct _,_=> .no "ckKey"
  |_,_=> .ok ()
def ckKey (t:TypeId) (v:AV) (d:Nat):R Unit:=tb tab d t v
def findKey (t:TypeId) (k:AV):List (AV×AV×Nat)->Nat->R (Option (Nat×AV×AV×Nat))
 |[],_=> .ok none
 |(a,v,n)::es,i=>do
  if<-eqT tab 8 t k a then .ok (some (i,a,v,n))else findKey t k es (i+1)
def tn (h:AH) (b:Nat):R (List (AV×AV×Nat)×Nat):=
 match h.get b with
 |some (.mp es c)=> .ok (es,c)
 |_=> .no "map"
def lookup (h:AH) (t:TypeId) (m k:AV) (ok:Bool):R AV:=(fun(_:bB)=> .no "lookup") tab
def mapUpdate (h:AH) (t:TypeId) (m k x:AV):R AH:=(fun(_:bB)=> .no "mapUpdate") tab
def mapEntry (h:AH) (t:TypeId) (m k:AV):R (AV×AH):=(fun(_:bB)=> .no "mapEntry") tab
def entryStore (h:AH) (m s x:AV):R AH:= .no "entryStore"
def delete (h:AH) (t:TypeId) (m k:AV):R AH:=do
 match<-und tab t,m with
 | .map kt _, .bF=>do
  ckKey tab kt k 8
  .ok h
 | .map kt _, .map b=>do
  let (es,c)<-tn h b
  ckKey tab kt k 8
  match<-findKey tab kt k es 0 with
  |some (i,_)=> .ok (h.set b (.mp (es.take i++es.drop (i+1)) c))
  |none=> .ok h
 |_,_=> .no "delete"
def rangeOp (h:AH) (t:TypeId) (x:AV):R (AV×AH):=(fun(_:bB)=> .no "rangeOp") tab
def nextOp (h:AH) (it:AV) (isString:Bool):R (List (AV×AH)):= .no "nextOp"
def entryOp (h:AH) (it:AV):R AV:= .no "entryOp"
def sP (t:TypeId) (f:Nat):R Field:=do
 match<-und tab t with
 | .struct fs=>R.of "field" fs[f]?
 |_=> .no "struct"
def qP (k:IntKind):Int->List AV->R AV
 |x,[]=> .ok (.int k x)
 |x, .int _ y::l=>qP k (if y<x then y else x) l
 |_,_=> .no "min"
def qO (k:IntKind):Int->List AV->R AV
 |x,[]=> .ok (.int k x)
 |x, .int _ y::l=>qO k (if y>x then y else x) l
 |_,_=> .no "max"
def lenOf (h:AH):TypeDesc->AV->R Nat
 | .string, .str s=> .ok s.length
 | .slice _, .nils=> .ok 0
 | .slice _, .emp .. => .ok 0
 | .slice _, .sl _ _ n _=> .ok n
 | .slice _, .raw (.slice _ n _)=> .ok n
 | .map _ _, .bF=> .ok 0
 | .map _ _, .map b=>do
  let (es,_)<-tn h b
  .ok es.length
 | .array n _,_=> .ok n
 |_,_=> .no "len"
def Jr (h:AH) (e:TypeId) (x y:AV):R (AV×AH):=do
 let n<-siz tab e
 let by_<-R.of "byt" (tab.byt.get e)
 R.check "append: cells" (!(Nat.beq n 0))
 let m<-asNat y
 R.check "append of make: size" (Nat.ble m 1048576&&Nat.ble (m*by_) 16777216)
 let z<-zero tab e
 let zc<-z.cells
 R.check "append of make: zero" (Nat.beq zc.length n)
 bO tab h e n by_ x m (rep m zc)
def Cf (h:AH) (x:AV):R (AV×AH):=
 match x with
 | .nils=> .ok (.bo,h)
 | .sl b off _ cap=>do
  let c<-capLow h b cap
  R.check "unsafe.SliceData" (!(Nat.beq c 0))
  .ok (.ptr b off,h)
 |_=> .no "unsafe.SliceData"
def unsafeString (h:AH) (t:TypeId) (x y:AV):R (AV×AH):=(fun(_:bB)=> .no "unsafeString") tab
def builtin (b:Builtin) (argTypes:Array TypeId) (args:List AV) (h:AH):R (AV×AH):=do
 match b,args with
 | .len,[x]=>do
  let t<-R.of "len" argTypes[0]?
  let u<-und tab t
  match u with
  | .pointer e=>do
   match<-und tab e with
   | .array n _=> .ok (goInt n,h)
   |_=> .no "len"
  |u=>do
   let n<-lenOf h u x
   .ok (goInt n,h)
 | .cap,[x]=>do
  let t<-R.of "cap" argTypes[0]?
  match<-und tab t,x with
  | .slice _, .nils=> .ok (goInt 0,h)
  | .slice _, .sl _ _ _ (.lit n)=> .ok (goInt n,h)
  |_,_=> .no "cap"
 | .append,[x,y]=>do
  let t<-R.of "append" argTypes[0]?
  let u<-R.of "append" argTypes[1]?
  match<-und tab u with
  | .int _=>do
   match<-und tab t with
   | .slice e=>Jr tab h e x y
   |_=> .no "append"
  | _=>do
   match<-und tab t with
   | .slice e=>do
    let n<-siz tab e
    let by_<-R.of "byt" (tab.byt.get e)
    R.check "append: cells" (!(Nat.beq n 0))
    let (m,news)<-source h n y
    bO tab h e n by_ x m news
   |_=> .no "append"
 | .copy,[x,y]=>do
  let t<-R.of "copy" argTypes[0]?
  match<-und tab t with
  | .slice e=>do
   let n<-siz tab e
   let (m,cs)<-source h n y
   match x with
   | .nils=> .ok (goInt 0,h)
   | .emp .. => .ok (goInt 0,h)
   | .sl b off len _=>do
    let k:=Nat.min m len
    let h'<-writeN h b off (cs.take (k*n))
    .ok (goInt k,h')
   |_=> .no "copy"
  |_=> .no "copy"
 | .clear,[x]=>do
  let t<-R.of "clear" argTypes[0]?
  match<-und tab t,x with
  |_, .bF=> .ok (.bG [],h)
  |_, .nils=> .ok (.bG [],h)
  |_, .emp .. => .ok (.bG [],h)
  |_, .map b=>do
   let (_,c)<-tn h b
   .ok (.bG [],h.set b (.mp [] c))
  | .slice e, .sl b off len _=>do
   let z<-zero tab e
   let zc<-z.cells
   let h'<-writeN h b off (rep len zc)
   .ok (.bG [],h')
  |_,_=> .no "clear"
 | .delete,[m,k]=>do
  let t<-R.of "delete" argTypes[0]?
  let h'<-delete tab h t m k
  .ok (.bG [],h')
 | .unsafeSliceData,[x]=>Cf h x
 | .unsafeString,[x,y]=>do
  let t<-R.of "unsafe.String" argTypes[0]?
  unsafeString tab h t x y
 | .min, .int k x::l=>do
  let v<-qP k x l
  .ok (v,h)
 | .max, .int k x::l=>do
  let v<-qO k x l
  .ok (v,h)
 |_,_=> .no "builtin"
def fp (ts:T AV) (h:AH) (o:Oper):R (AV×AH):=do
 match o.op with
 | .move x=>do .ok (<-ev ts x,h)
 | .assign x=>do .ok (<-ev ts x,h)
 | .pick c a b=>do
  match<-ev ts c with
  | .bool true=>do .ok (<-ev ts a,h)
  | .bool false=>do .ok (<-ev ts b,h)
  |_=> .no "pick"
 | .alloc e=>do
  let z<-zero tab e
  let zc<-z.cells
  let (h',b)<-newRow tab h e zc
  .ok (.ptr b 0,h')
 | .box e x=>do
  let v<-ev ts x
  let vc<-v.cells
  let (h',b)<-newRow tab h e vc
  .ok (.ptr b 0,h')
 | .build t ps=>do
  let l<-l6 ts ps.toList
  .ok (<-build tab t l,h)
 | .buildSlice t n ps=>do
  let l<-l6 ts ps.toList
  buildSlice tab h t n l
 | .load t a=>do
  match<-ev ts a with
  | .ptr b off=>do .ok (<-loadVar tab h t b off,h)
  |_=> .no "load"
 | .store t a x=>do
  match<-ev ts a with
  | .ptr b off=>do
   let h'<-storeVar tab h t b off (<-ev ts x)
   .ok (.bG [],h')
  |_=> .no "store"
 | .nilCheck x=>do
  match<-ev ts x with
  | .ptr b off=> .ok (.ptr b off,h)
  | .fn (.func f) a b=> .ok (.fn (.func f) a b,h)
  |_=> .no "nilCheck"
 | .binOp op t x y _=>do .ok (<-binOp tab h op t (<-ev ts x) (<-ev ts y),h)
 | .unOp op _ x=>do .ok (<-unOp op (<-ev ts x),h)
 | .convert s d x=>do nR tab h s d (<-ev ts x)
 | .makeInterface t x=>do
  match<-und tab t with
  | .interface _=> .no "makeInterface"
  |_=>do .ok (.iface t (<-ev ts x),h)
 | .makeFunc fn first captured=>do
  match fn with
  | .func _=>do .ok (.fn fn (<-jS ts first.toList) (<-jS ts captured.toList),h)
  |_=> .no "makeFunc"
 | .makeMap _ none=> .ok (.map h.next,h.new (.mp [] 0))
 | .makeSlice t l c=>do makeSlice tab h t (<-ev ts l) (<-ev ts c)
 | .slice t x lo hi mx=>do jU tab ts h t (<-ev ts x) lo hi mx
 | .fieldAddr s x f=>do
  let fd<-sP tab s f
  let n<-siz tab fd.type
  R.check "fieldAddr: size 0" (!(Nat.beq n 0))
  match<-ev ts x with
  | .ptr b off=> .ok (.ptr b (off+fd.offset),h)
  |_=> .no "fieldAddr"
 | .field t x f=>do
  let fd<-sP tab t f
  match<-ev ts x with
  | .agg cs=>do .ok (<-part tab fd.type cs fd.offset,h)
  |_=> .no "field"
 | .indexAddr t x ix=>do
  let i<-asNat (<-ev ts ix)
  match<-und tab t,<-ev ts x with
  | .array len e, .ptr b off=>do
   R.check "indexAddr" (Nat.blt i len)
   let n<-siz tab e
   .ok (.ptr b (off+i*n),h)
  | .slice e, .sl b off len _=>do
   R.check "indexAddr" (Nat.blt i len)
   let n<-siz tab e
   .ok (.ptr b (off+i*n),h)
  |_,_=> .no "indexAddr"
 | .index t x ix=>do
  let i<-asNat (<-ev ts ix)
  match<-und tab t,<-ev ts x with
  | .array len e, .agg cs=>do
   R.check "index" (Nat.blt i len)
   let n<-siz tab e
   .ok (<-part tab e cs (i*n),h)
  | .string, .str s=>do
   let b<-R.of "index" s[i]?
   .ok (.int .u8 (.ofNat b.toNat),h)
  |_,_=> .no "index"
 | .lookup t m k ok=>do .ok (<-lookup tab h t (<-ev ts m) (<-ev ts k) ok,h)
 | .mapUpdate t m k x| .insert t m k x=>do
  let h'<-mapUpdate tab h t (<-ev ts m) (<-ev ts k) (<-ev ts x)
  .ok (.bG [],h')
 | .mapEntry t m k=>do mapEntry tab h t (<-ev ts m) (<-ev ts k)
 | .entryStore _ m s x=>do
  let h'<-entryStore h (<-ev ts m) (<-ev ts s) (<-ev ts x)
  .ok (.bG [],h')
 | .range t x=>do rangeOp tab h t (<-ev ts x)
 | .entry it=>do .ok (<-entryOp h (<-ev ts it),h)
 | .typeAssert x xt t ok=>do
  let _:=xt
  match<-und tab t,<-ev ts x with
  | .interface _,_=> .no "typeAssert"
  | _, .iface u v=>if u=t then .ok ((if ok then .bG [v, .bool true]else v),h)else do
    R.check "typeAssert" ok
    let z<-zero tab t
    .ok (.bG [z, .bool false],h)
  | _, .gK=>do
    R.check "typeAssert" ok
    let z<-zero tab t
    .ok (.bG [z, .bool false],h)
  |_,_=> .no "typeAssert"
 | .extract t i=>do
  match<-ev ts t with
  | .bG vs=>do .ok (<-R.of "extract" vs[i]?,h)
  |_=> .no "extract"
 | .call c=>do
  match c.callee with
  | .builtin b=>do
   let l<-jS ts c.args.toList
   builtin tab b c.argTypes l h
  |_=> .no "call"
 |_=> .no "op"
end
end Go.Am
namespace Go.Am
open Go.RowKit
section
theorem aw {α β:Type} {x:R α} {f:α->R β} {b:β}:(x>>=f)= .ok b↔∃a,x= .ok a/\f a= .ok b:=by
 cases x with
 |ok a=>exact⟨fun h=>⟨a,rfl,h⟩,fun⟨_,h1,h2⟩=>by cases h1;exact h2⟩
 |no w=>exact⟨fun h=>(nomatch h),fun⟨_,h1,_⟩=>(nomatch h1)⟩
theorem cZ {α:Type} {s:String} {x:Option α} {a:α}:R.of s x= .ok a↔x=some a:=by
 cases x<;>simp[R.of]
theorem ew {s:String} {b:Bool} {u:Unit}:R.check s b= .ok u↔b=true:=by
 cases b<;>simp[R.check]
theorem jR {α:Type} (k:Nat):(T.e:T α).get k=none:=rfl
theorem pU {α:Type} (v:Option α) (l r:T α) (k:Nat):
  (T.n v l r).get k=if k=0 then v else if k % 2=1 then l.get (k / 2)else r.get (k / 2 - 1):=by
 have h1:(Nat.beq k 0)=decide (k=0):=by
  by_cases h:k=0<;>simp[h,Nat.beq_eq]
  cases k<;>simp_all[Nat.beq]
 have h2:(Nat.beq (Nat.mod k 2) 1)=decide (k % 2=1):=by
  by_cases h:k % 2=1
  . simp[h];exact h
  . simp only[h,EP];exact Av.2 fun e=>h (Ag e)
 conv=>lhs;unfold T.get
 rw[h1,h2];simp only[cond_eq_ite,Ad];rfl
theorem PV {α:Type} (f:Nat):∀(t:T α) (k j:Nat) (x:Option α),k<f->(T.cC f t k x).get j=if j=k then x else t.get j:=by
 induction f with
 |zero=>intro t k j x h;omega
 | succ f ih=>
  intro t k j x h;have h1:(Nat.beq k 0)=decide (k=0):=by
   by_cases h:k=0<;>simp[h]
   cases k<;>simp_all[Nat.beq]
  have h2:(Nat.beq (Nat.mod k 2) 1)=decide (k % 2=1):=by
   by_cases h:k % 2=1
   . simp[h];exact h
   . simp only[h,EP];exact Av.2 fun e=>h (Ag e)
  have e1:Nat.div k 2=k / 2:=rfl
  cases t with
  |e=>
   unfold T.cC;rw[h1,h2,e1,FF];simp only[cond_eq_ite,Ad];by_cases k0:k=0
   . simp only[if_pos k0,pU,jR];subst k0;split<;>simp
   . by_cases k1:k % 2=1
     . simp only[if_neg k0,if_pos k1,pU,jR];rw[ih _ _ _ _ (by omega)];simp only[jR];by_cases j0:j=0
       . simp[j0];intro e;omega
       . by_cases j1:j % 2=1
         . simp only[if_neg j0,if_pos j1];by_cases e:j=k
           . subst e;simp
           . rw[if_neg (by omega),if_neg e]
         . simp only[if_neg j0,if_neg j1];rw[if_neg (by intro e;subst e;exact j1 k1)]
     . simp only[if_neg k0,if_neg k1,pU,jR];rw[ih _ _ _ _ (by omega)];simp only[jR];by_cases j0:j=0
       . simp[j0];intro e;omega
       . by_cases j1:j % 2=1
         . simp only[if_neg j0,if_pos j1];rw[if_neg (by intro e;subst e;exact k1 j1)]
         . simp only[if_neg j0,if_neg j1];by_cases e:j=k
           . subst e;simp
           . rw[if_neg (by omega),if_neg e]
  |n v l r=>
   unfold T.cC;rw[h1,h2,e1,FF];simp only[cond_eq_ite,Ad];by_cases k0:k=0
   . simp only[if_pos k0,pU];subst k0;split<;>simp_all
   . by_cases k1:k % 2=1
     . simp only[if_neg k0,if_pos k1,pU];rw[ih _ _ _ _ (by omega)];by_cases j0:j=0
       . simp only[if_pos j0];rw[if_neg (by omega)]
       . by_cases j1:j % 2=1
         . simp only[if_neg j0,if_pos j1];by_cases e:j=k
           . subst e;simp
           . rw[if_neg (by omega),if_neg e]
         . simp only[if_neg j0,if_neg j1];rw[if_neg (by intro e;subst e;exact j1 k1)]
     . simp only[if_neg k0,if_neg k1,pU];rw[ih _ _ _ _ (by omega)];by_cases j0:j=0
       . simp only[if_pos j0];rw[if_neg (by omega)]
       . by_cases j1:j % 2=1
         . simp only[if_neg j0,if_pos j1];rw[if_neg (by intro e;subst e;exact k1 j1)]
         . simp only[if_neg j0,if_neg j1];by_cases e:j=k
           . subst e;simp
           . rw[if_neg (by omega),if_neg e]
theorem T.bm {α:Type} (t:T α) (k j:Nat) (x:Option α):(t.set k x).get j=if j=k then x else t.get j:=
 PV (k+1) t k j x (D4 k)
structure Env where
 bh:Nat->Nat
 cap:Nat->Nat
def gi.val (c:gi) (n:Nat):Nat:=
 match c with
 | .lit m=>m
 | .tail k=>n - k
mutual
def af (E:Env):AV->Value
 | .bool b=> .bool b
 | .int k n=> .int k n
 | .str s=> .string ⟨s.toArray⟩
 | .bo=> .pointer none
 | .ptr b off=> .pointer (some ⟨E.bh b,off,none⟩)
 | .nils=> .slice none 0 0
 | .sl b off len cap=> .slice (some ⟨E.bh b,off,none⟩) len (cap.val (E.cap b))
 | .emp b off l n k=> .slice (some ⟨E.bh b,if E.cap b - k=l then off else off+l*n,none⟩) 0 (E.cap b - k - l)
 | .bF=> .map none
 | .map b=> .map (some (E.bh b))
 | .bL=> .nilFunc
 | .fn f xs ys=> .func f (bA E xs).toArray (bA E ys).toArray
 | .nc l=> .func (.yield (E.bh l)) #[] #[]
 | .gK=> .nilIface
 | .iface t v=> .iface t (af E v)
 | .agg cs=> .agg (bA E cs).toArray
 | .bG vs=> .tuple (bA E vs).toArray
 | .raw v=>v
def bA (E:Env):List AV->List Value
 |[]=>[]
 |v::l=>af E v::bA E l
end
theorem pF (E:Env) (l:List AV):bA E l=l.map (af E):=by
 induction l with
 |nil=>rfl
 |cons v l ih=>simp[bA,ih]
@[simp] theorem eM (E:Env):bA E []=[]:=rfl
@[simp] theorem bY (E:Env) (v:AV) (l:List AV):bA E (v::l)=af E v::bA E l:=rfl
@[simp] theorem dQ (E:Env) (l m:List AV):bA E (l++m)=bA E l++bA E m:=by simp[pF]
@[simp] theorem bP (E:Env) (l:List AV):(bA E l).length=l.length:=by simp[pF]
theorem tZ (E:Env) (l:List AV) (n:Nat):bA E (l.take n)=(bA E l).take n:=by simp[pF,Ex]
theorem zJ (E:Env) (l:List AV) (n:Nat):bA E (l.drop n)=(bA E l).drop n:=by simp[pF,EJ]
theorem kI (E:Env) (l:List AV) (i:Nat):(bA E l)[i]? =(l[i]?).map (af E):=by simp[pF]
theorem IM (E:Env) (v:Value):af E (oW v)=v:=by
 unfold oW;split<;>simp[af]
theorem It (E:Env) (l:List Value):bA E (l.map oW)=l:=by
 induction l with
 |nil=>rfl
 |cons v l ih=>simp[IM,ih]
theorem Iu (E:Env) (v:Value):af E (qE v)=v:=by
 unfold qE;split
 . simp[af,It]
 . simp[af,It]
 . exact IM E v
theorem nT {E:Env} {v:AV} {l:List AV} (h:v.cells= .ok l):(af E v).cells=(bA E l).toArray:=by
 cases v
 case raw u=>cases u<;>simp only[AV.cells]at h<;>(try cases h)<;>simp[af,Value.cells]
 all_goals simp only[AV.cells]at h<;>(try cases h)<;>simp[af,Value.cells]
theorem IB {E:Env} {v:AV} (h:l8 v=true):(af E v).oneCell'=true:=by
 cases v
 case raw u=>cases u<;>simp_all[l8,af,Value.oneCell']
 all_goals simp_all[l8,af,Value.oneCell']
mutual
theorem AV.beq_eq:∀(a b:AV),AV.beq a b=true->a=b
 | .bool a,b,h=>by cases b<;>simp_all[AV.beq]
 | .int k a,b,h=>by cases b<;>simp_all[AV.beq]
 | .str a,b,h=>by cases b<;>simp_all[AV.beq]
 | .bo,b,h=>by cases b<;>simp_all[AV.beq]
 | .ptr x i,b,h=>by
  cases b<;>simp only[AV.beq,Aa]at h<;>(try cases h)
  rename_i h1 h2;rw[Ag h1,Ag h2]
 | .nils,b,h=>by cases b<;>simp_all[AV.beq]
 | .sl x i n c,b,h=>by
  cases b<;>simp only[AV.beq,Aa]at h<;>(try cases h)
  rename_i h1 h2;obtain⟨⟨h3,h4⟩,h5⟩:=h1;rw[Ag h3,Ag h4,Ag h5,eq_of_beq h2]
 | .emp x i n c e,b,h=>by
  cases b<;>simp only[AV.beq,Aa]at h<;>(try cases h)
  rename_i h1 h2;obtain⟨⟨⟨h3,h4⟩,h5⟩,h6⟩:=h1;rw[Ag h3,Ag h4,Ag h5,Ag h6,Ag h2]
 | .bF,b,h=>by cases b<;>simp_all[AV.beq]
 | .map x,b,h=>by
  cases b<;>simp only[AV.beq]at h<;>(try cases h)
  rw[Ag h]
 | .bL,b,h=>by cases b<;>simp_all[AV.beq]
 | .fn f x y,b,h=>by
  cases b<;>simp only[AV.beq,Aa]at h<;>(try cases h)
  rename_i h1 h2;rw[eq_of_beq h1.1,nP _ _ h1.2,nP _ _ h2]
 | .nc x,b,h=>by
  cases b<;>simp only[AV.beq]at h<;>(try cases h)
  rw[Ag h]
 | .gK,b,h=>by cases b<;>simp_all[AV.beq]
 | .iface t v,b,h=>by
  cases b<;>simp only[AV.beq,Aa]at h<;>(try cases h)
  rename_i h1 h2;rw[Ag h1,AV.beq_eq _ _ h2]
 | .agg x,b,h=>by
  cases b<;>simp only[AV.beq]at h<;>(try cases h)
  rw[nP _ _ h]
 | .bG x,b,h=>by
  cases b<;>simp only[AV.beq]at h<;>(try cases h)
  rw[nP _ _ h]
 | .raw v,b,h=>by
  cases b
  case raw u=>
   unfold AV.beq at h;split at h<;>first|(cases h;done)|skip
   all_goals (rename_i e1 e2;cases e1<;>cases e2)
   . simp only[Aa,Ad]at h;obtain⟨⟨h3,h4⟩,h2⟩:=h;rw[h3,Ag h4,Ag h2]
   . rw[Bo h]
  all_goals (exfalso;revert h;simp[AV.beq])
theorem nP:∀(a b:List AV),gY a b=true->a=b
 |[],b,h=>by cases b<;>simp_all[gY]
 | x::l,b,h=>by
  cases b with
  |nil=>simp[gY]at h
  |cons y m=>
   simp only[gY,Aa]at h;rw[AV.beq_eq _ _ h.1,nP _ _ h.2]
end
def Gv:TypeDesc->Bool
 | .struct _| .array _ _=>true
 |_=>false
structure bU (P:Program) (tab:bB):Prop where
 und:∀t d,tab.und.get t=some d->P.underlying t=some d
 siz:∀t n,tab.siz.get t=some n->∃i,P.info? t=some i/\i.size=n
 byt:∀t n,tab.byt.get t=some n->∃i,P.info? t=some i/\i.bytes=n
 ly:∀t z,tab.ly.get t=some z->∃i,P.info? t=some i/\ ∀E,i.zero=some (af E z)
 agg:∀t b,tab.agg.get t=some b->∃d,P.underlying t=some d/\Gv d=b
 held:∀t b,tab.held.get t=some b->P.stoodInHeld t=b
 lE:∀t b,tab.lE.get t=some b->P.eqGuardType P.depth t=b
 fns:∀f fn,tab.fns.get f=some fn->P.funcs[f]? =some fn
 vQ:∀f fn,tab.fns.get f=some fn->(fn.name== "runtime.NumGoroutine")=false
section
variable {P:Program} {tab:bB} (ok:bU P tab)
include ok
theorem kG {t:TypeId} {n:Nat} (h:siz tab t= .ok n) (w:World):(sizeOf t).run P w= .ok n w:=by
 obtain⟨i,hi,rfl⟩:=ok.siz t n (cZ.1 h);simp[sizeOf,typeInfo,hi]
theorem uG {t:TypeId} {z:AV} (h:zero tab t= .ok z) (E:Env) (w:World):(zeroValue t).run P w= .ok (af E z) w:=by
 obtain⟨i,hi,hz⟩:=ok.ly t z (cZ.1 h);simp[zeroValue,typeInfo,hi,hz E]
theorem J6 {t:TypeId} {b:Bool} (h:isAgg tab t= .ok b) (w:World):(Go.isAgg t).run P w= .ok b w:=by
 obtain⟨d,hd,rfl⟩:=ok.agg t b (cZ.1 h);simp only[Go.isAgg,underlying,Sem.run_bind,run_program,Result.andThen_ok,hd,Sem.run_pure]
 cases d<;>rfl
theorem uD {t:TypeId} {cs:List AV} {off:Nat} {v:AV} (h:part tab t cs off= .ok v) (E:Env) (w:World):
  (Go.part t (bA E cs).toArray off).run P w= .ok (af E v) w:=by
 unfold part at h;obtain⟨b,hb,h⟩:=aw.1 h;unfold Go.part;rw[Sem.run_bind,J6 ok hb,Result.andThen_ok]
 cases b with
 |true=>
  simp only[if_true]at h⊢;obtain⟨n,hn,h⟩:=aw.1 h
  cases h;rw[Sem.run_bind,kG ok hn];simp[af,tZ,zJ,Fg]
 |false=>
  simp only[Ak,AB]at h⊢;have h:=cZ.1 h;simp[kI,h]
end
end
section
structure aL where
 dr:Prop
 old:Array Obj
variable [Inhabited aL]
def AO.ro:AO->Prop
 | .cells _ _ _ _ .ro=>True
 |_=>False
structure KS where
 p:Nat->Prop
 b:Nat
instance:CoeFun KS (fun _=>Nat->Prop):=⟨KS.p⟩
abbrev KS.old (n:Nat):KS:=⟨fun b=>b<n,n⟩
def oo (E:Env):AT->Target
 | .fn f captured=> .fn f (bA E captured).toArray
 | .nc l=> .fn (.yield (E.bh l)) #[]
 | .collected r=> .collected (E.bh r)
def fj (E:Env) (d:AD):Deferred:={target:=oo E d.target,args:=(bA E d.args).toArray}
def vw (E:Env) (ts:T AV) (i:Nat):Value:=af E ((ts.get i).getD (.bG []))
def gX (E:Env) (ts:T AV) (nt:Nat):Array Value:=((List.range nt).map (vw E ts)).toArray
def ml (E:Env) (x:AV×AV×Nat):MapEntry:={key:=af E x.1,val:=af E x.2.1,born:=x.2.2}
def lN:BK->(Nat×Nat)->Nat->Prop
 | .rw,fz,_=>fz=(0,0)
 | .mark,fz,n=>fz=(n,n+1)
 | .any,fz,n=>fz=(0,0)\/fz=(n,n+1)
 | .ro,_,_=>True
 | .cold,_,_=>True
def pY (E:Env) (i:Nat):AO->Obj->Prop
 | .cells cs e sz ext bk,o=>∃arr fz,o= .cells arr e fz/\(∃rest,arr.toList=bA E cs++rest)/\
  (if ext then arr.size=E.cap i*sz else arr.size=cs.length)/\lN bk fz arr.size
 | .mp es c,o=>o= .map (es.map (ml E)).toArray c
 | .tQ m since seen st,o=>o= .mapIter (m.map E.bh) since seen.toArray st
 | .vB s pos,o=>o= .stringIter ⟨s.toArray⟩ pos
 | .loop st pending fn ts nt ps a b d,o=>o= .loop {state:=st,pending,fn,tmps:=gX E ts nt,params:=ps,assign:=a,body:=b,defers:=E.bh d}/\ ∀t,nt<=t->ts.get t=none
 | .vM calls,o=>o= .deferred (calls.map (List.map (fj E)))
structure bN (E:Env) (h:AH) (K:KS) (w:World):Prop where
 obj:∀i o,h.get i=some o->∃c,w.heap[E.bh i]? =some c/\pY E i o c
 nk:∀i o,h.get i=some o->¬o.ro->¬K (E.bh i)
 inj:∀i j oi oj,h.get i=some oi->h.get j=some oj->¬oi.ro->E.bh i=E.bh j->i=j
 eN:∀i o,h.get i=some o->i<h.next
 kb:∀b,K b->b<w.heap.size
 im:∀i o,h.get i=some o->o.ro->E.bh i<K.b
 k0:∀b,b<K.b->K b
structure Kept (K:KS) (w w':World):Prop where
 os:w'.os=w.os
 tape:w'.tape=w.tape
 output:w'.output=w.output
 size:w.heap.size<=w'.heap.size
 block:∀b,K b->w'.heap[b]? =w.heap[b]?
 drawn:(default:aL).dr->w.drawn<=w'.drawn
theorem Kept.refl (K:KS) (w:World):Kept K w w:=⟨rfl,rfl,rfl,Ai _,fun _ _=>rfl,fun _=>Ai _⟩
theorem Kept.trans {K:KS} {a b c:World} (h:Kept K a b) (k:Kept K b c):Kept K a c:=
 ⟨k.os.trans h.os,k.tape.trans h.tape,k.output.trans h.output,Aq h.size k.size,fun i hi=>(k.block i hi).trans (h.block i hi),fun hd=>Aq (h.drawn hd) (k.drawn hd)⟩
def eX (K:KS) (w:World):Prop:=∀b,b<(default:aL).old.size->K b/\w.heap[b]? =(default:aL).old[b]?
theorem eX.kept {K:KS} {w w':World} (h:eX K w) (k:Kept K w w'):eX K w':=fun b hb=>⟨(h b hb).1,(k.block b (h b hb).1).trans (h b hb).2⟩
theorem AH.bm (h:AH) (b i:Nat) (o:AO):(h.set b o).get i=if i=b then some o else h.get i:=T.bm _ _ _ _
theorem AH.aY (h:AH) (i:Nat) (o:AO):(h.new o).get i=if i=h.next then some o else h.get i:=T.bm _ _ _ _
theorem nM (h:AH) (b i:Nat):(h.kill b).get i=if i=b then none else h.get i:=T.bm _ _ _ _
@[simp] theorem AH.eT (h:AH) (b:Nat) (o:AO):(h.set b o).next=h.next:=rfl
@[simp] theorem AH.dz (h:AH) (o:AO):(h.new o).next=h.next+1:=rfl
@[simp] theorem AH.fu (h:AH) (b:Nat):(h.kill b).next=h.next:=rfl
theorem JS (w:World) (o:Obj) {i:Nat} (h:i<w.heap.size):(w.alloc o).heap[i]? =w.heap[i]? :=by
 unfold World.alloc;rw[FH,if_neg (by omega)]
def _root_.Go.World.put (w:World) (g:Nat) (o:Obj):World:={w with heap:=w.heap.setIfInBounds g o}
theorem sy (w:World) (g i:Nat) (o:Obj):(w.put g o).heap[i]? =if i=g then(if g<w.heap.size then some o else none)else w.heap[i]? :=by
 unfold World.put;rw[BL];by_cases h:g=i
 . subst h;simp
 . rw[if_neg h,if_neg (Ne.symm h)]
section
variable {E:Env} {h:AH} {K:KS} {w:World}
theorem bN.lt (H:bN E h K w) {i:Nat} {o:AO} (hi:h.get i=some o):E.bh i<w.heap.size:=by
 obtain⟨c,hc,_⟩:=H.obj i o hi;exact(Ae.1 hc).1
theorem bN.drew (H:bN E h K w):bN E h K w.drew:=⟨H.obj,H.nk,H.inj,H.eN,H.kb,H.im,H.k0⟩
theorem Kept.drew (K:KS) (w:World):Kept K w w.drew:=⟨rfl,rfl,rfl,Ai _,fun _ _=>rfl,fun _=>FC _⟩
theorem bN.new (H:bN E h K w) {o:AO} {c:Obj} (hE:E.bh h.next=w.heap.size) (ho:pY E h.next o c) (hno:¬o.ro:=by simp[AO.ro]):bN E (h.new o) K (w.alloc c):=by
 have hnew:∀i o',(h.new o).get i=some o'->i≠h.next->h.get i=some o':=by
   intro i o' hi hne;rw[AH.aY,if_neg hne]at hi;exact hi
 have hne:∀i o',h.get i=some o'->E.bh i≠E.bh h.next:=by
   intro i o' hi e;have:=H.lt hi;omega
 refine⟨?_,?_,?_,?_,?_,?_,H.k0⟩
 . intro i o' hi;by_cases e:i=h.next
   . subst e;rw[AH.aY,if_pos rfl]at hi
     cases hi;exact⟨c,by rw[hE];exact heap_alloc_new w c,ho⟩
   . obtain⟨c',hc',hk⟩:=H.obj i o' (hnew i o' hi e);exact⟨c',(JS w c (H.lt (hnew i o' hi e))).trans hc',hk⟩
 . intro i o' hi hr hK;by_cases e:i=h.next
   . subst e;have:=H.kb _ hK;omega
   . exact H.nk i o' (hnew i o' hi e) hr hK
 . intro i j oi oj hi hj hr e;by_cases ei:i=h.next
   . by_cases ej:j=h.next
     . rw[ei,ej]
     . exact absurd (ei▸e.symm) (hne j oj (hnew j oj hj ej))
   . by_cases ej:j=h.next
     . exact absurd (ej▸e) (hne i oi (hnew i oi hi ei))
     . exact H.inj i j oi oj (hnew i oi hi ei) (hnew j oj hj ej) hr e
 . intro i o' hi;by_cases e:i=h.next
   . subst e;simp
   . have:=H.eN i o' (hnew i o' hi e);simp;omega
 . intro b hb;have:=H.kb b hb;simp;omega
 . intro i o' hi hr;by_cases e:i=h.next
   . subst e;rw[AH.aY,if_pos rfl]at hi
     cases hi;exact absurd hr hno
   . exact H.im i o' (hnew i o' hi e) hr
theorem Kept.alloc (hkb:∀b,K b->b<w.heap.size) (c:Obj):Kept K w (w.alloc c):=
 ⟨rfl,rfl,rfl,by simp,fun b hb=>JS w c (hkb b hb),fun _=>Ai _⟩
theorem bN.put (H:bN E h K w) {b:Nat} {o o':AO} {c:Obj} (hb:h.get b=some o) (hr:¬o.ro) (ho:pY E b o' c) (hno:¬o'.ro:=by simp[AO.ro]):bN E (h.set b o') K (w.put (E.bh b) c):=by
 have hold:∀i o1,(h.set b o').get i=some o1->i≠b->h.get i=some o1:=by
   intro i o1 hi hne;rw[AH.bm,if_neg hne]at hi;exact hi
 refine⟨?_,?_,?_,?_,?_,?_,H.k0⟩
 . intro i o1 hi;by_cases e:i=b
   . subst e;rw[AH.bm,if_pos rfl]at hi
     cases hi;exact⟨c,by rw[sy,if_pos rfl,if_pos (H.lt hb)],ho⟩
   . obtain⟨c',hc',hk⟩:=H.obj i o1 (hold i o1 hi e);refine⟨c',?_,hk⟩;rw[sy,if_neg (fun e'=>e (H.inj b i o o1 hb (hold i o1 hi e) hr e'.symm).symm)];exact hc'
 . intro i o1 hi hr1;by_cases e:i=b
   . subst e;exact H.nk i o hb hr
   . exact H.nk i o1 (hold i o1 hi e) hr1
 . intro i j oi oj hi hj hri e;by_cases ei:i=b
   . subst ei;by_cases ej:j=i
     . exact ej.symm
     . exact H.inj i j o oj hb (hold j oj hj ej) hr e
   . by_cases ej:j=b
     . subst ej;exact H.inj i j oi o (hold i oi hi ei) hb hri e
     . exact H.inj i j oi oj (hold i oi hi ei) (hold j oj hj ej) hri e
 . intro i o1 hi;by_cases e:i=b
   . subst e;exact H.eN i o hb
   . exact H.eN i o1 (hold i o1 hi e)
 . intro g hg;have:=H.kb g hg;simp only[World.put,Fm];exact this
 . intro i o1 hi hr1;by_cases e:i=b
   . subst e;rw[AH.bm,if_pos rfl]at hi
     cases hi;exact absurd hr1 hno
   . exact H.im i o1 (hold i o1 hi e) hr1
theorem bN.dR (H:bN E h K w) {b:Nat} {o:AO} (hb:h.get b=some o) (hr:¬o.ro) (c:Obj):Kept K w (w.put (E.bh b) c):=
 ⟨rfl,rfl,rfl,by simp[World.put],fun g hg=>by rw[sy];exact if_neg (fun e=>H.nk b o hb hr (by rw[<-e];exact hg)),fun _=>Ai _⟩
theorem bN.kill (H:bN E h K w) (b:Nat):bN E (h.kill b) K w:=by
 have hold:∀i o1,(h.kill b).get i=some o1->h.get i=some o1:=by
  intro i o1 hi;rw[nM]at hi;split at hi
  . cases hi
  . exact hi
 exact⟨fun i o hi=>H.obj i o (hold i o hi),fun i o hi=>H.nk i o (hold i o hi),fun i j oi oj hi hj=>H.inj i j oi oj (hold i oi hi) (hold j oj hj),
  fun i o hi=>H.eN i o (hold i o hi),H.kb,fun i o hi=>H.im i o (hold i o hi),H.k0⟩
theorem bN.rename (H:bN E h K w) {b:Nat} {o o':AO} {c:Obj} (hb:h.get b=some o) (hr:¬o.ro) (hE:E.bh h.next=E.bh b) (ho:pY E h.next o' c) (hno:¬o'.ro:=by simp[AO.ro]):
   bN E ((h.kill b).new o') K (w.put (E.bh b) c):=by
 have hold:∀i o1,((h.kill b).new o').get i=some o1->i≠h.next->i≠b/\h.get i=some o1:=by
   intro i o1 hi hne;rw[AH.aY,AH.fu,if_neg hne,nM]at hi;split at hi
   . cases hi
   . exact⟨‹_›,hi⟩
 have hnx:∀o1,((h.kill b).new o').get h.next=some o1->o1=o':=by
   intro o1 hi;rw[AH.aY,AH.fu,if_pos rfl]at hi
   cases hi;rfl
 have hne:∀i o1,h.get i=some o1->i≠b->E.bh i≠E.bh b:=fun i o1 hi hib e=>hib (H.inj b i o o1 hb hi hr e.symm).symm
 refine⟨?_,?_,?_,?_,?_,?_,H.k0⟩
 . intro i o1 hi;by_cases e:i=h.next
   . subst e;rw[hnx o1 hi];exact⟨c,by rw[sy,if_pos hE,if_pos (H.lt hb)],ho⟩
   . obtain⟨h1,h2⟩:=hold i o1 hi e;obtain⟨c',hc',hk⟩:=H.obj i o1 h2;exact⟨c',by rw[sy,if_neg (hne i o1 h2 h1)];exact hc',hk⟩
 . intro i o1 hi hr1;by_cases e:i=h.next
   . subst e;rw[hE];exact H.nk b o hb hr
   . exact H.nk i o1 (hold i o1 hi e).2 hr1
 . intro i j oi oj hi hj hri e;by_cases ei:i=h.next
   . by_cases ej:j=h.next
     . rw[ei,ej]
     . obtain⟨h1,h2⟩:=hold j oj hj ej;rw[ei,hE]at e;exact absurd e.symm (hne j oj h2 h1)
   . obtain⟨h1,h2⟩:=hold i oi hi ei;by_cases ej:j=h.next
     . rw[ej,hE]at e;exact absurd e (hne i oi h2 h1)
     . exact H.inj i j oi oj h2 (hold j oj hj ej).2 hri e
 . intro i o1 hi;by_cases e:i=h.next
   . subst e;simp
   . have:=H.eN i o1 (hold i o1 hi e).2;simp;omega
 . intro g hg;have:=H.kb g hg;simp only[World.put,Fm];exact this
 . intro i o1 hi hr1;by_cases e:i=h.next
   . subst e;rw[hnx o1 hi]at hr1;exact absurd hr1 hno
   . exact H.im i o1 (hold i o1 hi e).2 hr1
theorem hZ {b:Nat} {cs:List AV} {e:TypeId} {sz:Nat} {ext:Bool} {bk:BK} (hc:jT h b= .ok (cs,e,sz,ext,bk)):h.get b=some (.cells cs e sz ext bk):=by
 unfold jT at hc;split at hc
 . rename_i heq;cases hc;exact heq
 . cases hc
theorem bN.cells (H:bN E h K w) {b:Nat} {cs:List AV} {e:TypeId} {sz:Nat} {ext:Bool} {bk:BK} (hc:h.get b=some (.cells cs e sz ext bk)):
  ∃arr fz,w.heap[E.bh b]? =some (.cells arr e fz)/\(∃rest,arr.toList=bA E cs++rest)/\(if ext then arr.size=E.cap b*sz else arr.size=cs.length)/\lN bk fz arr.size:=by
 obtain⟨c,h1,arr,fz,rfl,h2⟩:=H.obj b _ hc;exact⟨arr,fz,h1,h2⟩
theorem bN.cell (H:bN E h K w) {b:Nat} {cs:List AV} {e:TypeId} {sz:Nat} {ext:Bool} {bk:BK} (hc:h.get b=some (.cells cs e sz ext bk)) {i:Nat} {v:AV} (hv:cs[i]? =some v):
  w.cell? ⟨E.bh b,i,none⟩=some (af E v):=by
 obtain⟨arr,fz,h1,⟨rest,h2⟩,_⟩:=H.cells hc;rw[cell_of_row w _ i arr e fz h1];rw[<-A6,h2,A3 (by rw[bP];exact(Ab.1 hv).1),kI,hv];rfl
theorem add_lit (b o j:Nat):(⟨b,o,none⟩:Addr).add j=⟨b,o+j,none⟩:=by
 unfold Addr.add;split<;>simp_all
theorem LD {b off n:Nat} {cs:List AV} (hr:readN h b off n= .ok cs):
  ∃cs0 e sz ext bk,h.get b=some (.cells cs0 e sz ext bk)/\off+n<=cs0.length/\cs=(cs0.drop off).take n:=by
 unfold readN at hr;obtain⟨⟨cs0,e,sz,ext,bk⟩,h1,hr⟩:=aw.1 hr;obtain⟨_,h2,hr⟩:=aw.1 hr
 cases hr;exact⟨cs0,e,sz,ext,bk,hZ h1,Al (ew.1 h2),rfl⟩
theorem bN.kx (H:bN E h K w) {b off n:Nat} {cs:List AV} (hr:readN h b off n= .ok cs):
   (bA E cs).length=n/\ ∀j v,(bA E cs)[j]? =some v->w.cell? ((⟨E.bh b,off,none⟩:Addr).add j)=some v:=by
 obtain⟨cs0,e,sz,ext,bk,hc,hl,rfl⟩:=LD hr;refine⟨by simp;omega,fun j v hv=>?_⟩;rw[kI,Bd]at hv;split at hv
 . rw[BX]at hv
   cases hx:cs0[off+j]? with
   |none=>rw[hx]at hv;cases hv
   |some u=>
    rw[hx]at hv
    cases hv;rw[add_lit];exact H.cell hc hx
 . cases hv
theorem bN.fR (H:bN E h K w) {P:Program} {b off n:Nat} {cs:List AV} (hr:readN h b off n= .ok cs):
  (loadCells ⟨E.bh b,off,none⟩ n).run P w= .ok (bA E cs).toArray w:=by
 obtain⟨hl,hc⟩:=H.kx hr;have:=run_loadCells_list (P:=P) w ⟨E.bh b,off,none⟩ (bA E cs) hc;rw[hl]at this;exact this
theorem zk {P:Program} (g o:Nat) (t:TypeId) (fz:Nat×Nat):∀(vs:List Value) (i:Nat) (cur:Array Value) (w:World),w.heap[g]? =some (.cells cur t fz)->
  (∀j,j<cur.size->¬(fz.1<=j/\j<fz.2))->o+i+vs.length<=cur.size->(∀v∈vs,v.oneCell'=true)->
  (storeCells ⟨g,o,none⟩ vs i).run P w= .ok () (w.put g (.cells (cur.toList.take (o+i)++vs++cur.toList.drop (o+i+vs.length)).toArray t fz))
 | [], i,cur,w,hg,_,_,_=>by
  simp only[storeCells,Bu,AK,Bw,BV,Array.toArray_toList];have:w.put g (.cells cur t fz)=w:=by
   unfold World.put;have hlt:=(Ae.1 hg).1;have he:=(Ae.1 hg).2;have:w.heap.setIfInBounds g (.cells cur t fz)=w.heap:=by
     apply EY
     . simp
     . intro i h1 h2;rw[DD (by simpa using h2)];split
       . rename_i e;subst e;exact he.symm
       . rfl
   rw[this]
  rw[this];rfl
 | v ::rest,i,cur,w,hg,hf,hl,h1=>by
  have hi:o+i<cur.size:=by simp at hl;omega
  have hlt:=(Ae.1 hg).1;have hcell:w.cell? ⟨g,o+i,none⟩=some cur[o+i]:=by simp[World.cell?,hg,hi]
  have hfro:w.frozen? ⟨g,o+i,none⟩=false:=by
   have:=hf (o+i) hi;obtain⟨lo,hi'⟩:=fz;simp only[World.frozen?,hg];simpa using this
  have hset:w.setCell ⟨g,o+i,none⟩ v=w.put g (.cells (cur.setIfInBounds (o+i) v) t fz):=by
   unfold World.setCell World.put;congr 1
   apply EY
   . simp
   . intro j h1 h2;rw[EI,DD (by simpa using h2)];have he:w.heap[g]= .cells cur t fz:=(Ae.1 hg).2;by_cases e:g=j
     . subst e;simp[he]
     . simp[e]
  have hst:(store ((⟨g,o,none⟩:Addr).add i) v).run P w= .ok () (w.put g (.cells (cur.setIfInBounds (o+i) v) t fz)):=by
   rw[add_lit,run_store P w _ v _ (h1 v (by simp)),hcell];simp[hfro,hset]
  have hg':(w.put g (.cells (cur.setIfInBounds (o+i) v) t fz)).heap[g]? =some (.cells (cur.setIfInBounds (o+i) v) t fz):=by
   rw[sy,if_pos rfl,if_pos hlt]
  simp only[storeCells,Sem.run_bind];rw[hst,Result.andThen_ok,zk g o t fz rest (i+1) _ _ hg' (by simpa using hf) (by simp at hl⊢;omega) (fun v hv=>h1 v (by simp[hv]))];have hL:(cur.setIfInBounds (o+i) v).toList.take (o+(i+1))++rest++(cur.setIfInBounds (o+i) v).toList.drop (o+(i+1)+rest.length)=cur.toList.take (o+i)++(v::rest)++cur.toList.drop (o+i+(v::rest).length):=by
   have:=list_seg_step cur.toList (o+i) v rest (by simp at hl⊢;omega);simp only[Fe,AA];rw[show o+(i+1)=o+i+1 from by omega];exact this
  rw[hL];unfold World.put;simp only[Array.setIfInBounds_setIfInBounds]
end
end
section
variable [Inhabited aL]
def F5 (r:Next) (x:Value):Prop:=r= .value x\/(r= .skip/\x=undef)
section
variable {P:Program} {tab:bB} (ok:bU P tab) {E:Env} {h:AH} {K:KS} {w:World}
include ok
theorem Jc (H:bN E h K w) {t:TypeId} {b off:Nat} {v:AV} (hl:loadVar tab h t b off= .ok v):
  (Go.loadVar t ⟨E.bh b,off,none⟩).run P w= .ok (af E v) w:=by
 unfold loadVar at hl;obtain⟨g,hg,hl⟩:=aw.1 hl;unfold Go.loadVar;rw[Sem.run_bind,J6 ok hg,Result.andThen_ok]
 cases g with
 |true=>
  simp only[if_true]at hl⊢;obtain⟨n,hn,hl⟩:=aw.1 hl;obtain⟨cs,hc,hl⟩:=aw.1 hl
  cases hl;rw[Sem.run_bind,kG ok hn,Result.andThen_ok,Sem.run_bind,H.fR hc];simp[af]
 |false=>
  simp only[Ak,AB]at hl⊢;obtain⟨⟨cs,e,sz,ext,bk⟩,hc,hl⟩:=aw.1 hl;have hl:=cZ.1 hl;rw[run_load,H.cell (hZ hc) hl]
omit ok in
theorem wC {b off:Nat} {vs:List AV} {h':AH} (hw:writeN h b off vs= .ok h'):h'.next=h.next:=by
 unfold writeN at hw;split at hw
 . cases hw;rfl
 . obtain⟨⟨cs,e,sz,ext,bk⟩,hc,hw⟩:=aw.1 hw;obtain⟨_,_,hw⟩:=aw.1 hw;obtain⟨_,_,hw⟩:=aw.1 hw;obtain⟨_,_,hw⟩:=aw.1 hw
   cases hw;rfl
omit ok in
theorem JJ {bk:BK} {fz:Nat×Nat} {n:Nat} (hm:lN bk fz n) (hr:bk≠ .ro/\bk≠ .cold):∀j,j<n->¬(fz.1<=j/\j<fz.2):=by
 intro j hj
 cases bk with
 |rw=>simp only[lN]at hm;subst hm;simp
 |mark=>simp only[lN]at hm;subst hm;simp;omega
 |any=>
  simp only[lN]at hm;rcases hm with hm|hm
  . subst hm;simp
  . subst hm;simp;omega
 |ro=>exact absurd rfl hr.1
 |cold=>exact absurd rfl hr.2
omit ok in
theorem wP (H:bN E h K w) {b off:Nat} {vs:List AV} {h':AH} (hw:writeN h b off vs= .ok h'):
   ∃w',(storeCells ⟨E.bh b,off,none⟩ (bA E vs)).run P w= .ok () w'/\bN E h' K w'/\Kept K w w':=by
 unfold writeN at hw;split at hw
 . cases hw;exact⟨w,rfl,H,Kept.refl K w⟩
 . obtain⟨⟨cs,e,sz,ext,bk⟩,hc,hw⟩:=aw.1 hw;obtain⟨_,h1,hw⟩:=aw.1 hw;obtain⟨_,h2,hw⟩:=aw.1 hw;obtain⟨_,h3,hw⟩:=aw.1 hw
   cases hw;have hc:=hZ hc;have hro:bk≠ .ro/\bk≠ .cold:=by simpa using ew.1 h1
   have hlen:off+vs.length<=cs.length:=Al (ew.1 h2);have hone:=ew.1 h3;obtain⟨arr,fz,hh,⟨rest,harr⟩,hsz,hm⟩:=H.cells hc;have hasz:cs.length<=arr.size:=by
     have:=Ap List.length harr;simp at this;omega
   have hrun:=zk (P:=P) (E.bh b) off e fz (bA E vs) 0 arr w hh (JJ hm hro) (by simp;omega)
     (by
      intro v hv;rw[pF]at hv;obtain⟨u,hu,rfl⟩:=Au.1 hv;exact IB (AI.1 hone u hu))
   refine⟨_,hrun,H.put hc (by cases bk<;>simp_all[AO.ro]) ?_ (by cases bk<;>simp_all[AO.ro]),H.dR hc (by cases bk<;>simp_all[AO.ro]) _⟩;refine⟨_,fz,rfl,⟨rest,?_⟩,?_,?_⟩
   . simp only[oc,Bw,dQ,tZ,zJ,bP,harr];rw[E0 (by simp;omega),List.drop_append_of_le_length (by simp;omega)];simp
   . have e1:(arr.toList.take (off+0)++bA E vs++arr.toList.drop (off+0+(bA E vs).length)).length=arr.size:=by
      simp;omega
     cases ext with
     |true=>simp only[if_true]at hsz⊢;rw[BC,e1];exact hsz
     |false=>
      simp only[Ak,AB]at hsz⊢;rw[BC,e1,hsz];simp[oc];omega
   . have e1:(arr.toList.take (off+0)++bA E vs++arr.toList.drop (off+0+(bA E vs).length)).length=arr.size:=by
      simp;omega
     rw[BC,e1];exact hm
theorem R4 (H:bN E h K w) {t:TypeId} {b off:Nat} {v:AV} {h':AH} (hs:storeVar tab h t b off v= .ok h'):
  ∃w',(Go.storeVar t ⟨E.bh b,off,none⟩ (af E v)).run P w= .ok () w'/\bN E h' K w'/\Kept K w w':=by
 unfold storeVar at hs;obtain⟨n,hn,hs⟩:=aw.1 hs;obtain⟨l,hl,hs⟩:=aw.1 hs;obtain⟨_,hc,hs⟩:=aw.1 hs;have hc:=Ag (ew.1 hc);obtain⟨w',hw,H',hk⟩:=wP (P:=P) H hs;refine⟨w',?_,H',hk⟩;unfold Go.storeVar;rw[Sem.run_bind,kG ok hn,Result.andThen_ok,nT hl];simp only[BC,bP,hc,ne_eq,not_true,AB];exact hw
omit ok in
theorem Ro {t:TypeId} {b off:Nat} {v:AV} {h':AH} (hs:storeVar tab h t b off v= .ok h'):h'.next=h.next:=by
 unfold storeVar at hs;obtain⟨n,hn,hs⟩:=aw.1 hs;obtain⟨l,hl,hs⟩:=aw.1 hs;obtain⟨_,hc,hs⟩:=aw.1 hs;exact wC hs
omit ok in
theorem iP {e:TypeId} {cs:List AV} {ext:Bool} {bk:BK} {h':AH} {b:Nat} (hn:newRow tab h e cs ext bk= .ok (h',b)):
  ∃n,siz tab e= .ok n/\h'=h.new (.cells cs e n ext bk)/\b=h.next:=by
 unfold newRow at hn;obtain⟨n,h1,hn⟩:=aw.1 hn
 cases hn;exact⟨n,h1,rfl,rfl⟩
omit ok in
theorem Cp (H:bN E h K w) (hE:E.bh h.next=w.heap.size) (cs:List AV) (e:TypeId) (n:Nat):
  bN E (h.new (.cells cs e n false .rw)) K (w.alloc (.cells (bA E cs).toArray e))/\Kept K w (w.alloc (.cells (bA E cs).toArray e)):=
 ⟨H.new hE ⟨_,_,rfl,⟨[],by simp⟩,by simp,rfl⟩,Kept.alloc H.kb _⟩
omit ok in
theorem qn (e:TypeId) (cs:Array Value):(Go.newRow e cs).run P w= .ok ⟨w.heap.size,0,none⟩ (w.alloc (.cells cs e)):=by
 simp only[Go.newRow,Sem.run_bind,run_newObj,Result.andThen_ok,Sem.run_pure];rfl
omit ok in
theorem VB {v:AV} {k:IntKind} {n:Int} (ha:asInt v= .ok (k,n)):v= .int k n:=by
 cases v<;>simp only[asInt]at ha<;>cases ha
 rfl
omit ok in
theorem qv {v:AV} {n:Nat} (ha:asNat v= .ok n):∃k,v= .int k (n:Int):=by
 unfold asNat at ha;obtain⟨⟨k,m⟩,h1,ha⟩:=aw.1 ha
 cases m with
 |ofNat m=>cases ha;exact⟨k,VB h1⟩
 |negSucc m=>cases ha
omit ok in
theorem Ch (l:List UInt8):(⟨l.toArray⟩:ByteArray).toList=l:=by
 simp
omit ok in
theorem sS (l:List UInt8):(⟨l.toArray⟩:ByteArray).size=l.length:=rfl
omit ok in
theorem TZ (l m:List UInt8):(⟨l.toArray⟩:ByteArray)++⟨m.toArray⟩=⟨(l++m).toArray⟩:=by
 apply Fk;simp
omit ok in
theorem T8 {op:BinOp} {k:IntKind} {x y:Int} {v:AV} (hi:intOp op k x y= .ok v) (t:TypeId) (hs:op≠ .shl/\op≠ .shr):
  (Go.binOp op t (.int k x) (.int k y)).run P w= .ok (af E v) w:=by
 cases op<;>simp only[intOp]at hi<;>(try (split at hi<;>try cases hi))<;>(try cases hi)<;>
  simp_all[Go.binOp,Op.intArith,Op.intDiv,Op.intBits,Op.intCmp,af]
omit ok in
theorem I4 {op:BinOp} {k yk:IntKind} {x y:Int} {v:AV} (hi:shiftOp op k x y= .ok v):
   (Op.shift op k x yk y).run P w= .ok (af E v) w:=by
 unfold shiftOp at hi;split at hi
 . cases hi
 . rename_i hy
   cases op<;>simp only at hi<;>cases hi<;>simp[Op.shift,hy,af]
omit ok in
theorem US {op:BinOp} {x y:List UInt8} {v:AV} (hi:strOp op x y= .ok v):
   (Op.stringOp op ⟨x.toArray⟩ ⟨y.toArray⟩).run P w= .ok (af E v) w:=by
 cases op<;>simp only[strOp]at hi<;>(try cases hi)<;>(try simp only[Op.stringOp,Ch,Sem.run_pure,af])
 split at hi
 . cases hi;rename_i hl;have:¬((((⟨x.toArray⟩:ByteArray).size+(⟨y.toArray⟩:ByteArray).size:Nat):Int)>IntKind.i64.max):=by
    rw[sS,sS];have:IntKind.i64.max=9223372036854775807:=by decide
    rw[this];omega
   simp only[if_neg this,Sem.run_pure,TZ,af]
 . cases hi
omit ok in
theorem W9 {op:UnOp} {x v:AV} (hu:unOp op x= .ok v):(Op.unary op (af E x)).run P w= .ok (af E v) w:=by
 cases op<;>cases x<;>simp only[unOp]at hu<;>cases hu<;>simp[Op.unary,af,Op.intArith,Op.intBits]
end
end
section
variable [Inhabited aL]
section
variable {P:Program} {tab:bB} (ok:bU P tab) {E:Env} {h:AH} {K:KS} {w:World}
include ok
theorem RC (d:Nat) (eq:TypeId->AV->AV->R Bool)
  (heq:∀t x y b,eq t x y= .ok b->∀w,(Op.equalIn d t (af E x) (af E y)).run P w= .ok b w) (xs ys:List AV):
  ∀(fs:List Field) (b:Bool),eqFields tab eq xs ys fs= .ok b->∀w,(Op.eqFields d (bA E xs).toArray (bA E ys).toArray fs).run P w= .ok b w:=by
 intro fs;induction fs with
 |nil=>intro b hb w;simp only[eqFields]at hb;cases hb;rfl
 |cons f fs ih=>
  intro b hb w;simp only[eqFields]at hb;by_cases hn:f.name≠ "_"
  . rw[if_pos hn]at hb;obtain⟨a,ha,hb⟩:=aw.1 hb;obtain⟨c,hc,hb⟩:=aw.1 hb;obtain⟨r,hr,hb⟩:=aw.1 hb;simp only[Op.eqFields,if_pos hn,Sem.run_bind,uD ok ha,uD ok hc,heq _ _ _ _ hr,Result.andThen_ok]
    cases r with
    |true=>simp only[if_true]at hb;simpa using ih b hb w
    |false=>simp only[Ak,AB]at hb;cases hb;simp
  . rw[if_neg hn]at hb;simp only[Op.eqFields,if_neg hn];exact ih b hb w
theorem qI :∀(d:Nat) (t:TypeId) (x y:AV) (b:Bool),eqT tab d t x y= .ok b->∀(k:Nat) (w:World),
    (Op.equalIn (d+k) t (af E x) (af E y)).run P w= .ok b w:=by
  intro d;induction d with
  |zero=>intro t x y b hb;cases hb
  | succ d ih=>
    intro t x y b hb k w;simp only[eqT]at hb;obtain⟨u,hu,hb⟩:=aw.1 hb;have hP:=ok.und t u (cZ.1 hu);rw[show d+1+k=(d+k)+1 from by omega];have hagg:∀xs ys fs,x= .agg xs->y= .agg ys->u= .struct fs->tab.held.get t=some false->eqFields tab (eqT tab d) xs ys fs.toList= .ok b->
        (Op.equalIn (d+k+1) t (af E x) (af E y)).run P w= .ok b w:=by
      intro xs ys fs hx hy hu' hheld hb2;subst hx hy hu';have hf:P.fieldsOf t=fs:=by simp[Program.fieldsOf,hP]
      simp only[af];rw[run_equalIn_struct w (d+k) t _ _ (by rw[hf];exact hP) (ok.held t false hheld),hf];exact RC ok (d+k) (eqT tab d) (fun t x y b h w=>ih t x y b h k w) xs ys fs.toList b hb2 w
    split at hb
    case h_22=>
      split at hb
      . exact hagg _ _ _ rfl rfl rfl (by assumption) hb
      . cases hb
    all_goals
      clear hagg ih;simp only[Op.equalIn,underlying,Sem.run_bind,run_program,Result.andThen_ok,hP,Sem.run_pure,af]
    all_goals
      first
      |(cases hb;done)
      |(cases hb;rfl)
      | (split at hb
         . cases hb;rename_i e;subst e;rw[if_pos rfl]
           try rfl
         . cases hb)
      | (cases hb
         rw[beq_toListBytes,Ch,Ch])
omit ok in
theorem LZ {d:Nat} (t:TypeId) (v:Value) (y:AV) (b:Bool) (hb:eqT tab (d+1) t (.raw v) y= .ok b):(∃a,v= .pointer (some a))/\y= .bo:=by
 simp only[eqT]at hb;obtain⟨u,hu,hb⟩:=aw.1 hb;split at hb<;>first|(cases hb;done)|simp_all
omit ok in
theorem L0 {d:Nat} (t:TypeId) (v:Value) (x:AV) (b:Bool) (hb:eqT tab (d+1) t x (.raw v)= .ok b):(∃a,v= .pointer (some a))/\x= .bo:=by
 simp only[eqT]at hb;obtain⟨u,hu,hb⟩:=aw.1 hb;split at hb<;>first|(cases hb;done)|simp_all
omit ok in
theorem wU (H:bN E h K w) {b:Nat} {cs:List AV} {e:TypeId} {sz:Nat} {ext:Bool} (hc:h.get b=some (.cells cs e sz ext .rw)) (i:Nat):
  w.frozen? ⟨E.bh b,i,none⟩=false:=by
 obtain⟨arr,fz,h1,_,_,hm⟩:=H.cells hc;simp only[lN]at hm;subst hm;simp[World.frozen?,h1]
omit ok in
theorem xd (H:bN E h K w) {b:Nat} {cs:List AV} {e:TypeId} {sz:Nat} {ext:Bool} {bk:BK} (hc:h.get b=some (.cells cs e sz ext bk)):
  ∃n,w.shape? (E.bh b)=some (e,n):=by
 obtain⟨arr,fz,h1,_⟩:=H.cells hc;exact⟨arr.size,by simp[World.shape?,h1]⟩
omit ok in
theorem wu (H:bN E h K w) {b:Nat} {cs:List AV} {e:TypeId} {sz:Nat} {ext:Bool} {bk:BK} (hc:h.get b=some (.cells cs e sz ext bk)) (i:Nat):
  (noView ⟨E.bh b,i,none⟩).run P w= .ok () w:=by
 obtain⟨n,hn⟩:=xd H hc;simp[noView,viewAt,hn]
omit ok in
theorem IK (H:bN E h K w) {b:Nat} {cs:List AV} {e:TypeId} {sz:Nat} {ext:Bool} (hc:h.get b=some (.cells cs e sz ext .rw)) (i:Nat):
  (stringish ⟨E.bh b,i,none⟩).run P w= .ok false w:=by
 obtain⟨n,hn⟩:=xd H hc;simp[stringish,hn,wU H hc]
omit ok in
theorem IA (H:bN E h K w) {b b':Nat} {cs cs':List AV} {e e':TypeId} {sz sz':Nat} {ext ext':Bool}
  (hc:h.get b=some (.cells cs e sz ext .rw)) (hc':h.get b'=some (.cells cs' e' sz' ext' .rw)) (i i':Nat):
  (mayBeOne ⟨E.bh b,i,none⟩ ⟨E.bh b',i',none⟩).run P w= .ok false w:=by
 obtain⟨n,hn⟩:=xd H hc;obtain⟨n',hn'⟩:=xd H hc';simp[mayBeOne,IK H hc,IK H hc',hn']
theorem LY (H:bN E h K w) {t:TypeId} {x y:AV} {b:Bool} (hb:eqOp tab h t x y= .ok b):
   (Op.equal t (af E x) (af E y)).run P w= .ok b w/\
   (∀op ox oy,(op= .eql\/op= .neq)->(eqGuard op t ox oy (af E x) (af E y)).run P w= .ok () w):=by
 unfold eqOp at hb;split at hb
 . rename_i a i c j;obtain⟨u,hu,hb⟩:=aw.1 hb;have hP:=ok.und t u (cZ.1 hu);split at hb
   . rename_i e;obtain⟨n,hn,hb⟩:=aw.1 hb;obtain⟨_,hz,hb⟩:=aw.1 hb;have hz:=ew.1 hz;have hn0:n≠0:=by
       rintro rfl;simp at hz
     refine⟨?_,fun op ox oy ho=>by rcases ho with rfl|rfl<;>simp[eqGuard,af]⟩;have hstep:(Op.equal t (af E (.ptr a i)) (af E (.ptr c j))).run P w=(sameAddr ⟨E.bh a,i,none⟩ ⟨E.bh c,j,none⟩).run P w:=by
       have key:∀n,(Op.equalIn (n+1) t (af E (.ptr a i)) (af E (.ptr c j))).run P w=(sameAddr ⟨E.bh a,i,none⟩ ⟨E.bh c,j,none⟩).run P w:=by
         intro n;simp only[Op.equalIn,underlying,Sem.run_bind,run_program,Result.andThen_ok,hP,Sem.run_pure,af,kG ok hn,ne_eq,hn0,Bl,if_true]
       exact key 9999
     rw[hstep];by_cases hac:Nat.beq a c=true
     . rw[if_pos hac]at hb
       cases hb;have:=Ag hac;subst this;simp only[sameAddr,Ey,if_true,Sem.run_pure];congr 1
       rw[A2];simp[Nat.beq_eq]
     . rw[if_neg hac]at hb;split at hb
       . rename_i h1 h2
         cases hb;have hne:E.bh a≠E.bh c:=fun e'=>hac (by rw[H.inj a c _ _ h1 h2 (by simp[AO.ro]) e'];exact B7 c)
         simp[sameAddr,hne,wU H h1,wu H h1,wu H h2,IA H h1 h2]
       . cases hb
   . cases hb
 . rename_i xs ys;split at hb
   . rename_i hg;refine⟨?_,fun op ox oy ho=>?_⟩
     . have:=qI ok (E:=E) 8 t _ _ b hb 9992 w;exact this
     . simp only[af];exact run_eqGuard_agg w op t ox oy _ _ (ok.lE t false hg)
   . cases hb
 . cases hb
 . rename_i h1 h2 h3;refine⟨qI ok (E:=E) 8 t _ _ b hb 9992 w,fun op ox oy ho=>?_⟩;have hrx:∀v,x= .raw v->∃a,v= .pointer (some a):=by
     rintro v rfl;exact(LZ t v y b hb).1
   have hry:∀v,y= .raw v->∃a,v= .pointer (some a):=by
     rintro v rfl;exact(L0 t v x b hb).1
   have hne:∀cs,af E x= .agg cs->∀ds,af E y= .agg ds->False:=by
     intro cs hx ds hy
     cases x<;>simp only[af]at hx<;>(try cases hx)
     . cases y<;>simp only[af]at hy<;>(try cases hy)
       . exact h2 _ _ rfl rfl
       . obtain⟨_,e⟩:=hry _ rfl;cases e
     . obtain⟨_,e⟩:=hrx _ rfl;cases e
   have hni:af E x= .nilIface->af E y= .nilIface->False:=by
     intro hx hy
     cases x<;>simp only[af]at hx<;>(try cases hx)
     . cases y<;>simp only[af]at hy<;>(try cases hy)
       . exact h3 rfl rfl
       . obtain⟨_,e⟩:=hry _ rfl;cases e
     . obtain⟨_,e⟩:=hrx _ rfl;cases e
   generalize af E x=a at hne hni
   generalize af E y=b at hne hni
   rcases ho with rfl|rfl<;>(unfold eqGuard;split)
   all_goals first
     |(exact absurd rfl (by simp))
     |skip
   all_goals simp_all
omit ok in
theorem Co (op:BinOp) (t:TypeId) (ox oy:Operand) (k j:IntKind) (a b:Int):(eqGuard op t ox oy (.int k a) (.int j b)).run P w= .ok () w:=by
 cases op<;>simp[eqGuard]
omit ok in
theorem T7 (op:BinOp) (t:TypeId) (ox oy:Operand) (a b:ByteArray):(eqGuard op t ox oy (.string a) (.string b)).run P w= .ok () w:=by
 cases op<;>simp[eqGuard]
omit ok in
theorem xu {t:TypeId} {x y:AV} {b:Bool} (hb:eqOp tab h t x y= .ok b):(∀v,x= .raw v->∃a,v= .pointer (some a))/\(∀v,y= .raw v->∃a,v= .pointer (some a)):=by
 constructor
 . rintro v rfl;unfold eqOp at hb;exact(LZ t v y b hb).1
 . rintro v rfl;unfold eqOp at hb
   cases x<;>exact(L0 t v _ b hb).1
omit ok in
theorem Jy {x:AV} (hx:∀v,x= .raw v->∃a,v= .pointer (some a)):(∀k b,af E x≠ .float k b)/\(∀k a b,af E x≠ .complex k a b)/\
  (∀k a,af E x= .int k a->x= .int k a)/\(∀s,af E x= .string s->∃l,x= .str l):=by
 cases x
 case raw v=>obtain⟨a,rfl⟩:=hx v rfl;simp[af]
 all_goals simp_all[af]
omit ok in
theorem IT (t:TypeId) (x y:AV) (hi:∀k j a b,x= .int k a->y= .int j b->False) (hs:∀a b,x= .str a->y= .str b->False)
   (hx:∀v,x= .raw v->∃a,v= .pointer (some a)) (hy:∀v,y= .raw v->∃a,v= .pointer (some a)):
   Go.binOp .eql t (af E x) (af E y)=(do pure (.bool (<-Op.equal t (af E x) (af E y))))/\
   Go.binOp .neq t (af E x) (af E y)=(do pure (.bool (!(<-Op.equal t (af E x) (af E y))))):=by
 obtain⟨x1,x2,x3,x4⟩:=Jy (E:=E) hx;obtain⟨y1,y2,y3,y4⟩:=Jy (E:=E) hy;generalize af E x=X at*
 generalize af E y=Y at*
 constructor
 . unfold Go.binOp;split<;>simp_all
   . exact(hi _ _ _ _ rfl rfl rfl rfl).elim
   . obtain⟨l,rfl⟩:=x4;obtain⟨m,rfl⟩:=y4;exact(hs _ _ rfl rfl).elim
 . unfold Go.binOp;split<;>simp_all
   . exact(hi _ _ _ _ rfl rfl rfl rfl).elim
   . obtain⟨l,rfl⟩:=x4;obtain⟨m,rfl⟩:=y4;exact(hs _ _ rfl rfl).elim
theorem TC (H:bN E h K w) {op:BinOp} {t:TypeId} {x y v:AV} (hb:binOp tab h op t x y= .ok v) (ox oy:Operand):
   (do eqGuard op t ox oy (af E x) (af E y);Go.binOp op t (af E x) (af E y)).run P w= .ok (af E v) w:=by
 unfold binOp at hb;split at hb
 . simp only[af];rw[Sem.run_bind,Co];exact I4 (yk:= .i64) hb
 . simp only[af];rw[Sem.run_bind,Co];exact I4 (yk:= .i64) hb
 . rename_i hs1 hs2;split at hb
   . rename_i e;subst e;simp only[af];rw[Sem.run_bind,Co];exact T8 hb t ⟨fun e=>hs1 e,fun e=>hs2 e⟩
   . cases hb
 . simp only[af];rw[Sem.run_bind,T7]
   cases op<;>exact US (P:=P) hb
 . obtain⟨b,hb',hb⟩:=aw.1 hb
   cases hb;obtain⟨h1,h2⟩:=LY ok H hb';rw[Sem.run_bind,h2 .eql ox oy (.inl rfl),Result.andThen_ok];rw[(IT (E:=E) t x y (fun k j a b e1 e2=>by subst e1 e2;simp_all;exact ‹∀(k_1:IntKind) (a_1:Int) (j_1:IntKind) (b_1:Int),k=k_1->a=a_1->j=j_1->¬b=b_1› _ _ _ _ rfl rfl rfl rfl) (fun a b e1 e2=>by subst e1 e2;simp_all) (xu hb').1 (xu hb').2).1,Sem.run_bind,h1];simp[af]
 . obtain⟨b,hb',hb⟩:=aw.1 hb
   cases hb;obtain⟨h1,h2⟩:=LY ok H hb';rw[Sem.run_bind,h2 .neq ox oy (.inr rfl),Result.andThen_ok];rw[(IT (E:=E) t x y (fun k j a b e1 e2=>by subst e1 e2;simp_all;exact ‹∀(k_1:IntKind) (a_1:Int) (j_1:IntKind) (b_1:Int),k=k_1->a=a_1->j=j_1->¬b=b_1› _ _ _ _ rfl rfl rfl rfl) (fun a b e1 e2=>by subst e1 e2;simp_all) (xu hb').1 (xu hb').2).2,Sem.run_bind,h1];simp[af]
 . cases hb
end
end
section
variable [Inhabited aL]
def gO (n:Nat) (l:List Value):List Value:=
 match n with
 |0=>[]
 |n+1=>l++gO n l
theorem uh (E:Env) (n:Nat) (l:List AV):bA E (rep n l)=gO n (bA E l):=by
 induction n with
 |zero=>rfl
 |succ n ih=>simp[rep,gO,ih]
theorem zx (n:Nat) (l:List Value):(gO n l).length=n*l.length:=by
 induction n with
 |zero=>simp[gO]
 |succ n ih=>simp[gO,ih,BB];omega
theorem MU (c:Nat) (l:List Value) (k:Nat) (hk:l.length=k) (h0:0<k):
  (List.range (c*k)).map (fun i=>l.toArray[i % k]!)=gO c l:=by
 induction c with
 |zero=>simp[gO]
 |succ c ih=>
  rw[show(c+1)*k=k+c*k from by rw[BB];omega,List.range_add,A1,BJ];unfold gO;congr 1
  . apply List.ext_getElem
    . simp[hk]
    . intro i h1 h2;simp only[Bf,List.length_range]at h1;simp[Nat.mod_eq_of_lt h1,h2]
  . rw[<-ih];apply Dn;intro i _;simp
theorem IY (n:Nat) (l:List Value) (h0:0<l.length):Builtin.zeroCells l.toArray n=(gO n l).toArray:=by
 unfold Builtin.zeroCells;apply Array.ext';rw[Array.toList_map,Array.toList_range];exact MU n l l.length rfl h0
theorem Iz (n:Nat) (l:List Value) (h0:0<l.length):madeCells l.toArray (n*l.length)=(gO n l).toArray:=by
 unfold madeCells;apply Array.ext';rw[Array.toList_map,Array.toList_range];exact MU n l l.length rfl h0
def uC (cs:List Value) (off:Nat) (vs:List Value):List Value:=cs.take off++(vs++cs.drop (off+vs.length))
theorem Rs (E:Env) (cs:List AV) (off:Nat) (vs:List AV):bA E (oc cs off vs)=uC (bA E cs) off (bA E vs):=by
 simp[oc,uC,tZ,zJ]
theorem Wh (off:Nat):∀(vs:List Value) (j:Nat) (cs:Array Value),off+j+vs.length<=cs.size->
  ((vs.zipIdx j).foldl (fun cs (x:Value×Nat)=>cs.setIfInBounds (off+x.2) x.1) cs)=(uC cs.toList (off+j) vs).toArray:=by
 intro vs;induction vs with
 |nil=>intro j cs h;simp[uC]
 |cons v vs ih=>
  intro j cs h;simp only[List.zipIdx_cons,Bt];rw[ih (j+1) _ (by simp at h⊢;omega)];congr 1
  have:=list_seg_step cs.toList (off+j) v vs (by simp at h⊢;omega);simp only[uC,Fe,AA];rw[show off+(j+1)=off+j+1 from by omega];rw[<-Dh,this];simp
section
variable {P:Program} {tab:bB} (ok:bU P tab) {E:Env} {h:AH} {K:KS} {w:World}
theorem CQ {place:Nat->Option (Nat×Nat)}:∀(ps:List (Nat×AV)) (qs:List (Nat×Nat×AV)) (cs out:List AV),
  (ps.length=qs.length/\ ∀i,i<ps.length->∀p q,ps[i]? =some p->qs[i]? =some q->place p.1=some (q.1,q.2.1)/\p.2=q.2.2)->
  fill cs qs= .ok out->Instr.fill place (bA E cs).toArray (ps.map fun p=>(p.1,af E p.2))=some (bA E out).toArray:=by
 intro ps;induction ps with
 |nil=>
  intro qs cs out hq hf;have:qs=[]:=AP hq.1.symm;subst this;simp only[fill]at hf
  cases hf;rfl
 | cons p ps ih=>
  intro qs cs out hq hf
  cases qs with
  |nil=>simp at hq
  | cons q qs=>
   obtain⟨off,n,v⟩:=q;simp only[fill]at hf;obtain⟨l,hl,hf⟩:=aw.1 hf;obtain⟨_,hc,hf⟩:=aw.1 hf;have hc:=ew.1 hc;rw[Aa]at hc;have hc1:=Ag hc.1;have hc2:=Al hc.2;obtain⟨h1,h2⟩:=hq.2 0 (by simp) p (off,n,v) rfl rfl;simp only at h1 h2;simp only[AR,Instr.fill,h1,h2,nT hl];rw[if_neg (by simp[hc1];omega)];have hz:(bA E l).toArray.zipIdx.foldl (fun cs (x:Value×Nat)=>cs.setIfInBounds (off+x.2) x.1) (bA E cs).toArray=(bA E (oc cs off l)).toArray:=by
    have:=Wh off (bA E l) 0 (bA E cs).toArray (by simp;omega);rw[Rs,<-Array.foldl_toList];simpa using this
   rw[hz];refine ih qs _ out ⟨by simpa using hq.1,fun i hi p' q' hp' hq'=>?_⟩ hf;exact hq.2 (i+1) (by simpa using hi) p' q' (by simpa using hp') (by simpa using hq')
include ok
theorem Q8 {fs:Array Field}:∀(ps:List (Nat×AV)) (qs:List (Nat×Nat×AV)),qj tab fs ps= .ok qs->
  (ps.length=qs.length/\ ∀i,i<ps.length->∀p q,ps[i]? =some p->qs[i]? =some q->
   (∃f i,fs[p.1]? =some f/\P.info? f.type=some i/\q.1=f.offset/\q.2.1=i.size)/\p.2=q.2.2):=by
 intro ps;induction ps with
 |nil=>intro qs hq;simp only[qj]at hq;cases hq;simp
 | cons p ps ih=>
  intro qs hq;obtain⟨i,v⟩:=p;simp only[qj]at hq;obtain⟨f,hf,hq⟩:=aw.1 hq;obtain⟨n,hn,hq⟩:=aw.1 hq;obtain⟨r,hr,hq⟩:=aw.1 hq
  cases hq;obtain⟨h1,h2⟩:=ih r hr;refine⟨by simp[h1],fun j hj p q hp hq=>?_⟩
  cases j with
  |zero=>
   simp only[AE,AX]at hp hq;subst hp hq;obtain⟨x,hx,rfl⟩:=ok.siz _ _ (cZ.1 hn);exact⟨⟨f,x,cZ.1 hf,hx,rfl,rfl⟩,rfl⟩
  |succ j=>exact h2 j (by simpa using hj) p q (by simpa using hp) (by simpa using hq)
theorem Sg:∀(l:List Field),(∀f∈l,(tab.siz.get f.type).isSome=true)->
  ∃ ps:List (Nat×Nat),l.mapM (fun(f:Field)=>(P.info? f.type).map fun i=>(f.offset,i.size))=some ps/\
    ∀(i:Nat) (f:Field) (x:TypeInfo),l[i]? =some f->P.info? f.type=some x->ps[i]? =some (f.offset,x.size):=by
 intro l;induction l with
 |nil=>intro _;exact⟨[],by simp,by simp⟩
 |cons f l ih=>
  intro hl;obtain⟨ps,h1,h2⟩:=ih (fun f hf=>hl f (by simp[hf]));obtain⟨n,hn⟩:=BM.1 (hl f (by simp));obtain⟨x,hx,rfl⟩:=ok.siz _ _ hn;refine⟨(f.offset,x.size)::ps,?_,?_⟩
  . simp[Fc,hx,h1]
  . intro j g y hj hy
    cases j with
    |zero=>
     simp only[AE,AX]at hj;subst hj;rw[hx]at hy
     cases hy;rfl
    |succ j=>simpa using h2 j g y (by simpa using hj) hy
theorem TD {t:TypeId} {ps:List (Nat×AV)} {v:AV} (hb:build tab t ps= .ok v):
   (Instr.build t (ps.map fun p=>(p.1,af E p.2)).toArray).run P w= .ok (af E v) w:=by
 unfold build at hb;obtain⟨z,hz,hb⟩:=aw.1 hb;obtain⟨zc,hzc,hb⟩:=aw.1 hb;obtain⟨u,hu,hb⟩:=aw.1 hb;have hP:=ok.und t u (cZ.1 hu);obtain⟨it,hit,hiz⟩:=ok.ly t z (cZ.1 hz);split at hb
 . rename_i fs;obtain⟨_,hs,hb⟩:=aw.1 hb;obtain⟨qs,hq,hb⟩:=aw.1 hb;obtain⟨cs,hc,hb⟩:=aw.1 hb
   cases hb;have hs:=ew.1 hs;obtain⟨pl,hp1,hp2⟩:=Sg ok fs.toList (fun f hf=>AI.1 hs f hf);obtain⟨hl,hq⟩:=Q8 ok ps qs hq;have hfill:=CQ (E:=E) (place:=fun i=>pl[i]?) ps qs zc cs ⟨hl,fun i hi p q hp hq'=>by
    obtain⟨⟨f,x,h1,h2,h3,h4⟩,h5⟩:=hq i hi p q hp hq';refine⟨?_,h5⟩;rw[h3,h4];exact hp2 p.1 f x (by simpa using h1) h2⟩ hc
   have hbuilt:P.built t (ps.map fun p=>(p.1,af E p.2))=some (bA E cs).toArray:=by
    unfold Program.built;simp only[hit,hP,hiz E,hp1,nT hzc];simpa using hfill
   exact run_build w t _ _ (by simpa using hbuilt)
 . rename_i len e;obtain⟨n,hn,hb⟩:=aw.1 hb;obtain⟨cs,hc,hb⟩:=aw.1 hb
   cases hb;obtain⟨ie,hie,rfl⟩:=ok.siz _ _ (cZ.1 hn);have hfill:=CQ (E:=E) (place:=fun i=>some (i*ie.size,ie.size)) ps _ zc cs ⟨by simp,fun i hi p q hp hq=>by
    rw[Az,hp]at hq
    cases hq;exact⟨rfl,rfl⟩⟩ hc
   have hbuilt:P.built t (ps.map fun p=>(p.1,af E p.2))=some (bA E cs).toArray:=by
    unfold Program.built;simp only[hit,hP,hiz E,hie,nT hzc];exact hfill
   exact run_build w t _ _ (by simpa using hbuilt)
 . cases hb
theorem Rh (H:bN E h K w) {t:TypeId} {len:Nat} {ps:List (Nat×AV)} {v:AV} {h':AH} (hb:buildSlice tab h t len ps= .ok (v,h'))
   (hE:E.bh h.next=w.heap.size):
   h'.next=h.next+1/\ ∃w',(Instr.buildSlice t len (ps.map fun p=>(p.1,af E p.2)).toArray).run P w= .ok (af E v) w'/\bN E h' K w'/\Kept K w w':=by
 unfold buildSlice at hb;obtain⟨u,hu,hb⟩:=aw.1 hb;have hP:=ok.und t u (cZ.1 hu);split at hb
 . rename_i e;obtain⟨n,hn,hb⟩:=aw.1 hb;obtain⟨_,hc,hb⟩:=aw.1 hb;obtain⟨z,hz,hb⟩:=aw.1 hb;obtain⟨zc,hzc,hb⟩:=aw.1 hb;obtain⟨_,hzl,hb⟩:=aw.1 hb;obtain⟨cs,hf,hb⟩:=aw.1 hb;obtain⟨⟨h1,b⟩,hr,hb⟩:=aw.1 hb
   cases hb;have hc:=Al (ew.1 hc);have hzl:=Ag (ew.1 hzl);obtain⟨n',_,rfl,rfl⟩:=iP hr;have hfill:=CQ (E:=E) (place:=fun i=>some (i*n,n)) ps _ (rep len zc) cs ⟨by simp,fun i hi p q hp hq=>by
     rw[Az,hp]at hq
     cases hq;exact⟨rfl,rfl⟩⟩ hf
   have hmade:((Array.range (len*n)).map fun i=>(if len*n=0 then #[]else(bA E zc).toArray)[i % (if len*n=0 then #[]else(bA E zc).toArray).size]!)=(bA E (rep len zc)).toArray:=by
     rw[uh];by_cases h0:len*n=0
     . rw[h0];have:gO len (bA E zc)=[]:=AP (by rw[zx,bP,hzl];exact h0);simp[this]
     . simp only[if_neg h0];have hn0:0<n:=EM (fun e=>h0 (by rw[e];simp));have:=Iz len (bA E zc) (by rw[bP,hzl];exact hn0);rw[bP,hzl]at this;exact this
   obtain⟨H',hk⟩:=Cp H hE cs e n';refine⟨rfl,_,?_,H',hk⟩;unfold Instr.buildSlice;simp only[Sem.run_bind,underlying,run_program,Result.andThen_ok,hP,Sem.run_pure,kG ok hn];rw[if_neg (by omega)];by_cases h0:len*n=0
   . simp only[if_pos h0]at hmade⊢;simp only[Sem.run_bind,Sem.run_pure,Result.andThen_ok];rw[hmade,hfill];simp only[Sem.run_bind,qn,Result.andThen_ok,Sem.run_pure,af,gi.val,hE]
   . simp only[if_neg h0]at hmade⊢;simp only[Sem.run_bind,uG ok hz E,Sem.run_pure,Result.andThen_ok,nT hzc];rw[hmade,hfill];simp only[Sem.run_bind,qn,Result.andThen_ok,Sem.run_pure,af,gi.val,hE]
 . cases hb
theorem Rv (H:bN E h K w) {t:TypeId} {len cap v:AV} {h':AH} (hb:makeSlice tab h t len cap= .ok (v,h')) (hE:E.bh h.next=w.heap.size):
   h'.next=h.next+1/\ ∃w',(Instr.makeSlice t (af E len) (af E cap)).run P w= .ok (af E v) w'/\bN E h' K w'/\Kept K w w':=by
 unfold makeSlice at hb;obtain⟨u,hu,hb⟩:=aw.1 hb;have hP:=ok.und t u (cZ.1 hu);split at hb
 . rename_i e;obtain⟨l,hl,hb⟩:=aw.1 hb;obtain⟨c,hc,hb⟩:=aw.1 hb;obtain⟨by_,hby,hb⟩:=aw.1 hb;obtain⟨_,hlim,hb⟩:=aw.1 hb;obtain⟨n,hn,hb⟩:=aw.1 hb;obtain⟨z,hz,hb⟩:=aw.1 hb;obtain⟨zc,hzc,hb⟩:=aw.1 hb;obtain⟨_,hzl,hb⟩:=aw.1 hb;obtain⟨⟨h1,b⟩,hr,hb⟩:=aw.1 hb
   cases hb;have hlim:=ew.1 hlim;simp only[Aa]at hlim;have hl1:=Al hlim.1.1;have hl2:=Al hlim.1.2;have hl3:=Al hlim.2;have hzl:=ew.1 hzl;simp only[Aa]at hzl;have hzl1:=Ag hzl.1;have hn0:0<n:=EM (by rintro rfl;simp at hzl);obtain⟨n',_,rfl,rfl⟩:=iP hr;obtain⟨kl,rfl⟩:=qv hl;obtain⟨kc,rfl⟩:=qv hc;obtain⟨i,hi,rfl⟩:=ok.siz _ _ (cZ.1 hn);obtain⟨i',hi',hz'⟩:=ok.ly _ _ (cZ.1 hz);rw[hi]at hi';cases hi';obtain⟨i',hi',hby'⟩:=ok.byt _ _ (cZ.1 hby);rw[hi]at hi';cases hi';obtain⟨H',hk⟩:=Cp H hE (rep c zc) e n';refine⟨rfl,_,?_,H',hk⟩;have hbc:(i.bytes:Int)*(c:Int)<=281474976710656:=by
    rw[hby'];have h3:((by_*c:Nat):Int)<=((16777216:Nat):Int):=Int.ofNat_le.2 hl3;rw[Int.natCast_mul]at h3;omega
   have hrun:=run_make (P:=P) w t e i (af E z) hP hi (hz' E) kl kc l c (by omega) (by omega) hbc (by omega);simp only[af];rw[hrun];simp only[Dv,nT hzc,gi.val,hE,uh];have:=Iz c (bA E zc) (by rw[bP,hzl1];exact hn0);rw[bP,hzl1]at this;rw[this]
 . cases hb
end
end
section
variable [Inhabited aL]
section
variable {P:Program} {tab:bB} (ok:bU P tab) {E:Env} {h:AH} {K:KS} {w:World}
def gx (o:Option Value) (d n:Nat):Prop:=
 match o with
 |none=>n=d
 |some v=>∃k,v= .int k (n:Int)
theorem oK (k:IntKind) (n y:Nat) (code:BoundsCode) (hn:n<=y):(Instr.sliceBound (.int k (n:Int)) y code).run P w= .ok n w:=by
 have:=run_sliceBound (P:=P) w k (n:Int) y code (by omega) (by omega);simpa using this
theorem tV {isSlice:Bool} {len cap l u m:Nat} {lo hi mx:Option Value} (hl:gx lo 0 l) (hu:gx hi len u) (hm:gx mx cap m)
  (hs:mx=none\/ ∃v,hi=some v) (h1:l<=u) (h2:u<=m) (h3:m<=cap):(Instr.sliceBounds isSlice len cap lo hi mx).run P w= .ok (l,u,m) w:=by
 unfold Instr.sliceBounds
 cases mx with
 | none=>
  simp only[gx]at hm;subst hm
  cases hi with
  |none=>
   simp only[gx]at hu;subst hu
   cases lo with
   |none=>simp only[gx]at hl;subst hl;simp
   |some v=>obtain⟨k,rfl⟩:=hl;simp[oK k l u _ h1]
  |some v=>
   obtain⟨k,rfl⟩:=hu
   cases lo with
   |none=>simp only[gx]at hl;subst hl;simp[oK k u m _ h2]
   |some v=>obtain⟨k',rfl⟩:=hl;simp[oK k u m _ h2,oK k' l u _ h1]
 |some v=>
  obtain⟨km,rfl⟩:=hm;obtain⟨v',rfl⟩:=hs.resolve_left (by simp);obtain⟨k,rfl⟩:=hu
  cases lo with
  |none=>simp only[gx]at hl;subst hl;simp[oK km m cap _ h3,oK k u m _ h2]
  |some v=>obtain⟨k',rfl⟩:=hl;simp[oK km m cap _ h3,oK k u m _ h2,oK k' l u _ h1]
theorem l3 {ts:T AV} {ρ:Operand->Value} (hρ:∀x v,ev ts x= .ok v->ρ x=af E v) {d:R Nat} {dn:Nat} (hd:d= .ok dn) {o:Option Operand} {n:Nat}
  (hn:fH ts d o= .ok n):gx (o.map ρ) dn n:=by
 cases o with
 |none=>simp only[fH]at hn;rw[hd]at hn;cases hn;exact rfl
 |some x=>
  simp only[fH]at hn;obtain⟨v,hv,hn⟩:=aw.1 hn;obtain⟨k,rfl⟩:=qv hn;exact⟨k,by rw[hρ x _ hv];rfl⟩
theorem JB (s:List UInt8) (l u:Nat):(⟨s.toArray⟩:ByteArray).extract l u=⟨((s.drop l).take (u - l)).toArray⟩:=by
 apply Fk;simp[ByteArray.data_extract,Fg]
theorem Ca (H:bN E h K w) {b c:Nat} {cap:gi} (hc:capLow h b cap= .ok c):c<=cap.val (E.cap b):=by
 cases cap with
 |lit n=>simp only[capLow]at hc;cases hc;exact Ai _
 | tail k=>
  simp only[capLow]at hc;obtain⟨⟨cs,e,sz,ext,bk⟩,h1,hc⟩:=aw.1 hc;obtain⟨_,h2,hc⟩:=aw.1 hc
  cases hc;have h2:=ew.1 h2;simp only[Aa]at h2;obtain⟨hx,hz⟩:=h2;have hz0:0<sz:=EM (by rintro rfl;simp at hz);obtain⟨arr,fz,_,⟨rest,harr⟩,hsz,_⟩:=H.cells (hZ h1);rw[if_pos hx]at hsz;have hl:=Ap List.length harr;simp at hl;have:cs.length / sz<=E.cap b:=by
   rw[Nat.div_le_iff_le_mul_add_pred hz0];have:cs.length<=E.cap b*sz:=by omega
   rw[Nat.mul_comm]at this;omega
  show cs.length / sz - k<=E.cap b - k
  omega
include ok
theorem Sq (H:bN E h K w) {ts:T AV} {ρ:Operand->Value} (hρ:∀x v,ev ts x= .ok v->ρ x=af E v) {t:TypeId} {x v:AV} {h':AH} {lo hi mx:Option Operand}
   (hs:jU tab ts h t x lo hi mx= .ok (v,h')):
   h'=h/\(Instr.sliceAt t (af E x) (lo.map ρ) (hi.map ρ) (mx.map ρ)).run P w= .ok (af E v) w:=by
 unfold jU at hs;obtain⟨d,hd,hs⟩:=aw.1 hs;have hP:=ok.und t d (cZ.1 hd);split at hs
 . rename_i s _;obtain⟨_,hm,hs⟩:=aw.1 hs;obtain⟨l,hl,hs⟩:=aw.1 hs;obtain⟨u,hu,hs⟩:=aw.1 hs;obtain⟨_,hb,hs⟩:=aw.1 hs
   cases hs;have hm:=ew.1 hm
   cases mx with
   |some x=>simp at hm
   | none=>
     have hb:=ew.1 hb;rw[Aa]at hb;have hb1:=Al hb.1;have hb2:=Al hb.2;refine⟨rfl,?_⟩;rw[run_sliceAt_string (P:=P) w t _ _ _ _ hP];unfold Instr.slice;simp only[Sem.run_bind,underlying,run_program,Result.andThen_ok,hP,Sem.run_pure,af,Da,Bc,Ak,AB,sS];rw[tV (l3 hρ rfl hl) (l3 hρ rfl hu) (show gx none s.length s.length from rfl) (.inl rfl) hb1 hb2 (Ai _)];simp[JB]
 . rename_i e _;have hel:P.elem t=e:=by simp[Program.elem,hP]
   obtain⟨n,hn,hs⟩:=aw.1 hs;obtain⟨l,hl,hs⟩:=aw.1 hs;obtain⟨u,hu,hs⟩:=aw.1 hs;obtain⟨m,hm,hs⟩:=aw.1 hs;obtain⟨_,hb,hs⟩:=aw.1 hs
   cases hs;have hb:=ew.1 hb;simp only[Aa,BF]at hb;have hb1:=Ag hb.1.1.1;have hb2:=Ag hb.1.1.2;have hb3:=Ag hb.1.2;subst hb1 hb2 hb3;refine⟨rfl,?_⟩;have hmx:mx.map ρ=none\/ ∃v,hi.map ρ=some v:=by
     rcases hb.2 with h|h
     . left;cases mx<;>simp_all
     . right;cases hi<;>simp_all
   rw[run_sliceAt_slice (P:=P) w t _ _ _ _ (by rw[hel];exact hP)];simp only[af];rw[run_slice_any (P:=P) w t none 0 0 (by rw[hel];exact hP),hel,
     tV (l3 hρ rfl hl) (l3 hρ rfl hu) (l3 hρ rfl hm) hmx (Ai _) (Ai _) (Ai _),Result.andThen_ok,kG ok hn]
   simp[sliced]
 . rename_i e b off len cap _;have hel:P.elem t=e:=by simp[Program.elem,hP]
   obtain⟨c,hc,hs⟩:=aw.1 hs;obtain⟨n,hn,hs⟩:=aw.1 hs;obtain⟨l,hl,hs⟩:=aw.1 hs;obtain⟨u,hu,hs⟩:=aw.1 hs;have hcap:=Ca H hc;have hgo:∀m,gx (mx.map ρ) (cap.val (E.cap b)) m->(mx.map ρ=none\/ ∃v,hi.map ρ=some v)->l<=u->u<=m->m<=cap.val (E.cap b)->
       (Instr.sliceAt t (af E (.sl b off len cap)) (lo.map ρ) (hi.map ρ) (mx.map ρ)).run P w=
         .ok (.slice (some ⟨E.bh b,if m=l then off else off+l*n,none⟩) (u - l) (m - l)) w:=by
     intro m hm hmx h1 h2 h3;rw[run_sliceAt_slice (P:=P) w t _ _ _ _ (by rw[hel];exact hP)];simp only[af];rw[run_slice_any (P:=P) w t _ _ _ (by rw[hel];exact hP),hel,
       tV (l3 hρ rfl hl) (l3 hρ rfl hu) hm hmx h1 h2 h3,Result.andThen_ok,kG ok hn,Result.andThen_ok]
     simp only[sliced];by_cases e:m=l
     . simp[e]
     . simp[e,add_lit]
   split at hs
   . obtain⟨m,hm,hs⟩:=aw.1 hs;obtain⟨_,hb,hs⟩:=aw.1 hs
     cases hs;have hb:=ew.1 hb;simp only[Aa]at hb;have hb1:=Al hb.1.1.1;have hb2:=Al hb.1.1.2;have hb3:=Al hb.1.2;refine⟨rfl,?_⟩;have hm':gx (Option.map ρ (some ‹Operand›)) (cap.val (E.cap b)) m:=by
       have:=l3 hρ rfl hm;exact this
     rw[hgo m hm' (.inr (by cases hi<;>simp_all)) hb1 hb2 (by omega)];simp only[af,gi.val];by_cases e:m=l
     . simp[e]
     . have:Nat.beq m l=false:=Av.2 (fun h=>e (Ag h));simp[e,this]
   . cases cap with
     | lit m=>
       obtain⟨_,hb,hs⟩:=aw.1 hs
       cases hs;have hb:=ew.1 hb;simp only[Aa]at hb;have hb1:=Al hb.1;have hb2:=Al hb.2;refine⟨rfl,?_⟩;rw[hgo m rfl (.inl rfl) hb1 hb2 (Ai _)];simp only[af,gi.val];by_cases e:m=l
       . simp[e]
       . have:Nat.beq m l=false:=Av.2 (fun h=>e (Ag h));simp[e,this]
     | tail k=>
       obtain⟨_,hb,hs⟩:=aw.1 hs;have hb:=ew.1 hb;simp only[Aa]at hb;have hb1:=Al hb.1;have hb2:=Al hb.2;have hcap':c<=E.cap b - k:=hcap;have hgo':=hgo (E.cap b - k) rfl (.inl rfl) hb1 (by omega) (Ai _);by_cases h0:Nat.beq l 0=true
       . rw[h0]at hs
         cases hs;have:=Ag h0;subst this;refine⟨rfl,?_⟩;rw[hgo'];simp[af,gi.val]
       . have h0':Nat.beq l 0=false:=Av.2 h0;rw[h0']at hs;by_cases h1:Nat.blt l c=true
         . simp only[AS,h1,Bh]at hs
           cases hs;have hlt:l<c:=Al h1;refine⟨rfl,?_⟩;rw[hgo'];simp only[af,gi.val];rw[if_neg (by omega)];congr 2
           omega
         . have h1':Nat.blt l c=false:=Av.2 h1;simp only[AS,h1']at hs
           cases hs;have hge:¬l<c:=fun h=>h1 (DY h)
           refine⟨rfl,?_⟩;rw[hgo'];simp only[af];congr 2
           omega
 . rename_i e a c _;have hel:P.elem t=e:=by simp[Program.elem,hP]
   obtain⟨n,hn,hs⟩:=aw.1 hs;obtain⟨l,hl,hs⟩:=aw.1 hs;obtain⟨u,hu,hs⟩:=aw.1 hs;obtain⟨_,hb,hs⟩:=aw.1 hs
   cases hs;have hb:=ew.1 hb;simp only[Aa]at hb;have hb1:=Ag hb.1.1;have hb2:=Ag hb.1.2;subst hb1 hb2;have hm:mx=none:=by cases mx<;>simp_all
   subst hm;refine⟨rfl,?_⟩;rw[run_sliceAt_slice (P:=P) w t _ _ _ _ (by rw[hel];exact hP)];simp only[af];rw[run_slice_any (P:=P) w t _ _ _ (by rw[hel];exact hP),hel,
     tV (l3 hρ rfl hl) (l3 hρ rfl hu) (show gx (Option.map ρ (none:Option Operand)) c c from rfl) (.inl rfl) (Ai _) (Aw _) (Ai _),Result.andThen_ok,kG ok hn]
   cases a<;>simp[sliced,Addr.add]
 . rename_i e b off l0 n0 k _;have hel:P.elem t=e:=by simp[Program.elem,hP]
   obtain⟨n,hn,hs⟩:=aw.1 hs;obtain⟨l,hl,hs⟩:=aw.1 hs;obtain⟨u,hu,hs⟩:=aw.1 hs;obtain⟨_,hb,hs⟩:=aw.1 hs
   cases hs;have hb:=ew.1 hb;simp only[Aa]at hb;have hb1:=Ag hb.1.1;have hb2:=Ag hb.1.2;subst hb1 hb2;have hm:mx=none:=by cases mx<;>simp_all
   subst hm;refine⟨rfl,?_⟩;rw[run_sliceAt_slice (P:=P) w t _ _ _ _ (by rw[hel];exact hP)];simp only[af];rw[run_slice_any (P:=P) w t _ _ _ (by rw[hel];exact hP),hel,
     tV (l3 hρ rfl hl) (l3 hρ rfl hu) (show gx (Option.map ρ (none:Option Operand)) (E.cap b - k - l0) (E.cap b - k - l0)from rfl) (.inl rfl) (Ai _) (Aw _) (Ai _),Result.andThen_ok,kG ok hn]
   simp[sliced,Addr.add]
 . cases hs
end
end
section
variable [Inhabited aL]
section
variable {P:Program} {tab:bB} (ok:bU P tab) {E:Env} {h:AH} {K:KS} {w:World}
theorem Il (E:Env) (s:List UInt8):bA E (l7 s)=s.map fun b=>Value.int .u8 b.toNat:=by
 simp only[l7,pF,BJ];rfl
theorem tY {cs:List AV} {s:List UInt8} (hb:bytesOf cs= .ok s):
  ∃ns:List Int,bA E cs=ns.map (Value.int .u8)/\ns.map (fun n=>UInt8.ofNat n.toNat)=s:=by
 induction cs generalizing s with
 |nil=>simp only[bytesOf]at hb;cases hb;exact⟨[],rfl,rfl⟩
 |cons c cs ih=>
  unfold bytesOf at hb;split at hb
  . rename_i e;cases e
  . rename_i n l e
    cases e;obtain⟨r,hr,hb⟩:=aw.1 hb
    cases hb;obtain⟨ns,h1,h2⟩:=ih hr;exact⟨(n:Int)::ns,by simp[h1,af],by simp[h2]⟩
  . cases hb
def x9:AV->Nat
 | .str s=>s.length
 |_=>0
theorem S1 (ns:List Int):∀(r:List UInt8),ns.foldl (fun(r:ByteArray) n=>r.push (UInt8.ofNat n.toNat)) ⟨r.toArray⟩=⟨(r++ns.map fun n=>UInt8.ofNat n.toNat).toArray⟩:=by
 induction ns with
 |nil=>intro r;simp
 | cons n ns ih=>
  intro r;simp only[Bt];have:(⟨r.toArray⟩:ByteArray).push (UInt8.ofNat n.toNat)=⟨(r++[UInt8.ofNat n.toNat]).toArray⟩:=by
   apply Fk;simp[ByteArray.push]
  rw[this,ih];simp
theorem Sp (w:World) (arr:Array Value) (e:TypeId) (fz:Nat×Nat):(w.alloc (.cells arr e fz)).shape? w.heap.size=some (e,arr.size):=by
 unfold World.shape?
 rw[heap_alloc_new]
theorem RE (w:World) (arr:Array Value) (e:TypeId) (n:Nat):
   (w.alloc (.cells arr e)).freeze {block:=w.heap.size,off:=n} 1=w.alloc (.cells arr e (n,n+1)):=by
 unfold World.freeze World.alloc;simp only[Nat.one_ne_zero,AB];congr 1
 apply EY
 . simp
 . intro i h1 h2;rw[EI,Array.getElem_push,Array.getElem_push];by_cases h:i<w.heap.size
   . simp[h];omega
   . have:i=w.heap.size:=by simp at h2;omega
     simp[this]
include ok
theorem RR (H:bN E h K w) {src dst:TypeId} {x v:AV} {h':AH} (hc:convert tab h src dst x= .ok (v,h'))
   (hE:h.next<h'.next->E.bh h.next=w.heap.size/\E.cap h.next=grownCap w (x9 x) 0 (P.elem dst)):
   (h.next<=h'.next/\h'.next<=h.next+1)/\ ∃w',(Go.convert src dst (af E x)).run P w= .ok (af E v) w'/\bN E h' K w'/\Kept K w w':=by
 unfold convert at hc;obtain⟨a,ha,hc⟩:=aw.1 hc;obtain⟨b,hb,hc⟩:=aw.1 hc;have hPa:=ok.und src a (cZ.1 ha);have hPb:=ok.und dst b (cZ.1 hb);split at hc
 . cases hc;refine⟨by omega,w,?_,H,Kept.refl K w⟩;simp only[af];unfold Go.convert;simp[underlying,hPa,hPb,Conv.intToInt]
 . cases hc;refine⟨by omega,w,?_,H,Kept.refl K w⟩;simp only[af];unfold Go.convert;simp[underlying,hPa,hPb]
 . rename_i e s _ _;obtain⟨d,hd,hc⟩:=aw.1 hc;have hPe:=ok.und e d (cZ.1 hd);split at hc
   . obtain⟨n,hn,hc⟩:=aw.1 hc;obtain⟨_,h1,hc⟩:=aw.1 hc;obtain⟨⟨h2,b2⟩,hr,hc⟩:=aw.1 hc
     cases hc;obtain⟨n',hn',rfl,rfl⟩:=iP hr;rw[hn]at hn';cases hn';have h1:=Ag (ew.1 h1);subst h1;have hel:P.elem dst=e:=by simp[Program.elem,hPb]
     obtain⟨hE1,hE2⟩:=hE (by simp);rw[hel]at hE2;simp only[x9]at hE2;have hge:=grownCap_ge w s.length 0 e;have hrun:(Go.convert src dst (af E (.str s))).run P w= .ok (.slice (some ⟨w.heap.size,0,none⟩) s.length (grownCap w s.length 0 e))
         (w.drew.alloc (.cells ((s.map fun b=>Value.int .u8 b.toNat).toArray++Array.replicate (grownCap w s.length 0 e - s.length) (.int .u8 0)) e (grownCap w s.length 0 e,grownCap w s.length 0 e+1))):=by
       simp only[af];unfold Go.convert;have hq:(Question.appendCap s.length 0 e).cut (w.tape w.drawn (.appendCap s.length 0 e))=grownCap w s.length 0 e:=rfl;simp only[Sem.run_bind,underlying,run_program,Result.andThen_ok,hPa,hPb,hPe,Sem.run_pure,Conv.stringToBytes,run_choose,Question.forced,Ak,AB,qn,markStringish,run_shape,sS,hq,World.drew_eq,World.size_drew];generalize grownCap w s.length 0 e=cp at*
       have harr:(Array.map (fun b=>Value.int .u8 b.toNat) s.toArray++Array.replicate (cp - s.length) (Value.int .u8 0)).size=cp:=by
         simp;omega
       have harr2:Array.map (fun b=>Value.int .u8 b.toNat) s.toArray=(s.map fun b=>Value.int .u8 b.toNat).toArray:=by simp
       rw[<-harr2];generalize Array.map (fun b=>Value.int .u8 b.toNat) s.toArray++Array.replicate (cp - s.length) (Value.int .u8 0)=arr at*
       have e1:=Sp w.drew arr e (0,0);rw[World.size_drew]at e1;rw[e1];simp only[harr,run_freeze,Result.andThen_ok];have e2:=RE w.drew arr e cp;rw[World.size_drew]at e2;rw[e2]
     have hv:af E (.sl h.next 0 s.length (.tail 0))= .slice (some ⟨w.heap.size,0,none⟩) s.length (grownCap w s.length 0 e):=by
       simp[af,gi.val,hE1,hE2]
     rw[<-hv]at hrun;refine⟨by simp,_,hrun,H.drew.new (by simpa using hE1) ?_,(Kept.drew K w).trans (Kept.alloc (by simpa using H.kb) _)⟩
     . refine⟨_,_,rfl,⟨_,by rw[Array.toList_append,Dy,Il]⟩,?_,?_⟩
       . simp[hE2];omega
       . simp only[lN,Array.size_append,BC,Bf,Array.size_replicate];congr 1<;>omega
   . cases hc
 . rename_i e _ hns;obtain⟨d,hd,hc⟩:=aw.1 hc;have hPe:=ok.und e d (cZ.1 hd);split at hc
   . cases hc;refine⟨by omega,w,?_,H,Kept.refl K w⟩;simp only[af];rw[run_convert_bytes_string w src dst e _ _ _ hPa hPe hPb];simp[Conv.bytesToString];rfl
   . obtain⟨cs,hcs,hc⟩:=aw.1 hc;obtain⟨s,hs,hc⟩:=aw.1 hc
     cases hc;refine⟨by omega,w,?_,H,Kept.refl K w⟩;obtain⟨ns,h1,h2⟩:=tY (E:=E) hs;simp only[af];rw[run_convert_bytes_string w src dst e _ _ _ hPa hPe hPb,run_bytesToString w _ _ _ ns (by rw[<-h1];exact H.fR hcs)];have:=S1 ns [];rw[show(⟨([]:List UInt8).toArray⟩:ByteArray)=ByteArray.empty from rfl]at this;rw[this,h2];rfl
   . cases hc;refine⟨by omega,w,?_,H,Kept.refl K w⟩;simp only[af];rw[run_convert_bytes_string w src dst e _ _ _ hPa hPe hPb];simp[Conv.bytesToString,loadCells,loadCellsFrom];rfl
   . cases hc;refine⟨by omega,w,?_,H,Kept.refl K w⟩;rename_i a _ _ _;simp only[af];rw[run_convert_bytes_string w src dst e _ _ _ hPa hPe hPb]
     cases a<;>simp[Conv.bytesToString,loadCells,loadCellsFrom]<;>rfl
   . cases hc
 . rename_i e b off n c _ _;obtain⟨d,hd,hc⟩:=aw.1 hc;have hPe:=ok.und e d (cZ.1 hd);split at hc
   . rename_i heq;obtain⟨⟨cs,e',sz,ext,bk⟩,hcs,hc⟩:=aw.1 hc;obtain⟨_,hro,hc⟩:=aw.1 hc
     cases hc;have hro:bk≠ .ro/\bk≠ .cold:=by simpa using ew.1 hro
     have hcs:=hZ hcs;have heq:=Ag heq;subst heq
     cases hPa.symm.trans hPb;obtain⟨arr,fz,hh,hpre,hsz,hm⟩:=H.cells hcs;have hnr:¬(AO.cells cs e' sz ext bk).ro:=by cases bk<;>simp_all[AO.ro]
     have hfz:w.freeze {block:=E.bh b,off:=arr.size} 1=w.put (E.bh b) (.cells arr e' (arr.size,arr.size+1)):=by
       unfold World.freeze World.put;simp only[Nat.one_ne_zero,AB];congr 1
       have he:=(Ae.1 hh).2;apply EY
       . simp
       . intro j h1 h2;rw[EI,DD (by simpa using h2)];by_cases ej:E.bh b=j
         . subst ej;simp only[if_true,he]
           cases bk with
           |rw=>simp only[lN]at hm;subst hm;simp
           |mark=>simp only[lN]at hm;subst hm;simp
           |any=>simp only[lN]at hm;rcases hm with hm|hm<;>subst hm<;>simp
           |ro=>exact absurd rfl hro.1
           |cold=>exact absurd rfl hro.2
         . simp[ej]
     refine⟨by simp,_,?_,H.put hcs hnr ⟨arr,(arr.size,arr.size+1),rfl,hpre,hsz,rfl⟩,H.dR hcs hnr _⟩;simp only[af];unfold Go.convert;have hshape:w.shape? (E.bh b)=some (e',arr.size):=by simp[World.shape?,hh]
     simp only[Sem.run_bind,underlying,run_program,Result.andThen_ok,hPa,hPe,Sem.run_pure,Ey,markStringish,run_shape,hshape,run_freeze,hfz]
   . cases hc
 . cases hc
end
end
section
variable [Inhabited aL]
section
variable {P:Program} {tab:bB} (ok:bU P tab) {E:Env} {h:AH} {K:KS} {w:World}
theorem Jo {n m:Nat} {y:AV} {news:List AV} (hs:source h n y= .ok (m,news)):
  news.length=m*n/\(∀w:World,(Builtin.lenOf (af E y)).run P w= .ok m w)/\
  ∀w:World,bN E h K w->∀k,k<=m->(Builtin.firstCells n k (af E y)).run P w= .ok (bA E (news.take (k*n))).toArray w:=by
 cases y<;>simp only[source]at hs<;>(try cases hs)
 case str s=>
  obtain⟨_,h1,hsz⟩:=aw.1 hs;clear hs;have hs:=hsz;clear hsz
  cases hs;have h1:=Ag (ew.1 h1);subst h1;refine⟨by simp[l7],fun w=>by simp[af,Builtin.lenOf,sS],fun w _ k hk=>?_⟩;simp only[af,Builtin.firstCells,JB,Sem.run_pure,FB,List.drop_zero,Dc,tZ,Il];simp[Ex]
 case nils=>
  refine⟨by simp,fun w=>by simp[af,Builtin.lenOf],fun w _ k hk=>by simp[af,Builtin.firstCells]⟩
 case sl b off len cap=>
  obtain⟨cs,hcs,hsz⟩:=aw.1 hs;clear hs;have hs:=hsz;clear hsz
  cases hs;obtain⟨cs0,e,sz,ext,bk,hc,hl,rfl⟩:=LD hcs;refine⟨by simp;omega,fun w=>by simp[af,Builtin.lenOf],fun w H k hk=>?_⟩;simp only[af,Builtin.firstCells];have hk':k*n<=m*n:=BA _ hk;have hr:readN h b off (k*n)= .ok ((cs0.drop off).take (k*n)):=by
   unfold readN jT;rw[hc];simp only[aw];exact⟨_,rfl,(),by rw[ew];exact DY (show off+k*n<=cs0.length by omega),rfl⟩
  rw[H.fR hr];congr 2
  rw[List.take_take];congr 1
  rw[E3 hk']
 case emp b off l n' k'=>
  refine⟨by simp,fun w=>by simp[af,Builtin.lenOf],fun w _ k hk=>?_⟩;have:k=0:=by omega
  subst this;simp[af,Builtin.firstCells,loadCells,loadCellsFrom]
 case raw v=>
  have key:∃a c,v= .slice a 0 c/\m=0/\news=[]:=by
   split at hs
   all_goals first
    |(rename_i hv;cases hv;cases hs;exact⟨_,_,rfl,rfl,rfl⟩)
    |(rename_i hv;cases hv;done)
    |(cases hs;done)
  obtain⟨a,c,rfl,rfl,rfl⟩:=key;refine⟨by simp,fun w=>by simp[af,Builtin.lenOf],fun w _ k hk=>?_⟩;have:k=0:=by omega
  subst this
  cases a<;>simp[af,Builtin.firstCells,loadCells,loadCellsFrom]
theorem R9 {argTypes:Array TypeId} {t u ty e:TypeId} {du:TypeDesc} {i:TypeInfo} (h0:argTypes[0]? =some t) (h1:argTypes[1]? =some u)
  (ht:P.underlying t=some (.slice e)) (hu:P.underlying u=some du) (hnz:∀k,du≠ .int k) (hi:P.info? e=some i)
  {base:Option Addr} {sLen sCap m:Nat} {Y:Value} {news:Array Value} (hlen:(Builtin.lenOf Y).run P w= .ok m w)
  (hf:(Builtin.firstCells i.size m Y).run P w= .ok news w) (hroom:sLen+m<=sCap):
  (Builtin.append_ argTypes ty #[.slice base sLen sCap,Y]).run P w=
   (match base with
    |none=>(Result.ok () w:Result Unit)
    |some a=>(storeCells (a.add (sLen*i.size)) news.toList).run P w).andThen fun _ w'=> .ok (.slice base (sLen+m) sCap) w':=by
 unfold Builtin.append_;simp only[h0,h1,AW,AE,AZ];simp only[Sem.run_bind,underlying,run_program,Result.andThen_ok,ht,hu,Sem.run_pure,sizeOf,typeInfo,hi,Ak,AB,hlen,De,if_true,if_pos hroom,hf]
 cases base<;>simp[Result.andThen]
theorem R8 {argTypes:Array TypeId} {t u ty e:TypeId} {du:TypeDesc} {i:TypeInfo} {z:Value} (h0:argTypes[0]? =some t) (h1:argTypes[1]? =some u)
  (ht:P.underlying t=some (.slice e)) (hu:P.underlying u=some du) (hnz:∀k,du≠ .int k) (hi:P.info? e=some i) (hzero:i.zero=some z)
  {base:Option Addr} {sLen sCap m:Nat} {Y:Value} {olds news:Array Value} (hlen:(Builtin.lenOf Y).run P w= .ok m w)
  (hf:(Builtin.firstCells i.size m Y).run P w.drew= .ok news w.drew) (ho:(Builtin.firstCells i.size sLen (.slice base sLen sCap)).run P w.drew= .ok olds w.drew)
  (hroom:¬sLen+m<=sCap) (h63:sLen+m<=16777216) (hb:(sLen+m)*i.bytes<=16777216):
  (Builtin.append_ argTypes ty #[.slice base sLen sCap,Y]).run P w=
   .ok (.slice (some ⟨w.heap.size,0,none⟩) (sLen+m) (grownCap w (sLen+m) sCap e))
    (w.drew.alloc (.cells (olds++news++Builtin.zeroCells z.cells (grownCap w (sLen+m) sCap e - (sLen+m))) e)):=by
 have hfit:=growslice_fits (need:=sLen+m) (old:=sCap) (bytes:=i.bytes) (by omega) (by omega);have h63':¬(((sLen+m:Nat):Int)>IntKind.i64.max/\(False\/i.bytes=0)):=by
  have:IntKind.i64.max=9223372036854775807:=by decide
  rw[this];omega
 have hfit':¬(Builtin.nextslicecap (sLen+m) sCap*i.bytes>2 ^ 48):=by
  have:(2:Nat) ^ 48=281474976710656:=by decide
  rw[this];omega
 have hq:(Question.appendCap (sLen+m) sCap e).cut (w.tape w.drawn (.appendCap (sLen+m) sCap e))=grownCap w (sLen+m) sCap e:=rfl;unfold Builtin.append_;simp only[h0,h1,AW,AE,AZ];simp only[Sem.run_bind,underlying,run_program,Result.andThen_ok,ht,hu,Sem.run_pure,sizeOf,typeInfo,hi,Ak,AB,hlen,De,if_true,if_neg hroom];rw[if_neg (by simpa using h63')];simp only[Sem.run_bind,run_program,Result.andThen_ok,hi,Sem.run_pure];rw[if_neg hfit'];simp only[Sem.run_bind,run_choose,Question.forced,Ak,AB,Result.andThen_ok,hq,World.drew_eq,run_askRoom,ho,hf,zeroValue,typeInfo,run_program,hi,hzero,Sem.run_pure,qn,World.size_drew]
theorem KJ (ok:bU P tab) {e:TypeId} {n:Nat} {u:Unit} (hz:mg tab e n= .ok u):
   ∃z,(∀E,∀i,P.info? e=some i->i.zero=some (af E z))/\ ∀E,(af E z).cells.size=n:=by
 unfold mg at hz;obtain⟨z,h1,hzz⟩:=aw.1 hz;clear hz;have hz:=hzz;clear hzz;obtain⟨zc,h2,hzz⟩:=aw.1 hz;clear hz;have hz:=hzz;clear hzz;have h3:=Ag (ew.1 hz);obtain⟨i,hi,hzz⟩:=ok.ly _ _ (cZ.1 h1);refine⟨z,fun E i' hi'=>?_,fun E=>?_⟩
 . rw[hi]at hi';cases hi';exact hzz E
 . rw[nT h2];simpa using h3
theorem Mn (H:bN E h K w) (hE:E.bh h.next=w.heap.size) (cs:List AV) (e:TypeId) (n c:Nat) {zs:Array Value} (hc:E.cap h.next=c)
  (hs:cs.length+zs.size=c*n):
  bN E (h.new (.cells cs e n true .rw)) K (w.alloc (.cells ((bA E cs).toArray++zs) e))/\Kept K w (w.alloc (.cells ((bA E cs).toArray++zs) e)):=
 ⟨H.new hE ⟨_,_,rfl,⟨zs.toList,by simp⟩,by simp[hc];exact hs,rfl⟩,Kept.alloc H.kb _⟩
theorem VS (H:bN E h K w) (hE:E.bh h.next=w.heap.size) (cs:List AV) (e:TypeId) (n c:Nat) (bk:BK) (hno:bk≠ .ro) (hbk:∀n,lN bk (0,0) n) {zs:Array Value} (hc:E.cap h.next=c)
  (hs:cs.length+zs.size=c*n):
  bN E (h.new (.cells cs e n true bk)) K (w.alloc (.cells ((bA E cs).toArray++zs) e))/\Kept K w (w.alloc (.cells ((bA E cs).toArray++zs) e)):=
 ⟨H.new hE ⟨_,_,rfl,⟨zs.toList,by simp⟩,by simp[hc];exact hs,hbk _⟩ (by cases bk<;>simp_all[AO.ro]),Kept.alloc H.kb _⟩
def od (w:World) (X:Value) (m:Nat) (e:TypeId):Nat×Nat:=
 match X with
 | .slice base n c=>if n+m<=c then((base.map (·.block)).getD 0,c)else(w.heap.size,grownCap w (n+m) c e)
 |_=>(0,0)
structure kL (P:Program) (E:Env) (h:AH) (K:KS) (argTypes:Array TypeId) (ty e:TypeId) (i:TypeInfo) (Y:Value) (m:Nat) (news:List AV):Prop where
 len:news.length=m*i.size
 room:∀(w:World),bN E h K w->∀(base:Option Addr) (sLen sCap:Nat),sLen+m<=sCap->
  (Builtin.append_ argTypes ty #[.slice base sLen sCap,Y]).run P w=
   (match base with
    |none=>(Result.ok () w:Result Unit)
    |some a=>(storeCells (a.add (sLen*i.size)) (bA E news)).run P w).andThen fun _ w'=> .ok (.slice base (sLen+m) sCap) w'
 grow:∀(w:World),bN E h K w->∀(base:Option Addr) (sLen sCap:Nat) (olds:Array Value) (z:Value),i.zero=some z->
  (Builtin.firstCells i.size sLen (.slice base sLen sCap)).run P w.drew= .ok olds w.drew->
  ¬sLen+m<=sCap->sLen+m<=16777216->(sLen+m)*i.bytes<=16777216->
  (Builtin.append_ argTypes ty #[.slice base sLen sCap,Y]).run P w=
   .ok (.slice (some ⟨w.heap.size,0,none⟩) (sLen+m) (grownCap w (sLen+m) sCap e))
    (w.drew.alloc (.cells (olds++(bA E news).toArray++Builtin.zeroCells z.cells (grownCap w (sLen+m) sCap e - (sLen+m))) e))
theorem O3 {argTypes:Array TypeId} {t u ty e:TypeId} {du:TypeDesc} {i:TypeInfo} (h0:argTypes[0]? =some t) (h1:argTypes[1]? =some u)
   (ht:P.underlying t=some (.slice e)) (hu:P.underlying u=some du) (hnz:∀k,du≠ .int k) (hi:P.info? e=some i) {n m:Nat} (hin:i.size=n)
   {y:AV} {news:List AV} (hs:source h n y= .ok (m,news)):kL P E h K argTypes ty e i (af E y) m news:=by
 obtain⟨hnl,hlen,hf⟩:=Jo (P:=P) (E:=E) (K:=K) hs;have hfm:∀w:World,bN E h K w->(Builtin.firstCells i.size m (af E y)).run P w= .ok (bA E news).toArray w:=by
   intro w H;have:=hf w H m (Ai _);rw[Ay (by omega)]at this;rw[hin];exact this
 refine⟨by rw[hin];exact hnl,?_,?_⟩
 . intro w H base sLen sCap hr;rw[R9 h0 h1 ht hu hnz hi (hlen w) (hfm w H) hr]
 . intro w H base sLen sCap olds z hz ho hr h63 hb;exact R8 h0 h1 ht hu hnz hi hz (hlen w) (hfm w.drew H.drew) ho hr h63 hb
theorem O6 {argTypes:Array TypeId} {t u ty e:TypeId} {k:IntKind} {i:TypeInfo} (h0:argTypes[0]? =some t) (h1:argTypes[1]? =some u)
   (ht:P.underlying t=some (.slice e)) (hu:P.underlying u=some (.int k)) (hi:P.info? e=some i) {z:AV} (hz:i.zero=some (af E z)) {zc:List AV} (hzc:z.cells= .ok zc)
   (hzl:zc.length=i.size) (hi0:i.size≠0) {y:AV} {m:Nat} (hy:asNat y= .ok m) (hm:m<=1048576) (hmb:m*i.bytes<=16777216):kL P E h K argTypes ty e i (af E y) m (rep m zc):=by
 obtain⟨ky,rfl⟩:=qv hy;have hzz:Builtin.zeroCells (af E z).cells m=(bA E (rep m zc)).toArray:=by
   rw[nT hzc,uh];exact IY m _ (by simp;omega)
 have hrl:(rep m zc).length=m*i.size:=by
   have:=Ap List.length (uh E m zc);rw[bP,zx,bP,hzl]at this;exact this
 have hwrap:IntKind.i64.wrap (m:Int)=m:=by rw[IntKind.wrap_i64];omega
 have hb48:¬((m:Int)*(i.bytes:Int)>2 ^ 48):=by
   have h3:((m*i.bytes:Nat):Int)<=((16777216:Nat):Int):=Int.ofNat_le.2 hmb;rw[Int.natCast_mul]at h3;omega
 have happ:∀w:World,(if m*i.size=0 then pure #[]else do pure (Builtin.zeroCells (<-zeroValue e).cells m):Sem (Array Value)).run P w= .ok (bA E (rep m zc)).toArray w:=by
   intro w;by_cases h00:m*i.size=0
   . rw[if_pos h00];have:rep m zc=[]:=AP (by rw[hrl,h00]);rw[this];rfl
   . rw[if_neg h00];simp only[Sem.run_bind,zeroValue,typeInfo,run_program,Result.andThen_ok,hi,hz,Sem.run_pure,hzz]
 refine⟨hrl,?_,?_⟩
 . intro w H base sLen sCap hr;unfold Builtin.append_;simp only[h0,h1,AW,AE,AZ];simp only[Sem.run_bind,underlying,run_program,Result.andThen_ok,ht,hu,Sem.run_pure,sizeOf,typeInfo,hi,if_true,af,Go.asInt,Go.asIntOf,hwrap];rw[if_neg (by omega)];simp only[Sem.run_bind,run_program,Result.andThen_ok,hi,Sem.run_pure];rw[if_neg hb48];simp only[Sem.run_bind,Sem.run_pure,Result.andThen_ok,Dv,if_pos hr,BN,Ak,AB];have:=happ w;simp only[zeroValue,typeInfo]at this;simp only[zeroValue,typeInfo];rw[this]
   cases base<;>simp[Result.andThen]
 . intro w H base sLen sCap olds z' hz' ho hr h63 hb;rw[hz]at hz'
   cases hz';have hfit:=growslice_fits (need:=sLen+m) (old:=sCap) (bytes:=i.bytes) (by omega) (by omega);have h63':¬(((sLen+m:Nat):Int)>IntKind.i64.max/\(True\/i.bytes=0)):=by
     have:IntKind.i64.max=9223372036854775807:=by decide
     rw[this];omega
   have hfit':¬(Builtin.nextslicecap (sLen+m) sCap*i.bytes>2 ^ 48):=by
     have:(2:Nat) ^ 48=281474976710656:=by decide
     rw[this];omega
   have hq:(Question.appendCap (sLen+m) sCap e).cut (w.tape w.drawn (.appendCap (sLen+m) sCap e))=grownCap w (sLen+m) sCap e:=rfl;unfold Builtin.append_;simp only[h0,h1,AW,AE,AZ];simp only[Sem.run_bind,underlying,run_program,Result.andThen_ok,ht,hu,Sem.run_pure,sizeOf,typeInfo,hi,if_true,af,Go.asInt,Go.asIntOf,hwrap];rw[if_neg (by omega)];simp only[Sem.run_bind,run_program,Result.andThen_ok,hi,Sem.run_pure];rw[if_neg hb48];simp only[Sem.run_bind,Sem.run_pure,Result.andThen_ok,Dv,if_neg hr,BN,Ak,AB,run_program,hi];rw[if_neg h63'];simp only[Sem.run_bind,run_program,Result.andThen_ok,hi,Sem.run_pure];rw[if_neg hfit'];simp only[Sem.run_bind,run_choose,Question.forced,Ak,AB,Result.andThen_ok,hq,World.drew_eq,run_program,hi,Sem.run_pure,run_askRoom,ho];have:=happ w.drew;simp only[zeroValue,typeInfo]at this;simp only[zeroValue,typeInfo];rw[this];simp only[Sem.run_bind,Result.andThen_ok,run_program,hi,hz,Sem.run_pure,qn,World.size_drew]
include ok
theorem ID (H:bN E h K w) {argTypes:Array TypeId} {ty e:TypeId}
   {n by_ m:Nat} (hn:siz tab e= .ok n) (hn0:n≠0) (hby:tab.byt.get e=some by_)
   {x v:AV} {Y:Value} {news:List AV} {h':AH} (hsrc:∀i,P.info? e=some i->kL P E h K argTypes ty e i Y m news) (ha:bO tab h e n by_ x m news= .ok (v,h'))
   (hE:h.next<h'.next->E.bh h.next=(od w (af E x) m e).1/\E.cap h.next=(od w (af E x) m e).2):
   (h.next<=h'.next/\h'.next<=h.next+1)/\ ∃w',(Builtin.append_ argTypes ty #[af E x,Y]).run P w= .ok (af E v) w'/\bN E h' K w'/\Kept K w w':=by
 obtain⟨i,hi,hin⟩:=ok.siz _ _ (cZ.1 hn);obtain⟨i',hi',hiby⟩:=ok.byt _ _ hby;rw[hi]at hi';cases hi';have hS:=hsrc i hi;have hnl:news.length=m*n:=by rw[<-hin];exact hS.len
 unfold bO at ha;split at ha
 ·
   by_cases hm:Nat.beq m 0=true
   . rw[hm]at ha
     cases ha;have:=Ag hm;subst this;refine⟨by omega,w,?_,H,Kept.refl K w⟩;simp only[af];rw[hS.room w H _ _ _ (by omega)];rfl
   . have hm':Nat.beq m 0=false:=Av.2 hm;rw[hm']at ha;simp only[AS]at ha;obtain⟨_,hc,haz⟩:=aw.1 ha;clear ha;have ha:=haz;clear haz;obtain⟨_,hzo,haz⟩:=aw.1 ha;clear ha;have ha:=haz;clear haz;obtain⟨⟨h2,b2⟩,hr,haz⟩:=aw.1 ha;clear ha;have ha:=haz;clear haz
     cases ha;obtain⟨n',hn',rfl,rfl⟩:=iP hr;rw[hn]at hn';cases hn';have hc:=ew.1 hc;rw[Aa]at hc;have hc1:=Al hc.1;have hc2:=Al hc.2;have hm0:¬m<=0:=fun h=>hm (by rw[EZ.1 h];rfl)
     obtain⟨z,hz,hzl⟩:=KJ ok hzo;have hzi:=hz E i hi;obtain⟨hE1,hE2⟩:=hE (by simp);simp only[af,od,Ax,if_neg hm0]at hE1 hE2;have hrun:=hS.grow w H none 0 0 #[] _ hzi
      (by simp[Builtin.firstCells]) (by omega) (by omega) (by rw[hiby];simpa using hc1)
     simp only[Ax,Array.empty_append]at hrun;obtain⟨H',hk⟩:=Mn (w:=w.drew) H.drew (by simpa using hE1) news e n (grownCap w m 0 e) (zs:=Builtin.zeroCells (af E z).cells (grownCap w m 0 e - m))
      (by rw[hE2]) (by
        have:=grownCap_ge w m 0 e;rw[size_zeroCells,hzl E,hnl,<-BB];congr 1
        omega)
     refine⟨by simp,_,?_,H',(Kept.drew K w).trans hk⟩;simp only[af,gi.val,hE1,hE2,Dc];exact hrun
 . rename_i b off len cap;obtain⟨c,hc,haz⟩:=aw.1 ha;clear ha;have ha:=haz;clear haz;obtain⟨⟨cs,e',sz,ext,bk⟩,hcs,haz⟩:=aw.1 ha;clear ha;have ha:=haz;clear haz;obtain⟨_,hty,haz⟩:=aw.1 ha;clear ha;have ha:=haz;clear haz;obtain⟨_,hsz,haz⟩:=aw.1 ha;clear ha;have ha:=haz;clear haz;have hcap:=Ca H hc;have hcs:=hZ hcs;have hty:=ew.1 hty;rw[Aa]at hty;have hty1:=Ag hty.1;have hty2:=Ag hty.2;subst hty1 hty2;have hsz:=ew.1 hsz;rw[Aa]at hsz;have hsz1:=Al hsz.1;have hsz2:=Al hsz.2;by_cases hroom:Nat.ble (len+m) c=true
   ·
     rw[hroom]at ha;simp only[Bh]at ha;obtain⟨h2,hw,haz⟩:=aw.1 ha;clear ha;have ha:=haz;clear haz
     cases ha;have hle:=Al hroom;obtain⟨w',hst,H',hk⟩:=wP (P:=P) H hw;refine⟨by rw[wC hw];omega,w',?_,H',hk⟩;simp only[af];rw[hS.room w H _ _ _ (by omega)];simp only[add_lit,hin];rw[hst];rfl
   . have hroom':Nat.ble (len+m) c=false:=Av.2 hroom;rw[hroom']at ha;simp only[AS]at ha;obtain⟨_,hold,haz⟩:=aw.1 ha;clear ha;have ha:=haz;clear haz;obtain⟨_,hzo,haz⟩:=aw.1 ha;clear ha;have ha:=haz;clear haz;have hold:=Al (ew.1 hold);obtain⟨z,hz,hzl⟩:=KJ ok hzo;have hzi:=hz E i hi;have hnr:¬len+m<=c:=fun h=>hroom (DY h)
     have hro:∀w:World,bN E h K w->(Builtin.firstCells i.size len (.slice (some ⟨E.bh b,off,none⟩) len (cap.val (E.cap b)))).run P w= .ok (bA E ((cs.drop off).take (len*sz))).toArray w:=by
      intro w H;rw[hin];have hr:readN h b off (len*sz)= .ok ((cs.drop off).take (len*sz)):=by
        unfold readN jT;rw[hcs];simp only[aw];exact⟨_,rfl,(),by rw[ew];exact DY (show off+len*sz<=cs.length by omega),rfl⟩
      exact H.fR hr
     have hol:((cs.drop off).take (len*sz)).length=len*sz:=by simp;omega
     cases cap with
     |lit cn=>
      simp only at ha;obtain⟨⟨h2,b2⟩,hr,haz⟩:=aw.1 ha;clear ha;have ha:=haz;clear haz
      cases ha;obtain⟨n',hn',rfl,rfl⟩:=iP hr;rw[hn]at hn';cases hn';have hcn:c=cn:=by simp only[capLow]at hc;cases hc;rfl
      subst hcn;obtain⟨hE1,hE2⟩:=hE (by simp);simp only[af,od,gi.val,if_neg hnr]at hE1 hE2;have hrun:=hS.grow w H (some ⟨E.bh b,off,none⟩) len c _ _ hzi
        (hro w.drew H.drew) hnr hsz2 (by rw[hiby];exact hsz1)
      obtain⟨H',hk⟩:=Mn (w:=w.drew) H.drew (by simpa using hE1) ((cs.drop off).take (len*sz)++news) e sz (grownCap w (len+m) c e) (zs:=Builtin.zeroCells (af E z).cells (grownCap w (len+m) c e - (len+m)))
        (by rw[hE2]) (by
          have:=grownCap_ge w (len+m) c e;rw[size_zeroCells,hzl E,A5,hol,hnl,<-BB,<-BB];congr 1
          omega)
      refine⟨by simp,_,?_,H',(Kept.drew K w).trans hk⟩;simp only[af,gi.val,hE1,hE2,Dc];rw[hrun];simp
     | tail k=>
      simp only at ha;obtain⟨_,htl,haz⟩:=aw.1 ha;clear ha;have ha:=haz;clear haz;obtain⟨⟨h2,b2⟩,hr,haz⟩:=aw.1 ha;clear ha;have ha:=haz;clear haz
      cases ha;obtain⟨n',hn',rfl,rfl⟩:=iP hr;rw[hn]at hn';cases hn';have htl:=ew.1 htl;simp only[Aa]at htl;obtain⟨⟨⟨⟨⟨htl1,htl2⟩,hext⟩,hbk⟩,hbk2⟩,hone⟩:=htl;have htl1:=Ag htl1;have htl2:=Ag htl2;subst htl1 htl2;have hbk:bk≠ .ro/\bk≠ .cold:=⟨by simpa using hbk,by simpa using hbk2⟩;have hnro:¬(AO.cells cs e sz ext bk).ro:=by cases bk<;>simp_all[AO.ro]
      obtain⟨arr,fz,hh,⟨rest,harr⟩,hasz,hm⟩:=H.cells hcs;rw[if_pos hext]at hasz;have hcl:cs.length<=arr.size:=by
        have:=Ap List.length harr;simp at this;omega
      obtain⟨hE1,hE2⟩:=hE (by simp);simp only[af,od,gi.val,Dc]at hE1 hE2;by_cases hfit:len+m<=E.cap b
      . rw[if_pos hfit]at hE1 hE2;simp only[A8,AU]at hE1 hE2;have hbound:(len+m)*sz<=arr.size:=by rw[hasz];exact BA _ hfit
        rw[BB]at hbound;have hst:=zk (P:=P) (E.bh b) (len*sz) e fz (bA E news) 0 arr w hh (JJ hm hbk) (by simp;omega)
          (by
            intro v hv;rw[pF]at hv;obtain⟨u,hu,rfl⟩:=Au.1 hv;exact IB (AI.1 hone u hu))
        have e1:(arr.toList.take (len*sz+0)++bA E news++arr.toList.drop (len*sz+0+(bA E news).length)).length=arr.size:=by
          simp;omega
        refine⟨by simp,_,?_,H.rename (c:= .cells (arr.toList.take (len*sz+0)++bA E news++arr.toList.drop (len*sz+0+(bA E news).length)).toArray e fz) hcs hnro hE1 ?_ (fun hx=>by cases bk<;>exact hx),H.dR hcs hnro _⟩
        . simp only[af,gi.val,Dc];rw[hS.room w H _ _ _ (by omega)];simp only[add_lit,hin,Ax];rw[hst,AH.fu,hE1,hE2];rfl
        . refine⟨_,fz,rfl,⟨arr.toList.drop (len*sz+0+(bA E news).length),?_⟩,?_,?_⟩
          . simp only[Bw,dQ,tZ,harr];rw[E0 (by simp;omega)]
          . rw[if_pos rfl,BC,e1,hE2];exact hasz
          . rw[BC,e1]
            cases bk with
            |rw=>exact hm
            |mark=>exact .inr hm
            |any=>exact hm
            |ro=>exact absurd rfl hbk.1
            |cold=>exact absurd rfl hbk.2
      . rw[if_neg hfit]at hE1 hE2;have hrun:=hS.grow w H (some ⟨E.bh b,0,none⟩) len (E.cap b) _ _ hzi
          (by have:=hro w.drew H.drew;simpa [gi.val]using this) hfit hsz2 (by rw[hiby];exact hsz1)
        obtain⟨H',hk⟩:=VS (w:=w.drew) (h:=h.kill b) (H.drew.kill b) (by simpa using hE1) (cs.take (len*sz)++news) e sz (grownCap w (len+m) (E.cap b) e)
          bk.grown (by cases bk<;>simp[BK.grown]) (by cases bk<;>simp_all[lN,BK.grown])
          (zs:=Builtin.zeroCells (af E z).cells (grownCap w (len+m) (E.cap b) e - (len+m)))
          (by simpa using hE2) (by
            have:=grownCap_ge w (len+m) (E.cap b) e;rw[size_zeroCells,hzl E,A5,hnl,Bi,E3 (by omega),<-BB,<-BB];congr 1
            omega)
        refine⟨by simp,_,?_,H',(Kept.drew K w).trans hk⟩;simp only[af,gi.val,AH.fu,hE1,hE2,Dc];rw[hrun];simp
 . cases ha
end
end
section
variable [Inhabited aL]
theorem VP {w:World} {g:Nat} {o:Obj} (hg:w.heap[g]? =some o):w.put g o=w:=by
 unfold World.put;have hlt:=(Ae.1 hg).1;have he:=(Ae.1 hg).2;have:w.heap.setIfInBounds g o=w.heap:=by
  apply EY
  . simp
  . intro i h1 h2;rw[DD (by simpa using h2)];split
    . rename_i e;subst e;exact he.symm
    . rfl
 rw[this]
section
variable {P:Program} {tab:bB} (ok:bU P tab) {E:Env} {h:AH} {K:KS} {w:World}
theorem CX {b:Nat} {es:List (AV×AV×Nat)} {c:Nat} (hm:tn h b= .ok (es,c)):h.get b=some (.mp es c):=by
 unfold tn at hm;split at hm
 . rename_i heq;cases hm;exact heq
 . cases hm
theorem bN.map (H:bN E h K w) {b:Nat} {es:List (AV×AV×Nat)} {c:Nat} (hm:h.get b=some (.mp es c)):
  w.heap[E.bh b]? =some (.map (es.map (ml E)).toArray c):=by
 obtain⟨o,h1,h2⟩:=H.obj b _ hm;rw[h1,h2]
theorem wN {b c:Nat} {es:Array MapEntry} (hb:w.heap[b]? =some (.map es c)):(getObj b).run P w= .ok (.map es c) w:=by
 simp[getObj,Sem.run,hb]
theorem zP {b c:Nat} {es:Array MapEntry} (hb:w.heap[b]? =some (.map es c)) (o:Obj):(setObj b o).run P w= .ok () (w.put b o):=by
 simp[setObj,Sem.run,hb,World.put]
include ok
theorem Rl (d:Nat) (empty:Bool) (ck:TypeId->AV->R Unit)
  (hck:∀t v u,ck t v= .ok u->∀w,(Instr.checkKey empty d t (af E v)).run P w= .ok () w) (cs:List AV):
  ∀ (fs:List Field) (u:Unit),ux tab ck cs fs= .ok u->∀w,
    (forIn fs PUnit.unit (fun(f:Field) (_:PUnit)=>(do
     if f.name≠ "_" then
      Instr.checkKey empty d f.type (<-Go.part f.type (bA E cs).toArray f.offset)
      pure (ForInStep.yield PUnit.unit)
     else pure (ForInStep.yield PUnit.unit):Sem (ForInStep PUnit)))).run P w= .ok PUnit.unit w:=by
 intro fs;induction fs with
 |nil=>intro u hu w;rfl
 |cons f fs ih=>
  intro u hu w;simp only[ux]at hu;simp only[List.forIn_cons];by_cases hn:f.name≠ "_"
  . rw[if_pos hn]at hu;obtain⟨x,hx,hu⟩:=aw.1 hu;obtain⟨_,hc,hu⟩:=aw.1 hu;simp only[if_pos hn,Sem.run_bind,uD ok hx,Result.andThen_ok,hck _ _ _ hc,Sem.run_pure];exact ih u hu w
  . rw[if_neg hn]at hu;simp only[if_neg hn,Sem.run_bind,Sem.run_pure,Result.andThen_ok];exact ih u hu w
theorem To (empty:Bool):∀(d:Nat) (t:TypeId) (v:AV) (u:Unit),tb tab d t v= .ok u->∀(k:Nat) (w:World),
  (Instr.checkKey empty (d+k) t (af E v)).run P w= .ok () w:=by
 intro d;induction d with
 |zero=>intro t v u hu;cases hu
 |succ d ih=>
  intro t v u hu k w;simp only[tb]at hu;obtain⟨x,hx,hu⟩:=aw.1 hu;have hP:=ok.und t x (cZ.1 hx);rw[show d+1+k=(d+k)+1 from by omega];split at hu
  . cases hu
  . cases hu
  . rename_i fs cs _;unfold Instr.checkKey;simp only[Sem.run_bind,underlying,run_program,Result.andThen_ok,hP,Sem.run_pure,af];rw[<-Array.forIn_toList];have:=Rl ok (d+k) empty (tb tab d) (fun t v u hu w=>ih t v u hu k w) cs fs.toList u hu w;rw[this];rfl
  . cases hu
  . rename_i h1 h2 h3 h4;unfold Instr.checkKey;simp only[Sem.run_bind,underlying,run_program,Result.andThen_ok,hP,Sem.run_pure];clear hx hP
    cases x<;>first|rfl|exact(h1 _ rfl).elim|exact(h2 _ _ rfl).elim|exact(h4 _ rfl).elim|exact(h3 _ rfl).elim
theorem JP {t:TypeId} {v:AV} {u:Unit} (hc:ckKey tab t v 8= .ok u) (empty:Bool) (w:World):(Instr.checkKey empty 10000 t (af E v)).run P w= .ok () w:=
 To ok empty 8 t v u hc 9992 w
theorem Ra {t:TypeId} {k:AV}:∀(es:List (AV×AV×Nat)) (i:Nat) (r:Option (Nat×AV×AV×Nat)),findKey tab t k es i= .ok r->∀w,
  (Instr.findAsking t (af E k) (es.map (ml E)) i).run P w= .ok (r.map fun x=>(x.1,af E x.2.2.1)) w:=by
 intro es;induction es with
 |nil=>intro i r hr w;simp only[findKey]at hr;cases hr;rfl
 |cons e es ih=>
  intro i r hr w;obtain⟨a,v,n⟩:=e;simp only[findKey]at hr;obtain⟨b,hb,hr⟩:=aw.1 hr;have he:=qI ok (E:=E) 8 t _ _ b hb 9992 w;simp only[AR,Instr.findAsking,Sem.run_bind];have he':(Op.equal t (af E k) (ml E (a,v,n)).key).run P w= .ok b w:=he;rw[he',Result.andThen_ok]
  cases b with
  |true=>simp only[if_true]at hr⊢;cases hr;rfl
  |false=>simp only[Ak,AB]at hr⊢;exact ih (i+1) r hr w
theorem TL {t:TypeId} {d:TypeDesc} (hd:P.underlying t=some d) {k a:AV} {b:Bool} (hb:eqT tab 8 t k a= .ok b) {b':Bool}
   (hs:Instr.sameNow d (af E k) (af E a)=some b'):b'=b:=by
 have h1:=qI ok (E:=E) 8 t k a b hb 0 default;obtain⟨n,hn⟩:∃n,8+0=n+1:=⟨7,rfl⟩;rw[hn]at h1;generalize af E k=X at*
 generalize af E a=Y at*
 unfold Instr.sameNow at hs;split at hs
 . split at hs
   . cases hs;rename_i e;subst e;simp only[Op.equalIn,Sem.run_bind,underlying,run_program,Result.andThen_ok,hd,Sem.run_pure,if_true]at h1
     cases h1;rfl
   . cases hs
 . cases hs;simp only[Op.equalIn,Sem.run_bind,underlying,run_program,Result.andThen_ok,hd,Sem.run_pure]at h1
   cases h1;rfl
 . cases hs;simp only[Op.equalIn,Sem.run_bind,underlying,run_program,Result.andThen_ok,hd,Sem.run_pure]at h1
   cases h1;rfl
 . cases hs
theorem SX {t:TypeId} {d:TypeDesc} (hd:P.underlying t=some d) {k:AV}:∀(es:List (AV×AV×Nat)) (i:Nat) (r:Option (Nat×AV×AV×Nat)),findKey tab t k es i= .ok r->∀r',
  Instr.findNow d (af E k) (es.map (ml E)) i=some r'->r'=r.map fun x=>(x.1,af E x.2.2.1):=by
 intro es;induction es with
 |nil=>intro i r hr r' hr';simp only[findKey]at hr;cases hr;simp only[Eg,Instr.findNow]at hr';cases hr';rfl
 | cons e es ih=>
  intro i r hr r' hr';obtain⟨a,v,n⟩:=e;simp only[findKey]at hr;obtain⟨b,hb,hr⟩:=aw.1 hr;simp only[AR,Instr.findNow]at hr'
  cases hsn:Instr.sameNow d (af E k) (ml E (a,v,n)).key with
  |none=>rw[hsn]at hr';cases hr'
  |some b'=>
   have:=TL ok (E:=E) hd hb hsn;subst this;rw[hsn]at hr'
   cases b' with
   |true=>simp only[if_true]at hr hr';cases hr;cases hr';rfl
   |false=>simp only[Ak,AB]at hr hr';exact ih (i+1) r hr r' hr'
theorem se {t:TypeId} {d:TypeDesc} (hd:P.underlying t=some d) {k:AV} {es:List (AV×AV×Nat)} {r:Option (Nat×AV×AV×Nat)} (hr:findKey tab t k es 0= .ok r) (w:World):
  (Instr.findKey t (af E k) (es.map (ml E))).run P w= .ok (r.map fun x=>(x.1,af E x.2.2.1)) w:=by
 unfold Instr.findKey;simp only[Sem.run_bind,underlying,run_program,Result.andThen_ok,hd,Sem.run_pure]
 cases hn:Instr.findNow d (af E k) (es.map (ml E)) 0 with
 |none=>exact Ra ok es 0 r hr w
 |some r'=>rw[SX ok hd es 0 r hr r' hn];rfl
omit ok in
theorem SU {t:TypeId} {k:AV}:∀(es:List (AV×AV×Nat)) (i:Nat) (j:Nat) (a v:AV) (n:Nat),findKey tab t k es i= .ok (some (j,a,v,n))->i<=j/\es[j - i]? =some (a,v,n):=by
 intro es;induction es with
 |nil=>intro i j a v n h;simp only[findKey]at h;cases h
 | cons e es ih=>
  intro i j a v n h;obtain⟨a',v',n'⟩:=e;simp only[findKey]at h;obtain⟨b,hb,h⟩:=aw.1 h
  cases b with
  |true=>simp only[if_true]at h;cases h;simp
  |false=>
   simp only[Ak,AB]at h;obtain⟨h1,h2⟩:=ih (i+1) j a v n h;refine⟨by omega,?_⟩;rw[show j - i=(j - (i+1))+1 from by omega];simpa using h2
theorem Ta (H:bN E h K w) {t:TypeId} {m k v:AV} {c:Bool} (hl:lookup tab h t m k c= .ok v):
  (Instr.lookup t (af E m) (af E k) c).run P w= .ok (af E v) w:=by
 simp[lookup]at hl
theorem IG (H:bN E h K w) {t:TypeId} {m k x:AV} {h':AH} (hl:mapUpdate tab h t m k x= .ok h'):
  h'.next=h.next/\ ∃w',(Instr.mapUpdate t (af E m) (af E k) (af E x)).run P w= .ok () w'/\bN E h' K w'/\Kept K w w':=by
 simp[mapUpdate]at hl
theorem RB (H:bN E h K w) {t:TypeId} {m k v:AV} {h':AH} (hl:mapEntry tab h t m k= .ok (v,h')):
  h'.next=h.next/\ ∃w',(Instr.mapEntry t (af E m) (af E k)).run P w= .ok (af E v) w'/\bN E h' K w'/\Kept K w w':=by
 simp[mapEntry]at hl
theorem Q7 (H:bN E h K w) {t:TypeId} {m s x:AV} {h':AH} (hl:entryStore h m s x= .ok h'):
  h'.next=h.next/\ ∃w',(Instr.entryStore t (af E m) (af E s) (af E x)).run P w= .ok () w'/\bN E h' K w'/\Kept K w w':=by
 simp[entryStore]at hl
theorem Tq (H:bN E h K w) {argTypes:Array TypeId} {t ty:TypeId} (h0:argTypes[0]? =some t) {m k:AV} {h':AH} (hl:delete tab h t m k= .ok h'):
   h'.next=h.next/\ ∃w',(Builtin.delete_ argTypes ty #[af E m,af E k]).run P w= .ok (.tuple #[]) w'/\bN E h' K w'/\Kept K w w':=by
 unfold delete at hl;obtain⟨d,hd,hl⟩:=aw.1 hl;have hP:=ok.und t d (cZ.1 hd);split at hl
 . obtain⟨_,hck,hl⟩:=aw.1 hl
   cases hl;refine⟨rfl,w,?_,H,Kept.refl K w⟩;have hck':=JP ok (E:=E) hck true w;unfold Builtin.delete_;simp only[h0,AW,AE,AZ,Sem.run_bind,underlying,run_program,Result.andThen_ok,hP,Sem.run_pure,af,hck']
 . rename_i kt et b _;obtain⟨⟨es,c⟩,hm,hl⟩:=aw.1 hl;obtain⟨_,hck,hl⟩:=aw.1 hl;obtain⟨r,hr,hl⟩:=aw.1 hl;have hm:=CX hm;have hw:=H.map hm;have hnr:¬(AO.mp es c).ro:=fun h=>h
   obtain⟨kd,hkd⟩:∃kd,P.underlying kt=some kd:=by
    unfold ckKey at hck;simp only[tb]at hck;obtain⟨x,hx,_⟩:=aw.1 hck;exact⟨x,ok.und _ _ (cZ.1 hx)⟩
   have hfind:=se ok (E:=E) hkd hr w;have hck':=JP ok (E:=E) hck (es.map (ml E)).toArray.isEmpty w
   cases r with
   | some y=>
    obtain⟨i,a,v',n⟩:=y;simp only at hl
    cases hl;refine⟨rfl,_,?_,H.put hm hnr (c:= .map ((es.take i++es.drop (i+1)).map (ml E)).toArray c) rfl,H.dR hm hnr _⟩;obtain⟨_,hat⟩:=SU es 0 i a v' n hr;simp only[Dc]at hat
    have hlt:i<es.length:=(Ab.1 hat).1;have her:(es.map (ml E)).toArray.eraseIdxIfInBounds i=((es.take i++es.drop (i+1)).map (ml E)).toArray:=by
     apply Array.ext';simp[Array.eraseIdxIfInBounds,hlt,Dx,Ex,EJ]
    unfold Builtin.delete_;simp only[h0,AW,AE,AZ,Sem.run_bind,underlying,run_program,Result.andThen_ok,hP,Sem.run_pure,af,hck',wN hw,Dy,hfind,A8,zP hw,her]
   |none=>
    simp only at hl
    cases hl;refine⟨rfl,w,?_,H,Kept.refl K w⟩;unfold Builtin.delete_;simp only[h0,AW,AE,AZ,Sem.run_bind,underlying,run_program,Result.andThen_ok,hP,Sem.run_pure,af,hck',wN hw,Dy,hfind,Da,zP hw,VP hw]
 . cases hl
theorem Sj (H:bN E h K w) {t:TypeId} {x v:AV} {h':AH} (hl:rangeOp tab h t x= .ok (v,h')) (hE:E.bh h.next=w.heap.size):
  h'.next=h.next+1/\ ∃w',(Instr.range t (af E x)).run P w= .ok (af E v) w'/\bN E h' K w'/\Kept K w w':=by
 simp[rangeOp]at hl
end
end
section
variable [Inhabited aL]
section
variable {P:Program} {tab:bB} (ok:bU P tab) {E:Env} {h:AH} {K:KS} {w:World}
theorem qK {ts:T AV} {ρ:Operand->Value} (hρ:∀x v,ev ts x= .ok v->ρ x=af E v):∀(l:List Operand) (vs:List AV),jS ts l= .ok vs->l.map ρ=bA E vs:=by
 intro l;induction l with
 |nil=>intro vs h;simp only[jS]at h;cases h;rfl
 |cons x l ih=>
  intro vs h;simp only[jS]at h;obtain⟨v,hv,h⟩:=aw.1 h;obtain⟨vs',hvs,h⟩:=aw.1 h
  cases h;simp[hρ x v hv,ih vs' hvs]
theorem I7 {ts:T AV} {ρ:Operand->Value} (hρ:∀x v,ev ts x= .ok v->ρ x=af E v):∀(l:List (Nat×Operand)) (vs:List (Nat×AV)),l6 ts l= .ok vs->
  l.map (fun p=>(p.1,ρ p.2))=vs.map fun p=>(p.1,af E p.2):=by
 intro l;induction l with
 |nil=>intro vs h;simp only[l6]at h;cases h;rfl
 |cons x l ih=>
  intro vs h;obtain⟨i,x⟩:=x;simp only[l6]at h;obtain⟨v,hv,h⟩:=aw.1 h;obtain⟨vs',hvs,h⟩:=aw.1 h
  cases h;simp[hρ x v hv,ih vs' hvs]
theorem RW (H:bN E h K w) {it v:AV} (he:entryOp h it= .ok v):(Instr.entry (af E it)).run P w= .ok (af E v) w:=by
 simp[entryOp]at he
theorem Tc {k:IntKind}:∀(l:List AV) (x:Int) (v:AV),qP k x l= .ok v->((bA E l).foldlM Builtin.min2 (.int k x)).run P w= .ok (af E v) w:=by
 intro l;induction l with
 |nil=>intro x v h;simp only[qP]at h;cases h;rfl
 |cons a l ih=>
  intro x v h
  cases a<;>simp only[qP]at h<;>(try cases h)
  simp only[bY,List.foldlM_cons,Sem.run_bind,af,Builtin.min2,Sem.run_pure,Result.andThen_ok];exact ih _ v h
theorem Tb {k:IntKind}:∀(l:List AV) (x:Int) (v:AV),qO k x l= .ok v->((bA E l).foldlM Builtin.max2 (.int k x)).run P w= .ok (af E v) w:=by
 intro l;induction l with
 |nil=>intro x v h;simp only[qO]at h;cases h;rfl
 |cons a l ih=>
  intro x v h
  cases a<;>simp only[qO]at h<;>(try cases h)
  simp only[bY,List.foldlM_cons,Sem.run_bind,af,Builtin.max2,Sem.run_pure,Result.andThen_ok];exact ih _ v h
theorem Rm (H:bN E h K w) {argTypes:Array TypeId} {type:TypeId} {x v:AV} {h':AH} (hs:Cf h x= .ok (v,h')):
   h'=h/\(Builtin.unsafeSliceData_ argTypes type #[af E x]).run P w= .ok (af E v) w:=by
 unfold Cf at hs;split at hs
 . cases hs;exact⟨rfl,rfl⟩
 . rename_i b off n cap;obtain⟨c,hc,hs⟩:=aw.1 hs;obtain⟨_,h0,hs⟩:=aw.1 hs
   cases hs;refine⟨rfl,?_⟩;have hcap:=Ca H hc;have h0:=ew.1 h0;have:cap.val (E.cap b)≠0:=by
    intro e;rw[e]at hcap;have:c=0:=by omega
    subst this;simp at h0
   obtain⟨k,hk⟩:∃k,cap.val (E.cap b)=k+1:=⟨cap.val (E.cap b) - 1,by omega⟩;simp only[af];rw[hk];rfl
 . cases hs
theorem Uk (P:Program):∃d,P.depth=d+1:=⟨2*(P.types.size+Made.depth)+1,rfl⟩
include ok in
theorem Q4 (H:bN E h K w) {argTypes:Array TypeId} {t ty:TypeId} (h0:argTypes[0]? =some t) {x y v:AV} {h':AH} (hs:unsafeString tab h t x y= .ok (v,h')):
  h'.next=h.next/\ ∃w',(Builtin.unsafeString_ argTypes ty #[af E x,af E y]).run P w= .ok (af E v) w'/\bN E h' K w'/\Kept K w w':=by
 simp[unsafeString]at hs
def mD (P:Program) (w:World) (b:Builtin) (argTypes:Array TypeId) (X:Value) (m:Nat):Nat×Nat:=
 match b with
 | .append=>od w X m (P.elem (argTypes.getD 0 0))
 |_=>(w.heap.size,0)
def u7:List AV->Nat
 |[_, .str s]=>s.length
 |[_, .sl _ _ n _]=>n
 |[_, .int _ (.ofNat n)]=>n
 |_=>0
include ok
theorem RP (H:bN E h K w) {b:Builtin} {argTypes:Array TypeId} {args:List AV} {v:AV} {h':AH} (hb:builtin tab b argTypes args h= .ok (v,h'))
   (hE:h.next<h'.next->E.bh h.next=(mD P w b argTypes (((bA E args)[0]?).getD undef) (u7 args)).1/\E.cap h.next=(mD P w b argTypes (((bA E args)[0]?).getD undef) (u7 args)).2)
   (ty:TypeId) (consts:Array Bool):
   (h.next<=h'.next/\h'.next<=h.next+1)/\ ∃w',(Go.builtin b argTypes ty consts (bA E args).toArray).run P w= .ok (.value (af E v)) w'/\bN E h' K w'/\Kept K w w':=by
 unfold builtin at hb;split at hb
 ·
   rename_i x;obtain⟨t,ht,hb⟩:=aw.1 hb;obtain⟨u,hu,hb⟩:=aw.1 hb;have ht:=cZ.1 ht;have hP:=ok.und t u (cZ.1 hu);have hgo:∀(n:Nat),(Builtin.len_ argTypes ty (bA E [x]).toArray).run P w= .ok (Go.goInt n) w->
       (Go.builtin .len argTypes ty consts (bA E [x]).toArray).run P w= .ok (.value (af E (goInt n))) w:=by
     intro n hn;simp only[Go.builtin,Sem.run_bind,hn,Result.andThen_ok,Sem.run_pure];rfl
   split at hb
   . rename_i e;obtain⟨d,hd,hb⟩:=aw.1 hb;have hPe:=ok.und e d (cZ.1 hd);split at hb
     . cases hb;refine⟨by omega,w,hgo _ ?_,H,Kept.refl K w⟩;unfold Builtin.len_;simp[ht,underlying,hP,hPe]
     . cases hb
   . obtain⟨n,hn,hb⟩:=aw.1 hb
     cases hb;refine⟨by omega,w,hgo _ ?_,H,Kept.refl K w⟩;unfold Builtin.len_;unfold lenOf at hn;split at hn<;>(try cases hn)
     case h_7=>
       obtain⟨⟨es,c⟩,hm,hn⟩:=aw.1 hn
       cases hn;have hw:=H.map (CX hm);simp[ht,underlying,hP,af,wN hw]
     all_goals simp[ht,underlying,hP,af,sS]
 ·
   rename_i x;obtain⟨t,ht,hb⟩:=aw.1 hb;obtain⟨u,hu,hb⟩:=aw.1 hb;have ht:=cZ.1 ht;have hP:=ok.und t u (cZ.1 hu);split at hb
   . cases hb;refine⟨by omega,w,?_,H,Kept.refl K w⟩;simp[Go.builtin,Builtin.cap_,ht,underlying,hP,af,goInt,Go.goInt]
   . cases hb;refine⟨by omega,w,?_,H,Kept.refl K w⟩;simp[Go.builtin,Builtin.cap_,ht,underlying,hP,af,goInt,Go.goInt,gi.val]
   . cases hb
 ·
   rename_i x y;obtain⟨t,ht,hb⟩:=aw.1 hb;obtain⟨u,hu,hb⟩:=aw.1 hb;have ht:=cZ.1 ht;have hu:=cZ.1 hu;obtain⟨du,hdu,hb⟩:=aw.1 hb;have hPu:=ok.und u du (cZ.1 hdu);split at hb
   . rename_i ki _;obtain⟨dt,hdt,hb⟩:=aw.1 hb;have hPt:=ok.und t dt (cZ.1 hdt);split at hb
     . rename_i e;unfold Jr at hb;obtain⟨n,hn,hb⟩:=aw.1 hb;obtain⟨by_,hby,hb⟩:=aw.1 hb;obtain⟨_,hnz,hb⟩:=aw.1 hb;obtain⟨m,hm,hb⟩:=aw.1 hb;obtain⟨_,hlim,hb⟩:=aw.1 hb;obtain⟨z,hz,hb⟩:=aw.1 hb;obtain⟨zc,hzc,hb⟩:=aw.1 hb;obtain⟨_,hzl,hb⟩:=aw.1 hb;have hnz:n≠0:=by
         have:=ew.1 hnz;rintro rfl;simp at this
       have hlim:=ew.1 hlim;rw[Aa]at hlim;have hl1:=Al hlim.1;have hl2:=Al hlim.2;have hzl:=Ag (ew.1 hzl);obtain⟨i,hi,hin⟩:=ok.siz _ _ (cZ.1 hn);obtain⟨i',hi',hiby⟩:=ok.byt _ _ (cZ.1 hby);rw[hi]at hi';cases hi';obtain⟨i',hi',hzi⟩:=ok.ly _ _ (cZ.1 hz);rw[hi]at hi';cases hi';have hsl:u7 [x,y]=m:=by
         obtain⟨k,rfl⟩:=qv hm;rfl
       have hel:P.elem (argTypes.getD 0 0)=e:=by
         have:argTypes.getD 0 0=t:=by
           rw[Dp,ht];rfl
         rw[this];simp[Program.elem,hPt]
       have hE':h.next<h'.next->E.bh h.next=(od w (af E x) m e).1/\E.cap h.next=(od w (af E x) m e).2:=by
         intro hlt;have:=hE hlt;simp only[mD,hsl,hel,bY,AE,AU]at this;exact this
       obtain⟨h1,w',h2,h3,h4⟩:=ID ok H (ty:=ty) (argTypes:=argTypes) (Y:=af E y) hn hnz (cZ.1 hby)
         (fun i' hi'=>by
           rw[hi]at hi';cases hi';exact O6 ht hu hPt hPu hi (hzi E) hzc (by rw[hzl,hin]) (by rw[hin];exact hnz) hm hl1 (by rw[hiby];exact hl2)) hb hE'
       refine⟨h1,w',?_,h3,h4⟩;simp only[Go.builtin,Sem.run_bind];have:(bA E [x,y]).toArray=#[af E x,af E y]:=rfl;rw[this,h2];rfl
     . cases hb
   . rename_i hni;obtain⟨dt,hdt,hb⟩:=aw.1 hb;have hPt:=ok.und t dt (cZ.1 hdt);split at hb
     . rename_i e;obtain⟨n,hn,hb⟩:=aw.1 hb;obtain⟨by_,hby,hb⟩:=aw.1 hb;obtain⟨_,hnz,hb⟩:=aw.1 hb;obtain⟨⟨m,news⟩,hs,hb⟩:=aw.1 hb;have hnz:n≠0:=by
         have:=ew.1 hnz;rintro rfl;simp at this
       have hm:u7 [x,y]=m:=by
         cases y<;>simp only[source]at hs<;>(try cases hs)<;>(try rfl)
         . obtain⟨_,_,hs⟩:=aw.1 hs
           cases hs;rfl
         . obtain⟨_,_,hs⟩:=aw.1 hs
           cases hs;rfl
         . split at hs<;>first|(rename_i hv;cases hv;cases hs;rfl)|(rename_i hv;cases hv;done)|(cases hs;rfl)|(cases hs;done)
       have hel:P.elem (argTypes.getD 0 0)=e:=by
         have:argTypes.getD 0 0=t:=by
           rw[Dp,ht];rfl
         rw[this];simp[Program.elem,hPt]
       have hE':h.next<h'.next->E.bh h.next=(od w (af E x) m e).1/\E.cap h.next=(od w (af E x) m e).2:=by
         intro hlt;have:=hE hlt;simp only[mD,hm,hel,bY,AE,AU]at this;exact this
       obtain⟨h1,w',h2,h3,h4⟩:=ID ok H (ty:=ty) (argTypes:=argTypes) (Y:=af E y) hn hnz (cZ.1 hby)
         (fun i hi=>by
           obtain⟨i',hi',hin⟩:=ok.siz _ _ (cZ.1 hn);rw[hi]at hi';cases hi';exact O3 ht hu hPt hPu (fun k e=>hni k e) hi hin hs) hb hE'
       refine⟨h1,w',?_,h3,h4⟩;simp only[Go.builtin,Sem.run_bind];have:(bA E [x,y]).toArray=#[af E x,af E y]:=rfl;rw[this,h2];rfl
     . cases hb
 ·
   rename_i x y;obtain⟨t,ht,hb⟩:=aw.1 hb;obtain⟨u,hu,hb⟩:=aw.1 hb;have ht:=cZ.1 ht;have hP:=ok.und t u (cZ.1 hu);split at hb
   . rename_i e;obtain⟨n,hn,hb⟩:=aw.1 hb;obtain⟨⟨m,cs⟩,hs,hb⟩:=aw.1 hb;obtain⟨hnl,hlen,hf⟩:=Jo (P:=P) (E:=E) (K:=K) hs;have hgo:∀(base:Option Addr) (dLen c:Nat),af E x= .slice base dLen c->(Builtin.copy_ argTypes ty (bA E [x,y]).toArray).run P w=
         ((match base with
           |none=>(Result.ok () w:Result Unit)
           |some a=>(storeCells a (bA E (cs.take (Nat.min m dLen*n)))).run P w).andThen fun _ w'=> .ok (Go.goInt (Nat.min m dLen)) w'):=by
       intro base dLen c hx;unfold Builtin.copy_;have h2:(bA E [x,y]).toArray=#[af E x,af E y]:=rfl;rw[h2];simp only[ht,AW,AE,AZ,Sem.run_bind,underlying,run_program,Result.andThen_ok,hP,Sem.run_pure,hx,hlen,kG ok hn,
         hf w H (Nat.min m dLen) (Nat.min_le_left _ _)]
       cases base<;>simp[Result.andThen]
     cases x with
     | nils=>
       simp only at hb
       cases hb;refine⟨by omega,w,?_,H,Kept.refl K w⟩;simp only[Go.builtin,Sem.run_bind];rw[hgo none 0 0 rfl];simp[Result.andThen,goInt,af,Go.goInt]
     | emp b off l n' k=>
       simp only at hb
       cases hb;refine⟨by omega,w,?_,H,Kept.refl K w⟩;simp only[Go.builtin,Sem.run_bind];rw[hgo _ 0 _ rfl];simp[Result.andThen,goInt,af,Go.goInt,storeCells]
     | sl b off len cap=>
       simp only at hb;obtain⟨h2,hw,hb⟩:=aw.1 hb
       cases hb;obtain⟨w',hst,H',hk⟩:=wP (P:=P) H hw;refine⟨by rw[wC hw];omega,w',?_,H',hk⟩;simp only[Go.builtin,Sem.run_bind];rw[hgo _ len _ rfl];simp only[hst,Result.andThen_ok];rfl
     |_=>cases hb
   . cases hb
 ·
   rename_i x;obtain⟨t,ht,hb⟩:=aw.1 hb;obtain⟨u,hu,hb⟩:=aw.1 hb;have ht:=cZ.1 ht;have hP:=ok.und t u (cZ.1 hu);have h2:(bA E [x]).toArray=#[af E x]:=rfl;split at hb
   . cases hb;refine⟨by omega,w,?_,H,Kept.refl K w⟩;simp[Go.builtin,Builtin.clear_,ht,underlying,hP,af]
   . cases hb;refine⟨by omega,w,?_,H,Kept.refl K w⟩;simp[Go.builtin,Builtin.clear_,ht,underlying,hP,af]
   . cases hb;refine⟨by omega,w,?_,H,Kept.refl K w⟩;simp[Go.builtin,Builtin.clear_,ht,underlying,hP,af]
   . obtain⟨⟨es,c⟩,hm,hb⟩:=aw.1 hb
     cases hb;have hm:=CX hm;have hw:=H.map hm;have hnr:¬(AO.mp es c).ro:=fun h=>h
     refine⟨by simp,_,?_,H.put hm hnr (c:= .map #[] c) rfl,H.dR hm hnr _⟩;simp only[Go.builtin,Builtin.clear_,h2,ht,AW,AE,Sem.run_bind,underlying,run_program,Result.andThen_ok,hP,Sem.run_pure,af,wN hw,zP hw];rfl
   . rename_i e b off len cap _ _;obtain⟨z,hz,hb⟩:=aw.1 hb;obtain⟨zc,hzc,hb⟩:=aw.1 hb;obtain⟨h2',hw,hb⟩:=aw.1 hb
     cases hb;obtain⟨w',hst,H',hk⟩:=wP (P:=P) H hw;refine⟨by rw[wC hw];omega,w',?_,H',hk⟩;have hzz:Builtin.zeroCells (af E z).cells len=(bA E (rep len zc)).toArray:=by
       rw[nT hzc,uh];by_cases h0:0<zc.length
       . exact IY len _ (by simpa using h0)
       . have:zc=[]:=AP (by omega);subst this;have:gO len []=[]:=AP (by simp[zx]);simp[Builtin.zeroCells,this]
     simp only[Go.builtin,Builtin.clear_,h2,ht,AW,AE,Sem.run_bind,underlying,run_program,Result.andThen_ok,hP,Sem.run_pure,af]
     cases len with
     | zero=>
       simp only[rep,eM,storeCells]at hst
       cases hst;rfl
     | succ len=>
       simp only[Sem.run_bind,uG ok hz E,Result.andThen_ok,hzz,Dy,hst,Sem.run_pure];rfl
   . cases hb
 ·
   rename_i m k;obtain⟨t,ht,hb⟩:=aw.1 hb;obtain⟨h2,hd,hb⟩:=aw.1 hb
   cases hb;obtain⟨h3,w',h4,h5,h6⟩:=Tq ok H (ty:=ty) (cZ.1 ht) hd;refine⟨by omega,w',?_,h5,h6⟩;have:(bA E [m,k]).toArray=#[af E m,af E k]:=rfl;simp only[Go.builtin,Sem.run_bind,this,h4,Result.andThen_ok,Sem.run_pure];rfl
 ·
   obtain⟨h1,h2⟩:=Rm (P:=P) H (type:=ty) (argTypes:=argTypes) hb;subst h1;refine⟨by omega,w,?_,H,Kept.refl K w⟩;simp only[Go.builtin,Sem.run_bind];rw[show ∀x:AV,(bA E [x]).toArray=#[af E x]from fun _=>rfl,h2];rfl
 ·
   obtain⟨t,ht,hb⟩:=aw.1 hb;obtain⟨h1,w',h2,h3,h4⟩:=Q4 ok H (ty:=ty) (cZ.1 ht) hb;refine⟨by omega,w',?_,h3,h4⟩;simp only[Go.builtin,Sem.run_bind];rw[show ∀x y:AV,(bA E [x,y]).toArray=#[af E x,af E y]from fun _ _=>rfl,h2];rfl
 ·
   obtain⟨v',hv,hb⟩:=aw.1 hb
   cases hb;refine⟨by omega,w,?_,H,Kept.refl K w⟩;simp only[Go.builtin,Sem.run_bind,Builtin.min_,Dy,bY,af];rw[Tc _ _ _ hv];rfl
 . obtain⟨v',hv,hb⟩:=aw.1 hb
   cases hb;refine⟨by omega,w,?_,H,Kept.refl K w⟩;simp only[Go.builtin,Sem.run_bind,Builtin.max_,Dy,bY,af];rw[Tb _ _ _ hv];rfl
 . cases hb
end
end
section
variable [Inhabited aL]
section
variable {P:Program} {tab:bB} (ok:bU P tab) {E:Env} {h:AH} {K:KS} {w:World}
theorem RL {e count s:Nat} (hs:P.cellsOf e=s) (h0:s≠0) (hl:1<=count):liesAt P P.depth e count 0 e 1=true:=by
 obtain⟨d,hd⟩:=Uk P;have h1:sameLayout P P.depth e e=true:=by
  rw[hd];simp[sameLayout]
 have h2:rowAt P (sameLayout P P.depth · e) P.depth e count 0 1=true:=by
  conv=>lhs;arg 3;rw[hd]
  unfold rowAt;simp[hs,h0,h1,hl]
 conv=>lhs;arg 2;rw[hd]
 unfold liesAt;simp only[BF];exact Or.inl h2
include ok
theorem Rt (H:bN E h K w) {src dst t:TypeId} (hs:P.underlying src=some (.pointer t)) (hd:P.underlying dst=some .unsafePointer) {x v:AV} {h':AH}
   (hc:zW tab h t x= .ok (v,h')):h'=h/\(Go.convert src dst (af E x)).run P w= .ok (af E v) w:=by
 unfold zW at hc;split at hc
 . cases hc;refine⟨rfl,?_⟩;simp[Go.convert,Conv.unsafePointer,underlying,hs,hd,af]
 . rename_i b off;obtain⟨⟨cs,e,sz,ext,bk⟩,hca,hc1⟩:=aw.1 hc;obtain⟨n,hn,hc2⟩:=aw.1 hc1;obtain⟨_,hck,hc3⟩:=aw.1 hc2;clear hc hc1 hc2
   cases hc3;refine⟨rfl,?_⟩;have hck:=ew.1 hck;simp only[Aa,AQ,Dk]at hck;have hn0:n≠0:=by
    intro e;subst e;simp at hck
   have hlt:off<cs.length:=by simpa using hck.2
   obtain⟨arr,fz,hw,⟨rest,hrest⟩,hext,hmk⟩:=H.cells (hZ hca);have hsz:cs.length<=arr.size:=by
    have:=Ap List.length hrest;simp at this;omega
   obtain⟨i,hi,hin⟩:=ok.siz t n (cZ.1 hn);have:¬(arr.size<=off):=by omega
   simp[Go.convert,Conv.unsafePointer,Conv.seenAt,viewAt,cellsIn,World.shape?,hw,underlying,hs,hd,af,sizeOf,typeInfo,hi,hin,hn0,this]
 . cases hc
theorem QZ (H:bN E h K w) {src dst u:TypeId} (hs:P.underlying src=some .unsafePointer) (hd:P.underlying dst=some (.pointer u)) {x v:AV} {h':AH}
   (hc:zD tab h u x= .ok (v,h')):h'=h/\(Go.convert src dst (af E x)).run P w= .ok (af E v) w:=by
 unfold zD at hc;split at hc
 . cases hc;refine⟨rfl,?_⟩;simp[Go.convert,Conv.unsafePointer,underlying,hs,hd,af]
 . rename_i b off;obtain⟨⟨cs,e,sz,ext,bk⟩,hca,hc1⟩:=aw.1 hc;obtain⟨n,hn,hc2⟩:=aw.1 hc1;obtain⟨_,hck,hc3⟩:=aw.1 hc2;clear hc hc1 hc2
   cases hc3;refine⟨rfl,?_⟩;have hck:=ew.1 hck;simp only[Aa,AQ]at hck;obtain⟨⟨⟨he,hn1⟩,ho⟩,hle⟩:=hck;have hn0:n≠0:=by
    intro e;subst e;simp at hn1
   have he:=Ag he;have ho:=Ag ho;have hle:=Al hle
   try simp only at he hle
   subst he ho;obtain⟨arr,fz,hw,⟨rest,hrest⟩,hext,hmk⟩:=H.cells (hZ hca);have hsz:cs.length<=arr.size:=by
    have:=Ap List.length hrest;simp at this;omega
   obtain⟨i,hi,hin⟩:=ok.siz e n (cZ.1 hn);have hcells:P.cellsOf e=n:=by simp[Program.cellsOf,hi,hin]
   have h1:1<=arr.size / n:=by
    rw[Fx (by omega)];omega
   have hl:=RL (P:=P) hcells hn0 h1;simp[Go.convert,Conv.unsafePointer,Conv.seenAt,viewAt,World.shape?,hw,underlying,hs,hd,af,sizeOf,typeInfo,hi,hin,hn0,variablesAt,hcells,hl]
 . cases hc
theorem Q6 (H:bN E h K w) {src dst:TypeId} {x v:AV} {h':AH} (hc:nR tab h src dst x= .ok (v,h'))
   (hE:h.next<h'.next->E.bh h.next=w.heap.size/\E.cap h.next=grownCap w (x9 x) 0 (P.elem dst)):
   (h.next<=h'.next/\h'.next<=h.next+1)/\ ∃w',(Go.convert src dst (af E x)).run P w= .ok (af E v) w'/\bN E h' K w'/\Kept K w w':=by
 unfold nR at hc;obtain⟨d,hd,hc1⟩:=aw.1 hc;have hPd:=ok.und dst d (cZ.1 hd);split at hc1
 . obtain⟨s,hs,hc2⟩:=aw.1 hc1;have hPs:=ok.und src s (cZ.1 hs);split at hc2
   . obtain⟨h1,h2⟩:=Rt ok H hPs hPd hc2;subst h1;exact⟨by omega,w,h2,H,Kept.refl K w⟩
   . cases hc2
 . obtain⟨s,hs,hc2⟩:=aw.1 hc1;have hPs:=ok.und src s (cZ.1 hs);split at hc2
   . obtain⟨h1,h2⟩:=QZ ok H hPs hPd hc2;subst h1;exact⟨by omega,w,h2,H,Kept.refl K w⟩
   . cases hc2
 . exact RR ok H hc1 hE
end
end
section
variable [Inhabited aL]
section
variable {P:Program} {tab:bB} (ok:bU P tab) {E:Env} {h:AH} {K:KS} {w:World}
theorem gE {ρ:Operand->Value} {o:Oper} {s:Sem Value} {a:Value} {w w':World} (hx:execOp ρ o=(do pure (.value (<-s)))) (hs:s.run P w= .ok a w'):
  (execOp ρ o).run P w= .ok (.value a) w':=by
 rw[hx];simp[hs]
theorem vR {ρ:Operand->Value} {o:Oper} {s:Sem Unit} {w w':World} (hx:execOp ρ o=(do s;pure .skip)) (hs:s.run P w= .ok () w'):
  (execOp ρ o).run P w= .ok .skip w':=by
 rw[hx];simp[hs]
def aO (P:Program) (s:Sem Next) (E:Env) (K:KS) (w:World) (v:AV) (h':AH):Prop:=
 ∃r w',s.run P w= .ok r w'/\F5 r (af E v)/\bN E h' K w'/\Kept K w w'
theorem aO.value {s:Sem Next} {v:AV} {h':AH} {w':World} (hs:s.run P w= .ok (.value (af E v)) w') (H:bN E h' K w') (hk:Kept K w w'):aO P s E K w v h':=
 ⟨_,w',hs, .inl rfl,H,hk⟩
theorem aO.same {s:Sem Next} {v:AV} (H:bN E h K w) (hs:s.run P w= .ok (.value (af E v)) w):aO P s E K w v h:=
 ⟨_,w,hs, .inl rfl,H,Kept.refl K w⟩
theorem aO.unit {s:Sem Next} {h':AH} {w':World} (hs:s.run P w= .ok .skip w') (H:bN E h' K w') (hk:Kept K w w'):aO P s E K w (.bG []) h':=
 ⟨_,w',hs, .inr ⟨rfl,rfl⟩,H,hk⟩
theorem JC (ok:bU P tab) {t:TypeId} {f:Nat} {fd:Field} (hf:sP tab t f= .ok fd):∃fs,P.underlying t=some (.struct fs)/\fs[f]? =some fd:=by
 unfold sP at hf;obtain⟨d,hd,hf⟩:=aw.1 hf;have hP:=ok.und t d (cZ.1 hd);split at hf
 . exact⟨_,hP,cZ.1 hf⟩
 . cases hf
theorem YY {s:List UInt8} {i:Nat} {b:UInt8} (h:s[i]? =some b):(⟨s.toArray⟩:ByteArray)[i]? =some b:=by
 obtain⟨hlt,rfl⟩:=Ab.1 h;exact getElem?_pos (⟨s.toArray⟩:ByteArray) i (show i<(⟨s.toArray⟩:ByteArray).size from hlt)
def Good (P:Program) (o:Oper) (ts:T AV) (h:AH) (v:AV) (h':AH) (w:World) (ρ:Operand->Value):Prop:=
 ∃f:Nat×Nat,∀E K,bN E h K w->(∀x u,ev ts x= .ok u->ρ x=af E u)->
  (h.next<h'.next->E.bh h.next=f.1/\E.cap h.next=f.2)->(h.next<=h'.next/\h'.next<=h.next+1)/\aO P (execOp ρ o) E K w v h'
theorem wQ {e:TypeId} {cs:List AV} {ext:Bool} {bk:BK} {h':AH} {b:Nat} (hn:newRow tab h e cs ext bk= .ok (h',b)):h.next<h'.next:=by
 obtain⟨n,hs,rfl,rfl⟩:=iP hn;simp
theorem Rj {t:TypeId} {len:Nat} {ps:List (Nat×AV)} {v:AV} {h':AH} (hb:buildSlice tab h t len ps= .ok (v,h')):h.next<h'.next:=by
 unfold buildSlice at hb;obtain⟨u,hu,hb1⟩:=aw.1 hb;split at hb1
 . obtain⟨n,_,hb2⟩:=aw.1 hb1;obtain⟨_,_,hb3⟩:=aw.1 hb2;obtain⟨_,_,hb4⟩:=aw.1 hb3;obtain⟨_,_,hb5⟩:=aw.1 hb4;obtain⟨_,_,hb6⟩:=aw.1 hb5;obtain⟨_,_,hb7⟩:=aw.1 hb6;obtain⟨⟨h1,b⟩,hn,hb8⟩:=aw.1 hb7
   cases hb8;exact wQ hn
 . cases hb1
theorem RA {t:TypeId} {l c v:AV} {h':AH} (hb:makeSlice tab h t l c= .ok (v,h')):h.next<h'.next:=by
 unfold makeSlice at hb;obtain⟨u,hu,hb1⟩:=aw.1 hb;split at hb1
 . obtain⟨n,_,hb2⟩:=aw.1 hb1;obtain⟨_,_,hb3⟩:=aw.1 hb2;obtain⟨_,_,hb4⟩:=aw.1 hb3;obtain⟨_,_,hb5⟩:=aw.1 hb4;obtain⟨_,_,hb6⟩:=aw.1 hb5;obtain⟨_,_,hb7⟩:=aw.1 hb6;obtain⟨_,_,hb8⟩:=aw.1 hb7;obtain⟨_,_,hb9⟩:=aw.1 hb8;obtain⟨⟨h1,b⟩,hn,hb10⟩:=aw.1 hb9
   cases hb10;exact wQ hn
 . cases hb1
theorem TH {t:TypeId} {x v:AV} {h':AH} (hb:rangeOp tab h t x= .ok (v,h')):h.next<h'.next:=by
 simp[rangeOp]at hb
theorem Jf (ok:bU P tab) {e:TypeId} {z:AV} {zc:List AV} (hzc:z.cells= .ok zc) {h1:AH} {b:Nat} (hn:newRow tab h e zc= .ok (h1,b)) (H:bN E h K w) (hE:E.bh h.next=w.heap.size):
  b=h.next/\h1.next=h.next+1/\(Go.newVar e (af E z)).run P w= .ok ⟨E.bh h.next,0,none⟩ (w.alloc (.cells (bA E zc).toArray e))/\bN E h1 K (w.alloc (.cells (bA E zc).toArray e))/\Kept K w (w.alloc (.cells (bA E zc).toArray e)):=by
 obtain⟨n,hs,rfl,rfl⟩:=iP hn;refine⟨rfl,rfl,?_,(Cp H hE zc e n).1,Kept.alloc H.kb _⟩;rw[Go.newVar,qn,nT hzc,hE]
set_option maxHeartbeats 1000000 in
include ok in
theorem IC {ts:T AV} {o:Oper} {v:AV} {h':AH} (hp:fp tab ts h o= .ok (v,h')) (w:World) (ρ:Operand->Value):Good P o ts h v h' w ρ:=by
 unfold fp at hp
 cases hop:o.op<;>rw[hop]at hp<;>dsimp only at hp
 case move x=>
  obtain⟨u,hu,hp1⟩:=aw.1 hp
  cases hp1;exact⟨(0,0),fun E K H hρ _=>⟨by omega,aO.same H (by simp[execOp,hop,hρ _ _ hu])⟩⟩
 case assign x=>
  obtain⟨u,hu,hp1⟩:=aw.1 hp
  cases hp1;exact⟨(0,0),fun E K H hρ _=>⟨by omega,aO.same H (by simp[execOp,hop,hρ _ _ hu])⟩⟩
 case pick c a b=>
  obtain⟨u,hu,hp1⟩:=aw.1 hp;refine⟨(0,0),fun E K H hρ _=>?_⟩;have hc:=hρ _ _ hu;split at hp1
  . obtain⟨x,hx,hp2⟩:=aw.1 hp1
    cases hp2;exact⟨by omega,aO.same H (by simp[execOp,hop,hρ _ _ hx,hc,af,asBool])⟩
  . obtain⟨x,hx,hp2⟩:=aw.1 hp1
    cases hp2;exact⟨by omega,aO.same H (by simp[execOp,hop,hρ _ _ hx,hc,af,asBool])⟩
  . cases hp1
 case alloc e=>
  obtain⟨z,hz,hp1⟩:=aw.1 hp;obtain⟨zc,hzc,hp2⟩:=aw.1 hp1;obtain⟨⟨h1,b⟩,hn,hp3⟩:=aw.1 hp2
  cases hp3;refine⟨(w.heap.size,0),fun E K H hρ hE=>?_⟩;have hE1:E.bh h.next=w.heap.size:=(hE (wQ hn)).1;obtain⟨rfl,h2,h3,h4,h5⟩:=Jf ok hzc hn H hE1;exact⟨by simp only;omega,aO.value (gE (s:=Instr.alloc e true (.tuple #[])) (by simp[execOp,hop]) (by simp[Instr.alloc,uG ok hz E,h3,af])) h4 h5⟩
 case box e x=>
  obtain⟨z,hz,hp1⟩:=aw.1 hp;obtain⟨zc,hzc,hp2⟩:=aw.1 hp1;obtain⟨⟨h1,b⟩,hn,hp3⟩:=aw.1 hp2
  cases hp3;refine⟨(w.heap.size,0),fun E K H hρ hE=>?_⟩;have hE1:E.bh h.next=w.heap.size:=(hE (wQ hn)).1;obtain⟨rfl,h2,h3,h4,h5⟩:=Jf ok hzc hn H hE1;exact⟨by simp only;omega,aO.value (gE (s:=Instr.box e (ρ x)) (by simp[execOp,hop]) (by simp[Instr.box,hρ _ _ hz,h3,af])) h4 h5⟩
 case build t ps=>
  obtain⟨l,hl,hp1⟩:=aw.1 hp;obtain⟨u,hu,hp2⟩:=aw.1 hp1
  cases hp2;refine⟨(0,0),fun E K H hρ _=>⟨by omega,aO.same H ?_⟩⟩;refine gE (s:=Instr.build t (ps.map fun(i,x)=>(i,ρ x))) (by simp[execOp,hop]) ?_;have:=TD ok (E:=E) (w:=w) hu;rw[<-I7 hρ _ _ hl]at this;rw[<-this];congr 2
  simp[<-Array.toList_inj]
 case buildSlice t n ps=>
  obtain⟨l,hl,hp1⟩:=aw.1 hp;refine⟨(w.heap.size,0),fun E K H hρ hE=>?_⟩;obtain⟨h1,w',h2,h3,h4⟩:=Rh ok H hp1 (hE (Rj hp1)).1;rw[<-I7 hρ _ _ hl]at h2;refine⟨by omega,aO.value (gE (s:=Instr.buildSlice t n (ps.map fun(i,x)=>(i,ρ x))) (by simp[execOp,hop]) ?_) h3 h4⟩;rw[<-h2];congr 2
  simp[<-Array.toList_inj]
 case load t a=>
  obtain⟨x,hx,hp1⟩:=aw.1 hp;split at hp1
  . obtain⟨u,hu,hp2⟩:=aw.1 hp1
    cases hp2;refine⟨(0,0),fun E K H hρ _=>⟨by omega,aO.same H ?_⟩⟩;refine gE (s:=Instr.loadAt t (ρ a)) (by simp[execOp,hop]) ?_;simp[Instr.loadAt,hρ _ _ hx,af,Instr.sureAddr,Jc ok H hu]
  . cases hp1
 case store t a x=>
  obtain⟨y,hy,hp1⟩:=aw.1 hp;split at hp1
  . obtain⟨u,hu,hp2⟩:=aw.1 hp1;obtain⟨h1,hh,hp3⟩:=aw.1 hp2
    cases hp3;refine⟨(0,0),fun E K H hρ _=>?_⟩;obtain⟨w',h2,h3,h4⟩:=R4 ok H hh;refine⟨by have:=Ro (tab:=tab) hh;omega,aO.unit (vR (s:=Instr.storeAt t (ρ a) (ρ x)) (by simp[execOp,hop]) ?_) h3 h4⟩;simp[Instr.storeAt,hρ _ _ hy,hρ _ _ hu,af,Instr.sureAddr,h2]
  . cases hp1
 case nilCheck x=>
  obtain⟨y,hy,hp1⟩:=aw.1 hp;split at hp1
  . cases hp1;exact⟨(0,0),fun E K H hρ _=>⟨by omega,aO.same H (by simp[execOp,hop,hρ _ _ hy,af])⟩⟩
  . cases hp1;exact⟨(0,0),fun E K H hρ _=>⟨by omega,aO.same H (by simp[execOp,hop,hρ _ _ hy,af])⟩⟩
  . cases hp1
 case binOp op t x y yt=>
  obtain⟨a,ha,hp1⟩:=aw.1 hp;obtain⟨b,hb,hp2⟩:=aw.1 hp1;obtain⟨c,hc,hp3⟩:=aw.1 hp2
  cases hp3;refine⟨(0,0),fun E K H hρ _=>⟨by omega,aO.same H ?_⟩⟩;have:=TC ok H hc x y;refine gE (s:=do eqGuard op t x y (ρ x) (ρ y);Go.binOp op t (ρ x) (ρ y)) (by simp[execOp,hop]) ?_;rw[hρ _ _ ha,hρ _ _ hb];exact this
 case unOp op t x=>
  obtain⟨a,ha,hp1⟩:=aw.1 hp;obtain⟨c,hc,hp3⟩:=aw.1 hp1
  cases hp3;refine⟨(0,0),fun E K H hρ _=>⟨by omega,aO.same H ?_⟩⟩;refine gE (s:=Op.unary op (ρ x)) (by simp[execOp,hop]) ?_;rw[hρ _ _ ha];exact W9 hc
 case convert s d x=>
  obtain⟨a,ha,hp1⟩:=aw.1 hp;refine⟨(w.heap.size,grownCap w (x9 a) 0 (P.elem d)),fun E K H hρ hE=>?_⟩;obtain⟨h1,w',h2,h3,h4⟩:=Q6 ok H hp1 hE;refine⟨h1,aO.value (gE (s:=Go.convert s d (ρ x)) (by simp[execOp,hop]) ?_) h3 h4⟩;rw[hρ _ _ ha];exact h2
 case makeInterface t x=>
  obtain⟨d,hd,hp1⟩:=aw.1 hp;have hP:=ok.und t d (cZ.1 hd);split at hp1
  . cases hp1
  . rename_i hni;obtain⟨a,ha,hp2⟩:=aw.1 hp1
    cases hp2;refine⟨(0,0),fun E K H hρ _=>⟨by omega,aO.same H ?_⟩⟩;refine gE (s:=Instr.makeInterface t (ρ x)) (by simp[execOp,hop]) ?_;unfold Instr.makeInterface;simp only[Sem.run_bind,underlying,run_program,Result.andThen_ok,hP,Sem.run_pure]
    cases d<;>first|exact absurd rfl (hni _)|(rw[hρ _ _ ha];simp[af])
 case makeFunc fn fst cap=>
  split at hp
  . rename_i f;obtain⟨a,ha,hp1⟩:=aw.1 hp;obtain⟨b,hb,hp2⟩:=aw.1 hp1
    cases hp2;refine⟨(0,0),fun E K H hρ _=>⟨by omega,aO.same H ?_⟩⟩;refine gE (s:=Instr.makeFunc (.func f) (fst.map ρ) (cap.map ρ)) (by simp[execOp,hop]) ?_;have h1:=qK hρ _ _ ha;have h2:=qK hρ _ _ hb;simp only[Instr.makeFunc,Sem.run_pure,af,<-h1,<-h2];congr 3<;>simp[<-Array.toList_inj]
  . cases hp
 case makeMap t r=>
  cases r with
  |some x=>cases hp
  | none=>
    cases hp;refine⟨(w.heap.size,0),fun E K H hρ hE=>⟨by simp,?_⟩⟩;refine aO.value (w':=w.alloc (.map #[] 0)) (gE (s:=Instr.makeMap t none) (by simp[execOp,hop]) ?_) (H.new (hE (by simp)).1 (by simp[pY])) (Kept.alloc H.kb _);simp[Instr.makeMap,af,(hE (by simp)).1]
 case makeSlice t l c=>
  obtain⟨a,ha,hp1⟩:=aw.1 hp;obtain⟨b,hb,hp2⟩:=aw.1 hp1;refine⟨(w.heap.size,0),fun E K H hρ hE=>?_⟩;obtain⟨h1,w',h2,h3,h4⟩:=Rv ok H hp2 (hE (RA hp2)).1;refine⟨by omega,aO.value (gE (s:=Instr.makeSlice t (ρ l) (ρ c)) (by simp[execOp,hop]) ?_) h3 h4⟩;rw[hρ _ _ ha,hρ _ _ hb];exact h2
 case slice t x lo hi mx=>
  obtain⟨a,ha,hp1⟩:=aw.1 hp;refine⟨(0,0),fun E K H hρ hE=>?_⟩;obtain⟨rfl,h2⟩:=Sq ok H hρ hp1;refine⟨by omega,aO.same H (gE (s:=Instr.sliceAt t (ρ x) (lo.map ρ) (hi.map ρ) (mx.map ρ)) (by simp[execOp,hop]) ?_)⟩;rw[hρ _ _ ha];exact h2
 case fieldAddr st x f=>
  obtain⟨fd,hf,hp1⟩:=aw.1 hp;obtain⟨n,hn,hp2⟩:=aw.1 hp1;obtain⟨_,hck,hp3⟩:=aw.1 hp2;obtain⟨a,ha,hp4⟩:=aw.1 hp3;obtain⟨fs,hP,hfd⟩:=JC ok hf;have hn0:n≠0:=by
    intro e;subst e;simp[R.check]at hck
  split at hp4
  . cases hp4;refine⟨(0,0),fun E K H hρ _=>⟨by omega,aO.same H ?_⟩⟩;refine gE (s:=Instr.fieldAt st (ρ x) f) (by simp[execOp,hop]) ?_;unfold Instr.fieldAt;simp[underlying,hP,hfd,hρ _ _ ha,af,Instr.sureAddr,fieldPlace,kG ok hn,hn0,add_lit]
  . cases hp4
 case field t x f=>
  obtain⟨fd,hf,hp1⟩:=aw.1 hp;obtain⟨a,ha,hp2⟩:=aw.1 hp1;obtain⟨fs,hP,hfd⟩:=JC ok hf;split at hp2
  . obtain⟨u,hu,hp3⟩:=aw.1 hp2
    cases hp3;refine⟨(0,0),fun E K H hρ _=>⟨by omega,aO.same H ?_⟩⟩;refine gE (s:=Instr.field t (ρ x) f) (by simp[execOp,hop]) ?_;unfold Instr.field;simp[underlying,hP,hfd,hρ _ _ ha,af,asAgg,uD ok hu E w]
  . cases hp2
 case indexAddr t x ix=>
  obtain⟨y,hy,hp0⟩:=aw.1 hp;obtain⟨i,hi,hp1⟩:=aw.1 hp0;obtain⟨d,hd,hp2⟩:=aw.1 hp1;obtain⟨a,ha,hp3⟩:=aw.1 hp2;have hP:=ok.und t d (cZ.1 hd);obtain⟨k,rfl⟩:=qv hi;split at hp3
  . obtain⟨_,hck,hp4⟩:=aw.1 hp3;obtain⟨n,hn,hp5⟩:=aw.1 hp4
    cases hp5;have hlt:=ew.1 hck;simp only[Dk]at hlt;refine⟨(0,0),fun E K H hρ _=>⟨by omega,aO.same H ?_⟩⟩;refine gE (s:=Instr.indexAt t (ρ x) (ρ ix)) (by simp[execOp,hop]) ?_;unfold Instr.indexAt;simp[underlying,hP,hρ _ _ ha,hρ _ _ hy,af,Go.asIntOf,Instr.sureAddr,kG ok hn,hlt,add_lit]
  . obtain⟨_,hck,hp4⟩:=aw.1 hp3;obtain⟨n,hn,hp5⟩:=aw.1 hp4
    cases hp5;have hlt:=ew.1 hck;simp only[Dk]at hlt;refine⟨(0,0),fun E K H hρ _=>⟨by omega,aO.same H ?_⟩⟩;refine gE (s:=Instr.indexAt t (ρ x) (ρ ix)) (by simp[execOp,hop]) ?_;unfold Instr.indexAt;simp[underlying,hP,hρ _ _ ha,hρ _ _ hy,af,Go.asIntOf,kG ok hn,hlt,add_lit]
  . cases hp3
 case index t x ix=>
  obtain⟨y,hy,hp0⟩:=aw.1 hp;obtain⟨i,hi,hp1⟩:=aw.1 hp0;obtain⟨d,hd,hp2⟩:=aw.1 hp1;obtain⟨a,ha,hp3⟩:=aw.1 hp2;have hP:=ok.und t d (cZ.1 hd);obtain⟨k,rfl⟩:=qv hi;split at hp3
  . obtain⟨_,hck,hp4⟩:=aw.1 hp3;obtain⟨n,hn,hp5⟩:=aw.1 hp4;obtain⟨u,hu,hp6⟩:=aw.1 hp5
    cases hp6;have hlt:=ew.1 hck;simp only[Dk]at hlt;refine⟨(0,0),fun E K H hρ _=>⟨by omega,aO.same H ?_⟩⟩;refine gE (s:=Instr.index t (ρ x) (ρ ix)) (by simp[execOp,hop]) ?_;unfold Instr.index;simp[underlying,hP,hρ _ _ ha,hρ _ _ hy,af,Go.asIntOf,kG ok hn,hlt,uD ok hu E w]
  . obtain⟨b,hb,hp4⟩:=aw.1 hp3
    cases hp4;have hb:=cZ.1 hb;refine⟨(0,0),fun E K H hρ _=>⟨by omega,aO.same H ?_⟩⟩;refine gE (s:=Instr.index t (ρ x) (ρ ix)) (by simp[execOp,hop]) ?_;unfold Instr.index;simp[underlying,hP,hρ _ _ ha,hρ _ _ hy,af,Go.asIntOf];rw[YY hb];rfl
  . cases hp3
 case lookup t m k c=>
  obtain⟨a,ha,hp1⟩:=aw.1 hp;obtain⟨b,hb,hp2⟩:=aw.1 hp1;obtain⟨u,hu,hp3⟩:=aw.1 hp2
  cases hp3;refine⟨(0,0),fun E K H hρ _=>⟨by omega,aO.same H ?_⟩⟩;refine gE (s:=Instr.lookup t (ρ m) (ρ k) c) (by simp[execOp,hop]) ?_;rw[hρ _ _ ha,hρ _ _ hb];exact Ta ok H hu
 case mapUpdate t m k x=>
  obtain⟨a,ha,hp1⟩:=aw.1 hp;obtain⟨b,hb,hp2⟩:=aw.1 hp1;obtain⟨c,hc,hp3⟩:=aw.1 hp2;obtain⟨h1,hh,hp4⟩:=aw.1 hp3
  cases hp4;refine⟨(0,0),fun E K H hρ _=>?_⟩;obtain⟨h2,w',h3,h4,h5⟩:=IG ok H hh;refine⟨by omega,aO.unit (vR (s:=Instr.mapUpdate t (ρ m) (ρ k) (ρ x)) (by simp[execOp,hop]) ?_) h4 h5⟩;rw[hρ _ _ ha,hρ _ _ hb,hρ _ _ hc];exact h3
 case insert t m k x=>
  obtain⟨a,ha,hp1⟩:=aw.1 hp;obtain⟨b,hb,hp2⟩:=aw.1 hp1;obtain⟨c,hc,hp3⟩:=aw.1 hp2;obtain⟨h1,hh,hp4⟩:=aw.1 hp3
  cases hp4;refine⟨(0,0),fun E K H hρ _=>?_⟩;obtain⟨h2,w',h3,h4,h5⟩:=IG ok H hh;refine⟨by omega,aO.unit (vR (s:=Instr.mapUpdate t (ρ m) (ρ k) (ρ x)) (by simp[execOp,hop]) ?_) h4 h5⟩;rw[hρ _ _ ha,hρ _ _ hb,hρ _ _ hc];exact h3
 case mapEntry t m k=>
  obtain⟨a,ha,hp1⟩:=aw.1 hp;obtain⟨b,hb,hp2⟩:=aw.1 hp1;refine⟨(0,0),fun E K H hρ _=>?_⟩;obtain⟨h2,w',h3,h4,h5⟩:=RB ok H hp2;refine⟨by omega,aO.value (gE (s:=Instr.mapEntry t (ρ m) (ρ k)) (by simp[execOp,hop]) ?_) h4 h5⟩;rw[hρ _ _ ha,hρ _ _ hb];exact h3
 case entryStore t m s x=>
  obtain⟨a,ha,hp1⟩:=aw.1 hp;obtain⟨b,hb,hp2⟩:=aw.1 hp1;obtain⟨c,hc,hp3⟩:=aw.1 hp2;obtain⟨h1,hh,hp4⟩:=aw.1 hp3
  cases hp4;refine⟨(0,0),fun E K H hρ _=>?_⟩;obtain⟨h2,w',h3,h4,h5⟩:=Q7 ok (t:=t) H hh;refine⟨by omega,aO.unit (vR (s:=Instr.entryStore t (ρ m) (ρ s) (ρ x)) (by simp[execOp,hop]) ?_) h4 h5⟩;rw[hρ _ _ ha,hρ _ _ hb,hρ _ _ hc];exact h3
 case range t x=>
  obtain⟨a,ha,hp1⟩:=aw.1 hp;refine⟨(w.heap.size,0),fun E K H hρ hE=>?_⟩;obtain⟨h2,w',h3,h4,h5⟩:=Sj ok H hp1 (hE (TH hp1)).1;refine⟨by omega,aO.value (gE (s:=Instr.range t (ρ x)) (by simp[execOp,hop]) ?_) h4 h5⟩;rw[hρ _ _ ha];exact h3
 case entry it=>
  obtain⟨a,ha,hp1⟩:=aw.1 hp;obtain⟨u,hu,hp2⟩:=aw.1 hp1
  cases hp2;refine⟨(0,0),fun E K H hρ _=>⟨by omega,aO.same H ?_⟩⟩;refine gE (s:=Instr.entry (ρ it)) (by simp[execOp,hop]) ?_;rw[hρ _ _ ha];exact RW H hu
 case typeAssert x xt t c=>
  obtain⟨d,hd,hp1⟩:=aw.1 hp;obtain⟨a,ha,hp2⟩:=aw.1 hp1;have hP:=ok.und t d (cZ.1 hd);have hx:execOp ρ o=(do pure (.value (<-Instr.typeAssert (ρ x) xt t c))):=by simp[execOp,hop]
  split at hp2
  . cases hp2
  . rename_i u v' hni;split at hp2
    . rename_i hut;subst hut
      cases hp2;refine⟨(0,0),fun E K H hρ _=>⟨by omega,aO.same H (gE hx ?_)⟩⟩;unfold Instr.typeAssert;rw[hρ _ _ ha];simp only[Sem.run_bind,underlying,run_program,Result.andThen_ok,hP,Sem.run_pure,af]
      cases d<;>first|exact absurd rfl (hni _)|(cases c<;>simp[af])
    . rename_i hut;obtain⟨_,hck,hp3⟩:=aw.1 hp2;obtain⟨z,hz,hp4⟩:=aw.1 hp3
      cases hp4;have hc:c=true:=ew.1 hck;subst hc;refine⟨(0,0),fun E K H hρ _=>⟨by omega,aO.same H (gE hx ?_)⟩⟩;unfold Instr.typeAssert;rw[hρ _ _ ha];simp only[Sem.run_bind,underlying,run_program,Result.andThen_ok,hP,Sem.run_pure,af]
      cases d<;>first|exact absurd rfl (hni _)|(simp[af,hut,uG ok hz E])
  . rename_i hni;obtain⟨_,hck,hp3⟩:=aw.1 hp2;obtain⟨z,hz,hp4⟩:=aw.1 hp3
    cases hp4;have hc:c=true:=ew.1 hck;subst hc;refine⟨(0,0),fun E K H hρ _=>⟨by omega,aO.same H (gE hx ?_)⟩⟩;unfold Instr.typeAssert;rw[hρ _ _ ha];simp only[Sem.run_bind,underlying,run_program,Result.andThen_ok,hP,Sem.run_pure,af]
    cases d<;>first|exact absurd rfl (hni _)|(simp[af,uG ok hz E])
  . cases hp2
 case extract t i=>
  obtain⟨a,ha,hp1⟩:=aw.1 hp;split at hp1
  . obtain⟨u,hu,hp2⟩:=aw.1 hp1
    cases hp2;have hu:=cZ.1 hu;refine⟨(0,0),fun E K H hρ _=>⟨by omega,aO.same H ?_⟩⟩;refine gE (s:=Instr.extract (ρ t) i) (by simp[execOp,hop]) ?_;rw[hρ _ _ ha];simp[Instr.extract,af,kI,hu]
  . cases hp1
 case call c=>
  split at hp
  . rename_i b hb;obtain⟨l,hl,hp1⟩:=aw.1 hp;refine⟨mD P w b c.argTypes (((c.args.toList.map ρ)[0]?).getD undef) (u7 l),fun E K H hρ hE=>?_⟩;have hmap:=qK hρ _ _ hl;rw[hmap]at hE;obtain⟨h1,w',h2,h3,h4⟩:=RP ok H hp1 hE o.type (c.args.map fun| .const _=>true|_=>false);refine⟨h1,_,w',?_, .inl rfl,h3,h4⟩;rw[<-h2,<-hmap];have:(c.args.toList.map ρ).toArray=c.args.map ρ:=by simp[<-Array.toList_inj]
    rw[this];simp[execOp,hop,resolve,hb,invoke];rfl
  . cases hp
 all_goals cases hp
end
end
end Go.Am
namespace Go.Am
section
def ai.enter (fn:Func) (f:FuncId) (body:Code) (args:List AV) (kind:CallKind):ai:=
 {fn:=f,nt:=Nat.max fn.ntmps args.length,tmps:=T.ofList args,todo:=[.code body],defers:=[],mode:= .run,kind,round:=none}
def ai.put (fr:ai) (d:Option Tmp) (v:AV):T AV:=
 match d with
 |some d=>bif Nat.blt d fr.nt then fr.tmps.set d (some v)else fr.tmps
 |none=>fr.tmps
def ai.finish (fr:ai) (v:AV):R ai:=
 match fr.todo with
 | .inRegion ops (i::rest)::k=> .ok {fr with tmps:=fr.put ((ops[i]?).bind (·.dst)) v,todo:= .inRegion ops rest::k}
 | .kZ l::k=> .ok {fr with todo:= .endRange l::k}
 | .beginRound::k=> .ok {fr with todo:=k}
 |_=> .no "finish"
def ai.raise (fr:ai) (c:List vK):ai:=
 match fr.mode with
 | .panicking d=>{fr with mode:= .panicking (c++d)}
 |_=>{fr with mode:= .panicking c}
def exitTo (id:Nat):List bM->Option (List bM)
 | .inBlock j::k=>bif Nat.beq j id then some k else exitTo id k
 |_::k=>exitTo id k
 |[]=>none
inductive eQ where
 |next (m:AM)
 |alts (l:List AM)
 |done (v:AV) (h:AH)
section
variable (tab:bB) (sub:FuncId->List AV->AH->R (List (AV×AH)))
def wanted (ops:Array Oper) (o:Oper) (ts:T AV):R Bool:=
 match o.guard with
 |none=> .ok true
 |some (j,w)=>
  match((ops[j]?).bind (·.dst)).bind ts.get with
  |some (.bool b)=> .ok (b==w)
  |some (.raw _)=> .no "guard"
  |_=> .ok false
def doReturn (fr:ai) (cs:List ai) (v:AV) (h:AH):R eQ:=
 match cs with
 |[]=>
  match fr.kind with
  | .normal=> .ok (.done v h)
  |_=> .no "doReturn: end"
 | c::rest=>
  match fr.kind with
  | .normal=>do .ok (.next {fr:= <-c.finish v,cs:=rest,h})
  | .deferred=>
   match c.mode with
   | .panicking ({recovered:=true, .. }::_)=> .ok (.next {fr:={c with mode:= .returning},cs:=rest,h})
   |_=> .ok (.next {fr:=c,cs:=rest,h})
  |_=> .no "doReturn: kind"
def leave (fr:ai) (cs:List ai) (h:AH) (jump:Option Code):R eQ:=
 match fr.round with
 |none=>
  match jump with
  |none=> .ok (.next {fr:={fr with mode:= .returning},cs,h})
  |some .ret=> .ok (.next {fr:={fr with mode:= .returning},cs,h})
  |_=> .no "leave"
 | some l=>
  match h.get l,cs with
  |some (.loop _ _ fn ts nt ps a b d),_::_=>
   doReturn fr cs (.bool jump.isNone) (h.set l (.loop (if jump.isNone then .ready else .done) jump fn ts nt ps a b d))
  |_,_=> .no "leave: loop"
def F7 (b:ByteArray) (c:UInt8):Int:=
 match(List.range b.size).find? fun i=>b[i]! ==c with
 |some i=>(i:Nat)
 |none=> -1
def extern (tag:Nat) (fn:Func) (args:List AV) (h:AH):R (AV×AH):=
 match tag,args with
 |1,[.str a, .str b]=> .ok (.int .i64 (Extern.BytealgCompare.cmp ⟨a.toArray⟩ ⟨b.toArray⟩),h)
 |2,[x]=> .ok (x,h)
 | 3,[.int .i64 (.ofNat n)]=>do
  let t<-R.of "MakeNoZero" fn.resultTypes[0]?
  match<-und tab t with
  | .slice e=>do
   let sz<-siz tab e
   R.check "MakeNoZero" (Nat.ble n 1048576&&Nat.beq sz 1)
   let (h',b)<-newRow tab h e [] true
   .ok (.sl b 0 n (.tail 0),h')
  |_=> .no "MakeNoZero"
 | 4,[x,y]=>do
  let t<-R.of "overlaps" fn.params[0]?
  match<-und tab t with
  | .slice e=>do
   let sz<-siz tab e
   R.check "overlaps: size" (!(Nat.beq sz 0))
   match x,y with
   | .nils, .nils=> .ok (.bool false,h)
   | .nils, .sl .. => .ok (.bool false,h)
   | .sl .., .nils=> .ok (.bool false,h)
   | .sl a i n _, .sl b j m _=>do
    match h.get a,h.get b with
    |some (.cells _ _ _ _ .rw),some (.cells _ _ _ _ .rw)=>
     bif Nat.beq n 0||Nat.beq m 0 then .ok (.bool false,h)
     else .ok (.bool (Nat.beq a b&&Nat.blt i (j+m*sz)&&Nat.blt j (i+n*sz)),h)
    |_,_=> .no "overlaps"
   |_,_=> .no "overlaps"
  |_=> .no "overlaps"
 |5,[.str a, .int .u8 c]=> .ok (.int .i64 (F7 ⟨a.toArray⟩ c.toNat.toUInt8),h)
 |_,_=> .no "extern"
def xv (f:FuncId) (fn:Func) (args:List AV) (h:AH):R (AV×AH):=
 match tab.ext.get f with
 |some tag=>extern tab tag fn args h
 |none=> .no "extern"
def callFn (fr:ai) (cs:List ai) (h:AH) (f:FuncId) (args:List AV) (kind:CallKind):R eQ:=
 match tab.fns.get f with
 | some fn=>
  match fn.body with
  | some body=>
   bif tab.merge f&&kind== .normal then do
    let outs<-sub f args h
    let ms<-outs.mapM fun(v,h')=>do R.ok {fr:= <-fr.finish v,cs,h:=h':AM}
    .ok (.alts ms)
   else .ok (.next {fr:=ai.enter fn f body args kind,cs:=fr::cs,h})
  | none=>
   match kind with
   | .normal=>do
    let (v,h')<-xv tab f fn args h
    .ok (.next {fr:= <-fr.finish v,cs,h:=h'})
   |_=> .no "callFn: no body"
 |none=> .no "callFn: no function"
def callYield (fr:ai) (cs:List ai) (h:AH) (l:Nat) (args:List AV) (kind:CallKind):R eQ:= .no "callYield"
def callTarget (fr:ai) (cs:List ai) (h:AH) (d:AD) (kind:CallKind):R eQ:=
 match d.target with
 | .fn (.func f) captured=>callFn tab sub fr cs h f (d.args++captured) kind
 | .nc l=>callYield fr cs h l d.args kind
 |_=> .no "callTarget"
def sJ (f:AV) (args:List AV):R AD:=
 match f with
 | .fn fn first captured=> .ok {target:= .fn fn captured,args:=first++args}
 | .nc l=> .ok {target:= .nc l,args}
 |_=> .no "resolve"
def tryRecover (fr:ai) (cs:List ai):R (Option (AV×List ai)):=
 match fr.kind,cs with
 | .deferred,c::rest=>
  match c.mode with
  | .panicking ({v,recovered:=false}::older)=> .ok (some (v,{c with mode:= .panicking ({v,recovered:=true}::older)}::rest))
  |_=> .ok none
 | .normal,_::_=> .ok none
 |_,_=> .no "recover"
def oper (fr:ai) (cs:List ai) (h:AH) (o:Oper):R eQ:=do
 match o.op with
 | .call c=>do
  match c.callee with
  | .value f=>do
   let args<-jS fr.tmps c.args.toList
   let d<-sJ (<-ev fr.tmps f) args
   callTarget tab sub fr cs h d .normal
  | .builtin .recover=>
   match fr.round with
   |none=>do
    match<-tryRecover fr cs with
    |some (v,cs')=>do .ok (.next {fr:= <-fr.finish v,cs:=cs',h})
    |none=>do .ok (.next {fr:= <-fr.finish .gK,cs,h})
   |some _=> .no "recover in a round"
  |_=>do
   let (v,h')<-fp tab fr.tmps h o
   .ok (.next {fr:= <-fr.finish v,cs,h:=h'})
 | .defer c=>do
  match c.callee,fr.round with
  | .value f,none=>do
   let args<-jS fr.tmps c.args.toList
   let d<-sJ (<-ev fr.tmps f) args
   .ok (.next {fr:= <-ai.finish {fr with defers:=d::fr.defers} (.bG []),cs,h})
  |_,_=> .no "defer"
 | .panic x=>do
  match<-ev fr.tmps x with
  | .iface t v=> .ok (.next {fr:=fr.raise [{v:= .iface t v,recovered:=false}],cs,h})
  |_=> .no "panic"
 | .next it s=>do
  let l<-nextOp h (<-ev fr.tmps it) s
  let ms<-l.mapM fun(v,h')=>do R.ok {fr:= <-fr.finish v,cs,h:=h':AM}
  match ms with
  |[m]=> .ok (.next m)
  |ms=> .ok (.alts ms)
 |_=>do
  let (v,h')<-fp tab fr.tmps h o
  .ok (.next {fr:= <-fr.finish v,cs,h:=h'})
inductive lA where
 |pure|read|alloc|kk
deriving DecidableEq
def cls (tab:bB) (o:Oper):lA:=
 match o.op with
 | .move _| .assign _| .pick .. | .build .. | .unOp .. | .makeInterface .. | .makeFunc .. | .slice .. | .fieldAddr .. | .field .. | .indexAddr .. | .index .. | .extract .. | .nilCheck _| .typeAssert .. => .pure
 | .load .. | .lookup .. | .entry _| .binOp .. => .read
 | .convert a b _=>match tab.und.get a,tab.und.get b with
  |some (.int _),some (.int _)=> .pure
  |_,_=> .kk
 | .alloc _| .box .. | .buildSlice .. | .makeMap .. | .makeSlice .. => .alloc
 | .call c=>match c.callee with
  | .builtin .len=> .read
  | .builtin .cap| .builtin .min| .builtin .max=> .pure
  |_=> .kk
 |_=> .kk
structure DS where
 ts:T AV
 h:AH
 aP:T (List Nat)
 reads:List (Nat×T AV×AV)
 aF:List (Nat×Nat)
def iT (h:AH):List (Nat×Nat)->AH
 |[]=>h
 |(_,b)::l=>iT (h.kill b) l
def jk (h h0:AH):List (Nat×Nat)->AH
 |[]=>h
 |(_,b)::l=>jk {h with t:=h.t.set b (h0.get b)} h0 l
def cM (i:Nat) (l:List Nat):Bool:=l.any (Nat.beq i)
def iI (o:Oper):List Nat:=(o.after.toList.filter (Region.binds .any)).map (·.on)
def oB (j:Nat) (l:List Nat):List Nat:=bif cM j l then l else j::l
def vm:List Nat->List Nat->List Nat
 |[],l=>l
 |j::m,l=>vm m (oB j l)
def x5 (aP:T (List Nat)):List Nat->List Nat
 |[]=>[]
 |j::l=>oB j (vm ((aP.get j).getD []) (x5 aP l))
def eG (aP:T (List Nat)) (o:Oper):List Nat:=x5 aP (iI o)
def ij (aP:T (List Nat)) (i:Nat) (o:Oper):Bool:=(aP.get i).isNone&&(iI o).all fun j=>(aP.get j).isSome
def ou (ops:Array Oper) (o:Oper):List Tmp:=
  (o.op.operands.toList.filterMap fun| .tmp t=>some t|_=>none)++
  (match o.guard with
   |some (g,_)=>((ops[g]?).bind (·.dst)).toList
   |none=>[])
def wX (aP:T (List Nat)) (t:Tmp) (pre:List Nat):Nat->List Oper->Bool
 |_,[]=>true
 |j,o::l=>(match o.dst with
  |some d=>bif Nat.beq d t&&(aP.get j).isSome then cM j pre else true
  |none=>true)&&wX aP t pre (j+1) l
def xQ (aP:T (List Nat)) (ops:Array Oper) (i:Nat) (a:Tmp) (an:List Nat):Nat->List Oper->Bool
 |_,[]=>true
 |j,o::l=>(match o.dst with
  |some d=>bif Nat.beq d a then Nat.beq i j else true
  |none=>true)&&(bif (aP.get j).isSome then cM j an|| !(cM a (ou ops o))else true)&&xQ aP ops i a an (j+1) l
def jB (aP:T (List Nat)) (ops:Array Oper) (i:Nat) (o:Oper):Bool:=
  (ou ops o).all (fun t=>wX aP t (iI o) 0 ops.toList)&&
  (match o.dst with
   |some d=>xQ aP ops i d (eG aP o) 0 ops.toList
   |none=>true)
def th (ts:T AV) (h:AH) (o:Oper):R (AV×AH):=do
 match o.op with
 | .call c=>do
  match c.callee with
  | .value f=>do
   let args<-jS ts c.args.toList
   let d<-sJ (<-ev ts f) args
   match d.target with
   | .fn (.func f) captured=>do
    match tab.fns.get f with
    | some fn=>
     match fn.body with
     |some _=>do
      match<-sub f (d.args++captured) h with
      |[(v,h')]=> .ok (v,h')
      |_=> .no "draw: more than one end"
     |none=>xv tab f fn (d.args++captured) h
    |none=> .no "draw: function"
   |_=> .no "draw: target"
  | .builtin .recover=> .no "draw: recover"
  |_=>fp tab ts h o
 | .defer _| .panic _| .next .. | .go _=> .no "draw: effect"
 |_=>fp tab ts h o
def gR (nt:Nat) (ts:T AV) (o:Oper) (v:AV):T AV:=
 match o.dst with
 |some d=>bif Nat.blt d nt then ts.set d (some v)else ts
 |none=>ts
def qx (ops:Array Oper) (nt:Nat) (i:Nat) (o:Oper) (s:DS):R (Option DS):=do
 R.check "draw: temporaries" (jB s.aP ops i o)
 let aP:=s.aP.set i (some (eG s.aP o))
 if !(<-wanted ops o s.ts)then .ok (some {s with ts:=gR nt s.ts o (.bG []),aP})
 else
  match cls tab o with
  | .kk=> .ok none
  | .alloc=>do
   let (v,h1)<-fp tab s.ts {t:= .e,next:=s.h.next} o
   R.check "draw: a block" (Nat.beq h1.next (s.h.next+1))
   let obj<-R.of "draw: block" (h1.get s.h.next)
   .ok (some {s with ts:=gR nt s.ts o v,h:=s.h.new obj,aP,aF:=(i,s.h.next)::s.aF})
  | c=>
   match(match c with| .pure=>fp tab s.ts {t:= .e,next:=0} o|_=> .no "read")with
   | .ok (v,h1)=>do
    R.check "draw: no block" (Nat.beq h1.next 0)
    .ok (some {s with ts:=gR nt s.ts o v,aP})
   | .no _=>
    match fp tab s.ts (iT s.h s.aF) o with
    | .ok (v,_)=> .ok (some {s with ts:=gR nt s.ts o v,aP,reads:=(i,s.ts,v)::s.reads})
    | .no _=> .ok none
def ll (ops:Array Oper) (nt:Nat):Nat->List Oper->DS->R DS
 |_,[],s=> .ok s
 | i,o::l,s=>
  bif ij s.aP i o then do
   match<-qx tab ops nt i o s with
   |some s'=>ll ops nt (i+1) l s'
   |none=>ll ops nt (i+1) l s
  else ll ops nt (i+1) l s
def jK (aP:T (List Nat)):Nat->List Oper->List (Nat×Oper)
 |_,[]=>[]
 |i,o::l=>bif ij aP i o then(i,o)::jK aP (i+1) l else jK aP (i+1) l
def reread (ops:Array Oper) (h:AH):List (Nat×T AV×AV)->R Unit
 |[]=> .ok ()
 |(i,ts,v)::l=>do
  let o<-R.of "reread" ops[i]?
  let (u,_)<-fp tab ts h o
  R.check "draw: a read behind an effect" (AV.beq u v)
  reread ops h l
def xP (ops:Array Oper) (nt:Nat) (i:Nat) (o:Oper) (s:DS):R DS:=do
 R.check "draw: temporaries" (jB s.aP ops i o)
 let b<-wanted ops o s.ts
 R.check "draw: not wanted" b
 let an:=eG s.aP o
 let hid:=s.aF.filter fun x=> !(cM x.1 an)
 let (v,h1)<-th tab sub s.ts (iT s.h hid) o
 R.check "draw: next" (Nat.ble s.h.next h1.next)
 let h2:=jk h1 s.h hid
 let reads:=s.reads.filter fun x=> !(cM x.1 an)
 reread tab ops (iT h2 hid) reads
 .ok {ts:=gR nt s.ts o v,h:=h2,aP:=s.aP.set i (some an),reads,aF:=hid}
def sx (ops:Array Oper) (nt:Nat):Nat->DS->R DS
 |0,_=> .no "draw: fuel"
 | n+1,s=>do
  let s1<-ll tab ops nt 0 ops.toList s
  match jK s1.aP 0 ops.toList with
  |[]=>do
   R.check "draw: not all" ((List.range ops.size).all fun i=>(s1.aP.get i).isSome)
   .ok s1
  |[(i,o)]=>do
   let s2<-xP tab sub ops nt i o s1
   sx ops nt n s2
  |_=> .no "draw: two effects"
def pO:Nat->List Oper->Bool
 |_,[]=>true
 |i,o::l=>(iI o).all (fun p=>Nat.blt p i)&&pO (i+1) l
def draw (ops:Array Oper) (nt:Nat) (ts:T AV) (h:AH):R (T AV×AH):=do
 R.check "draw: order" (pO 0 ops.toList)
 let s<-sx tab sub ops nt (ops.size+1) {ts,h,aP:= .e,reads:=[],aF:=[]}
 .ok (s.ts,s.h)
def results (h:AH) (ts:T AV):List ResultVar->R (List AV)
 |[]=> .ok []
 | .tmp t::l=>do
  let vs<-results h ts l
  .ok ((ts.get t).getD (.bG [])::vs)
 | .cell a t::l=>do
  match ts.get a with
  |some (.ptr b off)=>do
   let v<-loadVar tab h t b off
   let vs<-results h ts l
   .ok (v::vs)
  |_=> .no "results"
def result (vs:List AV):AV:=
 match vs with
 |[v]=>v
 |vs=> .bG vs
def unwind (fr:ai) (cs:List ai) (h:AH):R eQ:=
 match fr.defers with
 |{target:= .collected b, .. }::ds=>
  match h.get b with
  |some (.vM (some calls))=> .ok (.next {fr:={fr with defers:=calls++ds},cs,h:=h.set b (.vM none)})
  |_=> .no "unwind: collected"
 |d::ds=>callTarget tab sub {fr with defers:=ds} cs h d .deferred
 | []=>
  match fr.mode with
  | .run=> .no "unwind"
  | .panicking chain=>
   match cs with
   |c::rest=> .ok (.next {fr:=c.raise chain,cs:=rest,h})
   |[]=> .no "a panic at the end"
  | .returning=>
   match tab.fns.get fr.fn with
   |none=> .no "unwind: function"
   |some fn=>do
    let vs<-results tab h fr.tmps fn.results.toList
    doReturn fr cs (result vs) h
def step (m:AM):R eQ:=
 let fr:=m.fr
 let cs:=m.cs
 let h:=m.h
 match fr.mode with
 | .run=>
  match fr.todo with
  |[]=>leave fr cs h none
  | .code .ret::_=>leave fr cs h (some .ret)
  | .code .skip::k=> .ok (.next {fr:={fr with todo:=k},cs,h})
  | .code (.label _)::k=> .ok (.next {fr:={fr with todo:=k},cs,h})
  | .inBlock _::k=> .ok (.next {fr:={fr with todo:=k},cs,h})
  | .inScope _::k=> .ok (.next {fr:={fr with todo:=k},cs,h})
  | .code (.seq a b)::k=> .ok (.next {fr:={fr with todo:= .code a:: .code b::k},cs,h})
  | .code (.cond c a b)::k=>do
   match<-ev fr.tmps c with
   | .bool true=> .ok (.next {fr:={fr with todo:= .code a::k},cs,h})
   | .bool false=> .ok (.next {fr:={fr with todo:= .code b::k},cs,h})
   |_=> .no "cond"
  | .code (.block id b)::k=> .ok (.next {fr:={fr with todo:= .code b:: .inBlock id::k},cs,h})
  | .code (.loop b)::k=> .ok (.next {fr:={fr with todo:= .code b:: .inLoop b::k},cs,h})
  | .inLoop b::k=> .ok (.next {fr:={fr with todo:= .code b:: .inLoop b::k},cs,h})
  | .code (.scope b)::k=> .ok (.next {fr:={fr with todo:= .code b:: .inScope b::k},cs,h})
  | .code (.exit id)::k=>
   match exitTo id k with
   |some k'=> .ok (.next {fr:={fr with todo:=k'},cs,h})
   |none=>leave fr cs h (some (.exit id))
  | .code (.rangeFunc _ _ _ _)::_=> .no "rangeFunc"
  | .endRange l::k=>
   match h.get l with
   |some (.loop st pending fn ts nt ps a b d)=>
    match st with
    | .busy=> .no "endRange: busy"
    |_=> .ok (.next {fr:={fr with todo:=(pending.map bM.code).toList++k},cs,h:=h.set l (.loop .exhausted pending fn ts nt ps a b d)})
   |_=> .no "endRange"
  | .beginRound::k=>
   match fr.round with
   |some l=>
    match h.get l with
    |some (.loop .ready pending fn ts nt ps a b d)=> .ok (.next {fr:={fr with todo:=k},cs,h:=h.set l (.loop .busy pending fn ts nt ps a b d)})
    |_=> .no "beginRound"
   |none=> .no "beginRound"
  | .code (.region _ ops false)::k=> .ok (.next {fr:={fr with todo:= .inRegion ops (List.range ops.size)::k},cs,h})
  | .code (.region _ ops true)::k=>do
   let (ts,h')<-draw tab sub ops fr.nt fr.tmps h
   .ok (.next {fr:={fr with tmps:=ts,todo:=k},cs,h:=h'})
  | .inRegion _ []::k=> .ok (.next {fr:={fr with todo:=k},cs,h})
  | .inRegion ops (i::_)::_=>
   match ops[i]? with
   |some o=>do
    if<-wanted ops o fr.tmps then oper tab sub fr cs h o
    else do .ok (.next {fr:= <-fr.finish (.bG []),cs,h})
   |none=> .no "region"
  |_=> .no "item"
 |_=>unwind tab sub fr cs h
end
mutual
def runs (tab:bB):Nat->List AM->R (List (AV×AH))
 |0,_=> .no "fuel"
 |_+1,[]=> .ok []
 |n+1,m::l=>do
  let a<-run tab n m
  let b<-runs tab n l
  .ok (a++b)
def run (tab:bB):Nat->AM->R (List (AV×AH))
 |0,_=> .no "fuel"
 | n+1,m=>
  match step tab (fun f args h=>match tab.fns.get f with
   |some fn=>match fn.body with
    |some body=>run tab n {fr:=ai.enter fn f body args .normal,cs:=[],h}
    |none=> .no "run: body"
   |none=> .no "run: function") m with
  | .no w=> .no w
  | .ok (.done v h)=> .ok [(v,h)]
  | .ok (.next m')=>run tab n m'
  | .ok (.alts l)=>runs tab n l
end
end
end Go.Am
namespace Go.Am
open Go.RowKit
section
variable [Inhabited aL]
def eA (E:Env):bM->Item
 | .code c=> .code c
 | .inBlock id=> .inBlock id
 | .inLoop b=> .inLoop b
 | .inScope b=> .inScope b
 | .inRegion ops l=> .inRegion ops l
 | .kZ l=> .inRangeFunc (E.bh l)
 | .endRange l=> .endRangeFunc (E.bh l)
 | .beginRound=> .beginRound
def ov (E:Env) (x:vK):PanicEntry:={v:=af E x.v,recovered:=x.recovered}
def fG (E:Env):pt->FrameMode
 | .run=> .run
 | .returning=> .returning
 | .panicking c=> .panicking (c.map (ov E))
def bD (E:Env) (fr:ai):Frame:=
 {fn:=fr.fn,tmps:=gX E fr.tmps fr.nt,todo:=fr.todo.map (eA E),defers:=fr.defers.map (fj E),mode:=fG E fr.mode,kind:=fr.kind,roundOf:=fr.round.map E.bh}
def ai.WF (fr:ai):Prop:=∀t,fr.nt<=t->fr.tmps.get t=none
def ax (D:Nat->Prop) (E E':Env):Prop:=∀i,D i->E'.bh i=E.bh i/\E'.cap i=E.cap i
theorem ax.refl (D:Nat->Prop) (E:Env):ax D E E:=fun _ _=>⟨rfl,rfl⟩
theorem ax.trans {D D':Nat->Prop} {E E' E'':Env} (h:ax D E E') (h':ax D' E' E'') (hd:∀i,D i->D' i):ax D E E'':=
 fun i hi=>⟨(h' i (hd i hi)).1.trans (h i hi).1,(h' i (hd i hi)).2.trans (h i hi).2⟩
structure Rel (D:Nat->Prop) (E:Env) (K:KS) (m:AM) (base:List Frame) (fr:Frame) (cs:List Frame) (w:World):Prop where
 all:∀E',ax D E E'->bN E' m.h K w/\bD E' m.fr=fr/\m.cs.map (bD E')++base=cs
 eN:∀i,D i->i<m.h.next
 wf:m.fr.WF/\ ∀f∈m.cs,f.WF
def gH (P:Program) (lo:Nat) (M0:Machine) (D:Nat->Prop) (E:Env) (K:KS) (m':AM) (base:List Frame) (w:World):Prop:=
 ∃fr' cs' w' E' D',Steps P M0 (lone fr' cs' w')/\Rel D' E' K m' base fr' cs' w'/\ax D E E'/\(∀i,D i->D' i)/\Kept K w w'/\lo<=m'.h.next/\ ∀i,D' i->D i\/lo<=i
def Ends (P:Program) (lo:Nat) (M0:Machine) (D:Nat->Prop) (E:Env) (K:KS) (v:AV) (h:AH) (base:List Frame) (f:FuncId) (w:World):Prop:=
 ∃fr' w' v' E' D',Steps P M0 (lone fr' base w')/\fr'.fn=f/\fr'.leaving P w' (.returned v')/\(∀E'',ax D' E' E''->bN E'' h K w'/\af E'' v=v')/\
  ax D E E'/\(∀i,D i->D' i)/\(∀i,D' i->i<h.next)/\Kept K w w'/\lo<=h.next/\ ∀i,D' i->D i\/lo<=i
section
variable {P:Program} {D D1:Nat->Prop} {E E1:Env} {K:KS} {m:AM} {base:List Frame} {M0 M1:Machine} {w w1:World} {v:AV} {h:AH} {f:FuncId}
theorem gH.trans {lo lo1:Nat} (hs:Steps P M0 M1) (ha:ax D E E1) (hd:∀i,D i->D1 i) (hk:Kept K w w1) (hlo:lo<=lo1) (hnew:∀i,D1 i->D i\/lo<=i) (hg:gH P lo1 M1 D1 E1 K m base w1):gH P lo M0 D E K m base w:=by
 obtain⟨fr',cs',w',E',D',h1,h2,h3,h4,h5,h6,h7⟩:=hg;refine⟨fr',cs',w',E',D',hs.trans h1,h2,ha.trans h3 hd,fun i hi=>h4 i (hd i hi),hk.trans h5,Aq hlo h6,fun i hi=>?_⟩;rcases h7 i hi with h|h
 . exact hnew i h
 . exact .inr (Aq hlo h)
theorem Ends.trans {lo lo1:Nat} (hs:Steps P M0 M1) (ha:ax D E E1) (hd:∀i,D i->D1 i) (hk:Kept K w w1) (hlo:lo<=lo1) (hnew:∀i,D1 i->D i\/lo<=i) (hg:Ends P lo1 M1 D1 E1 K v h base f w1):Ends P lo M0 D E K v h base f w:=by
 obtain⟨fr',w',v',E',D',h1,h2,h3,h4,h5,h6,h7,h8,h9',h9⟩:=hg;refine⟨fr',w',v',E',D',hs.trans h1,h2,h3,h4,ha.trans h5 hd,fun i hi=>h6 i (hd i hi),h7,hk.trans h8,Aq hlo h9',fun i hi=>?_⟩;rcases h9 i hi with h|h
 . exact hnew i h
 . exact .inr (Aq hlo h)
end
theorem qz {fr fr':Frame} {cs cs':List Frame} {w w':World} (h:lone fr cs w=lone fr' cs' w'):fr=fr'/\cs=cs'/\w=w':=by
 simp only[lone,Machine.mk.injEq,Array.mk.injEq,BS,Goroutine.mk.injEq,DE,true_and]at h;obtain⟨h1,h2,h3⟩:=h;exact⟨h2,h3,h1⟩
def One (P:Program) (M0:Machine) (E:Env) (K:KS) (m':AM) (base:List Frame) (w:World):Prop:=
 ∃w',Go.step P M0= .next (lone (bD E m'.fr) (m'.cs.map (bD E)++base) w')/\bN E m'.h K w'/\Kept K w w'
section
variable {P:Program} {D:Nat->Prop} {E:Env} {K:KS} {m m':AM} {base:List Frame} {fr:Frame} {cs:List Frame} {w:World}
theorem Rel.oJ (hR:Rel D E K m base fr cs w) (f:Nat->Nat×Nat):∃E1,ax D E E1/\ ∀i,m.h.next<=i->E1.bh i=(f i).1/\E1.cap i=(f i).2:=by
 refine⟨⟨fun i=>if i<m.h.next then E.bh i else(f i).1,fun i=>if i<m.h.next then E.cap i else(f i).2⟩,fun i hi=>?_,fun i hi=>?_⟩
 . have:=hR.eN i hi;simp[this]
 . have hlt:¬i<m.h.next:=by omega
   simp[hlt]
theorem Rel.one (hR:Rel D E K m base fr cs w) (M0:Machine)
   (f:Nat->Nat×Nat) (hn:m.h.next<=m'.h.next) (hwf:m'.fr.WF/\ ∀f∈m'.cs,f.WF)
   (h1:∀E',ax D E E'->bN E' m.h K w->bD E' m.fr=fr->m.cs.map (bD E')++base=cs->(∀i,m.h.next<=i->i<m'.h.next->E'.bh i=(f i).1/\E'.cap i=(f i).2)->One P M0 E' K m' base w):
   gH P m.h.next M0 D E K m' base w:=by
 obtain⟨E1,ha,hE⟩:=hR.oJ f;let D1:Nat->Prop:=fun i=>D i\/(m.h.next<=i/\i<m'.h.next)
 have hE1:∀E',ax D1 E1 E'->One P M0 E' K m' base w:=by
   intro E' he;have hd:ax D E E':=ha.trans he (fun i hi=> .inl hi);obtain⟨g1,g2,g3⟩:=hR.all E' hd;refine h1 E' hd g1 g2 g3 (fun i hi hj=>?_);have h2:=he i (.inr ⟨hi,hj⟩);have h3:=hE i hi;exact⟨h2.1.trans h3.1,h2.2.trans h3.2⟩
 obtain⟨w',s1,s2,s3⟩:=hE1 E1 (ax.refl _ _);refine⟨_,_,w',E1,D1, .one s1,⟨?_,?_,hwf⟩,ha,fun i hi=> .inl hi,s3,hn,fun i hi=>hi.elim .inl (fun h=> .inr h.1)⟩
 . intro E' he;obtain⟨w2,t1,t2,t3⟩:=hE1 E' he;rw[s1]at t1;obtain⟨e1,e2,e3⟩:=qz (by simpa using t1);subst e3;exact⟨t2,e1.symm,e2.symm⟩
 . intro i hi;rcases hi with hi|hi
   . have:=hR.eN i hi;omega
   . exact hi.2
end
end
section
variable [Inhabited aL]
theorem Cg (E:Env) (ts:T AV) (nt t:Nat) (hwf:∀t,nt<=t->ts.get t=none):(gX E ts nt).getD t undef=af E ((ts.get t).getD (.bG [])):=by
 unfold gX;by_cases ht:t<nt
 . simp[Array.getD,ht,vw]
 . simp[Array.getD,ht,hwf t (by omega)];rfl
theorem tmps_get? (E:Env) (ts:T AV) (nt t:Nat):(gX E ts nt)[t]? =if t<nt then some (af E ((ts.get t).getD (.bG [])))else none:=by
 unfold gX;by_cases ht:t<nt<;>simp[ht,vw]
theorem UU (E:Env) (ts:T AV) (nt:Nat):(gX E ts nt).size=nt:=by simp[gX]
def gM (ts:T AV) (nt:Nat) (d:Tmp) (v:AV):T AV:=bif Nat.blt d nt then ts.set d (some v)else ts
theorem CH (ts:T AV) (nt:Nat) (d:Tmp) (v:AV) (t:Nat):(gM ts nt d v).get t=if d<nt/\t=d then some v else ts.get t:=by
 unfold gM;by_cases h:d<nt
 . have:Nat.blt d nt=true:=by simpa using h
   simp[h,this,T.bm]
 . have:Nat.blt d nt=false:=by
    cases hb:Nat.blt d nt
    . rfl
    . exact absurd (by simpa using hb) h
   simp[this,h]
theorem W6 (E:Env) (ts:T AV) (nt:Nat) (d:Tmp) (v:AV):(gX E ts nt).setIfInBounds d (af E v)=gX E (gM ts nt d v) nt:=by
 apply Db
 intro j;rw[BL,tmps_get?,tmps_get?,UU,CH];by_cases hj:d=j
 . subst hj;by_cases hd:d<nt<;>simp[hd]
 . have:¬j=d:=fun e=>hj e.symm
   simp[hj,this]
theorem X9 {ts:T AV} {nt:Nat} (h:∀t,nt<=t->ts.get t=none) (d:Tmp) (v:AV):∀t,nt<=t->(gM ts nt d v).get t=none:=by
 intro t ht;rw[CH];split
 . rename_i hc;obtain⟨h1,h2⟩:=hc;subst h2;exact absurd h1 (E8.2 ht)
 . exact h t ht
theorem qJ {fr:ai} (hwf:fr.WF) (E:Env) {x:Operand} {u:AV} (h:ev fr.tmps x= .ok u):(bD E fr).eval x=af E u:=by
 cases x<;>simp only[ev]at h<;>(try cases h)
 . exact Cg E fr.tmps fr.nt _ hwf
 . exact(Iu E _).symm
 . simp[Frame.eval,af]
theorem tS (fr:ai) (d:Option Tmp) (v:AV):fr.put d v=match d with|some d=>gM fr.tmps fr.nt d v|none=>fr.tmps:=by
 cases d<;>rfl
theorem lh {fr fr':ai} {v:AV} (h:fr.finish v= .ok fr') (E:Env):(bD E fr).finish (af E v)=bD E fr'/\(fr.WF->fr'.WF)/\fr'.fn=fr.fn:=by
 obtain⟨fn,nt,tmps,todo,defers,mode,kind,round⟩:=fr;unfold ai.finish at h;split at h
 . rename_i ops i rest k htodo
   cases h;simp only at htodo;subst htodo;refine⟨?_,fun hwf=>?_,rfl⟩
   . rw[tS]
     cases hd:(ops[i]?).bind (·.dst)with
     |none=>simp[Frame.finish,bD,eA,hd]
     |some d=>simp[Frame.finish,bD,eA,hd,W6]
   . unfold ai.WF;simp only[tS]
     cases hd:(ops[i]?).bind (·.dst)with
     |none=>exact hwf
     |some d=>exact X9 hwf d v
 . rename_i l k htodo
   cases h;simp only at htodo;subst htodo;exact⟨by simp[Frame.finish,bD,eA],fun hwf=>hwf,rfl⟩
 . rename_i k htodo
   cases h;simp only at htodo;subst htodo;exact⟨by simp[Frame.finish,bD,eA],fun hwf=>hwf,rfl⟩
 . cases h
def bot (fr:ai):List ai->FuncId
 |[]=>fr.fn
 |c::cs=>bot c cs
theorem iR {fr fr':ai} (h:fr'.fn=fr.fn) (cs:List ai):bot fr' cs=bot fr cs:=by
 cases cs with
 |nil=>exact h
 |cons c cs=>rfl
theorem I8 (E:Env) (id:Nat):∀(k:List bM),Go.exitTo id (k.map (eA E))=(exitTo id k).map (List.map (eA E)):=by
 intro k;induction k with
 |nil=>rfl
 |cons x k ih=>
  cases x<;>simp only[AR,eA,Go.exitTo,exitTo,ih]
  rename_i j;by_cases h:j=id
  . subst h;simp
  . have:Nat.beq j id=false:=by
     cases hb:Nat.beq j id
     . rfl
     . exact absurd (Ag hb) h
    simp[h,this,ih]
section
variable {P:Program} {D:Nat->Prop} {E:Env} {K:KS} {m:AM} {base:List Frame} {fr:Frame} {cs:List Frame} {w:World}
theorem Rel.kh (hR:Rel D E K m base fr cs w) (fr':ai) (hwf:fr'.WF) (h:∀E' cs',Go.step P (lone (bD E' m.fr) cs' w)= .next (lone (bD E' fr') cs' w)):
  gH P m.h.next (lone fr cs w) D E K {fr:=fr',cs:=m.cs,h:=m.h} base w:=
 hR.one (m':={fr:=fr',cs:=m.cs,h:=m.h}) _ (fun _=>(0,0)) (Ai _) ⟨hwf,hR.wf.2⟩
  (fun E' _ H e1 e2 _=>⟨w,by rw[<-e1,<-e2];exact h E' _,H,Kept.refl K w⟩)
theorem IS {fr:Frame} {cs:List Frame} {s:Sem Next} {r:Next} {x:Value} {w w':World} (hs:s.run P w= .ok r w') (hr:F5 r x):
  (stepG.apply P true fr cs none s w).bare= .go {frame:=fr.finish x,callers:=cs,status:= .running,dying:=none} w':=by
 rcases hr with rfl|⟨rfl,rfl⟩<;>simp[stepG.apply,hs]
theorem Yh {fr:Frame} {cs:List Frame} {ops:Array Oper} {i:Nat} {rest:List Nat} {k:List Item} {o:Oper} (hm:fr.mode= .run) (ht:fr.todo= .inRegion ops (i::rest)::k)
   (ho:ops[i]? =some o) (hw:Region.wanted o (yielded ops fr.tmps)=true) (hd:fr.roundOf=none\/ ∀c,o.op≠ .defer c) (w:World):
   stepG P true {frame:=fr,callers:=cs,status:= .running,dying:=none} w=stepG.apply P true fr cs none (execOp fr.eval o) w:=by
 have:stepG P true {frame:=fr,callers:=cs,status:= .running,dying:=none} w=stepG.oper P true fr cs none w:=by
   simp[stepG,hm,stepG.exec,ht,ho,hw]
 rw[this];unfold stepG.oper;simp only[Frame.oper?,ht,ho];rcases hd with hd|hd
 . rw[hd]
 . cases fr.roundOf with
   |none=>rfl
   |some l=>
    split
    . exact absurd (by assumption) (hd _)
    . rfl
end
end
section
variable [Inhabited aL]
theorem Pe {α:Type}:∀(l:List α) (k:Nat) (t:T α) (j:Nat),(T.gC l k t).get j=if k<=j/\j<k+l.length then l[j - k]? else t.get j:=by
 intro l;induction l with
 |nil=>
  intro k t j;simp only[T.gC,AK,Bw];rw[if_neg (by omega)]
 |cons x l ih=>
  intro k t j;simp only[T.gC,ih,T.bm,AA];by_cases h1:k+1<=j/\j<k+1+l.length
  . rw[if_pos h1,if_pos (by omega)];have:j - k=(j - (k+1))+1:=by omega
    rw[this,AZ]
  . rw[if_neg h1];by_cases h2:j=k
    . subst h2;simp
    . rw[if_neg h2,if_neg (by omega)]
theorem lU {α:Type} (l:List α) (j:Nat):(T.ofList l).get j=l[j]? :=by
 unfold T.ofList;rw[Pe];by_cases h:j<l.length
 . rw[if_pos (by omega)];simp
 . rw[if_neg (by omega),Bq (by omega)];rfl
theorem qq (fn:Func) (f:FuncId) (body:Code) (args:List AV) (kind:CallKind):(ai.enter fn f body args kind).WF:=by
 intro t ht;simp only[ai.enter]at ht⊢;rw[lU,Bq];exact Aq (Nat.le_max_right _ _) ht
theorem mL {P:Program} {fn:Func} {f:FuncId} {body:Code} (hf:P.funcs[f]? =some fn) (hb:fn.body=some body) (E:Env) (args:List AV) (kind:CallKind):
   Frame.enter P f (bA E args).toArray kind=bD E (ai.enter fn f body args kind):=by
 unfold Frame.enter ai.enter bD;simp only[hf,hb,B0,AU,A8,AR,Eg,eA,fG,Da];congr 1
 apply Db
 intro j;rw[tmps_get?,lU,EB,BC,bP,AW,kI,Fo];by_cases h1:j<args.length
 . have h2:j<Nat.max fn.ntmps args.length:=AY h1 (Nat.le_max_right _ _);rw[if_pos h1,if_pos h2,Af h1];simp
 . rw[if_neg h1,Bq (by omega:args.length<=j)];have:Nat.max fn.ntmps args.length=max fn.ntmps args.length:=rfl;rw[this];by_cases h2:j<fn.ntmps
   . rw[if_pos (by omega),if_pos (by omega)];rfl
   . rw[if_neg (by omega),if_neg (by omega)]
theorem zB {ops:Array Oper} {o:Oper} {ts:T AV} {nt:Nat} (hwf:∀t,nt<=t->ts.get t=none) {b:Bool} (h:wanted ops o ts= .ok b) (E:Env):
  Region.wanted o (yielded ops (gX E ts nt))=b:=by
 unfold wanted at h;unfold Region.wanted
 cases hg:o.guard with
 |none=>rw[hg]at h;cases h;rfl
 | some gw=>
  obtain⟨j,u⟩:=gw;rw[hg]at h;simp only at h⊢;unfold yielded
  cases hd:(ops[j]?).bind (·.dst)with
  |none=>
   rw[hd]at h;simp only[Option.bind_none]at h
   cases h;rfl
  |some d=>
   rw[hd]at h;simp only[B0]at h⊢;rw[tmps_get?];by_cases hlt:d<nt
   . rw[if_pos hlt]
     cases hv:ts.get d with
     |none=>rw[hv]at h;cases h;rfl
     |some v=>
      rw[hv]at h
      cases v<;>simp only at h<;>first|(cases h;done)|(cases h;simp[af])
   . rw[if_neg hlt];rw[hwf d (by exact D5 hlt)]at h
     cases h;rfl
end
section
variable [Inhabited aL]
instance:LawfulMonad R:=LawfulMonad.mk'
 (id_map:=by intro α x;cases x<;>rfl)
 (pure_bind:=by intros;rfl)
 (bind_assoc:=by intro α β γ x f g;cases x<;>rfl)
theorem xb {P:Program} {w:World} {r:Nat} {o:Obj} (h:w.heap[r]? =some o) (hn:∀c e f,o≠ .cells c e f):(getObj r).run P w= .ok o w:=by
 simp only[getObj,Sem.run,h]
theorem Lo {α β:Type} {g:α->R β}:∀{l:List α} {ms:List β},l.mapM g= .ok ms->∀x∈l,∃y∈ms,g x= .ok y:=by
 intro l;induction l with
 |nil=>intro ms _ x hx;cases hx
 |cons a l ih=>
  intro ms h x hx;rw[Fc]at h;obtain⟨b,hb,h1⟩:=aw.1 h;obtain⟨bs,hbs,h2⟩:=aw.1 h1
  cases h2;rcases Aj.1 hx with rfl|hx
  . exact⟨b,An,hb⟩
  . obtain⟨y,hy,hg⟩:=ih hbs x hx;exact⟨y,Ao _ hy,hg⟩
def Out (P:Program) (lo:Nat) (M0:Machine) (D:Nat->Prop) (E:Env) (K:KS) (b:FuncId) (base:List Frame) (w:World):eQ->Prop
 | .next m'=>bot m'.fr m'.cs=b/\gH P lo M0 D E K m' base w
 | .alts l=>∃m'∈l,bot m'.fr m'.cs=b/\gH P lo M0 D E K m' base w
 | .done v h=>Ends P lo M0 D E K v h base b w
theorem Out.trans {P:Program} {D D1:Nat->Prop} {E E1:Env} {K:KS} {base:List Frame} {M0 M1:Machine} {w w1:World} {b:FuncId} {out:eQ} {lo lo1:Nat}
  (hs:Steps P M0 M1) (ha:ax D E E1) (hd:∀i,D i->D1 i) (hk:Kept K w w1) (hlo:lo<=lo1) (hnew:∀i,D1 i->D i\/lo<=i) (hg:Out P lo1 M1 D1 E1 K b base w1 out):Out P lo M0 D E K b base w out:=by
 cases out with
 |next m'=>exact⟨hg.1,hg.2.trans hs ha hd hk hlo hnew⟩
 |alts l=>
  obtain⟨m',h1,h2,h3⟩:=hg;exact⟨m',h1,h2,h3.trans hs ha hd hk hlo hnew⟩
 |done v h=>exact Ends.trans hs ha hd hk hlo hnew hg
def lv (P:Program) (tab:bB) (sub:FuncId->List AV->AH->R (List (AV×AH))):Prop:=
 ∀f fn body args h outs,tab.fns.get f=some fn->fn.body=some body->sub f args h= .ok outs->∀(D:Nat->Prop) (E:Env) (K:KS) (w:World) (argsC:Array Value),
  (∀E',ax D E E'->bN E' h K w/\(bA E' args).toArray=argsC)->(∀i,D i->i<h.next)->∀cs,∃v h',(v,h')∈outs/\Ends P h.next (lone (Frame.enter P f argsC .normal) cs w) D E K v h' cs f w
def lu (P:Program) (tab:bB):Prop:=
 ∀f fn args h v h',tab.fns.get f=some fn->fn.body=none->xv tab f fn args h= .ok (v,h')->∀w,∃g:Nat×Nat,∀E K,bN E h K w->(h.next<h'.next->E.bh h.next=g.1/\E.cap h.next=g.2)->
  (h.next<=h'.next/\h'.next<=h.next+1)/\ ∃w',(callFunc f (bA E args).toArray).run P w= .ok (.value (af E v)) w'/\bN E h' K w'/\Kept K w w'
structure Ctx (P:Program) (M0:Machine) (frC:Frame) (csC:List Frame) (w:World) (kind:CallKind) (dC:Deferred):Prop where
 enter:∀f a w',(invoke dC.target dC.args).run P w= .ok (.enter f a) w'->Go.step P M0= .next (lone (Frame.enter P f a kind) (frC::csC) w')
 round:∀l f t a b w',(invoke dC.target dC.args).run P w= .ok (.round l f t a b) w'->Go.step P M0= .next (lone (Frame.round l f t a b kind) (frC::csC) w')
 value:∀v w',(invoke dC.target dC.args).run P w= .ok (.value v) w'->kind= .normal->Go.step P M0= .next (lone (frC.finish v) csC w')
section
variable {P:Program} {tab:bB} (ok:bU P tab) {sub:FuncId->List AV->AH->R (List (AV×AH))} (hsub:lv P tab sub) (hext:lu P tab)
variable {D:Nat->Prop} {E:Env} {K:KS} {base:List Frame} {frC:Frame} {csC:List Frame} {w:World}
include ok hsub hext in
theorem Rk {fr:ai} {cs:List ai} {h:AH} {f:FuncId} {args:List AV} {kind:CallKind} {out:eQ} (hc:callFn tab sub fr cs h f args kind= .ok out)
   (hR:Rel D E K {fr,cs,h} base frC csC w) (M0:Machine) {dC:Deferred} (hctx:Ctx P M0 frC csC w kind dC)
   (hinv:∀E',ax D E E'->invoke dC.target dC.args=callFunc f (bA E' args).toArray):Out P h.next M0 D E K (bot fr cs) base w out:=by
 unfold callFn at hc;split at hc
 . rename_i fn hfn;have hP:=ok.fns f fn hfn;have hn:fn.name≠ "runtime.NumGoroutine" :=by simpa using ok.vQ f fn hfn
   split at hc
   . rename_i body hb;have hrun:∀a,(callFunc f a).run P w= .ok (.enter f a) w:=by
       intro a;simp[callFunc,hP,hn,hb]
     have hstep:∀E',ax D E E'->Go.step P M0= .next (lone (Frame.enter P f (bA E' args).toArray kind) (frC::csC) w):=fun E' he=>
       hctx.enter _ _ _ (by rw[hinv E' he,hrun])
     by_cases hm:(tab.merge f&&kind== .normal)=true
     . simp only[hm,Bh]at hc;obtain⟨outs,ho,hc1⟩:=aw.1 hc;obtain⟨ms,hms,hc2⟩:=aw.1 hc1
       cases hc2;have hk:kind= .normal:=eq_of_beq ((Aa _ _▸hm).2:(kind== .normal)=true);subst hk;have hargs:∀E',ax D E E'->(bA E' args).toArray=(bA E args).toArray:=by
         intro E' he;have h1:=hstep E' he;rw[hstep E (ax.refl _ _)]at h1;obtain⟨e,_,_⟩:=qz (by simpa using h1);have h2:=hinv E' he;have h3:=hinv E (ax.refl _ _);rw[h2]at h3;have h4:=hrun (bA E' args).toArray;rw[h3,hrun]at h4;simpa using h4.symm
       obtain⟨v,h',hmem,he⟩:=hsub f fn body args h outs hfn hb ho D E K w (bA E args).toArray (fun E' he=>⟨(hR.all E' he).1,hargs E' he⟩) hR.eN (frC::csC);obtain⟨fr',w',v',E',D',s1,s2,s3,s4,s5,s6,s7,s8,s9,s10⟩:=he;obtain⟨y,hy,hg⟩:=Lo hms _ hmem;obtain⟨fr1,hfin,hg1⟩:=aw.1 hg
       cases hg1;have hfc:=lh hfin;refine⟨_,hy,iR (hfc E).2.2 cs,frC.finish v',csC,w',E',D',?_,⟨?_,s7,?_⟩,s5,s6,s8,s9,s10⟩
       . exact(Steps.head (hstep E (ax.refl _ _)) s1).trans (.one (step_leave_returned s3))
       . intro E'' he';obtain⟨g1,g2⟩:=s4 E'' he';obtain⟨k1,k2,k3⟩:=hR.all E'' (s5.trans he' s6);refine⟨g1,?_,k3⟩;rw[<-(hfc E'').1,<-g2,<-k2]
       . exact⟨(hfc E).2.1 hR.wf.1,hR.wf.2⟩
     . have hm':(tab.merge f&&kind== .normal)=false:=by simpa using hm
       simp only[hm',AS]at hc
       cases hc;refine⟨rfl,?_⟩;refine hR.one (m':={fr:=ai.enter fn f body args kind,cs:=fr::cs,h}) M0 (fun _=>(0,0)) (Ai _) ⟨qq _ _ _ _ _,?_⟩ ?_
       . intro g hg;rcases Aj.1 hg with rfl|hg
         . exact hR.wf.1
         . exact hR.wf.2 g hg
       . intro E' he H e1 e2 _;refine⟨w,?_,H,Kept.refl K w⟩;rw[hstep E' he,mL hP hb];simp only[AR,By,e1,e2]
   . rename_i hb;split at hc
     . obtain⟨⟨v,h'⟩,hx,hc1⟩:=aw.1 hc;obtain⟨fr1,hfin,hc2⟩:=aw.1 hc1
       cases hc2;obtain⟨g,hg⟩:=hext f fn args h v h' hfn hb hx w;have hfc:=lh hfin;refine⟨iR (hfc E).2.2 cs,?_⟩;obtain⟨E1,ha1,hE1⟩:=hR.oJ (fun _=>g);have hn:=(hg E1 K (hR.all E1 ha1).1 (fun _=>hE1 h.next (Ai _))).1;refine hR.one (m':={fr:=fr1,cs,h:=h'}) M0 (fun _=>g) hn.1 ⟨(hfc E).2.1 hR.wf.1,hR.wf.2⟩ ?_;intro E' he H e1 e2 hE';obtain⟨_,w',s1,s2,s3⟩:=hg E' K H (fun hlt=>hE' h.next (Ai _) hlt);refine⟨w',?_,s2,s3⟩;rw[hctx.value (af E' v) w' (by rw[hinv E' he,s1]) rfl,<-e1,<-e2,(hfc E').1]
     . cases hc
 . cases hc
omit ok hsub hext in
theorem Q2 {fr:ai} {cs:List ai} {h:AH} {l:Nat} {args:List AV} {kind:CallKind} {out:eQ} (hc:callYield fr cs h l args kind= .ok out)
  (hR:Rel D E K {fr,cs,h} base frC csC w) (M0:Machine) {dC:Deferred} (hctx:Ctx P M0 frC csC w kind dC)
  (hinv:∀E',ax D E E'->invoke dC.target dC.args=Instr.yield (E'.bh l) (bA E' args).toArray):Out P h.next M0 D E K (bot fr cs) base w out:=by
 simp[callYield]at hc
include ok hsub hext in
theorem Ie {fr:ai} {cs:List ai} {h:AH} {d:AD} {kind:CallKind} {out:eQ} (hc:callTarget tab sub fr cs h d kind= .ok out)
   (hR:Rel D E K {fr,cs,h} base frC csC w) (M0:Machine) {dC:Deferred} (hctx:Ctx P M0 frC csC w kind dC) (hd:∀E',ax D E E'->fj E' d=dC):Out P h.next M0 D E K (bot fr cs) base w out:=by
 unfold callTarget at hc;split at hc
 . rename_i f captured ht;refine Rk ok hsub hext hc hR M0 hctx (fun E' he=>?_);rw[<-hd E' he];simp only[fj,ht,oo,invoke,dQ];simp
 . rename_i l ht;refine Q2 hc hR M0 hctx (fun E' he=>?_);rw[<-hd E' he];simp only[fj,ht,oo,invoke]
 . cases hc
end
end
section
variable [Inhabited aL]
theorem xc {P:Program} {w:World} {r:Nat} {o:Obj} (h:w.heap[r]? =some o) (hn:∀c e f,o≠ .cells c e f) (o':Obj):(setObj r o').run P w= .ok () (w.put r o'):=by
 simp only[setObj,Sem.run,h];rfl
section
variable {P:Program} {h:AH}
theorem SB {it:AV} {s:Bool} {l:List (AV×AH)} (hn:nextOp h it s= .ok l) (w:World) (ty:TypeId):
  ∃j:Nat,∀E K,bN E h K w->∃(v:AV) (h':AH),l[j]? =some (v,h')/\h'.next=h.next/\ ∃w',(Instr.next (af E it) s ty).run P w= .ok (af E v) w'/\bN E h' K w'/\Kept K w w':=by
 simp[nextOp]at hn
end
end
section
variable [Inhabited aL]
section
variable {P:Program} {tab:bB} (ok:bU P tab) {sub:FuncId->List AV->AH->R (List (AV×AH))} (hsub:lv P tab sub) (hext:lu P tab)
variable {D:Nat->Prop} {E:Env} {K:KS} {base:List Frame} {frC:Frame} {csC:List Frame} {w:World}
variable {fr:ai} {cs:List ai} {h:AH} {ops:Array Oper} {i:Nat} {rest:List Nat} {k:List bM} {o:Oper}
structure iW (frC:Frame) (ops:Array Oper) (i:Nat) (rest:List Nat) (o:Oper):Prop where
 mode:frC.mode= .run
 todo:∃k,frC.todo= .inRegion ops (i::rest)::k
 op:ops[i]? =some o
 wanted:Region.wanted o (yielded ops frC.tmps)=true
theorem mC (hR:Rel D E K {fr,cs,h} base frC csC w) (hm:fr.mode= .run) (ht:fr.todo= .inRegion ops (i::rest)::k) (ho:ops[i]? =some o) (hw:wanted ops o fr.tmps= .ok true):iW frC ops i rest o:=by
 obtain⟨_,e,_⟩:=hR.all E (ax.refl _ _);subst e;refine⟨by simp[bD,hm,fG],⟨k.map (eA E),by simp[bD,ht,eA]⟩,ho,?_⟩;exact zB hR.wf.1 hw E
theorem iW.step (a:iW frC ops i rest o) (hd:frC.roundOf=none\/ ∀c,o.op≠ .defer c) (csC:List Frame) (w:World):
  stepG P true {frame:=frC,callers:=csC,status:= .running,dying:=none} w=stepG.apply P true frC csC none (execOp frC.eval o) w:=by
 obtain⟨k,hk⟩:=a.todo;exact Yh a.mode hk a.op a.wanted hd w
theorem iW.value (a:iW frC ops i rest o) (hd:frC.roundOf=none\/ ∀c,o.op≠ .defer c) (csC:List Frame) {w w':World} {r:Next} {x:Value} (hs:(execOp frC.eval o).run P w= .ok r w') (hr:F5 r x):
  Go.step P (lone frC csC w)= .next (lone (frC.finish x) csC w'):=
 step_lone_go (by rw[a.step hd,IS hs hr])
theorem Kl {ts:T AV} {v:AV} {h':AH} (hp:fp tab ts h o= .ok (v,h')):∀c,o.op≠ .defer c:=by
 intro c e;unfold fp at hp;rw[e]at hp
 cases hp
include ok in
theorem U9 (hR:Rel D E K {fr,cs,h} base frC csC w) (a:iW frC ops i rest o) {v:AV} {h':AH} (hp:fp tab fr.tmps h o= .ok (v,h')) {fr':ai} (hf:fr.finish v= .ok fr'):
  Out P h.next (lone frC csC w) D E K (bot fr cs) base w (.next {fr:=fr',cs,h:=h'}):=by
 obtain⟨f,hgood⟩:=IC ok hp w frC.eval;have hfc:=lh hf;have hρ:∀E',ax D E E'->∀x u,ev fr.tmps x= .ok u->frC.eval x=af E' u:=by
  intro E' he x u hx;rw[<-(hR.all E' he).2.1];exact qJ hR.wf.1 E' hx
 obtain⟨E1,ha1,hE1⟩:=hR.oJ (fun _=>f);have hn:=(hgood E1 K (hR.all E1 ha1).1 (hρ E1 ha1) (fun _=>hE1 h.next (Ai _))).1;refine⟨iR (hfc E).2.2 cs,?_⟩;refine hR.one (m':={fr:=fr',cs,h:=h'}) _ (fun _=>f) hn.1 ⟨(hfc E).2.1 hR.wf.1,hR.wf.2⟩ ?_;intro E' he H e1 e2 hE';obtain⟨_,r,w',s1,s2,s3,s4⟩:=hgood E' K H (hρ E' he) (fun hlt=>hE' h.next (Ai _) hlt);refine⟨w',?_,s3,s4⟩;rw[a.value (.inr (Kl hp)) csC s1 s2,<-e1,<-e2,(hfc E').1]
theorem wi {u:AV} {args:List AV} {d:AD} (hd:sJ u args= .ok d) (E:Env):Deferred.ofValue (af E u) (bA E args).toArray=pure (fj E d):=by
 unfold sJ at hd;split at hd
 . cases hd;simp[Deferred.ofValue,af,fj,oo]
 . cases hd;simp[Deferred.ofValue,af,fj,oo]
 . cases hd
theorem zo {f:Value} {a:Array Value} {d:AD} (h:∀E',ax D E E'->Deferred.ofValue f a=pure (fj E' d)):∀E',ax D E E'->fj E' d=fj E d:=by
 intro E' he;have h1:=h E' he;rw[h E (ax.refl _ _)]at h1;have h2:(pure (fj E d):Sem Deferred).run default default=(pure (fj E' d):Sem Deferred).run default default:=by rw[h1]
 simpa using h2.symm
theorem zX (a:iW frC ops i rest o) (hd:frC.roundOf=none\/ ∀c,o.op≠ .defer c) {dC:Deferred} (hx:(execOp frC.eval o).run P w=(invoke dC.target dC.args).run P w):
   Ctx P (lone frC csC w) frC csC w .normal dC:=by
 obtain⟨k,hk⟩:=a.todo;refine⟨fun f x w' hr=>?_,fun l f t x b w' hr=>?_,fun v w' hr _=>?_⟩
 . refine step_lone_go ?_;rw[a.step hd];simp[stepG.apply,hx,hr,hk]
 . refine step_lone_go ?_;rw[a.step hd];simp[stepG.apply,hx,hr]
 . exact a.value hd csC (by rw[hx,hr]) (.inl rfl)
theorem Re {r:Option (AV×List ai)} (hr:tryRecover fr cs= .ok r) (E:Env) (base:List Frame):
   Go.tryRecover (bD E fr) (cs.map (bD E)++base)=r.map (fun x=>(af E x.1,x.2.map (bD E)++base)):=by
 unfold tryRecover at hr;split at hr
 . rename_i _ c rest hk;have hk':(bD E fr).kind= .deferred:=hk;split at hr
   . rename_i v older hm
     cases hr;have hm':(bD E c).mode= .panicking ({v:=af E v,recovered:=false}::older.map (ov E)):=by simp[bD,hm,fG,ov]
     simp only[AR,By,Go.tryRecover,hk',hm',A8];rfl
   . rename_i hm
     cases hr;simp only[AR,By,Go.tryRecover,hk',Da];split
     . rename_i heq;exfalso;simp only[bD,fG]at heq;split at heq
       . cases heq
       . cases heq
       . rename_i chain hch
         cases chain with
         |nil=>simp at heq
         |cons p older=>
          obtain⟨v',rc⟩:=p;simp[ov]at heq;obtain⟨⟨_,h2⟩,_⟩:=heq;subst h2;exact hm _ _ hch
     . rfl
 . rename_i _ c rest hk
   cases hr;have hk':(bD E fr).kind= .normal:=hk;simp only[AR,By];unfold Go.tryRecover;simp[hk']
 . cases hr
theorem Rp {v:AV} {cs':List ai} (hr:tryRecover fr cs= .ok (some (v,cs'))):(∀f∈cs,f.WF)->(∀f∈cs',f.WF)/\(∀fr',fr'.fn=fr.fn->bot fr' cs'=bot fr cs):=by
 intro hwf;unfold tryRecover at hr;split at hr
 . rename_i _ c rest hk;split at hr
   . cases hr;refine⟨fun f hf=>?_,fun fr' hf=>?_⟩
     . rcases Aj.1 hf with rfl|hf
       . exact hwf c An
       . exact hwf f (Ao _ hf)
     . show bot _ rest=bot c rest
       exact iR (by rfl) rest
   . cases hr
 . cases hr
 . cases hr
include ok hsub hext in
theorem SL {out:eQ} (hop:oper tab sub fr cs h o= .ok out) (hR:Rel D E K {fr,cs,h} base frC csC w) (hm:fr.mode= .run) (ht:fr.todo= .inRegion ops (i::rest)::k)
   (ho:ops[i]? =some o) (hw:wanted ops o fr.tmps= .ok true):Out P h.next (lone frC csC w) D E K (bot fr cs) base w out:=by
 have a:=mC hR hm ht ho hw;have hρ:∀E',ax D E E'->∀x u,ev fr.tmps x= .ok u->frC.eval x=af E' u:=by
   intro E' he x u hx;rw[<-(hR.all E' he).2.1];exact qJ hR.wf.1 E' hx
 have hpure:∀{out:eQ},(do let (v,h')<-fp tab fr.tmps h o;R.ok (eQ.next {fr:= <-fr.finish v,cs,h:=h'}):R eQ)= .ok out->Out P h.next (lone frC csC w) D E K (bot fr cs) base w out:=by
   intro out hp;obtain⟨⟨v,h'⟩,h1,hp1⟩:=aw.1 hp;obtain⟨fr',h2,hp2⟩:=aw.1 hp1
   cases hp2;exact U9 ok hR a h1 h2
 unfold oper at hop;split at hop
 . rename_i c hc;split at hop
   ·
     rename_i f hf;obtain⟨args,hargs,hop1⟩:=aw.1 hop;obtain⟨u,hu,hop2⟩:=aw.1 hop1;obtain⟨d,hd,hop3⟩:=aw.1 hop2;have hres:∀E',ax D E E'->Deferred.ofValue (frC.eval f) (c.args.map frC.eval)=pure (fj E' d):=by
       intro E' he;rw[<-wi hd E',hρ E' he _ _ hu,<-qK (hρ E' he) _ _ hargs];congr 1
       simp[<-Array.toList_inj]
     have hrob:=zo hres;refine Ie ok hsub hext hop3 hR _ (dC:=fj E d) (zX a (.inr (by rw[hc];intro c' e;cases e)) ?_) hrob;simp[execOp,hc,resolve,hf,hres E (ax.refl _ _)]
   ·
     rename_i hb;split at hop
     . rename_i hround;have hr0:frC.roundOf=none:=by
         rw[<-(hR.all E (ax.refl _ _)).2.1];simp[bD,hround]
       obtain⟨r,hr,hop1⟩:=aw.1 hop;have hnd:frC.roundOf=none\/ ∀c,o.op≠ .defer c:= .inl hr0;have hrun:(execOp frC.eval o).run P w= .ok .recover w:=by
         simp[execOp,hc,resolve,hb,invoke,Go.builtin]
       have hstep:∀E',ax D E E'->(stepG P true {frame:=frC,callers:=csC,status:= .running,dying:=none} w).bare=
          (match r.map (fun x=>(af E' x.1,x.2.map (bD E')++base))with
           |some (v,callers)=> .go {frame:=frC.finish v,callers,status:= .running,dying:=none} w
           |none=> .go {frame:=frC.finish .nilIface,callers:=csC,status:= .running,dying:=none} w):=by
         intro E' he;obtain⟨_,e1,e2⟩:=hR.all E' he;rw[<-Re hr E' base,e1,e2,a.step hnd];simp only[stepG.apply,hrun,hr0,Sem.runT_eq,if_true]
         cases Go.tryRecover frC csC<;>simp
       split at hop1
       . rename_i v cs';obtain⟨fr',hf,hop2⟩:=aw.1 hop1
         cases hop2;have hfc:=lh hf;obtain⟨g1,g2⟩:=Rp hr hR.wf.2;refine⟨g2 _ (hfc E).2.2,?_⟩;refine hR.one (m':={fr:=fr',cs:=cs',h}) _ (fun _=>(0,0)) (Ai _) ⟨(hfc E).2.1 hR.wf.1,g1⟩ ?_;intro E' he H e1 e2 _;refine⟨w,step_lone_go ?_,H,Kept.refl K w⟩;rw[hstep E' he,<-(hfc E').1,e1];rfl
       . obtain⟨fr',hf,hop2⟩:=aw.1 hop1
         cases hop2;have hfc:=lh hf;refine⟨iR (hfc E).2.2 cs,?_⟩;refine hR.one (m':={fr:=fr',cs,h}) _ (fun _=>(0,0)) (Ai _) ⟨(hfc E).2.1 hR.wf.1,hR.wf.2⟩ ?_;intro E' he H e1 e2 _;refine⟨w,step_lone_go ?_,H,Kept.refl K w⟩;rw[hstep E' he,<-(hfc E').1,e1,e2];rfl
     . cases hop
   . exact hpure hop
 ·
   rename_i c hc;split at hop
   . rename_i f hf hround;have hr0:frC.roundOf=none:=by
       rw[<-(hR.all E (ax.refl _ _)).2.1];simp[bD,hround]
     obtain⟨args,hargs,hop1⟩:=aw.1 hop;obtain⟨u,hu,hop2⟩:=aw.1 hop1;obtain⟨d,hd,hop3⟩:=aw.1 hop2;obtain⟨fr',hfin,hop4⟩:=aw.1 hop3
     cases hop4;have hres:∀E',ax D E E'->Deferred.ofValue (frC.eval f) (c.args.map frC.eval)=pure (fj E' d):=by
       intro E' he;rw[<-wi hd E',hρ E' he _ _ hu,<-qK (hρ E' he) _ _ hargs];congr 1
       simp[<-Array.toList_inj]
     have hfc:=lh hfin;refine⟨(iR (hfc E).2.2 cs).trans (iR (by rfl) cs),?_⟩;refine hR.one (m':={fr:=fr',cs,h}) _ (fun _=>(0,0)) (Ai _) ⟨(hfc E).2.1 hR.wf.1,hR.wf.2⟩ ?_;intro E' he H e1 e2 _;refine⟨w,step_lone_go ?_,H,Kept.refl K w⟩;have hrun:(execOp frC.eval o).run P w= .ok (.defer (fj E' d)) w:=by
       simp[execOp,hc,resolve,hf,hres E' he]
     rw[a.step (.inl hr0),<-(hfc E').1,<-e2];simp only[stepG.apply,hrun,Sem.runT_eq,if_true,GStep.bare_after,GStep.bare_go];rw[<-e1];rfl
   . cases hop
 ·
   rename_i x hx;obtain⟨u,hu,hop1⟩:=aw.1 hop;split at hop1
   . rename_i t v
     cases hop1;have hnd:∀c,o.op≠ .defer c:=by rw[hx];intro c e;cases e
     refine⟨iR (by unfold ai.raise;split<;>rfl) cs,?_⟩;refine hR.one (m':={fr:=fr.raise [{v:= .iface t v,recovered:=false}],cs,h}) _ (fun _=>(0,0)) (Ai _) ⟨by unfold ai.raise;split<;>exact hR.wf.1,hR.wf.2⟩ ?_;intro E' he H e1 e2 _;refine⟨w,step_lone_go ?_,H,Kept.refl K w⟩;have hrun:(execOp frC.eval o).run P w= .halt (.panic (af E' (.iface t v))) w:=by
       simp[execOp,hx,hρ E' he _ _ hu,af,Instr.panic,goPanic,Sem.run,Result.andThen]
     rw[a.step (.inr hnd),<-e2];simp only[stepG.apply,hrun,Sem.runT_eq,if_true,GStep.bare_after,GStep.bare_go];rw[<-e1];simp[Frame.raise,ai.raise,bD,hm,fG,ov]
   . cases hop1
 ·
   rename_i it s hn;obtain⟨u,hu,hop1⟩:=aw.1 hop;obtain⟨l,hl,hop2⟩:=aw.1 hop1;obtain⟨ms,hms,hop3⟩:=aw.1 hop2;have hnd:∀c,o.op≠ .defer c:=by rw[hn];intro c e;cases e
   obtain⟨j,hj⟩:=SB (P:=P) hl w o.type;obtain⟨v,h',hv,hh,_⟩:=hj E K (hR.all E (ax.refl _ _)).1;obtain⟨y,hy,hg⟩:=Lo hms _ (BD hv);obtain⟨fr',hfin,hg1⟩:=aw.1 hg
   cases hg1;have hfc:=lh hfin;have hgets:bot fr' cs=bot fr cs/\gH P h.next (lone frC csC w) D E K {fr:=fr',cs,h:=h'} base w:=by
     refine⟨iR (hfc E).2.2 cs,?_⟩;refine hR.one (m':={fr:=fr',cs,h:=h'}) _ (fun _=>(0,0)) (by simp only;omega) ⟨(hfc E).2.1 hR.wf.1,hR.wf.2⟩ ?_;intro E' he H e1 e2 _;obtain⟨v2,h2,hv2,_,w',s1,s2,s3⟩:=hj E' K H;rw[hv]at hv2
     cases hv2;refine⟨w',?_,s2,s3⟩;rw[a.value (.inr hnd) csC (gE (s:=Instr.next (frC.eval it) s o.type) (by simp[execOp,hn]) (by rw[hρ E' he _ _ hu];exact s1)) (.inl rfl),<-e1,<-e2,(hfc E').1]
   split at hop3
   . rename_i m
     cases hop3;rcases Aj.1 hy with rfl|hy
     . exact hgets
     . cases hy
   . cases hop3;exact⟨_,hy,hgets⟩
 . exact hpure hop
end
end
section
variable [Inhabited aL]
section
variable {P:Program} {tab:bB} (ok:bU P tab) {sub:FuncId->List AV->AH->R (List (AV×AH))} (hsub:lv P tab sub) (hext:lu P tab)
variable {D:Nat->Prop} {E:Env} {K:KS} {base:List Frame} {frC:Frame} {csC:List Frame} {w:World}
variable {fr:ai} {cs:List ai} {h:AH}
theorem RU (E:Env) (l:List vK):(l.map (ov E)).dropWhile (fun e=> !e.goexit)=[]:=by
 induction l with
 |nil=>rfl
 |cons a l ih=>simp[ov];exact ih
theorem zp {v:AV} {m':AM} (hd:doReturn fr cs v h= .ok (.next m')) (hwf:∀f∈cs,f.WF) (w:World):
   m'.h=h/\bot m'.fr m'.cs=bot fr cs/\(m'.fr.WF/\ ∀f∈m'.cs,f.WF)/\
   ∀ E base,(Go.doReturn P true (bD E fr) (cs.map (bD E)++base) none (af E v) w).bare=
     .go {frame:=bD E m'.fr,callers:=m'.cs.map (bD E)++base,status:= .running,dying:=none} w:=by
 unfold doReturn at hd;split at hd
 . split at hd<;>cases hd
 . rename_i c rest;have hc:=hwf c An;have hrest:∀f∈rest,f.WF:=fun f hf=>hwf f (Ao _ hf)
   split at hd
   . rename_i hk;obtain⟨fr1,hf,hd1⟩:=aw.1 hd
     cases hd1;have hfc:=lh hf;refine⟨rfl,iR (hfc ⟨fun _=>0,fun _=>0⟩).2.2 rest,⟨(hfc ⟨fun _=>0,fun _=>0⟩).2.1 hc,hrest⟩,fun E base=>?_⟩;have hk':(bD E fr).kind= .normal:=hk;simp[Go.doReturn,hk',(hfc E).1]
   . rename_i hk;split at hd
     . rename_i r hm
       cases hd;refine⟨rfl,iR (by rfl) rest,⟨hc,hrest⟩,fun E base=>?_⟩;have hk':(bD E fr).kind= .deferred:=hk;simp only[AR,By,Go.doReturn,hk'];simp only[bD,hm,fG,AR,ov];simp[RU]
     . rename_i hm
       cases hd;refine⟨rfl,rfl,⟨hc,hrest⟩,fun E base=>?_⟩;have hk':(bD E fr).kind= .deferred:=hk;simp only[AR,By,Go.doReturn,hk'];split
       . rename_i heq;exfalso;simp only[bD,fG]at heq;split at heq
         . cases heq
         . cases heq
         . rename_i chain hch
           cases chain with
           |nil=>simp at heq
           |cons p older=>
            obtain⟨v',rc⟩:=p;simp[ov]at heq;obtain⟨⟨_,h2,_⟩,_⟩:=heq;subst h2;exact hm _ _ hch
       . rfl
   . cases hd
include ok in
theorem Sl {ts:T AV} {nt:Nat} (hwf:∀t,nt<=t->ts.get t=none) (H:bN E h K w):∀(l:List ResultVar) (vs:List AV),results tab h ts l= .ok vs->
  (l.mapM (m:=Sem) fun
   | .tmp t=>pure ((gX E ts nt).getD t undef)
   | .cell a t=>do Go.loadVar t (<-asAddr ((gX E ts nt).getD a undef))).run P w= .ok (bA E vs) w:=by
 intro l;induction l with
 |nil=>intro vs h;simp only[results]at h;cases h;simp
 | cons x l ih=>
  intro vs hr;rw[Fc]
  cases x with
  |tmp t=>
   simp only[results]at hr;obtain⟨vs1,h1,h2⟩:=aw.1 hr
   cases h2;simp only[Sem.run_bind,Sem.run_pure,Result.andThen_ok,ih _ h1,Cg E ts nt t hwf,bY]
  |cell a t=>
   simp only[results]at hr;split at hr
   . rename_i b off ha;obtain⟨v,h1,h2⟩:=aw.1 hr;obtain⟨vs1,h3,h4⟩:=aw.1 h2
     cases h4;have hv:=Jc ok H h1;have hva:asAddr (af E (.ptr b off))=pure ⟨E.bh b,off,none⟩:=rfl;simp only[Sem.run_bind,Sem.run_pure,Result.andThen_ok,ih _ h3,Cg E ts nt a hwf,bY,ha,AU,hva,hv]
   . cases hr
include ok in
theorem Rx {fn:Func} {ts:T AV} {nt:Nat} (hwf:∀t,nt<=t->ts.get t=none) (H:bN E h K w) {vs:List AV} (hr:results tab h ts fn.results.toList= .ok vs):
  (Go.results fn (gX E ts nt)).run P w= .ok (af E (result vs)) w:=by
 have h1:=Sl ok hwf H _ _ hr;unfold Go.results;rw[Array.mapM_eq_mapM_toList,map_eq_pure_bind,Sem.run_bind,Sem.run_bind];erw[h1]
 simp only[Result.andThen_ok,Sem.run_pure]
 cases vs with
 |nil=>simp[result,af]
 |cons v vs=>
  cases vs with
  |nil=>simp[result]
  |cons u vs=>simp[result,af]
end
end
section
variable [Inhabited aL]
section
variable {P:Program} {tab:bB} (ok:bU P tab) {sub:FuncId->List AV->AH->R (List (AV×AH))} (hsub:lv P tab sub) (hext:lu P tab)
variable {D:Nat->Prop} {E:Env} {K:KS} {base:List Frame} {frC:Frame} {csC:List Frame} {w:World}
variable {fr:ai} {cs:List ai} {h:AH}
theorem Km {E E':Env} (e:bD E' fr=bD E fr):gX E' fr.tmps fr.nt=gX E fr.tmps fr.nt/\fr.todo.map (eA E')=fr.todo.map (eA E)/\
  fr.defers.map (fj E')=fr.defers.map (fj E)/\fG E' fr.mode=fG E fr.mode/\fr.round.map E'.bh=fr.round.map E.bh:=by
 simpa [bD]using e
def lK (P:Program) (fr:Frame) (callers:List Frame) (w:World) (jump:Option Code):GStep:=
 match fr.roundOf with
 |none=>if jump matches none|some .ret then .go {frame:={fr with mode:= .returning},callers,status:= .running,dying:=none} w else .ended (.stuck "exit, goto: no such block or label" (fr.pos P)) w
 |some l=>
  let (r,es):=(Instr.endRound l jump).runT P w #[]
  GStep.after (seen P fr.fn es)<|match r with
  | .ok v w=>Go.doReturn P true fr callers none v w
  | .halt _ w=> .ended (.stuck "range over a function: no such loop" (fr.pos P)) w
theorem Ih {c:ai} {rest:List ai} {v:AV} {out:eQ} (hd:doReturn fr (c::rest) v h= .ok out):∃m',out= .next m':=by
 unfold doReturn at hd;simp only at hd;split at hd
 . obtain⟨fr1,hf,hd1⟩:=aw.1 hd
   cases hd1;exact⟨_,rfl⟩
 . split at hd<;>(cases hd;exact⟨_,rfl⟩)
 . cases hd
theorem zH {jump:Option Code} {out:eQ} (hl:leave fr cs h jump= .ok out) (hR:Rel D E K {fr,cs,h} base frC csC w)
   (hx:stepG P true {frame:=frC,callers:=csC,status:= .running,dying:=none} w=lK P frC csC w jump):Out P h.next (lone frC csC w) D E K (bot fr cs) base w out:=by
 unfold leave at hl;split at hl
 . rename_i hround;have hret:(jump=none\/jump=some .ret)->Out P h.next (lone frC csC w) D E K (bot fr cs) base w (.next {fr:={fr with mode:= .returning},cs,h}):=by
     intro hj;refine⟨iR (by rfl) cs,?_⟩;refine hR.one (m':={fr:={fr with mode:= .returning},cs,h}) _ (fun _=>(0,0)) (Ai _) ⟨hR.wf.1,hR.wf.2⟩ ?_;intro E' he H e1 e2 _;refine⟨w,step_lone_go ?_,H,Kept.refl K w⟩;rw[hx];have hr0:frC.roundOf=none:=by rw[<-e1];simp[bD,hround]
     have hgo:(lK P frC csC w jump).bare= .go {frame:={frC with mode:= .returning},callers:=csC,status:= .running,dying:=none} w:=by
       unfold lK;rw[hr0];rcases hj with rfl|rfl<;>rfl
     rw[hgo,<-e1,<-e2];simp[bD,hround,fG]
   split at hl
   . cases hl;exact hret (.inl rfl)
   . cases hl;exact hret (.inr rfl)
   . cases hl
 . rename_i l hround;split at hl
   . rename_i _ st pd fn ts nt ps a b d c rest hg;obtain⟨m',rfl⟩:=Ih hl
     . obtain⟨h1,h2,h3,h4⟩:=zp (P:=P) hl hR.wf.2 w;refine⟨h2,?_⟩;refine hR.one _ (fun _=>(0,0)) (by rw[h1];exact Ai _) h3 ?_;intro E' he H e1 e2 _;obtain⟨o,ho,hoo,hw⟩:=H.obj l _ hg;subst hoo;let o':Obj:= .loop {state:=if jump.isNone then .ready else .done,pending:=jump,fn,tmps:=gX E' ts nt,params:=ps,assign:=a,body:=b,defers:=E'.bh d}
       have hrun:(Instr.endRound (E'.bh l) jump).run P w= .ok (.bool jump.isNone) (w.put (E'.bh l) o'):=by
         unfold Instr.endRound Instr.getLoop;simp only[Sem.run_bind,xb ho (by simp),Result.andThen_ok,Sem.run_pure,xc ho (by simp)];rfl
       refine⟨w.put (E'.bh l) o',step_lone_go ?_,?_,H.dR hg (by simp[AO.ro]) _⟩
       . rw[hx];have hr0:frC.roundOf=some (E'.bh l):=by rw[<-e1];simp[bD,hround]
         unfold lK;rw[hr0];simp only[Sem.runT_eq,hrun,GStep.bare_after];have:=(zp (P:=P) hl hR.wf.2 (w.put (E'.bh l) o')).2.2.2 E' base;simp only at e1 e2;rw[e1,e2]at this;exact this
       . rw[h1];refine H.put hg (by simp[AO.ro]) ⟨?_,hw⟩;by_cases hj:jump.isNone<;>simp[o',hj]
   . cases hl
theorem R0 (hm:frC.mode≠ .run):stepG P true {frame:=frC,callers:=csC,status:= .running,dying:=none} w=Go.unwind P true frC csC none w:=by
 unfold stepG
 cases hmode:frC.mode with
 |run=>exact absurd hmode hm
 |returning=>simp[hmode]
 |panicking c=>simp[hmode]
include ok hsub hext in
theorem R5 {out:eQ} (hu:unwind tab sub fr cs h= .ok out) (hm:∀(_:fr.mode= .run),False) (hR:Rel D E K {fr,cs,h} base frC csC w):Out P h.next (lone frC csC w) D E K (bot fr cs) base w out:=by
 have hmC:frC.mode≠ .run:=by
   rw[<-(hR.all E (ax.refl _ _)).2.1];intro e;simp only[bD,fG]at e;split at e
   . rename_i hmm;exact hm hmm
   . cases e
   . cases e
 have hx:=R0 (P:=P) (csC:=csC) (w:=w) hmC;unfold unwind at hu;split at hu
 ·
   rename_i b args ds hds;split at hu
   . rename_i calls hb
     cases hu;refine⟨iR (by rfl) cs,?_⟩;refine hR.one (m':={fr:={fr with defers:=calls++ds},cs,h:=h.set b (.vM none)}) _ (fun _=>(0,0)) (Ai _) ⟨hR.wf.1,hR.wf.2⟩ ?_;intro E' he H e1 e2 _;obtain⟨o,ho,hoo⟩:=H.obj b _ hb;simp only[pY]at hoo;subst hoo;refine⟨w.put (E'.bh b) (.deferred none),step_lone_go ?_,H.put hb (by simp[AO.ro]) (by simp[pY]),H.dR hb (by simp[AO.ro]) _⟩;rw[hx];have hrun:(Instr.takeDeferred (E'.bh b)).run P w= .ok (calls.map (fj E')) (w.put (E'.bh b) (.deferred none)):=by
       unfold Instr.takeDeferred;simp only[Sem.run_bind,xb ho (by simp),Result.andThen_ok,Sem.run_pure,xc ho (by simp),A8]
     have hdef:frC.defers={target:= .collected (E'.bh b),args:=(bA E' args).toArray}::ds.map (fj E'):=by
       rw[<-e1];simp[bD,hds,fj,oo]
     unfold Go.unwind;simp only[hdef,Sem.runT_eq,hrun,GStep.bare_after,GStep.bare_go];rw[<-e1,<-e2];simp[bD]
   . cases hu
 ·
   rename_i d ds hnc hds;have hR':Rel D E K {fr:={fr with defers:=ds},cs,h} base (bD E {fr with defers:=ds}) csC w:=by
     refine⟨fun E' he=>?_,hR.eN,hR.wf.1,hR.wf.2⟩;obtain⟨g1,g2,g3⟩:=hR.all E' he;refine⟨g1,?_,g3⟩;obtain⟨h1,h2,h3,h4,h5⟩:=Km (g2.trans (hR.all E (ax.refl _ _)).2.1.symm);rw[hds]at h3;simp only[AR,BS]at h3;simp[bD,h1,h2,h3.2,h4,h5]
   have hdrob:∀E',ax D E E'->fj E' d=fj E d:=by
     intro E' he;obtain⟨g1,g2,g3⟩:=hR.all E' he;obtain⟨h1,h2,h3,h4,h5⟩:=Km (g2.trans (hR.all E (ax.refl _ _)).2.1.symm);rw[hds]at h3;simp only[AR,BS]at h3;exact h3.1
   have hfr:frC=bD E fr:=(hR.all E (ax.refl _ _)).2.1.symm;have hdef:frC.defers=fj E d::ds.map (fj E):=by
     rw[hfr];simp[bD,hds]
   have hfr':({frC with defers:=ds.map (fj E)}:Frame)=bD E {fr with defers:=ds}:=by
     rw[hfr];rfl
   have hux:Go.unwind P true frC csC none w=callDeferred P (bD E {fr with defers:=ds}) csC none (fj E d) w:=by
     have hnc':∀b,(fj E d).target≠ .collected b:=by
       intro b e;obtain⟨t,a⟩:=d
       cases t with
       |fn f c=>simp[fj,oo]at e
       |nc l=>simp[fj,oo]at e
       |collected r=>exact hnc _ _ rfl
     unfold Go.unwind;rw[hdef];split
     . rename_i b ds' _ heq;simp only[BS]at heq;exact absurd (by rw[heq.1]) (hnc' _)
     . rename_i heq;simp only[BS]at heq;obtain⟨rfl,rfl⟩:=heq;rw[hfr']
     . rename_i heq;cases heq
   obtain⟨tg,tc,htgt⟩:∃g c,(fj E d).target= .fn g c:=by
     obtain⟨t,a⟩:=d
     cases t with
     |fn f c=>exact⟨_,_,rfl⟩
     |nc l=>exact⟨_,_,rfl⟩
     |collected r=>exact absurd rfl (fun e=>hnc r a e)
   rw[<-iR (fr:=fr) (fr':={fr with defers:=ds}) rfl cs];refine(Ie ok hsub hext hu hR' (lone frC csC w) (dC:=fj E d) ⟨fun f x w' hr=>?_,fun l f t x b w' hr=>?_,fun v w' hr hk=>?_⟩ hdrob)
   . refine step_lone_go ?_;rw[hx,hux];unfold callDeferred;rw[htgt]at hr;simp only[htgt,Bb,Ak,AB,Sem.runT_eq,hr,GStep.bare_after,GStep.bare_go]
   . refine step_lone_go ?_;rw[hx,hux];unfold callDeferred;rw[htgt]at hr;simp only[htgt,Bb,Ak,AB,Sem.runT_eq,hr,GStep.bare_after,GStep.bare_go]
   . cases hk
 . rename_i hds;have hdef:frC.defers=[]:=by
     rw[<-(hR.all E (ax.refl _ _)).2.1];simp[bD,hds]
   split at hu
   . cases hu
   ·
     rename_i chain hmode;split at hu
     . rename_i c rest
       cases hu;refine⟨iR (by unfold ai.raise;split<;>rfl) rest,?_⟩;refine hR.one (m':={fr:=c.raise chain,cs:=rest,h}) _ (fun _=>(0,0)) (Ai _)
        ⟨by have:=hR.wf.2 c An;unfold ai.raise;split<;>exact this,fun f hf=>hR.wf.2 f (Ao _ hf)⟩ ?_
       intro E' he H e1 e2 _;refine⟨w,step_lone_go ?_,H,Kept.refl K w⟩;have hmd:frC.mode= .panicking (chain.map (ov E')):=by rw[<-e1];simp[bD,hmode,fG]
       have hcat:frC.catches P=false:=by
        unfold Frame.catches;rw[<-e1]
        cases P.funcs[(bD E' fr).fn]? with
        |some _=>rfl
        | none=>
          cases htd:fr.todo with
          |nil=>simp[bD,htd]
          |cons x l=>cases x<;>simp[bD,htd,eA]
       rw[hx];unfold Go.unwind;simp only[hdef,hmd,hcat,Ak,AB];rw[<-e2];simp only[AR,By,GStep.bare_go];congr 2
       unfold Frame.raise ai.raise
       cases hcm:c.mode<;>simp[bD,hcm,fG]
     . cases hu
   ·
     rename_i hmode;split at hu
     . cases hu
     . rename_i fn hfn;obtain⟨vs,hvs,hu1⟩:=aw.1 hu;have hP:=ok.fns _ _ hfn;have hmd:frC.mode= .returning:=by rw[<-(hR.all E (ax.refl _ _)).2.1];simp[bD,hmode,fG]
       have hres:∀E',ax D E E'->(Go.results fn frC.tmps).run P w= .ok (af E' (result vs)) w:=by
        intro E' he;obtain⟨g1,g2,g3⟩:=hR.all E' he;rw[<-g2];exact Rx ok hR.wf.1 g1 hvs
       have hfn':frC.fn=fr.fn:=by rw[<-(hR.all E (ax.refl _ _)).2.1];rfl
       have hP':P.funcs[frC.fn]? =some fn:=by rw[hfn'];exact hP
       have hxx:∀E',ax D E E'->(stepG P true {frame:=frC,callers:=csC,status:= .running,dying:=none} w).bare=(Go.doReturn P true frC csC none (af E' (result vs)) w).bare:=by
        intro E' he;rw[hx];unfold Go.unwind;simp only[hdef,hmd,hP',Sem.runT_eq,hres E' he,GStep.bare_after]
       cases cs with
       |cons c rest=>
        obtain⟨m',rfl⟩:=Ih hu1;obtain⟨h1,h2,h3,h4⟩:=zp (P:=P) hu1 hR.wf.2 w;refine⟨h2,?_⟩;refine hR.one _ (fun _=>(0,0)) (by rw[h1];exact Ai _) h3 ?_;intro E' he H e1 e2 _;refine⟨w,step_lone_go ?_,by rw[h1];exact H,Kept.refl K w⟩;rw[hxx E' he];have:=h4 E' base;simp only at e1 e2;rw[e1,e2]at this;exact this
       |nil=>
        unfold doReturn at hu1;simp only at hu1;split at hu1
        . rename_i hk
          cases hu1;have hk':frC.kind= .normal:=by rw[<-(hR.all E (ax.refl _ _)).2.1];exact hk
          have hcs:csC=base:=by rw[<-(hR.all E (ax.refl _ _)).2.2];rfl
          subst hcs;refine⟨frC,w,af E (result vs),E,D,Steps.refl P _,hfn',⟨hmd,hdef,hk',fn,hP',hres E (ax.refl _ _)⟩,?_,ax.refl _ _,fun _ hi=>hi,hR.eN,Kept.refl K w,Ai _,fun _ hi=> .inl hi⟩;intro E'' he;refine⟨(hR.all E'' he).1,?_⟩;have h1:=hres E'' he;rw[hres E (ax.refl _ _)]at h1;simpa using h1.symm
        . cases hu1
end
end
section
variable [Inhabited aL]
section
variable {P:Program} {tab:bB} (ok:bU P tab) {sub:FuncId->List AV->AH->R (List (AV×AH))} (hsub:lv P tab sub) (hext:lu P tab)
variable {D:Nat->Prop} {E:Env} {K:KS} {base:List Frame} {frC:Frame} {csC:List Frame} {w:World}
variable {fr:ai} {cs:List ai} {h:AH}
theorem Rel.grow {m:AM} (hR:Rel D E K m base frC csC w) (m':AM) (fr':Frame) (w':World) (f:Nat->Nat×Nat) (hn:m.h.next<=m'.h.next) (hwf:m'.fr.WF/\ ∀f∈m'.cs,f.WF) (hcs:m'.cs=m.cs)
   (h1:∀E',ax D E E'->bN E' m.h K w->bD E' m.fr=frC->(∀i,m.h.next<=i->i<m'.h.next->E'.bh i=(f i).1/\E'.cap i=(f i).2)->bN E' m'.h K w'/\bD E' m'.fr=fr'):
   ∃D1 E1,Rel D1 E1 K m' base fr' csC w'/\ax D E E1/\(∀i,D i->D1 i)/\(∀i,m.h.next<=i->i<m'.h.next->∀E',ax D1 E1 E'->E'.bh i=(f i).1)/\(∀i,D1 i->D i\/m.h.next<=i):=by
 obtain⟨E1,ha,hE⟩:=hR.oJ f;let D1:Nat->Prop:=fun i=>D i\/(m.h.next<=i/\i<m'.h.next)
 have hnew:∀i,m.h.next<=i->i<m'.h.next->∀E',ax D1 E1 E'->E'.bh i=(f i).1/\E'.cap i=(f i).2:=by
   intro i hi hj E' he;have h2:=he i (.inr ⟨hi,hj⟩);have h3:=hE i hi;exact⟨h2.1.trans h3.1,h2.2.trans h3.2⟩
 refine⟨D1,E1,⟨fun E' he=>?_,fun i hi=>?_,hwf⟩,ha,fun i hi=> .inl hi,fun i hi hj E' he=>(hnew i hi hj E' he).1,fun i hi=>hi.elim .inl (fun h=> .inr h.1)⟩
 . have hd:ax D E E':=ha.trans he (fun i hi=> .inl hi);obtain⟨g1,g2,g3⟩:=hR.all E' hd;obtain⟨k1,k2⟩:=h1 E' hd g1 g2 (fun i hi hj=>hnew i hi hj E' he);exact⟨k1,k2,by rw[hcs];exact g3⟩
 . rcases hi with hi|hi
   . have:=hR.eN i hi;omega
   . exact hi.2
def F4 (P:Program) (tab:bB) (sub:FuncId->List AV->AH->R (List (AV×AH))):Prop:=
 ∀ (fr:ai) (cs:List ai) (h:AH) (id:Nat) (ops:Array Oper) (k:List bM) (ts:T AV) (h':AH),fr.mode= .run->fr.todo= .code (.region id ops true)::k->draw tab sub ops fr.nt fr.tmps h= .ok (ts,h')->
  ∀(D:Nat->Prop) (E:Env) (K:KS) (base:List Frame) (frC:Frame) (csC:List Frame) (w:World),Rel D E K {fr,cs,h} base frC csC w->
   gH P h.next (lone frC csC w) D E K {fr:={fr with tmps:=ts,todo:=k},cs,h:=h'} base w
end
end
section
variable [Inhabited aL]
section
variable {P:Program} {tab:bB} (ok:bU P tab) {sub:FuncId->List AV->AH->R (List (AV×AH))} (hsub:lv P tab sub) (hext:lu P tab) (hdraw:F4 P tab sub)
variable {D:Nat->Prop} {E:Env} {K:KS} {base:List Frame} {frC:Frame} {csC:List Frame} {w:World}
theorem Ud (hm:frC.mode= .run) (ht:frC.todo=[]):stepG P true {frame:=frC,callers:=csC,status:= .running,dying:=none} w=lK P frC csC w none:=by
 obtain⟨fn,tmps,todo,defers,mode,kind,roundOf⟩:=frC;simp only at hm ht;subst hm ht
 cases roundOf with
 |none=>simp[stepG,stepG.exec,lK]
 |some l=>
  simp[stepG,stepG.exec,lK];rfl
theorem Ue {k:List Item} (hm:frC.mode= .run) (ht:frC.todo= .code .ret::k):stepG P true {frame:=frC,callers:=csC,status:= .running,dying:=none} w=lK P frC csC w (some .ret):=by
 obtain⟨fn,tmps,todo,defers,mode,kind,roundOf⟩:=frC;simp only at hm ht;subst hm ht
 cases roundOf with
 |none=>simp[stepG,stepG.exec,lK]
 |some l=>
  simp[stepG,stepG.exec,lK];rfl
theorem S7 {id:Nat} {k:List Item} (hm:frC.mode= .run) (ht:frC.todo= .code (.exit id)::k) (hk:Go.exitTo id k=none):stepG P true {frame:=frC,callers:=csC,status:= .running,dying:=none} w=lK P frC csC w (some (.exit id)):=by
 obtain⟨fn,tmps,todo,defers,mode,kind,roundOf⟩:=frC;simp only at hm ht;subst hm ht
 cases roundOf with
 |none=>simp[stepG,stepG.exec,lK,hk]
 |some l=>
  simp[stepG,stepG.exec,lK,hk];rfl
theorem lk {fr:ai} {cs:List ai} {h:AH} (hR:Rel D E K {fr,cs,h} base frC csC w) (k:List bM)
  (hx:∀E' cs',Go.step P (lone (bD E' fr) cs' w)= .next (lone (bD E' {fr with todo:=k}) cs' w)):
  Out P h.next (lone frC csC w) D E K (bot fr cs) base w (.next {fr:={fr with todo:=k},cs,h}):=
 ⟨iR (by rfl) cs,hR.kh {fr with todo:=k} hR.wf.1 hx⟩
include ok hsub hext hdraw in
theorem zT {m:AM} {out:eQ} (hs:step tab sub m= .ok out) (hR:Rel D E K m base frC csC w):Out P m.h.next (lone frC csC w) D E K (bot m.fr m.cs) base w out:=by
 obtain⟨fr,cs,h⟩:=m;unfold step at hs;simp only at hs;split at hs
 . rename_i hm;have hmC:frC.mode= .run:=by rw[<-(hR.all E (ax.refl _ _)).2.1];simp[bD,hm,fG]
   split at hs
   ·
     rename_i ht;have htC:frC.todo=[]:=by rw[<-(hR.all E (ax.refl _ _)).2.1];simp[bD,ht]
     exact zH hs hR (Ud hmC htC)
   . rename_i k ht;have htC:frC.todo= .code .ret::k.map (eA E):=by rw[<-(hR.all E (ax.refl _ _)).2.1];simp[bD,ht,eA]
     exact zH hs hR (Ue hmC htC)
   . rename_i k ht
     cases hs;exact lk hR k (fun E' cs'=>step_lone_go (by simp[stepG,stepG.exec,bD,hm,ht,fG,eA]))
   . rename_i l k ht
     cases hs;exact lk hR k (fun E' cs'=>step_lone_go (by simp[stepG,stepG.exec,bD,hm,ht,fG,eA]))
   . rename_i l k ht
     cases hs;exact lk hR k (fun E' cs'=>step_lone_go (by simp[stepG,stepG.exec,bD,hm,ht,fG,eA]))
   . rename_i l k ht
     cases hs;exact lk hR k (fun E' cs'=>step_lone_go (by simp[stepG,stepG.exec,bD,hm,ht,fG,eA]))
   . rename_i a b k ht
     cases hs;exact lk hR _ (fun E' cs'=>step_lone_go (by simp[stepG,stepG.exec,bD,hm,ht,fG,eA]))
   ·
     rename_i c a b k ht;obtain⟨u,hu,hs1⟩:=aw.1 hs;split at hs1
     . cases hs1;exact lk hR _ (fun E' cs'=>step_lone_go (by
         have:=qJ hR.wf.1 E' hu;simp only[af]at this;simp[stepG,stepG.exec,bD,hm,ht,fG,eA]at this⊢;simp[this]))
     . cases hs1;exact lk hR _ (fun E' cs'=>step_lone_go (by
         have:=qJ hR.wf.1 E' hu;simp only[af]at this;simp[stepG,stepG.exec,bD,hm,ht,fG,eA]at this⊢;simp[this]))
     . cases hs1
   . rename_i id b k ht
     cases hs;exact lk hR _ (fun E' cs'=>step_lone_go (by simp[stepG,stepG.exec,bD,hm,ht,fG,eA]))
   . rename_i b k ht
     cases hs;exact lk hR _ (fun E' cs'=>step_lone_go (by simp[stepG,stepG.exec,bD,hm,ht,fG,eA]))
   . rename_i b k ht
     cases hs;exact lk hR _ (fun E' cs'=>step_lone_go (by simp[stepG,stepG.exec,bD,hm,ht,fG,eA]))
   . rename_i b k ht
     cases hs;exact lk hR _ (fun E' cs'=>step_lone_go (by simp[stepG,stepG.exec,bD,hm,ht,fG,eA]))
   ·
     rename_i id k ht;split at hs
     . rename_i k' hk
       cases hs;exact lk hR _ (fun E' cs'=>step_lone_go (by simp[stepG,stepG.exec,bD,hm,ht,fG,eA,I8,hk]))
     . rename_i hk;have htC:frC.todo= .code (.exit id)::k.map (eA E):=by rw[<-(hR.all E (ax.refl _ _)).2.1];simp[bD,ht,eA]
       exact zH hs hR (S7 hmC htC (by rw[I8,hk];rfl))
   ·
     rename_i f ps a b k ht
     cases hs
   ·
     rename_i l k ht;split at hs
     . rename_i st pd fn ts nt ps a b d hl;have hbusy:st≠ .busy:=by intro e;subst e;cases hs
       have hs1:(R.ok (eQ.next {fr:={fr with todo:=(pd.map bM.code).toList++k},cs,h:=h.set l (.loop .exhausted pd fn ts nt ps a b d)}):R eQ)= .ok out:=by
         cases st<;>first|exact hs|exact absurd rfl hbusy
       cases hs1;refine⟨iR (by rfl) cs,?_⟩;refine hR.one (m':={fr:={fr with todo:=(pd.map bM.code).toList++k},cs,h:=h.set l (.loop .exhausted pd fn ts nt ps a b d)}) _ (fun _=>(0,0)) (Ai _) ⟨hR.wf.1,hR.wf.2⟩ ?_;intro E' he H e1 e2 _;obtain⟨o,ho,hoo,hw⟩:=H.obj l _ hl;subst hoo;let o':Obj:= .loop {state:= .exhausted,pending:=pd,fn,tmps:=gX E' ts nt,params:=ps,assign:=a,body:=b,defers:=E'.bh d}
       have hrun:(Instr.endLoop (E'.bh l)).run P w= .ok pd (w.put (E'.bh l) o'):=by
         unfold Instr.endLoop Instr.getLoop;have:(st==LoopState.busy)=false:=by cases st<;>first|rfl|exact absurd rfl hbusy
         simp only[Sem.run_bind,xb ho (by simp),Result.andThen_ok,Sem.run_pure,this,Ak,AB,xc ho (by simp)];rfl
       refine⟨w.put (E'.bh l) o',step_lone_go ?_,H.put hl (by simp[AO.ro]) ⟨rfl,hw⟩,H.dR hl (by simp[AO.ro]) _⟩;simp only at e1 e2;have htC:frC.todo= .endRangeFunc (E'.bh l)::k.map (eA E'):=by rw[<-e1];simp[bD,ht,eA]
       rw[<-e2];have hgoal:bD E' {fr with todo:=(pd.map bM.code).toList++k}={frC with todo:=(pd.map Item.code).toList++k.map (eA E')}:=by
         rw[<-e1]
         cases pd<;>simp[bD,eA]
       simp only[hgoal];unfold stepG stepG.exec;simp only[hmC,htC,Sem.runT_eq,hrun,GStep.bare_after,GStep.bare_go]
     . cases hs
   ·
     rename_i k ht;split at hs
     . rename_i l hround;split at hs
       . rename_i pd fn ts nt ps a b d hl
         cases hs;refine⟨iR (by rfl) cs,?_⟩;refine hR.one (m':={fr:={fr with todo:=k},cs,h:=h.set l (.loop .busy pd fn ts nt ps a b d)}) _ (fun _=>(0,0)) (Ai _) ⟨hR.wf.1,hR.wf.2⟩ ?_;intro E' he H e1 e2 _;obtain⟨o,ho,hoo,hw⟩:=H.obj l _ hl;subst hoo;let o':Obj:= .loop {state:= .busy,pending:=pd,fn,tmps:=gX E' ts nt,params:=ps,assign:=a,body:=b,defers:=E'.bh d}
         simp only at e1 e2;have hr0:frC.roundOf=some (E'.bh l):=by rw[<-e1];simp[bD,hround]
         have htC:frC.todo= .beginRound::k.map (eA E'):=by rw[<-e1];simp[bD,ht,eA]
         have hrun:(do frC.roundOf.elim (stuck "beginRound: no round") Instr.beginRound;pure .skip:Sem Next).run P w= .ok .skip (w.put (E'.bh l) o'):=by
          rw[hr0];simp only[Option.elim_some,Instr.beginRound,Instr.getLoop];simp only[Sem.run_bind,xb ho (by simp),Result.andThen_ok,Sem.run_pure,xc ho (by simp)];rfl
         refine⟨w.put (E'.bh l) o',step_lone_go ?_,H.put hl (by simp[AO.ro]) ⟨rfl,hw⟩,H.dR hl (by simp[AO.ro]) _⟩;rw[<-e2];have hgoal:bD E' {fr with todo:=k}={frC with todo:=k.map (eA E')}:=by
          rw[<-e1];rfl
         simp only[hgoal];have hx:stepG P true {frame:=frC,callers:=cs.map (bD E')++base,status:= .running,dying:=none} w=stepG.apply P true frC (cs.map (bD E')++base) none (do frC.roundOf.elim (stuck "beginRound: no round") Instr.beginRound;pure .skip) w:=by
          unfold stepG stepG.exec;simp only[hmC,htC]
         rw[hx,IS hrun (.inr ⟨rfl,rfl⟩)];simp[Frame.finish,htC]
       . cases hs
     . cases hs
   . rename_i id ops k ht
     cases hs;exact lk hR _ (fun E' cs'=>step_lone_go (by simp[stepG,stepG.exec,bD,hm,ht,fG,eA]))
   . rename_i id ops k ht;obtain⟨⟨ts,h'⟩,hd,hs1⟩:=aw.1 hs
     cases hs1;exact⟨iR (by rfl) cs,hdraw fr cs h id ops k ts h' hm ht hd D E K base frC csC w hR⟩
   . rename_i ops k ht
     cases hs;exact lk hR _ (fun E' cs'=>step_lone_go (by simp[stepG,stepG.exec,bD,hm,ht,fG,eA]))
   ·
     rename_i ops i rest k ht;split at hs
     . rename_i o ho;obtain⟨b,hb,hs1⟩:=aw.1 hs
       cases b with
       |true=>exact SL ok hsub hext hs1 hR hm ht ho hb
       | false=>
         simp only[Ak,AB]at hs1;obtain⟨fr',hf,hs2⟩:=aw.1 hs1
         cases hs2;have hfc:=lh hf;refine⟨iR (hfc E).2.2 cs,hR.kh fr' ((hfc E).2.1 hR.wf.1) (fun E' cs'=>step_lone_go ?_)⟩;have hw:=zB hR.wf.1 hb E';rw[<-(hfc E').1];have h1:(bD E' fr).todo= .inRegion ops (i::rest)::k.map (eA E'):=by simp[bD,ht,eA]
         have h2:(bD E' fr).mode= .run:=by simp[bD,hm,fG]
         have h3:Region.wanted o (yielded ops (bD E' fr).tmps)=false:=hw;generalize bD E' fr=g at*
         unfold stepG stepG.exec;simp[h1,h2,ho,h3];rfl
     . cases hs
   . cases hs
 . rename_i hm;exact R5 ok hsub hext hs hm hR
end
end
section
variable [Inhabited aL]
section
variable {P:Program} {tab:bB} (ok:bU P tab) (hext:lu P tab) (hdraw:∀sub,lv P tab sub->F4 P tab sub)
def NH (P:Program) (tab:bB) (m:AM) (outs:List (AV×AH)):Prop:=
 ∀(D:Nat->Prop) (E:Env) (K:KS) (base:List Frame) (frC:Frame) (csC:List Frame) (w:World),Rel D E K m base frC csC w->
  ∃v h',(v,h')∈outs/\Ends P m.h.next (lone frC csC w) D E K v h' base (bot m.fr m.cs) w
include ok hext hdraw in
theorem UH:∀n,(∀m outs,run tab n m= .ok outs->NH P tab m outs)/\
  (∀l outs,runs tab n l= .ok outs->∀m∈l,∀outs',(∀x∈outs,x∈outs')->NH P tab m outs'):=by
 intro n;induction n with
 |zero=>
  refine⟨fun m outs h=>?_,fun l outs h=>?_⟩
  . simp only[run]at h;cases h
  . cases l<;>(simp only[runs]at h;cases h)
 |succ n ih=>
  refine⟨fun m outs h=>?_,fun l outs h=>?_⟩
  . simp only[run]at h;let sub:FuncId->List AV->AH->R (List (AV×AH)):=fun f args h=>match tab.fns.get f with
     | some fn=>match fn.body with
       |some body=>run tab n {fr:=ai.enter fn f body args .normal,cs:=[],h}
       |none=> .no "run: body"
     |none=> .no "run: function"
    have hsub:lv P tab sub:=by
     intro f fn body args h outs hfn hb ho D E K w argsC hargs hdom cs;simp only[sub,hfn,hb]at ho;have hP:=ok.fns f fn hfn;have hR:Rel D E K {fr:=ai.enter fn f body args .normal,cs:=[],h} cs (Frame.enter P f argsC .normal) cs w:=by
       refine⟨fun E' he=>?_,hdom,qq _ _ _ _ _,fun f hf=>by cases hf⟩;obtain⟨h1,h2⟩:=hargs E' he;refine⟨h1,?_,rfl⟩;rw[<-h2,mL hP hb]
     exact ih.1 _ _ ho D E K cs _ cs w hR
    intro D E K base frC csC w hR;change (match step tab sub m with
     | .no w=>R.no w
     | .ok (.done v h)=> .ok [(v,h)]
     | .ok (.next m')=>run tab n m'
     | .ok (.alts l)=>runs tab n l)= .ok outs at h
    cases hs:step tab sub m with
    |no w=>rw[hs]at h;cases h
    |ok out=>
     rw[hs]at h;have ho:=zT ok hsub hext (hdraw sub hsub) hs hR
     cases out with
     | done v hh=>
       cases h;exact⟨v,hh,An,ho⟩
     | next m'=>
       obtain⟨hb,fr',cs',w',E',D',s1,s2,s3,s4,s5,s6,s7⟩:=ho;obtain⟨v,h',hm,he⟩:=ih.1 m' outs h D' E' K base fr' cs' w' s2;rw[hb]at he;exact⟨v,h',hm,Ends.trans s1 s3 s4 s5 s6 s7 he⟩
     | alts l=>
       obtain⟨m',hml,hb,fr',cs',w',E',D',s1,s2,s3,s4,s5,s6,s7⟩:=ho;obtain⟨v,h',hm,he⟩:=ih.2 l outs h m' hml outs (fun _ hx=>hx) D' E' K base fr' cs' w' s2;rw[hb]at he;exact⟨v,h',hm,Ends.trans s1 s3 s4 s5 s6 s7 he⟩
  . intro m hm outs' hsub'
    cases l with
    |nil=>cases hm
    |cons x l=>
     simp only[runs]at h;obtain⟨a,ha,h1⟩:=aw.1 h;obtain⟨b,hb,h2⟩:=aw.1 h1
     cases h2;rcases Aj.1 hm with rfl|hm
     . intro D E K base frC csC w hR;obtain⟨v,h',hx,he⟩:=ih.1 m a ha D E K base frC csC w hR;exact⟨v,h',hsub' _ (ED _ hx),he⟩
     . exact ih.2 l b hb m hm outs' (fun x hx=>hsub' x (D2 _ hx))
end
end
section
variable [Inhabited aL]
section
variable {tab:bB} {ts ts':T AV} {h:AH}
theorem ui:∀(l:List Operand),(∀x∈l,ev ts x=ev ts' x)->jS ts l=jS ts' l:=by
 intro l;induction l with
 |nil=>intro _;rfl
 |cons x l ih=>
  intro hx;simp only[jS,hx x An,ih (fun y hy=>hx y (Ao _ hy))]
theorem Ij:∀(l:List (Nat×Operand)),(∀x∈l.map (·.2),ev ts x=ev ts' x)->l6 ts l=l6 ts' l:=by
 intro l;induction l with
 |nil=>intro _;rfl
 |cons x l ih=>
  intro hx;simp only[l6,hx x.2 (by simp),ih (fun y hy=>hx y (by simp at hy⊢;exact .inr hy))]
theorem tW (o:Oper) (hx:∀x∈o.op.operands,ev ts x=ev ts' x):fp tab ts h o=fp tab ts' h o:=by
 obtain⟨dst,op,type,pos,after,guard⟩:=o
 cases op<;>simp only[Op.operands]at hx<;>simp only[fp]
 case build t ps=>rw[Ij ps.toList fun x hm=>hx x (by simpa using hm)]
 case buildSlice t n ps=>rw[Ij ps.toList fun x hm=>hx x (by simpa using hm)]
 case makeFunc fn first captured=>
  rw[ui first.toList fun x hm=>hx x (by simp at hm;simp[hm]),ui captured.toList fun x hm=>hx x (by simp at hm;simp[hm])]
 case call c=>
  cases hc:c.callee with
  |builtin b=>
   simp only;rw[ui c.args.toList fun x hm=>hx x (by simp[Call.operands,hc];simpa using hm)]
  |value f=>rfl
  |invoke r m=>rfl
 case slice t x lo hi mx=>
  have h0:ev ts x=ev ts' x:=hx x (by simp);have h1:∀y,lo=some y->ev ts y=ev ts' y:=fun y e=>hx y (by simp[e])
  have h2:∀y,hi=some y->ev ts y=ev ts' y:=fun y e=>hx y (by simp[e])
  have h3:∀y,mx=some y->ev ts y=ev ts' y:=fun y e=>hx y (by simp[e])
  rw[h0]
  cases lo<;>cases hi<;>cases mx<;>simp_all[jU,fH]
 case makeMap t r=>cases r<;>rfl
 all_goals (first|rfl|(simp_all;done))
theorem RV {sub:FuncId->List AV->AH->R (List (AV×AH))} (o:Oper) (hx:∀x∈o.op.operands,ev ts x=ev ts' x):th tab sub ts h o=th tab sub ts' h o:=by
 have hp:=tW (tab:=tab) (h:=h) o hx;unfold th
 cases hop:o.op
 case call c=>
  rw[hop]at hx;simp only
  cases hc:c.callee with
  |builtin b=>cases b<;>simp only[hp]
  |value f=>
   have h1:ev ts f=ev ts' f:=hx f (by simp[Op.operands,Call.operands,hc]);have h2:jS ts c.args.toList=jS ts' c.args.toList:=ui c.args.toList fun x hm=>hx x (by simp[Op.operands,Call.operands,hc];right;simpa using hm)
   simp only[h1,h2]
  |invoke r m=>simp only[hp]
 all_goals simp only[hp]
theorem zM {ops:Array Oper} {o:Oper} (h:∀t∈ou ops o,ts.get t=ts'.get t):(∀x∈o.op.operands,ev ts x=ev ts' x)/\wanted ops o ts=wanted ops o ts':=by
 constructor
 . intro x hx
   cases x with
   |tmp t=>
    have:=h t (ED _ (List.mem_filterMap.2 ⟨.tmp t,by simpa using hx,rfl⟩));simp only[ev,this]
   |const v=>rfl
   |func f=>rfl
   |global g=>rfl
 . unfold wanted
   cases hg:o.guard with
   |none=>rfl
   | some gw=>
    obtain⟨g,want⟩:=gw;simp only
    cases hd:(ops[g]?).bind (·.dst)with
    |none=>rfl
    |some d=>
     have:=h d (D2 _ (by simp[hg,hd]));simp only[B0,this]
end
end
section
variable [Inhabited aL]
theorem jD:∀(l:List (Nat×Nat)) (h:AH),(iT h l).next=h.next:=by
 intro l;induction l with
 |nil=>intro h;rfl
 |cons x l ih=>intro h;simp only[iT,ih,AH.fu]
theorem iQ:∀(l:List (Nat×Nat)) (h:AH) (i:Nat),(iT h l).get i=if ∃x∈l,x.2=i then none else h.get i:=by
 intro l;induction l with
 |nil=>intro h i;simp[iT]
 |cons x l ih=>
  intro h i;simp only[iT,ih,nM];by_cases h1:∃y∈l,y.2=i
  . rw[if_pos h1,if_pos (by obtain⟨y,hy,e⟩:=h1;exact⟨y,Ao _ hy,e⟩)]
  . rw[if_neg h1];by_cases h2:i=x.2
    . rw[if_pos h2,if_pos ⟨x,An,h2.symm⟩]
    . rw[if_neg h2,if_neg];rintro⟨y,hy,e⟩;rcases Aj.1 hy with rfl|hy
      . exact h2 e.symm
      . exact h1 ⟨y,hy,e⟩
theorem sb:∀(l:List (Nat×Nat)) (h h0:AH),(jk h h0 l).next=h.next:=by
 intro l;induction l with
 |nil=>intro h h0;rfl
 |cons x l ih=>intro h h0;simp only[jk,ih]
theorem oL:∀(l:List (Nat×Nat)) (h h0:AH) (i:Nat),(jk h h0 l).get i=if ∃x∈l,x.2=i then h0.get i else h.get i:=by
 intro l;induction l with
 |nil=>intro h h0 i;simp[jk]
 |cons x l ih=>
  intro h h0 i;simp only[jk,ih];have hg:({h with t:=h.t.set x.2 (h0.get x.2)}:AH).get i=if i=x.2 then h0.get x.2 else h.get i:=T.bm _ _ _ _
  rw[hg];by_cases h1:∃y∈l,y.2=i
  . rw[if_pos h1,if_pos (by obtain⟨y,hy,e⟩:=h1;exact⟨y,Ao _ hy,e⟩)]
  . rw[if_neg h1];by_cases h2:i=x.2
    . rw[if_pos h2,if_pos ⟨x,An,h2.symm⟩,h2]
    . rw[if_neg h2,if_neg];rintro⟨y,hy,e⟩;rcases Aj.1 hy with rfl|hy
      . exact h2 e.symm
      . exact h1 ⟨y,hy,e⟩
section
variable {E:Env} {h h0 h1 h2:AH} {K:KS} {w w':World}
def Rest (E:Env) (h h0:AH) (K:KS):KS:=⟨fun b=>K b\/ ∃i o,h.get i=some o/\h0.get i=none/\b=E.bh i,K.b⟩
theorem bN.part (H:bN E h K w) (hs:∀i o,h0.get i=some o->h.get i=some o) (hd:∀i o,h0.get i=some o->i<h0.next):bN E h0 (Rest E h h0 K) w:=by
 refine⟨fun i o hi=>H.obj i o (hs i o hi),?_,fun i j oi oj hi hj=>H.inj i j oi oj (hs i oi hi) (hs j oj hj),hd,?_,fun i o hi=>H.im i o (hs i o hi),fun b hb=> .inl (H.k0 b hb)⟩
 . rintro i o hi hr (hk|⟨j,oj,hj,hn,e⟩)
   . exact H.nk i o (hs i o hi) hr hk
   . have:=H.inj i j o oj (hs i o hi) hj hr e;subst this;rw[hi]at hn;cases hn
 . rintro b (hk|⟨j,oj,hj,hn,e⟩)
   . exact H.kb b hk
   . subst e;exact H.lt hj
theorem bN.join (H:bN E h K w) (H1:bN E h1 (Rest E h h0 K) w') (hk:Kept (Rest E h h0 K) w w')
   (hg:∀i o,h2.get i=some o->h1.get i=some o\/(h.get i=some o/\h0.get i=none)) (hd:∀i o,h2.get i=some o->i<h2.next):bN E h2 K w':=by
 refine⟨?_,?_,?_,hd,?_,?_,H.k0⟩
 . intro i o hi;rcases hg i o hi with g|⟨g,n⟩
   . exact H1.obj i o g
   . obtain⟨c,hc,ho⟩:=H.obj i o g;refine⟨c,?_,ho⟩;rw[<-hc];exact hk.block _ (.inr ⟨i,o,g,n,rfl⟩)
 . intro i o hi hr hK;rcases hg i o hi with g|⟨g,n⟩
   . exact H1.nk i o g hr (.inl hK)
   . exact H.nk i o g hr hK
 . intro i j oi oj hi hj hr e;rcases hg i oi hi with g|⟨g,n⟩<;>rcases hg j oj hj with g'|⟨g',n'⟩
   . exact H1.inj i j oi oj g g' hr e
   . exact absurd (.inr ⟨j,oj,g',n',e⟩) (H1.nk i oi g hr)
   . by_cases hrj:oj.ro
     . exact absurd (H.k0 _ (H1.im j oj g' hrj)) (by rw[<-e];exact H.nk i oi g hr)
     . exact absurd (.inr ⟨i,oi,g,n,e.symm⟩) (H1.nk j oj g' hrj)
   . exact H.inj i j oi oj g g' hr e
 . intro b hb;exact H1.kb b (.inl hb)
 . intro i o hi hr;rcases hg i o hi with g|⟨g,n⟩
   . exact H1.im i o g hr
   . exact H.im i o g hr
theorem Kept.part (hk:Kept (Rest E h h0 K) w w'):Kept K w w':=
 ⟨hk.os,hk.tape,hk.output,hk.size,fun b hb=>hk.block b (.inl hb),hk.drawn⟩
end
end
section
variable [Inhabited aL]
section
variable {P:Program} {tab:bB} (ok:bU P tab) {sub:FuncId->List AV->AH->R (List (AV×AH))} (hsub:lv P tab sub) (hext:lu P tab)
variable {D:Nat->Prop} {E:Env} {K:KS} {base:List Frame} {frC:Frame} {csC:List Frame} {w:World}
def vp (P:Program) (M0:Machine) (D N:Nat->Prop) (E:Env) (K:KS) (m':AM) (base:List Frame) (w:World):Prop:=
 ∃fr' cs' w' E',Steps P M0 (lone fr' cs' w')/\Rel (fun i=>D i\/N i) E' K m' base fr' cs' w'/\ax D E E'/\Kept K w w'
open Classical in
theorem Rel.qi {m m':AM} (hR:Rel D E K m base frC csC w) (M0:Machine) (N:Nat->Prop) (f:Nat->Nat×Nat) (hN:∀i,N i->¬D i) (hlt:∀i,D i\/N i->i<m'.h.next) (hwf:m'.fr.WF/\ ∀f∈m'.cs,f.WF)
  (h1:∀E',ax D E E'->bN E' m.h K w->bD E' m.fr=frC->m.cs.map (bD E')++base=csC->(∀i,N i->E'.bh i=(f i).1/\E'.cap i=(f i).2)->One P M0 E' K m' base w):
  vp P M0 D N E K m' base w:=by
 let E1:Env:=⟨fun i=>if N i then(f i).1 else E.bh i,fun i=>if N i then(f i).2 else E.cap i⟩
 have ha:ax D E E1:=by
  intro i hi;have:¬N i:=fun hn=>hN i hn hi
  simp[E1,this]
 have hE:∀i,N i->E1.bh i=(f i).1/\E1.cap i=(f i).2:=by
  intro i hi;simp[E1,hi]
 have hE1:∀E',ax (fun i=>D i\/N i) E1 E'->One P M0 E' K m' base w:=by
  intro E' he;have hd:ax D E E':=ha.trans he (fun i hi=> .inl hi);obtain⟨g1,g2,g3⟩:=hR.all E' hd;refine h1 E' hd g1 g2 g3 (fun i hi=>?_);have h2:=he i (.inr hi);have h3:=hE i hi;exact⟨h2.1.trans h3.1,h2.2.trans h3.2⟩
 obtain⟨w',s1,s2,s3⟩:=hE1 E1 (ax.refl _ _);refine⟨_,_,w',E1, .one s1,⟨?_,hlt,hwf⟩,ha,s3⟩;intro E' he;obtain⟨w2,t1,t2,t3⟩:=hE1 E' he;rw[s1]at t1;obtain⟨e1,e2,e3⟩:=qz (by simpa using t1);subst e3;exact⟨t2,e1.symm,e2.symm⟩
variable {fr fr':ai} {cs:List ai} {h h0 h1 h2:AH} {ops:Array Oper} {i:Nat} {rest:List Nat} {k:List bM} {o:Oper} {v:AV}
theorem Rel.live (hR:Rel D E K {fr,cs,h} base frC csC w) {i:Nat} {ob:AO} (hi:h.get i=some ob):D i:=by
 by_cases hd:D i
 . exact hd
 . exfalso;have ha:ax D E ⟨fun j=>if j=i then w.heap.size else E.bh j,E.cap⟩:=by
    intro j hj;have:¬j=i:=fun e=>hd (e▸hj)
    simp[this]
   have:=(hR.all _ ha).1.lt hi;simp at this
include ok in
theorem ub (hR:Rel D E K {fr,cs,h} base frC csC w) (a:iW frC ops i rest o) (hp:fp tab fr.tmps h0 o= .ok (v,h1)) (hf:fr.finish v= .ok fr')
  (hs:∀i o,h0.get i=some o->h.get i=some o) (hd0:∀i o,h0.get i=some o->i<h0.next)
  (hg:∀i o,h2.get i=some o->h1.get i=some o\/(h.get i=some o/\h0.get i=none)) (hd2:∀i o,h2.get i=some o->i<h2.next\/(h1.get i=some o/\h1.next<=h2.next))
  (N:Nat->Prop) (hN1:h0.next<h1.next->N h0.next) (hN:∀i,N i->i=h0.next/\ ¬D i) (hlt:∀i,D i\/N i->i<h2.next):
  vp P (lone frC csC w) D N E K {fr:=fr',cs,h:=h2} base w:=by
 obtain⟨f,hgood⟩:=IC ok hp w frC.eval;have hfc:=lh hf;have hρ:∀E',ax D E E'->∀x u,ev fr.tmps x= .ok u->frC.eval x=af E' u:=by
  intro E' he x u hx;rw[<-(hR.all E' he).2.1];exact qJ hR.wf.1 E' hx
 refine hR.qi (m':={fr:=fr',cs,h:=h2}) _ N (fun _=>f) (fun i hi=>(hN i hi).2) hlt ⟨(hfc E).2.1 hR.wf.1,hR.wf.2⟩ ?_;intro E' he H e1 e2 hE';obtain⟨_,r,w',s1,s2,s3,s4⟩:=hgood E' _ (H.part hs hd0) (hρ E' he) (fun hlt=>hE' h0.next (hN1 hlt));refine⟨w',?_,H.join s3 s4 hg (fun i o hi=>(hd2 i o hi).elim id (fun h=>AY (s3.eN i o h.1) h.2)),s4.part⟩;rw[a.value (.inr (Kl hp)) csC s1 s2,<-e1,<-e2,(hfc E').1]
theorem Ha {M0:Machine} {N:Nat->Prop} {m':AM} {lo:Nat} (hg:vp P M0 D N E K m' base w) (hlo:lo<=m'.h.next) (hN:∀i,N i->lo<=i):gH P lo M0 D E K m' base w:=by
 obtain⟨fr',cs',w',E',h1,h2,h3,h4⟩:=hg;exact⟨fr',cs',w',E',_,h1,h2,h3,fun i hi=> .inl hi,h4,hlo,fun i hi=>hi.elim .inl (fun h=> .inr (hN i h))⟩
theorem Rel.fD (hR:Rel D E K {fr,cs,h} base frC csC w) {E':Env} (he:ax D E E'):Rest E' h h0 K=Rest E h h0 K:=by
 unfold Rest;congr 1
 funext b
 apply propext;constructor
 . rintro(hk|⟨i,o,h1,h2,e⟩)
   . exact .inl hk
   . exact .inr ⟨i,o,h1,h2,by rw[e,(he i (hR.live h1)).1]⟩
 . rintro(hk|⟨i,o,h1,h2,e⟩)
   . exact .inl hk
   . exact .inr ⟨i,o,h1,h2,by rw[e,(he i (hR.live h1)).1]⟩
include ok hsub hext in
theorem Vc (hR :Rel D E K {fr,cs,h} base frC csC w) (a:iW frC ops i rest o) (hp:th tab sub fr.tmps h0 o= .ok (v,h1)) (hf:fr.finish v= .ok fr')
   (hs:∀i o,h0.get i=some o->h.get i=some o) (hd0:∀i o,h0.get i=some o->i<h0.next)
   (hg:∀i o,h2.get i=some o->h1.get i=some o\/(h.get i=some o/\h0.get i=none)) (hd2:∀i o,h2.get i=some o->i<h2.next\/(h1.get i=some o/\h1.next<=h2.next))
   (hle:h0.next<=h1.next) (hnx:h2.next=h1.next) (hltD:∀i,D i->i<h0.next):
   gH P h0.next (lone frC csC w) D E K {fr:=fr',cs,h:=h2} base w:=by
 have hpure:fp tab fr.tmps h0 o= .ok (v,h1)->gH P h0.next (lone frC csC w) D E K {fr:=fr',cs,h:=h2} base w:=by
   intro hp;refine Ha (ub ok hR a hp hf hs hd0 hg hd2 (fun i=>i=h0.next/\h0.next<h1.next) (fun h=>⟨rfl,h⟩) (fun i hi=>⟨hi.1,fun hd=>by have:=hltD i hd;omega⟩) ?_) (by simp only;omega) (fun i hi=>by omega);rintro i (hi|hi)
   . have:=hltD i hi;omega
   . omega
 have hfc:=lh hf;have hρ:∀E',ax D E E'->∀x u,ev fr.tmps x= .ok u->frC.eval x=af E' u:=by
   intro E' he x u hx;rw[<-(hR.all E' he).2.1];exact qJ hR.wf.1 E' hx
 unfold th at hp;split at hp
 . rename_i c hc;split at hp
   . rename_i f hcf;obtain⟨args,hargs,hp1⟩:=aw.1 hp;obtain⟨u,hu,hp2⟩:=aw.1 hp1;obtain⟨d,hd,hp3⟩:=aw.1 hp2;clear hp hp1 hp2;have hres:∀E',ax D E E'->Deferred.ofValue (frC.eval f) (c.args.map frC.eval)=pure (fj E' d):=by
       intro E' he;rw[<-wi hd E',hρ E' he _ _ hu,<-qK (hρ E' he) _ _ hargs];congr 1
       simp[<-Array.toList_inj]
     have hrob:=zo hres;have hnd:∀c',o.op≠ .defer c':=by rw[hc];intro c' e;cases e
     have hctx:Ctx P (lone frC csC w) frC csC w .normal (fj E d):=zX a (.inr hnd) (by simp[execOp,hc,resolve,hcf,hres E (ax.refl _ _)]);split at hp3
     . rename_i g captured htg;have hinv:∀E',ax D E E'->invoke (fj E d).target (fj E d).args=callFunc g (bA E' (d.args++captured)).toArray:=by
         intro E' he;rw[<-hrob E' he];simp only[fj,htg,oo,invoke,dQ];simp
       split at hp3
       . rename_i fn hfn;have hP:=ok.fns g fn hfn;have hn:fn.name≠ "runtime.NumGoroutine" :=by simpa using ok.vQ g fn hfn
         split at hp3
         . rename_i body hb;obtain⟨outs,ho,hp4⟩:=aw.1 hp3;split at hp4
           . rename_i v' h' 
             cases hp4;have hrun:∀a,(callFunc g a).run P w= .ok (.enter g a) w:=by
               intro a;simp[callFunc,hP,hn,hb]
             have hstep:∀E',ax D E E'->Go.step P (lone frC csC w)= .next (lone (Frame.enter P g (bA E' (d.args++captured)).toArray .normal) (frC::csC) w):=fun E' he=>
               hctx.enter _ _ _ (by rw[hinv E' he,hrun])
             have hargsC:∀E',ax D E E'->(bA E' (d.args++captured)).toArray=(bA E (d.args++captured)).toArray:=by
               intro E' he;have h4:=hrun (bA E' (d.args++captured)).toArray;rw[<-hinv E' he,hinv E (ax.refl _ _),hrun]at h4;simpa using h4.symm
             obtain⟨v2,h2',hmem,he2⟩:=hsub g fn body _ h0 _ hfn hb ho D E (Rest E h h0 K) w (bA E (d.args++captured)).toArray
               (fun E' he=>⟨by rw[<-hR.fD he];exact(hR.all E' he).1.part hs hd0,hargsC E' he⟩) hltD (frC::csC)
             rcases Aj.1 hmem with e|hmem
             . cases e;obtain⟨fr1,w',vC,E',D',s1,s2,s3,s4,s5,s6,s7,s8,s9,s10⟩:=he2;refine⟨frC.finish vC,csC,w',E',D',?_,⟨?_,?_,?_⟩,s5,s6,s8.part,by simp only;omega,s10⟩
               . exact(Steps.head (hstep E (ax.refl _ _)) s1).trans (.one (step_leave_returned s3))
               . intro E'' he';obtain⟨g1,g2⟩:=s4 E'' he';have hag:=s5.trans he' s6;obtain⟨k1,k2,k3⟩:=hR.all E'' hag;refine⟨k1.join (by rw[hR.fD hag];exact g1) (by rw[hR.fD hag];exact s8) hg (fun i o hi=>(hd2 i o hi).elim id (fun h=>AY (g1.eN i o h.1) h.2)),?_,k3⟩;rw[<-(hfc E'').1,<-g2,<-k2]
               . intro i hi;have:=s7 i hi;simp only;omega
               . exact⟨(hfc E).2.1 hR.wf.1,hR.wf.2⟩
             . cases hmem
           . cases hp4
         . rename_i hb;obtain⟨gg,hgg⟩:=hext g fn _ h0 v h1 hfn hb hp3 w;refine Ha (N:=fun i=>i=h0.next/\h0.next<h1.next) (hR.qi (m':={fr:=fr',cs,h:=h2}) _ _ (fun _=>gg) (fun i hi hd=>by have:=hltD i hd;omega) ?_ ⟨(hfc E).2.1 hR.wf.1,hR.wf.2⟩ ?_) (by simp only;omega) (fun i hi=>by omega)
           . rintro i (hi|hi)
             . have:=hltD i hi;simp only;omega
             . simp only;omega
           . intro E' he H e1 e2 hE';obtain⟨_,w',s1,s2,s3⟩:=hgg E' _ (H.part hs hd0) (fun hlt=>hE' h0.next ⟨rfl,hlt⟩);refine⟨w',?_,H.join s2 s3 hg (fun i o hi=>(hd2 i o hi).elim id (fun h=>AY (s2.eN i o h.1) h.2)),s3.part⟩;rw[hctx.value (af E' v) w' (by rw[hinv E' he,s1]) rfl,<-e1,<-e2,(hfc E').1]
       . cases hp3
     . cases hp3
   . cases hp
   . exact hpure hp
 . cases hp
 . cases hp
 . cases hp
 . cases hp
 . exact hpure hp
end
end
section
variable [Inhabited aL]
section
variable {tab:bB} {ts:T AV} {h h':AH} {v:AV}
theorem RZ {t:TypeId} {x:AV} {lo hi mx:Option Operand} (hp:jU tab ts h t x lo hi mx= .ok (v,h')):h'=h:=by
 unfold jU at hp;simp only[cond_eq_ite]at hp
 repeat' (first
  |(cases hp;done)
  |(cases hp;rfl)
  |(obtain⟨_,_,hp⟩:=aw.1 hp)
  |split at hp)
theorem wg {b:Builtin} {l:List AV} {at_:Array TypeId} (hb:b= .len\/b= .cap\/b= .min\/b= .max) (hp:builtin tab b at_ l h= .ok (v,h')):h'=h:=by
 unfold builtin at hp;rcases hb with rfl|rfl|rfl|rfl
 all_goals (repeat' (first
  |contradiction
  |(cases hp;done)
  |(cases hp;rfl)
  |(obtain⟨_,_,hp⟩:=aw.1 hp)
  |split at hp))
theorem L8 {src dst:TypeId} (h:(match tab.und.get src,tab.und.get dst with
   |some (.int _),some (.int _)=>lA.pure
   |_,_=>lA.kk)≠lA.kk):∃k j,tab.und.get src=some (.int k)/\tab.und.get dst=some (.int j):=by
 split at h
 . rename_i k j h1 h2;exact⟨k,j,h1,h2⟩
 . exact absurd rfl h
theorem KK {src dst:TypeId} (h:(match tab.und.get src,tab.und.get dst with
  |some (.int _),some (.int _)=>lA.pure
  |_,_=>lA.kk)=lA.pure\/(match tab.und.get src,tab.und.get dst with
  |some (.int _),some (.int _)=>lA.pure
  |_,_=>lA.kk)=lA.read):∃k j,tab.und.get src=some (.int k)/\tab.und.get dst=some (.int j):=by
 apply L8;rcases h with h|h<;>rw[h]<;>simp
theorem VE {src dst:TypeId} (h:(match tab.und.get src,tab.und.get dst with
  |some (.int _),some (.int _)=>lA.pure
  |_,_=>lA.kk)=lA.alloc):False:=by
 split at h<;>cases h
theorem MC {src dst:TypeId} {k j:IntKind} (h1:tab.und.get src=some (.int k)) (h2:tab.und.get dst=some (.int j)) {x:AV} (hp:nR tab h src dst x= .ok (v,h')):∃i n,x= .int i n/\v= .int j (j.wrap n)/\h'=h:=by
 have e1:und tab src= .ok (.int k):=cZ.2 h1;have e2:und tab dst= .ok (.int j):=cZ.2 h2;unfold nR at hp;obtain⟨d,hd,hp⟩:=aw.1 hp;rw[e2]at hd
 cases hd;simp only at hp;unfold convert at hp;obtain⟨d,hd,hp⟩:=aw.1 hp;rw[e1]at hd
 cases hd;obtain⟨d,hd,hp⟩:=aw.1 hp;rw[e2]at hd
 cases hd
 cases x<;>simp only at hp<;>first|(cases hp;exact⟨_,_,rfl,rfl,rfl⟩)|(cases hp;done)
theorem Jz {src dst:TypeId} {k j:IntKind} (h1:tab.und.get src=some (.int k)) (h2:tab.und.get dst=some (.int j)) (i:IntKind) (n:Int) (h:AH):nR tab h src dst (.int i n)= .ok (.int j (j.wrap n),h):=by
 have e1:und tab src= .ok (.int k):=cZ.2 h1;have e2:und tab dst= .ok (.int j):=cZ.2 h2;unfold nR;rw[e2];show convert tab h src dst (.int i n)=_
 unfold convert;rw[e1,e2];rfl
theorem wx {o:Oper} (hc:cls tab o≠ .kk/\cls tab o≠ .alloc) (hp:fp tab ts h o= .ok (v,h')):h'=h:=by
 obtain⟨dst,op,type,pos,after,guard⟩:=o;unfold fp at hp
 cases op<;>simp only[cls]at hc<;>simp only at hp
 case slice t x lo hi mx=>
  obtain⟨a,ha,hp1⟩:=aw.1 hp;exact RZ hp1
 case call c=>
  cases hcc:c.callee with
  |builtin b=>
   rw[hcc]at hp hc;simp only at hp hc;obtain⟨l,hl,hp1⟩:=aw.1 hp
   cases b<;>first|exact wg (.inl rfl) hp1|exact wg (.inr (.inl rfl)) hp1|exact wg (.inr (.inr (.inl rfl))) hp1|exact wg (.inr (.inr (.inr rfl))) hp1|exact absurd rfl hc.1
  |value f=>rw[hcc]at hp;cases hp
  |invoke r m=>rw[hcc]at hp;cases hp
 case convert src dst x=>
  obtain⟨k,j,h1,h2⟩:=L8 hc.1;obtain⟨_,_,hp1⟩:=aw.1 hp;obtain⟨_,_,_,_,rfl⟩:=MC h1 h2 hp1;rfl
 all_goals first
  |exact absurd rfl hc.1
  |exact absurd rfl hc.2
  | (repeat' (first
    |(cases hp;done)
    |(cases hp;rfl)
    |(obtain⟨_,_,hp⟩:=aw.1 hp)
    |split at hp))
end
end
section
variable [Inhabited aL]
def Kind (tab:bB) (ops:Array Oper) (s:DS) (j:Nat) (o:Oper) (tj:T AV) (v:AV):Prop:=
  (wanted ops o tj= .ok false/\v= .bG []/\ ∀x∈s.aF,x.1≠j)\/
  (wanted ops o tj= .ok true/\
    (((∃h1,fp tab tj {t:= .e,next:=0} o= .ok (v,h1)/\h1.next=0)/\ ∀x∈s.aF,x.1≠j)\/
     (∃b h1 ob,((j,b)∈s.aF/\ ∀x∈s.aF,x.1=j->x.2=b)/\fp tab tj {t:= .e,next:=b} o= .ok (v,h1)/\h1.next=b+1/\h1.get b=some ob/\s.h.get b=some ob)\/
     (((j,tj,v)∈s.reads/\ ∀x∈s.aF,x.1≠j)/\cls tab o≠ .kk/\cls tab o≠ .alloc/\ ∃hr,fp tab tj hr o= .ok (v,hr)/\ ∀b ob,hr.get b=some ob->b<hr.next/\s.h.get b=some ob/\ ∀x∈s.aF,x.2≠b)))
def cy (ops:Array Oper) (ts0:T AV) (s:DS) (j:Nat) (o:Oper) (tj:T AV):Prop:=
 ∀t∈ou ops o,(∃i oi,ops[i]? =some oi/\oi.dst=some t/\i∈iI o/\(s.aP.get i).isSome/\tj.get t=s.ts.get t)\/
  (tj.get t=ts0.get t/\ ∀i oi a,ops[i]? =some oi->oi.dst=some t->s.aP.get i=some a->i=j\/j∈a)
def yX (tab:bB) (ops:Array Oper) (nt:Nat) (ts0:T AV) (s:DS) (j:Nat):Prop:=
 ∃o tj v,ops[j]? =some o/\(∀d,o.dst=some d->d<nt->s.ts.get d=some v)/\cy ops ts0 s j o tj/\Kind tab ops s j o tj v
structure dA (tab:bB) (ops:Array Oper) (nt:Nat) (ts0:T AV) (lo:Nat) (s:DS) (X:Nat->Prop):Prop where
 cx:∀j,X j->(s.aP.get j).isSome
 qZ:∀j a,X j->s.aP.get j=some a->∀i∈a,X i
 op:∀j,(s.aP.get j).isSome->∃o,ops[j]? =some o
 shape:∀j a o,s.aP.get j=some a->ops[j]? =some o->(∀i∈iI o,i∈a/\(s.aP.get i).isSome)/\ ∀i∈a,i∈iI o\/ ∃p∈iI o,∃ap,s.aP.get p=some ap/\i∈ap
 uniq:∀i j oi oj d,(s.aP.get i).isSome->ops[i]? =some oi->ops[j]? =some oj->oi.dst=some d->oj.dst=some d->i=j
 pV:∀t,(∀j o,(s.aP.get j).isSome->ops[j]? =some o->o.dst≠some t)->s.ts.get t=ts0.get t
 lF:∀j,(s.aP.get j).isSome->¬X j->yX tab ops nt ts0 s j
 al:∀x∈s.aF,x.2<s.h.next/\(s.aP.get x.1).isSome/\lo<=x.2
 nx:lo<=s.h.next
 tC:∀t,nt<=t->s.ts.get t=none
 pw:∀x∈s.aF,∀y∈s.aF,x.2=y.2->x=y
 hd:∀i o,s.h.get i=some o->i<s.h.next
theorem dy {i:Nat} {l:List Nat}:cM i l=true↔i∈l:=by
 unfold cM;rw[D6];constructor
 . rintro⟨x,hx,hb⟩;rw[Ag hb];exact hx
 . intro h;exact⟨i,h,B7 i⟩
theorem R7 {aP:T (List Nat)} {t:Tmp} {pre:List Nat}:∀(l:List Oper) (k:Nat),wX aP t pre k l=true->∀j o,l[j]? =some o->o.dst=some t->(aP.get (k+j)).isSome->k+j∈pre:=by
 intro l;induction l with
 |nil=>intro k _ j o hj;simp at hj
 | cons x l ih=>
  intro k h j o hj hd hc;simp only[wX,Aa]at h
  cases j with
  |zero=>
   simp only[AE,AX]at hj;subst hj;have h1:=h.1;rw[hd]at h1;simp only[Bw]at hc⊢;have:Nat.beq t t=true:=B7 t;simp only[this,hc,EL,Bh]at h1;exact dy.1 h1
  |succ j=>
   have:=ih (k+1) h.2 j o (by simpa using hj) hd (by rw[show k+1+j=k+(j+1)from by omega];exact hc);rw[show k+1+j=k+(j+1)from by omega]at this;exact this
theorem SS {aP:T (List Nat)} {ops:Array Oper} {i:Nat} {a:Tmp} {an:List Nat}:∀(l:List Oper) (k:Nat),xQ aP ops i a an k l=true->∀j o,l[j]? =some o->
  (o.dst=some a->i=k+j)/\((aP.get (k+j)).isSome->a∈ou ops o->k+j∈an):=by
 intro l;induction l with
 |nil=>intro k _ j o hj;simp at hj
 | cons x l ih=>
  intro k h j o hj;simp only[xQ,Aa]at h;obtain⟨⟨h1,h2⟩,h3⟩:=h
  cases j with
  |zero=>
   simp only[AE,AX]at hj;subst hj;simp only[Bw];constructor
   . intro hd;rw[hd]at h1;have:Nat.beq a a=true:=B7 a;simp only[this,Bh]at h1;exact Ag h1
   . intro hc hl;simp only[hc,Bh,BF,AQ]at h2;rcases h2 with h2|h2
     . exact dy.1 h2
     . rw[dy.2 hl]at h2;cases h2
  |succ j=>
   have:=ih (k+1) h3 j o (by simpa using hj);rw[show k+1+j=k+(j+1)from by omega]at this;exact this
theorem xL {aP:T (List Nat)} {ops:Array Oper} {i:Nat} {o:Oper} (h:jB aP ops i o=true):
   (∀t∈ou ops o,∀j oj,ops[j]? =some oj->oj.dst=some t->(aP.get j).isSome->j∈iI o)/\
   (∀d,o.dst=some d->∀j oj,ops[j]? =some oj->(oj.dst=some d->i=j)/\((aP.get j).isSome->d∈ou ops oj->j∈eG aP o)):=by
 unfold jB at h;simp only[Aa,AI]at h;constructor
 . intro t ht j oj hj hd hc;have:=R7 ops.toList 0 (h.1 t ht) j oj (by simpa using hj) hd (by simpa using hc);simpa using this
 . intro d hd j oj hj;have h2:=h.2;rw[hd]at h2;have:=SS ops.toList 0 h2 j oj (by simpa using hj);simpa using this
theorem pB {aP:T (List Nat)} {i:Nat} {o:Oper} (h:ij aP i o=true):aP.get i=none/\ ∀j∈iI o,(aP.get j).isSome:=by
 unfold ij at h;simp only[Aa,AI]at h;exact⟨by simpa using h.1,h.2⟩
end
section
variable [Inhabited aL]
theorem lg (nt:Nat) (ts:T AV) (o:Oper) (v:AV) (t:Nat):(gR nt ts o v).get t=if o.dst=some t/\t<nt then some v else ts.get t:=by
 unfold gR
 cases hd:o.dst with
 |none=>simp
 |some d=>
  have:=CH ts nt d v t;unfold gM at this;simp only[this,AX];by_cases h1:t=d
  . subst h1;simp
  . have h2:¬d=t:=fun e=>h1 e.symm
    simp[h1,h2]
theorem mH {i:Nat} {l:List Nat}:cM i l=true↔i∈l:=by
 unfold cM;rw[D6];constructor
 . rintro⟨x,hx,h⟩;rw[Ag h];exact hx
 . intro h;exact⟨i,h,B7 i⟩
theorem Lp {i j:Nat} {l:List Nat}:i∈oB j l↔i=j\/i∈l:=by
 unfold oB
 cases hb:cM j l
 . simp
 . simp only[Bh];constructor
   . exact .inr
   . rintro(rfl|h)
     . exact mH.1 hb
     . exact h
theorem Ui {i:Nat}:∀{m l:List Nat},i∈vm m l↔i∈m\/i∈l:=by
 intro m;induction m with
 |nil=>intro l;simp[vm]
 |cons j m ih=>
  intro l;simp only[vm,ih,Lp,Aj];constructor
  . rintro(h|rfl|h)
    . exact .inl (.inr h)
    . exact .inl (.inl rfl)
    . exact .inr h
  . rintro((rfl|h)|h)
    . exact .inr (.inl rfl)
    . exact .inl h
    . exact .inr (.inr h)
theorem eO {aP:T (List Nat)} {o:Oper} {i:Nat}:i∈eG aP o↔i∈iI o\/ ∃p∈iI o,∃ap,aP.get p=some ap/\i∈ap:=by
 unfold eG;induction iI o with
 |nil=>simp[x5]
 |cons j l ih=>
  simp only[x5,Lp,Ui,ih,Aj];constructor
  . rintro(rfl|h|h|⟨p,hp,ap,h1,h2⟩)
    . exact .inl (.inl rfl)
    . cases ha:aP.get j with
      |none=>rw[ha]at h;cases h
      |some ap=>rw[ha]at h;exact .inr ⟨j, .inl rfl,ap,ha,h⟩
    . exact .inl (.inr h)
    . exact .inr ⟨p, .inr hp,ap,h1,h2⟩
  . rintro((rfl|h)|⟨p,rfl|hp,ap,h1,h2⟩)
    . exact .inl rfl
    . exact .inr (.inr (.inl h))
    . exact .inr (.inl (by rw[h1];exact h2))
    . exact .inr (.inr (.inr ⟨p,hp,ap,h1,h2⟩))
section
variable {tab:bB} {ops:Array Oper} {nt lo:Nat} {ts0:T AV} {s s':DS} {X:Nat->Prop} {i:Nat} {o:Oper} {v:AV}
theorem dA.float (H:dA tab ops nt ts0 lo s X) (hi:ops[i]? =some o) (hr:ij s.aP i o=true) (hok:jB s.aP ops i o=true)
   (e1:s'.ts=gR nt s.ts o v) (e2:s'.aP=s.aP.set i (some (eG s.aP o))) (eh:∀b ob,s.h.get b=some ob->s'.h.get b=some ob) (en:s.h.next<=s'.h.next)
   (ea:s'.aF=s.aF\/(s'.aF=(i,s.h.next)::s.aF/\s'.h.next=s.h.next+1)) (er:∀x∈s.reads,x∈s'.reads) (hd':∀b ob,s'.h.get b=some ob->b<s'.h.next)
   (hk:Kind tab ops s' i o s.ts v):dA tab ops nt ts0 lo s' X:=by
 obtain⟨hnone,hpre⟩:=pB hr;obtain⟨hok1,hok2⟩:=xL hok;have hanc:∀j,s'.aP.get j=if j=i then some (eG s.aP o)else s.aP.get j:=by
   intro j;rw[e2,T.bm]
 have hold:∀j,(s.aP.get j).isSome->j≠i/\s'.aP.get j=s.aP.get j:=by
   intro j hj;have hne:j≠i:=by intro e;subst e;rw[hnone]at hj;cases hj
   exact⟨hne,by rw[hanc,if_neg hne]⟩
 have hnd:∀j oj d,(s.aP.get j).isSome->ops[j]? =some oj->oj.dst=some d->o.dst≠some d:=by
   intro j oj d hj hoj hd hod;have:=H.uniq j i oj o d hj hoj hi hd hod;exact(hold j hj).1 this
 have hts:∀t,o.dst≠some t->s'.ts.get t=s.ts.get t:=by
   intro t ht;rw[e1,lg,if_neg];rintro⟨h,_⟩;exact ht h
 refine⟨?_,?_,?_,?_,?_,?_,?_,?_,Aq H.nx en,?_,?_,hd'⟩
 . intro j hj;rw[(hold j (H.cx j hj)).2];exact H.cx j hj
 . intro j a hj ha;rw[(hold j (H.cx j hj)).2]at ha;exact H.qZ j a hj ha
 . intro j hj;rw[hanc]at hj;by_cases h1:j=i
   . subst h1;exact⟨o,hi⟩
   . rw[if_neg h1]at hj;exact H.op j hj
 . intro j a oj ha hoj;rw[hanc]at ha;by_cases h1:j=i
   . subst h1;rw[if_pos rfl]at ha;rw[hi]at hoj
     cases ha;cases hoj;refine⟨fun p hp=>⟨eO.2 (.inl hp),?_⟩,fun x hx=>?_⟩
     . rw[(hold p (hpre p hp)).2];exact hpre p hp
     . rcases eO.1 hx with h|⟨p,hp,ap,h1,h2⟩
       . exact .inl h
       . exact .inr ⟨p,hp,ap,by rw[(hold p (by rw[h1];rfl)).2];exact h1,h2⟩
   . rw[if_neg h1]at ha;obtain⟨g1,g2⟩:=H.shape j a oj ha hoj;refine⟨fun p hp=>⟨(g1 p hp).1,?_⟩,fun x hx=>?_⟩
     . rw[(hold p (g1 p hp).2).2];exact(g1 p hp).2
     . rcases g2 x hx with h|⟨p,hp,ap,h1,h2⟩
       . exact .inl h
       . exact .inr ⟨p,hp,ap,by rw[(hold p (by rw[h1];rfl)).2];exact h1,h2⟩
 . intro a b oa ob d ha hoa hob hda hdb;rw[hanc]at ha;by_cases h1:a=i
   . subst h1;rw[hi]at hoa;cases hoa;exact(hok2 d hda b ob hob).1 hdb
   . rw[if_neg h1]at ha;exact H.uniq a b oa ob d ha hoa hob hda hdb
 . intro t ht;have h1:o.dst≠some t:=ht i o (by rw[hanc,if_pos rfl];rfl) hi;rw[hts t h1];exact H.pV t (fun j oj hj hoj=>ht j oj (by rw[(hold j hj).2];exact hj) hoj)
 . intro j hj hx;by_cases h1:j=i
   . subst h1;refine⟨o,s.ts,v,hi,?_,?_,hk⟩
     . intro d hd hlt;rw[e1,lg,if_pos ⟨hd,hlt⟩]
     . intro t ht;by_cases hw:∃jj oj,ops[jj]? =some oj/\oj.dst=some t/\(s.aP.get jj).isSome
       . obtain⟨jj,oj,g1,g2,g3⟩:=hw;refine .inl ⟨jj,oj,g1,g2,hok1 t ht jj oj g1 g2 g3,by rw[(hold jj g3).2];exact g3,?_⟩;exact(hts t (hnd jj oj t g3 g1 g2)).symm
       . refine .inr ⟨H.pV t (fun jj oj g3 g1 g2=>hw ⟨jj,oj,g1,g2,g3⟩),?_⟩;intro i' oi a g1 g2 g3;by_cases h2:i'=j
         . exact .inl h2
         . rw[hanc,if_neg h2]at g3;exact absurd ⟨i',oi,g1,g2,by rw[g3];rfl⟩ hw
   . have hj':(s.aP.get j).isSome:=by rw[hanc,if_neg h1]at hj;exact hj
     obtain⟨oj,tj,vj,g1,g2,g3,g4⟩:=H.lF j hj' hx;refine⟨oj,tj,vj,g1,?_,?_,?_⟩
     . intro d hd hlt;rw[hts d (hnd j oj d hj' g1 hd)];exact g2 d hd hlt
     . intro t ht;rcases g3 t ht with⟨i1,oi1,k1,k2,k3,k4,k5⟩|⟨k1,k2⟩
       . refine .inl ⟨i1,oi1,k1,k2,k3,by rw[(hold i1 k4).2];exact k4,?_⟩;rw[k5,hts t (hnd i1 oi1 t k4 k1 k2)]
       . refine .inr ⟨k1,?_⟩;intro i' oi a q1 q2 q3;rw[hanc]at q3;by_cases h2:i'=i
         . subst h2;rw[if_pos rfl]at q3;rw[hi]at q1
           cases q1;cases q3;exact .inr ((hok2 t q2 j oj g1).2 hj' ht)
         . rw[if_neg h2]at q3;exact k2 i' oi a q1 q2 q3
     . have hnoA:(∀x∈s.aF,x.1≠j)->∀x∈s'.aF,x.1≠j:=by
         intro hx x hm;rcases ea with ea|⟨ea,_⟩<;>rw[ea]at hm
         . exact hx x hm
         . rcases Aj.1 hm with rfl|hm
           . exact fun e=>h1 e.symm
           . exact hx x hm
       rcases g4 with⟨k1,k2,k3⟩|⟨k1,k2⟩
       . exact .inl ⟨k1,k2,hnoA k3⟩
       . refine .inr ⟨k1,?_⟩;rcases k2 with k2|⟨b,h1',ob,m1,m2,m3,m4,m5⟩|⟨m1,m2,m3,hr',m4,m5⟩
         . exact .inl ⟨k2.1,hnoA k2.2⟩
         . refine .inr (.inl ⟨b,h1',ob,?_,m2,m3,m4,eh _ _ m5⟩);rcases ea with ea|⟨ea,_⟩<;>rw[ea]
           . exact m1
           . refine⟨Ao _ m1.1,fun x hm e=>?_⟩;rcases Aj.1 hm with rfl|hm
             . exact absurd e.symm h1
             . exact m1.2 x hm e
         . refine .inr (.inr ⟨⟨er _ m1.1,hnoA m1.2⟩,m2,m3,hr',m4,?_⟩);intro b ob hb;obtain⟨n1,n2,n3⟩:=m5 b ob hb;refine⟨n1,eh _ _ n2,?_⟩;intro x hx';rcases ea with ea|⟨ea,_⟩<;>rw[ea]at hx'
           . exact n3 x hx'
           . rcases Aj.1 hx' with rfl|hx'
             . have:=H.hd b ob n2;simp only;omega
             . exact n3 x hx'
 . intro x hx;rcases ea with ea|⟨ea,hnx⟩<;>rw[ea]at hx
   . have:=H.al x hx;exact⟨by omega,by rw[(hold _ this.2.1).2];exact this.2.1,this.2.2⟩
   . rcases Aj.1 hx with rfl|hx
     . exact⟨by simp only;omega,by rw[hanc,if_pos rfl];rfl,H.nx⟩
     . have:=H.al x hx;exact⟨by omega,by rw[(hold _ this.2.1).2];exact this.2.1,this.2.2⟩
 . intro t ht;rw[e1,lg,if_neg (fun h=>absurd h.2 (E8.2 ht))];exact H.tC t ht
 . intro x hx y hy e;rcases ea with ea|⟨ea,hnx⟩<;>rw[ea]at hx hy
   . exact H.pw x hx y hy e
   . rcases Aj.1 hx with rfl|hx<;>rcases Aj.1 hy with rfl|hy
     . rfl
     . have:=(H.al y hy).1;simp only at e;omega
     . have:=(H.al x hx).1;simp only at e;omega
     . exact H.pw x hx y hy e
end
end
section
variable [Inhabited aL]
section
variable {tab:bB} {ops:Array Oper} {nt lo:Nat} {ts0:T AV} {s s':DS} {X:Nat->Prop} {i:Nat} {o:Oper} {v:AV}
theorem Iw (hf:qx tab ops nt i o s= .ok (some s')) (hi:ops[i]? =some o) (hr:ij s.aP i o=true) (H:dA tab ops nt ts0 lo s X):dA tab ops nt ts0 lo s' X:=by
 unfold qx at hf;obtain⟨_,hck,hf1⟩:=aw.1 hf;have hok:=ew.1 hck;obtain⟨b,hb,hf2⟩:=aw.1 hf1;clear hf hf1;have hnoA:∀x∈s.aF,x.1≠i:=by
  intro x hx e;have:=(H.al x hx).2.1;rw[e,(pB hr).1]at this
  cases this
 cases b with
 |false=>
  simp only[De,if_true]at hf2
  cases hf2;exact H.float hi hr hok rfl rfl (fun _ _ h=>h) (Ai _) (.inl rfl) (fun _ h=>h) H.hd (.inl ⟨hb,rfl,hnoA⟩)
 | true =>
  simp only[BN,Ak,AB]at hf2;split at hf2
  . cases hf2
  ·
    obtain⟨⟨u,h1⟩,hp,hf3⟩:=aw.1 hf2;obtain⟨_,hn,hf4⟩:=aw.1 hf3;obtain⟨ob,hob,hf5⟩:=aw.1 hf4
    cases hf5;have hn:=Ag (ew.1 hn);have hob:=cZ.1 hob;refine H.float (v:=u) hi hr hok rfl rfl ?_ (by simp) (.inr ⟨rfl,rfl⟩) (fun _ h=>h) ?_ (.inr ⟨hb, .inr (.inl ⟨s.h.next,h1,ob,⟨An,?_⟩,hp,hn,hob,?_⟩)⟩)
    . intro b ob' hg;have:=H.hd b ob' hg;simp only;rw[AH.aY,if_neg (by omega)];exact hg
    . intro b ob' hg;simp only at hg⊢;rw[AH.aY]at hg;split at hg
      . simp only[AH.dz];omega
      . have:=H.hd b ob' hg;simp only[AH.dz];omega
    . intro x hx e;rcases Aj.1 hx with rfl|hx
      . rfl
      . exact absurd e (hnoA x hx)
    . simp only;rw[AH.aY,if_pos rfl]
  ·
    rename_i hne hna;split at hf2
    . rename_i u h1 hm;obtain⟨_,hn,hf3⟩:=aw.1 hf2
      cases hf3;have hn:=Ag (ew.1 hn);have hp:fp tab s.ts {t:= .e,next:=0} o= .ok (u,h1):=by
        split at hm
        . exact hm
        . cases hm
      exact H.float (v:=u) hi hr hok rfl rfl (fun _ _ h=>h) (Ai _) (.inl rfl) (fun _ h=>h) H.hd (.inr ⟨hb, .inl ⟨⟨h1,hp,hn⟩,hnoA⟩⟩)
    . split at hf2
      . rename_i u h1 hp
        cases hf2;have hsame:=wx (tab:=tab) (o:=o) ⟨fun e=>hne (by rw[e]),fun e=>hna (by rw[e])⟩ hp;subst hsame;refine H.float (v:=u) hi hr hok rfl rfl (fun _ _ h=>h) (Ai _) (.inl rfl) (fun _ h=>Ao _ h) H.hd
          (.inr ⟨hb, .inr (.inr ⟨⟨An,hnoA⟩,fun e=>hne (by rw[e]),fun e=>hna (by rw[e]),_,hp,?_⟩)⟩)
        intro b ob hg;rw[iQ]at hg;split at hg
        . cases hg
        . rename_i hnx;refine⟨by rw[jD];exact H.hd b ob hg,hg,fun x hx e=>hnx ⟨x,hx,e⟩⟩
      . cases hf2
theorem vY:∀(l:List Oper) (k:Nat) (s s':DS),(∀j o,l[j]? =some o->ops[k+j]? =some o)->ll tab ops nt k l s= .ok s'->dA tab ops nt ts0 lo s X->dA tab ops nt ts0 lo s' X:=by
 intro l;induction l with
 |nil=>intro k s s' _ h H;simp only[ll]at h;cases h;exact H
 |cons o l ih=>
  intro k s s' hl h H;have hl':∀j o',l[j]? =some o'->ops[k+1+j]? =some o':=by
    intro j o' hj;have:=hl (j+1) o' (by simpa using hj);rw[show k+1+j=k+(j+1)from by omega];exact this
  simp only[ll]at h;by_cases hr:ij s.aP k o=true
  . simp only[hr,Bh]at h;obtain⟨x,hx,h1⟩:=aw.1 h
    cases x with
    |none=>exact ih (k+1) s s' hl' h1 H
    |some s1=>exact ih (k+1) s1 s' hl' h1 (Iw hx (by simpa using hl 0 o rfl) hr H)
  . have:ij s.aP k o=false:=by simpa using hr
    simp only[this,AS]at h;exact ih (k+1) s s' hl' h H
theorem K7:∀(l:List Oper) (k:Nat) (aP:T (List Nat)) (j:Nat) (o:Oper),l[j]? =some o->ij aP (k+j) o=true->(k+j,o)∈jK aP k l:=by
 intro l;induction l with
 |nil=>intro k aP j o h;simp at h
 | cons x l ih=>
  intro k aP j o hj hr;simp only[jK]
  cases j with
  |zero=>
   simp only[AE,AX]at hj;subst hj;simp only[Bw]at hr⊢;simp[hr]
  |succ j=>
   have h1:=ih (k+1) aP j o (by simpa using hj) (by rw[show k+1+j=k+(j+1)from by omega];exact hr);rw[show k+1+j=k+(j+1)from by omega]at h1
   cases ij aP k x
   . exact h1
   . exact Ao _ h1
theorem IW:∀(l:List Oper) (k:Nat) (aP:T (List Nat)) (j:Nat) (o:Oper),(j,o)∈jK aP k l->∃j',j=k+j'/\l[j']? =some o/\ij aP j o=true:=by
 intro l;induction l with
 |nil=>intro k aP j o h;simp[jK]at h
 | cons x l ih=>
  intro k aP j o h;simp only[jK]at h
  cases hr:ij aP k x with
  |true=>
   rw[hr]at h;simp only[Bh]at h;rcases Aj.1 h with e|h
   . cases e;exact⟨0,rfl,rfl,hr⟩
   . obtain⟨j',h1,h2,h3⟩:=ih (k+1) aP j o h;exact⟨j'+1,by omega,by simpa using h2,h3⟩
  |false=>
   rw[hr]at h;simp only[AS]at h;obtain⟨j',h1,h2,h3⟩:=ih (k+1) aP j o h;exact⟨j'+1,by omega,by simpa using h2,h3⟩
end
end
section
variable [Inhabited aL]
structure eU (ops:Array Oper) (fr0:ai) (cs:List ai) (k:List bM) (base:List Frame) (s:DS) (X:Nat->Prop) (D:Nat->Prop) (E:Env) (K:KS)
  (tsR:T AV) (hR:AH) (l:List Nat) (frC:Frame) (csC:List Frame) (w:World):Prop where
 rel:Rel D E K {fr:={fr0 with tmps:=tsR,todo:= .inRegion ops l::k},cs,h:=hR} base frC csC w
 hr:∀i ob,hR.get i=some ob↔s.h.get i=some ob/\ ∀x∈s.aF,x.2=i->X x.1
 hn:hR.next=s.h.next
 pf:∀j o t,X j->ops[j]? =some o->o.dst=some t->tsR.get t=s.ts.get t
 pe:∀t,(∀j o,X j->ops[j]? =some o->o.dst≠some t)->tsR.get t=fr0.tmps.get t
 dp:∀x∈s.aF,¬X x.1->¬D x.2
section
variable {P:Program} {tab:bB} (ok:bU P tab)
variable {D:Nat->Prop} {E:Env} {K:KS} {base:List Frame} {frC:Frame} {csC:List Frame} {w:World}
variable {ops:Array Oper} {fr0:ai} {cs:List ai} {k:List bM} {lo:Nat} {s:DS} {X:Nat->Prop} {tsR:T AV} {hR:AH} {j:Nat} {l:List Nat} {o:Oper} {v:AV}
theorem UM {fr fr':ai} {h:AH} {i:Nat} {rest:List Nat} {k:List bM} (hR:Rel D E K {fr,cs,h} base frC csC w) (hm:fr.mode= .run) (ht:fr.todo= .inRegion ops (i::rest)::k) (ho:ops[i]? =some o) (hw:wanted ops o fr.tmps= .ok false)
  (hf:fr.finish (.bG [])= .ok fr'):vp P (lone frC csC w) D (fun _=>False) E K {fr:=fr',cs,h} base w:=by
 have hfc:=lh hf;refine hR.qi (m':={fr:=fr',cs,h}) _ _ (fun _=>(0,0)) (fun _ h=>h.elim) (fun i hi=>hi.elim (hR.eN i) False.elim) ⟨(hfc E).2.1 hR.wf.1,hR.wf.2⟩ ?_;intro E' he H e1 e2 _;refine⟨w,step_lone_go ?_,H,Kept.refl K w⟩;have hw':=zB hR.wf.1 hw E';rw[<-(hfc E').1,<-e1,<-e2];have h1:(bD E' fr).todo= .inRegion ops (i::rest)::k.map (eA E'):=by simp[bD,ht,eA]
 have h2:(bD E' fr).mode= .run:=by simp[bD,hm,fG]
 have h3:Region.wanted o (yielded ops (bD E' fr).tmps)=false:=hw';simp only;generalize bD E' fr=g at*
 unfold stepG stepG.exec;simp[h1,h2,ho,h3];rfl
theorem Ug (H:dA tab ops fr0.nt fr0.tmps lo s X) (R:eU ops fr0 cs k base s X D E K tsR hR l frC csC w) {tj:T AV} (hl:cy ops fr0.tmps s j o tj) (hx:¬X j) (hready:∀p∈iI o,X p):
   ∀t∈ou ops o,tsR.get t=tj.get t:=by
 intro t ht;rcases hl t ht with⟨i,oi,h1,h2,h3,_,h5⟩|⟨h1,h2⟩
 . rw[h5,R.pf i oi t (hready i h3) h1 h2]
 . rw[h1];refine R.pe t (fun i oi hi hoi hd=>?_);have hc:=H.cx i hi
   cases ha:s.aP.get i with
   |none=>rw[ha]at hc;cases hc
   |some a=>
    rcases h2 i oi a hoi hd ha with e|hm
    . exact hx (e▸hi)
    . exact hx (H.qZ i a hi ha j hm)
theorem dA.tG (H:dA tab ops fr0.nt fr0.tmps lo s X) (hC:(s.aP.get j).isSome) (ho:ops[j]? =some o) (hready:∀p∈iI o,X p):dA tab ops fr0.nt fr0.tmps lo s (fun i=>X i\/i=j):=by
 refine⟨?_,?_,H.op,H.shape,H.uniq,H.pV,fun i hi hx=>H.lF i hi (fun h=>hx (.inl h)),H.al,H.nx,H.tC,H.pw,H.hd⟩
 . rintro i (hi|rfl)
   . exact H.cx i hi
   . exact hC
 . rintro i a (hi|rfl) ha x hx
   . exact .inl (H.qZ i a hi ha x hx)
   . obtain⟨g1,g2⟩:=H.shape i a o ha ho;rcases g2 x hx with hp|⟨p,hp,ap,h1,h2⟩
     . exact .inl (hready x hp)
     . exact .inl (H.qZ p ap (hready p hp) h1 x h2)
theorem On (H:dA tab ops fr0.nt fr0.tmps lo s X) (R:eU ops fr0 cs k base s X D E K tsR hR l frC csC w) (hC:(s.aP.get j).isSome) (ho:ops[j]? =some o) (hdst:∀d,o.dst=some d->d<fr0.nt->s.ts.get d=some v):
   (∀i oi t,(X i\/i=j)->ops[i]? =some oi->oi.dst=some t->(gR fr0.nt tsR o v).get t=s.ts.get t)/\
   (∀t,(∀i oi,(X i\/i=j)->ops[i]? =some oi->oi.dst≠some t)->(gR fr0.nt tsR o v).get t=fr0.tmps.get t):=by
 constructor
 . intro i oi t hi hoi hd;rw[lg];by_cases h1:o.dst=some t/\t<fr0.nt
   . rw[if_pos h1,hdst t h1.1 h1.2]
   . rw[if_neg h1];rcases hi with hi|rfl
     . exact R.pf i oi t hi hoi hd
     . rw[ho]at hoi
       cases hoi;have hge:fr0.nt<=t:=D5 (fun hlt=>h1 ⟨hd,hlt⟩);rw[H.tC t hge];exact R.rel.wf.1 t hge
 . intro t ht;rw[lg,if_neg (fun h=>ht j o (.inr rfl) ho h.1)];exact R.pe t (fun i oi hi hoi=>ht i oi (.inl hi) hoi)
theorem zF (ho:ops[j]? =some o) (v:AV):ai.finish {fr0 with tmps:=tsR,todo:= .inRegion ops (j::l)::k} v= .ok {fr0 with tmps:=gR fr0.nt tsR o v,todo:= .inRegion ops l::k}:=by
 unfold ai.finish;simp only[ho,B0];congr 1
end
end
end Go.Am
namespace Go.Sy
open Go.Am
section
universe u v
inductive SV:Type 1 where
 |bool (b:Bool)
 |int (k:IntKind) (n:Int)
 |str (s:List UInt8)
 |bo
 |wp (a:Addr)
 |ptr (b off:Nat)
 |cA (b i off:Nat)
 |cH (cs:List SV) (off:Nat)
 |nils
 |sl (b off len cap:Nat)
 |own (b:Nat)
 |ar (X:Type) (L:List X) (enc:X->List SV)
 |bF
 |map (b:Nat)
 |bL
 |fn (f:FuncId) (first captured:List SV)
 |agg (cs:List SV)
 |bG (vs:List SV)
 |any
inductive SO:Type 1 where
 |cells (cs:List SV) (elem:TypeId)
 |arr (X:Type) (L:List X) (enc:X->List SV) (elem:TypeId)
def so {α:Type u} (x:Option α) (k:α->Prop):Prop:=match x with|some a=>k a|none=>False
def br (b:Bool) (p q:Prop):Prop:=match b with|true=>p|false=>q
def ck (b:Bool) (p:Prop):Prop:=match b with|true=>p|false=>False
def look {α:Type u}:List (Nat×α)->Nat->Option α
 |[],_=>none
 |(k,v)::l,n=>bif Nat.beq k n then some v else look l n
abbrev Fr:=List (Nat×SV)
structure SH:Type 1 where
 next:Nat
 os:List (Nat×Option SO)
def SH.get (h:SH) (b:Nat):Option SO:=match look h.os b with|some (some o)=>some o|_=>none
def SH.set:SH->Nat->Option SO->SH
 |⟨n,os⟩,b,o=>⟨n,(b,o)::os⟩
def SH.new:SH->SO->SH
 |⟨n,os⟩,o=>⟨n+1,(n,some o)::os⟩
def Fr.of:List SV->Nat->Fr
 |[],_=>[]
 |v::l,n=>(n,v)::Fr.of l (n+1)
def uR:Value->Option SV
 | .bool b=>some (.bool b)
 | .int k n=>some (.int k n)
 | .string s=>some (.str s.data.toList)
 | .pointer none=>some .bo
 | .slice none 0 0=>some .nils
 | .map none=>some .bF
 | .nilFunc=>some .bL
 |_=>none
def jf {α:Type u} {β:Type v} (f:α->Option β):List α->Option (List β)
 |[]=>some []
 |x::l=>match f x,jf f l with|some y,some m=>some (y::m)|_,_=>none
def CF:Value->Option SV
 | .agg cs=>(jf uR cs.toList).map .agg
 | .tuple vs=>(jf uR vs.toList).map .bG
 |v=>uR v
def kO:AV->Option SV
 | .bool b=>some (.bool b)
 | .int k n=>some (.int k n)
 | .str s=>some (.str s)
 | .bo=>some .bo
 | .nils=>some .nils
 | .bF=>some .bF
 | .bL=>some .bL
 |_=>none
def yP:AV->Option (List SV)
 | .agg cs=>jf kO cs
 |v=>(kO v).map fun x=>[x]
def fM (ts:Fr):Operand->Option SV
 | .tmp t=>look ts t
 | .const v=>CF v
 | .func f=>some (.fn f [] [])
 | .global _=>none
def kW (ts:Fr) (l:List Operand):Option (List SV):=jf (fM ts) l
def SV.cells:SV->List SV
 | .agg cs=>cs
 |v=>[v]
def jF:SV->Bool
 | .bool _| .int _ _| .str _| .bo| .wp _| .nils| .bF| .bL| .ar _ _ _=>true
 |_=>false
def SV.known:SV->Bool
 | .any=>false
 |_=>true
def xy:SV->Bool
 | .agg _| .bG _| .any=>false
 |_=>true
section
variable (tab:bB)
def mV (t:TypeId) (cs:List SV) (off:Nat):Option SV:=
 match tab.agg.get t with
 |some true=>match tab.siz.get t with
  |some n=>bif Nat.ble (off+n) cs.length then some (.agg ((cs.drop off).take n))else none
  |none=>none
 |some false=>cs[off]?
 |none=>none
def uB (cs:List SV) (off:Nat) (vs:List SV):List SV:=cs.take off++(vs++cs.drop (off+vs.length))
def yQ (h:SH) (t:TypeId) (p:SV) (k:SV->Prop):Prop:=
 match p with
 | .ptr b off=>match h.get b with
  |some (.cells cs _)=>so (mV tab t cs off) k
  |_=>False
 | .cA b i off=>match h.get b with
  |some (.arr _ L enc _)=>so (L[i]?) fun x=>so (mV tab t (enc x) off) k
  |_=>False
 | .cH cs off=>so (mV tab t cs off) k
 |_=>False
def Gd (h:SH) (t:TypeId) (p v:SV) (k:SH->Prop):Prop:=
 match tab.siz.get t with
 | some n=>ck (!(Nat.beq n 0)&&v.known&&Nat.beq v.cells.length n&&v.cells.all xy) (match p with
  | .ptr b off=>match h.get b with
   |some (.cells cs e)=>ck (Nat.ble (off+n) cs.length) (k (h.set b (some (.cells (uB cs off v.cells) e))))
   |_=>False
  |_=>False)
 |none=>False
end
end
end Go.Sy
