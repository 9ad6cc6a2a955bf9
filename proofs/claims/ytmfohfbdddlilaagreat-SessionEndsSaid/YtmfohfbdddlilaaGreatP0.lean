/- Part 0: an evaluator, proved sound, and its use at this seat; no condition. -/
import GoSem.Step
import Derived.WalkKit
import Derived.Laws.MakeOwn
import Derived.Laws.Sem
import Derived.Calls
import Derived.Orders
set_option linter.unusedSimpArgs false
set_option linter.unusedVariables false
set_option linter.unusedSectionVars false
set_option linter.deprecated false
abbrev Aa:=@Int.ofNat_eq_natCast
abbrev Ab:=@Bool.and_eq_true
abbrev Ac:=@Array.getElem?_eq_some_iff
abbrev Ad:=@List.getElem?_eq_some_iff
abbrev Ae:=@decide_eq_true_eq
abbrev Af:=@Nat.eq_of_beq_eq_true
abbrev Ag:=@List.getElem?_eq_getElem
abbrev Ah:=@Nat.le_refl
abbrev Ai:=@decide_eq_false_iff_not
abbrev Aj:=@List.mem_cons
abbrev Ak:=@Bool.false_eq_true
abbrev Al:=@Nat.le_of_ble_eq_true
abbrev An:=@List.mem_cons_of_mem
abbrev Ao:=@List.mem_cons_self
abbrev Ap:=@Option.map_eq_some_iff
abbrev Aq:=@Nat.le_trans
abbrev Ar:=@List.mem_map
abbrev As:=@List.take_of_length_le
abbrev Au:=@List.getElem?_map
abbrev Av:=@Nat.zero_le
abbrev Aw:=@if_false
abbrev Ax:=@congrArg
abbrev Ay:=@Nat.zero_add
abbrev Az:=@List.take_succ_eq_append_getElem
abbrev AA:=@List.getElem?_cons_zero
abbrev AB:=@List.mem_filter
abbrev AE:=@List.all_eq_true
abbrev AF:=@List.getElem_mem
abbrev AG:=@List.eq_nil_of_length_eq_zero
abbrev AI:=@Bool.not_eq_true'
abbrev AJ:=@cond_false
abbrev AK:=@Option.getD_some
abbrev AL:=@Option.some.injEq
abbrev AN:=@Bool.eq_false_iff
abbrev AP:=@List.map_cons
abbrev AQ:=@List.length_eq_zero_iff
abbrev AR:=@List.map_append
abbrev AS:=@List.getElem?_toArray
abbrev AU:=@Nat.lt_of_lt_of_le
abbrev AW:=@Nat.ble_eq
abbrev AX:=@List.getElem?_append_left
abbrev AY:=@List.getElem?_cons_succ
abbrev AZ:=@List.length_pos_iff
abbrev A1:=@List.length_cons
abbrev A2:=@Option.map_some
abbrev A3:=@List.getElem?_append_right
abbrev A4:=@Bool.eq_iff_iff
abbrev A5:=@Array.getElem?_eq_getElem
abbrev A6:=@List.length_map
abbrev A7:=@List.length_filter_le
abbrev A8:=@cond_true
abbrev A9:=@Nat.not_lt_zero
abbrev Ba:=@List.mem_append
abbrev Bb:=@List.length_nil
abbrev Bc:=@Bool.false_and
abbrev Bd:=@Array.getElem?_toList
abbrev Be:=@List.getElem?_take
abbrev Bf:=@not_false_eq_true
abbrev Bg:=@List.take_length
abbrev Bh:=@List.cons_append
abbrev Bi:=@Option.isSome_none
abbrev Bj:=@List.length_append
abbrev Bk:=@Nat.add_zero
abbrev Bl:=@List.getElem?_eq_none
abbrev Bn:=@Bool.true_and
abbrev Bo:=@List.pairwise_iff_getElem
abbrev Bp:=@Nat.mul_le_mul_right
abbrev Bq:=@Nat.add_mul
abbrev Br:=@List.size_toArray
abbrev Bt:=@List.mem_iff_getElem?
abbrev Bu:=@decide_eq_false
abbrev Bv:=@Decidable.byContradiction
abbrev Bw:=@List.map_map
abbrev Bx:=@Array.getElem?_setIfInBounds
abbrev By:=@Option.isSome_iff_exists
abbrev Bz:=@List.length_take
abbrev BA:=@List.takeWhile_cons
abbrev BB:=@List.getElem_of_mem
abbrev BC:=@of_decide_eq_true
abbrev BD:=@decide_eq_true
abbrev BE:=@List.nil_append
abbrev BF:=@List.foldl_cons
abbrev BG:=@List.cons.injEq
abbrev BH:=@Bool.not_true
abbrev BJ:=@beq_iff_eq
abbrev BL:=@Bool.or_eq_true
abbrev BM:=@List.mem_singleton
abbrev BN:=@List.getElem?_drop
abbrev BO:=@Option.bind_some
abbrev BP:=@List.mem_of_getElem?
abbrev BQ:=@List.filter_cons
abbrev BR:=@Prod.mk.injEq
abbrev BS:=@Nat.beq_refl
abbrev BT:=@Bool.and_false
abbrev BU:=@List.filter_eq_self
abbrev BV:=@Option.map_none
abbrev BW:=@List.append_nil
abbrev BX:=@List.not_mem_nil
abbrev BY:=@List.length_drop
abbrev BZ:=@Nat.add_assoc
abbrev B0:=@List.getElem_drop
abbrev B5:=@List.ext_getElem?
abbrev B6:=@List.append_assoc
abbrev B7:=@Function.comp_def
abbrev B8:=@Option.some.inj
abbrev B9:=@Nat.blt_eq
abbrev Da:=@Array.size_push
abbrev Db:=@beq_eq_false_iff_ne
abbrev Dc:=@List.map_congr_left
abbrev Dd:=@Nat.sub_zero
abbrev De:=@Array.getD_eq_getD_getElem?
abbrev Df:=@Bool.not_false
abbrev Dg:=@Array.ext_getElem?
abbrev Dh:=@List.take_append_drop
abbrev Di:=@List.mem_of_mem_take
abbrev Dj:=@Array.toList_push
abbrev Dk:=@List.eraseIdx_eq_take_drop_succ
abbrev Dl:=@List.toList_toArray
abbrev Dm:=@List.head?_eq_getElem?
abbrev Dn:=@List.filter_filter
abbrev Dp:=@List.filter_append
abbrev Dq:=@List.nodup_cons
abbrev Dr:=@List.singleton_append
abbrev Ds:=@Array.getElem?_modify
abbrev Dt:=@not_true_eq_false
abbrev Du:=@Array.getElem_setIfInBounds
abbrev Dv:=@and_true
abbrev Dw:=@Array.replicate_zero
abbrev Dx:=@Array.replicate_succ
abbrev Dy:=@List.dropWhile_cons
abbrev Dz:=@List.append_toArray
abbrev DA:=@Bool.and_true
abbrev DB:=@List.find?_cons
abbrev DC:=@List.pairwise_cons
abbrev DD:=@Nat.one_mul
abbrev DE:=@List.reverse_singleton
abbrev DG:=@List.push_toArray
abbrev DH:=@List.flatMap_cons
abbrev DI:=@List.find?_append
abbrev DJ:=@Int.toNat_natCast
abbrev DK:=@Array.getElem?_eq_none
abbrev DM:=@Nat.ble_eq_true_of_le
abbrev DN:=@List.mem_append_right
abbrev DO:=@List.Pairwise.sublist
abbrev DP:=@Nat.lt_succ_self
abbrev DQ:=@Nat.le_of_not_lt
abbrev DR:=@List.any_eq_true
abbrev DT:=@or_false
abbrev DU:=@List.mem_of_mem_drop
abbrev DV:=@List.getElem?_modify
abbrev DW:=@List.getElem?_range
abbrev DX:=@List.filter_sublist
abbrev DY:=@Array.toList_modify
abbrev DZ:=@Array.toList_filter
abbrev D0:=@getElem!_pos
abbrev D2:=@Nat.zero_mul
abbrev D3:=@Nat.lt_or_ge
abbrev D4:=@List.map_nil
abbrev D5:=@Bool.true_or
abbrev D6:=@List.ne_nil_of_mem
abbrev D7:=@List.find?_eq_none
abbrev D8:=@List.exists_cons_of_ne_nil
abbrev D9:=@Bool.not_eq_false'
abbrev Ea:=@Option.isSome_iff_ne_none
abbrev Eb:=@List.getLast?_eq_getElem?
abbrev Ec:=@List.getElem?_eq_none_iff
abbrev Ed:=@List.drop_eq_getElem_cons
abbrev Ee:=@List.getElem_take
abbrev Ef:=@List.getElem?_set
abbrev Eg:=@List.map_take
abbrev Eh:=@beq_self_eq_true
abbrev Ei:=@Option.bind_eq_some_iff
abbrev Ej:=@List.filter_eq_nil_iff
abbrev Ek:=@List.drop_eq_nil_of_le
abbrev El:=@UInt8.toNat_inj
abbrev Em:=@List.takeWhile_prefix
abbrev En:=@List.take_zero
abbrev Eo:=@List.pairwise_append
abbrev Ep:=@List.mem_range
abbrev Er:=@List.mem_append_left
abbrev Es:=@List.find?_nil
abbrev Et:=@List.drop_drop
abbrev Eu:=@Array.getElem_modify
abbrev Ew:=@List.flatMap_append
abbrev Ex:=@List.map_drop
abbrev Ey:=@Bool.or_false
abbrev Ez:=@Bool.and_self
abbrev EA:=@Nat.pos_of_ne_zero
abbrev EB:=@Int.natCast_nonneg
abbrev EC:=@List.findIdx?_eq_some_iff_getElem
abbrev ED:=@List.pairwise_map
abbrev EE:=@List.nodup_append
abbrev EG:=@List.foldl_append
abbrev EH:=@List.filter_congr
abbrev EI:=@Bool.or_true
abbrev EJ:=@List.takeWhile_append_dropWhile
abbrev EK:=@Bool.not_eq_true
abbrev EL:=@Array.ext
abbrev EM:=@Nat.le_zero
abbrev EN:=@List.take_append_of_le_length
abbrev EO:=@Int.le_refl
abbrev EP:=@Nat.min_eq_left
abbrev ER:=@List.head?_cons
abbrev ES:=@List.countP_eq_length_filter
abbrev ET:=@Option.or_none
abbrev EU:=@Option.none_or
abbrev EV:=@Nat.not_lt
abbrev EW:=@Nat.mul_le_mul
abbrev EX:=@List.take_succ
abbrev EY:=@List.nodup_iff_pairwise_ne
abbrev EZ:=@List.mapM_cons
abbrev E0:=@List.foldl_nil
abbrev E2:=@Array.toList_setIfInBounds
abbrev E3:=@Array.getElem?_append_left
abbrev E4:=@List.mem_of_find?_eq_some
abbrev E5:=@List.extract_eq_take_drop
abbrev E6:=@List.exists_mem_of_ne_nil
abbrev E7:=@Nat.lt_irrefl
abbrev E8:=@ByteArray.ext
abbrev E9:=@Array.size_setIfInBounds
abbrev Fa:=@Array.getElem?_replicate
abbrev Fb:=@Classical.axiomOfChoice
abbrev Fc:=@decide_false
abbrev Fe:=@Option.map_eq_none_iff
abbrev Ff:=@List.getElem_cons_zero
abbrev Fg:=@List.getElem_cons_succ
abbrev Fh:=@UInt8.lt_iff_toNat_lt
abbrev Fi:=@Nat.le_div_iff_mul_le
abbrev Fj:=@List.eraseIdx_sublist
abbrev Fk:=@List.concat_eq_append
abbrev Fl:=@Array.getElem?_append
abbrev Fm:=@Nat.le_succ
abbrev Fo:=@List.map_id
abbrev Fp:=@List.length_dropLast
abbrev Fq:=@Array.getElem_toList
abbrev Fs:=@Nat.pred_eq_sub_one
abbrev Ft:=@List.reverse_append
abbrev Fu:=@Array.getElem?_push
namespace Go.Am
inductive R (α:Type) where
 |ok (a:α)
 |no (why:String)
namespace R
def bind {α β:Type}:R α->(α->R β)->R β
 | .ok a,f=>f a
 | .no w,_=> .no w
instance:Monad R where
 pure:=R.ok
 bind:=R.bind
def of {α:Type} (why:String):Option α->R α
 |some a=> .ok a
 |none=> .no why
def check (why:String):Bool->R Unit
 |true=> .ok ()
 |false=> .no why
end R
inductive T (α:Type) where
 |e
 |n (v:Option α) (l r:T α)
namespace T
def get {α:Type}:T α->Nat->Option α
 | .e,_=>none
 | .n v l r,k=>bif Nat.beq k 0 then v else bif Nat.beq (Nat.mod k 2) 1 then l.get (Nat.div k 2)else r.get (Nat.pred (Nat.div k 2))
def bW {α:Type}:Nat->T α->Nat->Option α->T α
 |0,t,_,_=>t
 |f+1, .e,k,x=>
  bif Nat.beq k 0 then .n x .e .e else bif Nat.beq (Nat.mod k 2) 1 then .n none (bW f .e (Nat.div k 2) x) .e else .n none .e (bW f .e (Nat.pred (Nat.div k 2)) x)
 |f+1, .n v l r,k,x=>
  bif Nat.beq k 0 then .n x l r else bif Nat.beq (Nat.mod k 2) 1 then .n v (bW f l (Nat.div k 2) x) r else .n v l (bW f r (Nat.pred (Nat.div k 2)) x)
def set {α:Type} (t:T α) (k:Nat) (x:Option α):T α:=bW (k+1) t k x
def fM {α:Type}:List α->Nat->T α->T α
 |[],_,t=>t
 |x::l,k,t=>fM l (k+1) (t.set k (some x))
def ofList {α:Type} (l:List α):T α:=fM l 0 .e
end T
inductive fD where
 |lit (n:Nat)
 |tail (k:Nat)
deriving DecidableEq
inductive AV where
 |bool (b:Bool)
 |int (k:IntKind) (n:Int)
 |str (s:List UInt8)
 |aW
 |ptr (b off:Nat)
 |nils
 |sl (b off len:Nat) (cap:fD)
 |emp (b off l n k:Nat)
 |bh
 |map (b:Nat)
 |bB
 |fn (f:Fn) (first captured:List AV)
 |lG (l:Nat)
 |fS
 |iface (t:TypeId) (v:AV)
 |agg (cs:List AV)
 |bj (vs:List AV)
 |raw (v:Value)
inductive BK where
 |rw|mark|any|ro|cold
deriving DecidableEq
def BK.grown:BK->BK
 | .rw=> .rw
 |_=> .any
inductive AT where
 |fn (f:Fn) (captured:List AV)
 |lG (l:Nat)
 |collected (r:Nat)
structure AD where
 target:AT
 args:List AV
inductive AO where
 |cells (cs:List AV) (elem:TypeId) (sz:Nat) (ext:Bool) (bk:BK)
 |mp (es:List (AV×AV×Nat)) (clock:Nat)
 |ry (m:Option Nat) (since:Nat) (seen:List Nat) (stepped:Nat)
 |tk (s:List UInt8) (pos:Nat)
 |loop (st:LoopState) (pending:Option Code) (fn:FuncId) (tmps:T AV) (nt:Nat) (params:Array Tmp) (assign body:Code) (defers:Nat)
 |tz (calls:Option (List AD))
structure AH where
 t:T AO
 next:Nat
namespace AH
def get (h:AH) (b:Nat):Option AO:=h.t.get b
def set (h:AH) (b:Nat) (o:AO):AH:={h with t:=h.t.set b (some o)}
def new (h:AH) (o:AO):AH:={t:=h.t.set h.next (some o),next:=h.next+1}
def kill (h:AH) (b:Nat):AH:={h with t:=h.t.set b none}
end AH
inductive bm where
 |code (c:Code)
 |inBlock (id:Nat)
 |inLoop (body:Code)
 |inScope (body:Code)
 |inRegion (ops:Array Oper) (l:List Nat)
 |jP (l:Nat)
 |endRange (l:Nat)
 |beginRound
structure tx where
 v:AV
 recovered:Bool
inductive nI where
 |run
 |returning
 |panicking (chain:List tx)
structure af where
 fn:FuncId
 nt:Nat
 tmps:T AV
 todo:List bm
 defers:List AD
 mode:nI
 kind:CallKind
 round:Option Nat
structure AM where
 fr:af
 cs:List af
 h:AH
structure aZ where
 und:T TypeDesc
 siz:T Nat
 byt:T Nat
 j3:T AV
 agg:T Bool
 cmp:T Bool
 held:T Bool
 ka:T Bool
 fns:T Func
 ext:T Nat
 merge:FuncId->Bool
def nh:Value->AV
 | .bool b=> .bool b
 | .int k n=> .int k n
 | .string s=> .str s.data.toList
 | .pointer none=> .aW
 | .slice none 0 0=> .nils
 | .map none=> .bh
 | .nilFunc=> .bB
 | .nilIface=> .fS
 |v=> .raw v
def oW:Value->AV
 | .agg cs=> .agg (cs.toList.map nh)
 | .tuple vs=> .bj (vs.toList.map nh)
 |v=>nh v
def ev (ts:T AV):Operand->R AV
 | .tmp t=> .ok ((ts.get t).getD (.bj []))
 | .const v=> .ok (oW v)
 | .func f=> .ok (.fn (.func f) [] [])
 | .global _=> .no "global"
def iR (ts:T AV):List Operand->R (List AV)
 |[]=> .ok []
 |x::l=>do
  let v<-ev ts x
  let vs<-iR ts l
  .ok (v::vs)
def AV.cells:AV->R (List AV)
 | .agg cs=> .ok cs
 | .raw (.agg _)=> .no "cells of a raw value"
 | .raw (.tuple _)=> .no "cells of a raw value"
 | .raw v=> .ok [.raw v]
 |v=> .ok [v]
mutual
def AV.beq:AV->AV->Bool
 | .bool a, .bool b=>a==b
 | .int k a, .int j b=>k==j&&a==b
 | .str a, .str b=>a==b
 | .aW, .aW=>true
 | .ptr a i, .ptr b j=>Nat.beq a b&&Nat.beq i j
 | .nils, .nils=>true
 | .sl a i n c, .sl b j m d=>Nat.beq a b&&Nat.beq i j&&Nat.beq n m&&c==d
 | .emp a i n c e, .emp b j m d f=>Nat.beq a b&&Nat.beq i j&&Nat.beq n m&&Nat.beq c d&&Nat.beq e f
 | .bh, .bh=>true
 | .map a, .map b=>Nat.beq a b
 | .bB, .bB=>true
 | .fn f a b, .fn g c d=>f==g&&gp a c&&gp b d
 | .lG a, .lG b=>Nat.beq a b
 | .fS, .fS=>true
 | .iface t v, .iface u w=>Nat.beq t u&&AV.beq v w
 | .agg a, .agg b=>gp a b
 | .bj a, .bj b=>gp a b
 | .raw (.slice a n c), .raw (.slice b m d)=>decide (a=b)&&Nat.beq n m&&Nat.beq c d
 | .raw (.pointer (some a)), .raw (.pointer (some b))=>decide (a=b)
 |_,_=>false
def gp:List AV->List AV->Bool
 |[],[]=>true
 |a::l,b::m=>AV.beq a b&&gp l m
 |_,_=>false
end
section
variable (tab:aZ)
def und (t:TypeId):R TypeDesc:=R.of "und" (tab.und.get t)
def siz (t:TypeId):R Nat:=R.of "siz" (tab.siz.get t)
def zero (t:TypeId):R AV:=R.of "zero" (tab.j3.get t)
def isAgg (t:TypeId):R Bool:=R.of "isAgg" (tab.agg.get t)
def part (t:TypeId) (cs:List AV) (off:Nat):R AV:=do
 if<-isAgg tab t then
  let n<-siz tab t
  .ok (.agg ((cs.drop off).take n))
 else R.of "part" cs[off]?
def iT (h:AH) (b:Nat):R (List AV×TypeId×Nat×Bool×BK):=
 match h.get b with
 |some (.cells cs e sz ext bk)=> .ok (cs,e,sz,ext,bk)
 |_=> .no "cells"
def readN (h:AH) (b off n:Nat):R (List AV):=do
 let (cs,_)<-iT h b
 R.check "readN" (Nat.ble (off+n) cs.length)
 .ok ((cs.drop off).take n)
def mh (cs:List AV) (off:Nat) (vs:List AV):List AV:=cs.take off++(vs++cs.drop (off+vs.length))
def kH:AV->Bool
 | .raw (.slice _ _ _)=>true
 | .raw (.int _ _)=>true
 | .raw (.string _)=>true
 | .raw (.bool _)=>true
 | .raw (.pointer (some _))=>true
 | .agg _| .bj _| .raw _=>false
 |_=>true
def writeN (h:AH) (b off:Nat) (vs:List AV):R AH:=
 match vs with
 |[]=> .ok h
 |_=>do
  let (cs,e,sz,ext,bk)<-iT h b
  R.check "writeN: ro" (bk != .ro&&bk != .cold)
  R.check "writeN: range" (Nat.ble (off+vs.length) cs.length)
  R.check "writeN: cell" (vs.all kH)
  .ok (h.set b (.cells (mh cs off vs) e sz ext bk))
def loadVar (h:AH) (t:TypeId) (b off:Nat):R AV:=do
 if<-isAgg tab t then
  let n<-siz tab t
  let cs<-readN h b off n
  .ok (.agg cs)
 else
  let (cs,_)<-iT h b
  R.of "load" cs[off]?
def storeVar (h:AH) (t:TypeId) (b off:Nat) (v:AV):R AH:=do
 let n<-siz tab t
 let l<-v.cells
 R.check "store: size" (Nat.beq l.length n)
 writeN h b off l
def newRow (h:AH) (elem:TypeId) (cs:List AV) (ext:Bool:=false) (bk:BK:= .rw):R (AH×Nat):=do
 let n<-siz tab elem
 .ok (h.new (.cells cs elem n ext bk),h.next)
def asInt:AV->R (IntKind×Int)
 | .int k n=> .ok (k,n)
 |_=> .no "asInt"
def asNat (v:AV):R Nat:=do
 let (_,n)<-asInt v
 match n with
 | .ofNat k=> .ok k
 | .negSucc _=> .no "asNat"
def goInt (n:Nat):AV:= .int .i64 (.ofNat n)
def intOp (op:BinOp) (k:IntKind) (x y:Int):R AV:=
 match op with
 | .add=> .ok (.int k (k.wrap (x+y)))
 | .sub=> .ok (.int k (k.wrap (x - y)))
 | .mul=> .ok (.int k (k.wrap (x*y)))
 | .quo=>if y=0 then .no "div" else .ok (.int k (k.wrap (x.tdiv y)))
 | .rem=>if y=0 then .no "div" else .ok (.int k (x.tmod y))
 | .and=> .ok (.int k (k.wrap (BitVec.ofInt k.bits x&&&BitVec.ofInt k.bits y).toNat))
 | .or=> .ok (.int k (k.wrap (BitVec.ofInt k.bits x|||BitVec.ofInt k.bits y).toNat))
 | .xor=> .ok (.int k (k.wrap (BitVec.ofInt k.bits x ^^^ BitVec.ofInt k.bits y).toNat))
 | .andNot=> .ok (.int k (k.wrap (BitVec.ofInt k.bits x&&& ~~~ BitVec.ofInt k.bits y).toNat))
 | .eql=> .ok (.bool (x==y))
 | .neq=> .ok (.bool (x !=y))
 | .lss=> .ok (.bool (decide (x<y)))
 | .leq=> .ok (.bool (decide (x<=y)))
 | .gtr=> .ok (.bool (decide (x>y)))
 | .geq=> .ok (.bool (decide (x>=y)))
 |_=> .no "intOp"
def shiftOp (op:BinOp) (k:IntKind) (x y:Int):R AV:=
 if y<0 then .no "shift" else
 match op with
 | .shl=> .ok (.int k (k.wrap (x*2 ^ (min y.toNat k.bits))))
 | .shr=> .ok (.int k (x.fdiv (2 ^ (min y.toNat k.bits))))
 |_=> .no "shiftOp"
def strOp (op:BinOp) (x y:List UInt8):R AV:=
 match op with
 | .add=>if x.length+y.length<=1048576 then .ok (.str (x++y))else .no "string too long"
 | .eql=> .ok (.bool (x==y))
 | .neq=> .ok (.bool (!(x==y)))
 | .lss=> .ok (.bool (Op.bytesLess x y))
 | .leq=> .ok (.bool (Op.bytesLess x y||x==y))
 | .gtr=> .ok (.bool (!(Op.bytesLess x y||x==y)))
 | .geq=> .ok (.bool (!Op.bytesLess x y))
 |_=> .no "strOp"
def eqFields (eq:TypeId->AV->AV->R Bool) (xs ys:List AV):List Field->R Bool
 |[]=> .ok true
 | f::fs=>
  if f.name≠ "_" then do
   let a<-part tab f.type xs f.offset
   let b<-part tab f.type ys f.offset
   if<-eq f.type a b then eqFields eq xs ys fs else .ok false
  else eqFields eq xs ys fs
def eqT:Nat->TypeId->AV->AV->R Bool
 |0,_,_,_=> .no "eqT"
 | d+1,t,x,y=>do
  match<-und tab t,x,y with
  | .bool, .bool a, .bool b=> .ok (a==b)
  | .int _, .int k a, .int j b=>if k=j then .ok (a==b)else .no "eqT kinds"
  | .string, .str a, .str b=> .ok (a==b)
  | .pointer _, .aW, .aW=> .ok true
  | .pointer _, .aW, .ptr _ _=> .ok false
  | .pointer _, .ptr _ _, .aW=> .ok false
  | .pointer _, .raw (.pointer (some _)), .aW=> .ok false
  | .pointer _, .aW, .raw (.pointer (some _))=> .ok false
  | .slice _, .nils, .nils=> .ok true
  | .slice _, .nils, .sl .. => .ok false
  | .slice _, .sl .., .nils=> .ok false
  | .slice _, .nils, .emp .. => .ok false
  | .slice _, .emp .., .nils=> .ok false
  | .map _ _, .bh, .bh=> .ok true
  | .map _ _, .bh, .map _=> .ok false
  | .map _ _, .map _, .bh=> .ok false
  | .func _ _ _, .bB, .bB=> .ok true
  | .func _ _ _, .bB, .fn .. => .ok false
  | .func _ _ _, .fn .., .bB=> .ok false
  | .interface _, .fS, .iface _ _=> .ok false
  | .interface _, .iface _ _, .fS=> .ok false
  | .struct fs, .agg xs, .agg ys=>do
   match tab.held.get t with
   |some false=>eqFields tab (eqT d) xs ys fs.toList
   |_=> .no "eqT held"
  |_,_,_=> .no "eqT"
def eqOp (h:AH) (t:TypeId) (x y:AV):R Bool:=do
 match x,y with
 | .ptr a i, .ptr b j=>
  match<-und tab t with
  | .pointer e=>do
   let n<-siz tab e
   R.check "eqOp: size 0" (!(Nat.beq n 0))
   if Nat.beq a b then .ok (Nat.beq i j)else
    match h.get a,h.get b with
    |some (.cells _ _ _ _ .rw),some (.cells _ _ _ _ .rw)=> .ok false
    |_,_=> .no "eqOp: blocks"
  |_=> .no "eqOp"
 | .agg _, .agg _=>
  match tab.ka.get t with
  |some false=>eqT tab 8 t x y
  |_=> .no "eqOp: guard"
 | .fS, .fS=> .no "eqOp: nil, nil"
 |_,_=>eqT tab 8 t x y
def binOp (h:AH) (op:BinOp) (t:TypeId) (x y:AV):R AV:=
 match op,x,y with
 | .shl, .int k a, .int _ b=>shiftOp .shl k a b
 | .shr, .int k a, .int _ b=>shiftOp .shr k a b
 |_, .int k a, .int j b=>if k=j then intOp op k a b else .no "binOp kinds"
 |_, .str a, .str b=>strOp op a b
 | .eql,x,y=>do .ok (.bool (<-eqOp tab h t x y))
 | .neq,x,y=>do .ok (.bool (!(<-eqOp tab h t x y)))
 |_,_,_=> .no "binOp"
def unOp (op:UnOp) (x:AV):R AV:=
 match op,x with
 | .neg, .int k n=> .ok (.int k (k.wrap (0 - n)))
 | .xor, .int k n=> .ok (.int k (k.wrap (BitVec.ofInt k.bits (if k.signed then -1 else k.max) ^^^ BitVec.ofInt k.bits n).toNat))
 | .not, .bool b=> .ok (.bool (!b))
 |_,_=> .no "unOp"
def bytesOf:List AV->R (List UInt8)
 |[]=> .ok []
 | .int .u8 (.ofNat n)::l=>do
  let r<-bytesOf l
  .ok (UInt8.ofNat n::r)
 |_=> .no "bytesOf"
def kG (s:List UInt8):List AV:=s.map fun b=> .int .u8 (.ofNat b.toNat)
def convert (h:AH) (src dst:TypeId) (x:AV):R (AV×AH):=do
 match<-und tab src,<-und tab dst,x with
 |_, .int k, .int _ n=> .ok (.int k (k.wrap n),h)
 |_, .string, .str s=> .ok (.str s,h)
 | _, .slice e, .str s=>do
  match<-und tab e with
  | .int .u8=>do
   let n<-siz tab e
   R.check "convert: size" (Nat.beq n 1)
   let (h',b)<-newRow tab h e (kG s) true .mark
   .ok (.sl b 0 s.length (.tail 0),h')
  |_=> .no "convert to a slice"
 | .slice e, .string,x=>do
  match<-und tab e,x with
  | .int .u8, .nils=> .ok (.str [],h)
  | .int .u8, .sl b off n _=>do
   let s<-bytesOf (<-readN h b off n)
   .ok (.str s,h)
  | .int .u8, .emp .. => .ok (.str [],h)
  | .int .u8, .raw (.slice _ 0 _)=> .ok (.str [],h)
  |_,_=> .no "convert of a slice"
 | .slice _, .slice e, .sl b off n c=>do
  match Nat.beq src dst,<-und tab e with
  |true, .int .u8=>do
   let (cs,e',sz,ext,bk)<-iT h b
   R.check "convert: ro" (bk != .ro&&bk != .cold)
   .ok (.sl b off n c,h.set b (.cells cs e' sz ext .mark))
  |_,_=> .no "convert slices"
 |_,_,_=> .no "convert"
def xD (h:AH) (t:TypeId) (x:AV):R (AV×AH):=do
 match x with
 | .aW=> .ok (.aW,h)
 | .ptr b off=>do
  let (cs,_,_,_,_)<-iT h b
  let n<-siz tab t
  R.check "convert to unsafe.Pointer" (!(Nat.beq n 0)&&Nat.blt off cs.length)
  .ok (.ptr b off,h)
 |_=> .no "convert to unsafe.Pointer"
def xe (h:AH) (u:TypeId) (x:AV):R (AV×AH):=do
 match x with
 | .aW=> .ok (.aW,h)
 | .ptr b off=>do
  let (cs,e,_,_,_)<-iT h b
  let sz<-siz tab u
  R.check "convert from unsafe.Pointer" (Nat.beq e u&& !(Nat.beq sz 0)&&Nat.beq off 0&&Nat.ble sz cs.length)
  .ok (.ptr b off,h)
 |_=> .no "convert from unsafe.Pointer"
def l9 (h:AH) (src dst:TypeId) (x:AV):R (AV×AH):=do
 match<-und tab dst with
 | .unsafePointer=>do
  match<-und tab src with
  | .pointer t=>xD tab h t x
  |_=> .no "convert to unsafe.Pointer"
 | .pointer u=>do
  match<-und tab src with
  | .unsafePointer=>xe tab h u x
  |_=> .no "convert to a pointer"
 |_=>convert tab h src dst x
def fill (cs:List AV):List (Nat×Nat×AV)->R (List AV)
 |[]=> .ok cs
 |(off,n,v)::rest=>do
  let l<-v.cells
  R.check "fill" (Nat.beq l.length n&&Nat.ble (off+n) cs.length)
  fill (mh cs off l) rest
def oG (fs:Array Field):List (Nat×AV)->R (List (Nat×Nat×AV))
 |[]=> .ok []
 |(i,v)::rest=>do
  let f<-R.of "field" fs[i]?
  let n<-siz tab f.type
  let r<-oG fs rest
  .ok ((f.offset,n,v)::r)
def build (t:TypeId) (parts:List (Nat×AV)):R AV:=do
 let z<-zero tab t
 let zc<-z.cells
 match<-und tab t with
 | .struct fs=>do
  R.check "build: sizes" (fs.toList.all fun f=>(tab.siz.get f.type).isSome)
  let ps<-oG tab fs parts
  let cs<-fill zc ps
  .ok (.agg cs)
 | .array _ e=>do
  let n<-siz tab e
  let cs<-fill zc (parts.map fun(i,v)=>(i*n,n,v))
  .ok (.agg cs)
 |_=> .no "build"
def rep (n:Nat) (l:List AV):List AV:=
 match n with
 |0=>[]
 |n+1=>l++rep n l
def buildSlice (h:AH) (t:TypeId) (len:Nat) (parts:List (Nat×AV)):R (AV×AH):=do
 match<-und tab t with
 | .slice e=>do
  let n<-siz tab e
  R.check "buildSlice" (Nat.ble (len*n) 16777216)
  let z<-zero tab e
  let zc<-z.cells
  R.check "buildSlice: zero" (Nat.beq zc.length n)
  let cs<-fill (rep len zc) (parts.map fun(i,v)=>(i*n,n,v))
  let (h',b)<-newRow tab h e cs
  .ok (.sl b 0 len (.lit len),h')
 |_=> .no "buildSlice"
def kF (ts:T AV):List (Nat×Operand)->R (List (Nat×AV))
 |[]=> .ok []
 |(i,x)::l=>do
  let v<-ev ts x
  let r<-kF ts l
  .ok ((i,v)::r)
def makeSlice (h:AH) (t:TypeId) (len cap:AV):R (AV×AH):=do
 match<-und tab t with
 | .slice e=>do
  let l<-asNat len
  let c<-asNat cap
  let by_<-R.of "byt" (tab.byt.get e)
  R.check "makeSlice" (Nat.ble l c&&Nat.ble c 4194304&&Nat.ble (by_*c) 16777216)
  let n<-siz tab e
  let z<-zero tab e
  let zc<-z.cells
  R.check "makeSlice: zero" (Nat.beq zc.length n&& !(Nat.beq n 0))
  let (h',b)<-newRow tab h e (rep c zc)
  .ok (.sl b 0 l (.lit c),h')
 |_=> .no "makeSlice"
def capLow (h:AH) (b:Nat):fD->R Nat
 | .lit n=> .ok n
 | .tail k=>do
  let (cs,_,sz,ext,_)<-iT h b
  R.check "capLow" (ext&& !(Nat.beq sz 0))
  .ok (Nat.div cs.length sz - k)
def fh (ts:T AV) (d:R Nat):Option Operand->R Nat
 |none=>d
 |some x=>do asNat (<-ev ts x)
def iU (ts:T AV) (h:AH) (t:TypeId) (x:AV) (lo hi mx:Option Operand):R (AV×AH):=do
 match<-und tab t,x with
 | .string, .str s=>do
  R.check "slice: max" mx.isNone
  let l<-fh ts (.ok 0) lo
  let u<-fh ts (.ok s.length) hi
  R.check "slice: bounds" (Nat.ble l u&&Nat.ble u s.length)
  .ok (.str ((s.drop l).take (u - l)),h)
 | .slice e, .nils=>do
  let _<-siz tab e
  let l<-fh ts (.ok 0) lo
  let u<-fh ts (.ok 0) hi
  let m<-fh ts (.ok 0) mx
  R.check "slice: nil" (Nat.beq l 0&&Nat.beq u 0&&Nat.beq m 0&&(mx.isNone||hi.isSome))
  .ok (.nils,h)
 | .slice e, .sl b off len cap=>do
  let c<-capLow h b cap
  let n<-siz tab e
  let l<-fh ts (.ok 0) lo
  let u<-fh ts (.ok len) hi
  match mx with
  |some _=>do
   let m<-fh ts (.ok 0) mx
   R.check "slice: bounds" (Nat.ble l u&&Nat.ble u m&&Nat.ble m c&&hi.isSome)
   .ok (.sl b (bif Nat.beq m l then off else off+l*n) (u - l) (.lit (m - l)),h)
  | none=>
   match cap with
   | .lit m=>do
    R.check "slice: bounds" (Nat.ble l u&&Nat.ble u m)
    .ok (.sl b (bif Nat.beq m l then off else off+l*n) (u - l) (.lit (m - l)),h)
   | .tail k=>do
    R.check "slice: bounds" (Nat.ble l u&&Nat.ble u c)
    bif Nat.beq l 0 then .ok (.sl b off u (.tail k),h)
    else bif Nat.blt l c then .ok (.sl b (off+l*n) (u - l) (.tail (k+l)),h)
    else .ok (.emp b off l n k,h)
 | .slice e, .raw (.slice a 0 c)=>do
  let _<-siz tab e
  let l<-fh ts (.ok 0) lo
  let u<-fh ts (.ok 0) hi
  R.check "slice: raw" (Nat.beq l 0&&Nat.beq u 0&&mx.isNone)
  .ok (.raw (.slice a 0 c),h)
 | .slice e, .emp b off l0 n0 k=>do
  let _<-siz tab e
  let l<-fh ts (.ok 0) lo
  let u<-fh ts (.ok 0) hi
  R.check "slice: emp" (Nat.beq l 0&&Nat.beq u 0&&mx.isNone)
  .ok (.emp b off l0 n0 k,h)
 |_,_=> .no "slice"
def kM (e:TypeId) (n:Nat):R Unit:=do
 let z<-zero tab e
 let zc<-z.cells
 R.check "append: zero" (Nat.beq zc.length n)
def bo (h:AH) (e:TypeId) (n by_:Nat) (x:AV) (m:Nat) (news:List AV):R (AV×AH):=do
 match x with
 | .nils=>
  bif Nat.beq m 0 then .ok (.nils,h)
  else do
   R.check "append: size" (Nat.ble (m*by_) 16777216&&Nat.ble m 16777216)
   kM tab e n
   let (h',b)<-newRow tab h e news true
   .ok (.sl b 0 m (.tail 0),h')
 | .sl b off len cap=>do
  let c<-capLow h b cap
  let (cs,e',sz,ext,bk)<-iT h b
  R.check "append: type" (Nat.beq e e'&&Nat.beq sz n)
  let need:=len+m
  R.check "append: size" (Nat.ble (need*by_) 16777216&&Nat.ble need 16777216)
  bif Nat.ble need c then do
   let h'<-writeN h b (off+len*n) news
   .ok (.sl b off need cap,h')
  else
   R.check "append: old" (Nat.ble (off+len*n) cs.length)>>=fun _=>
   kM tab e n>>=fun _=>
   match cap with
   | .lit _=>do
    let (h',b')<-newRow tab h e ((cs.drop off).take (len*n)++news) true
    .ok (.sl b' 0 need (.tail 0),h')
   | .tail k=>do
    R.check "append: tail" (Nat.beq k 0&&Nat.beq off 0&&ext&&bk != .ro&&bk != .cold&&news.all kH)
    let (h',b')<-newRow tab (h.kill b) e (cs.take (len*n)++news) true bk.grown
    .ok (.sl b' 0 need (.tail 0),h')
 |_=> .no "append"
def source (h:AH) (n:Nat):AV->R (Nat×List AV)
 | .nils=> .ok (0,[])
 | .emp .. => .ok (0,[])
 | .sl b off len _=>do
  let cs<-readN h b off (len*n)
  .ok (len,cs)
 | .str s=>do
  R.check "source: size" (Nat.beq n 1)
  .ok (s.length,kG s)
 | .raw (.slice _ 0 _)=> .ok (0,[])
 |_=> .no "source"
def rW (ck:TypeId->AV->R Unit) (cs:List AV):List Field->R Unit
 |[]=> .ok ()
 | f::fs=>
  if f.name≠ "_" then do
   let x<-part tab f.type cs f.offset
   ck f.type x
   rW ck cs fs
  else rW ck cs fs
def qI:Nat->TypeId->AV->R Unit
 |0,_,_=> .no "ckKey"
 |d+1,t,v=>do
  match<-und tab t,v with
  | .interface _,_=> .no "ckKey"
  | .array _ _,_=> .no "ckKey"
  | .struct fs, .agg cs=>rW tab (qI d) cs fs.toList
  | .struct _,_=> .no "ckKey"
  |_,_=> .ok ()
def ckKey (t:TypeId) (v:AV) (d:Nat):R Unit:=qI tab d t v
def findKey (t:TypeId) (k:AV):List (AV×AV×Nat)->Nat->R (Option (Nat×AV×AV×Nat))
 |[],_=> .ok none
 |(a,v,n)::es,i=>do
  if<-eqT tab 8 t k a then .ok (some (i,a,v,n))else findKey t k es (i+1)
def qP (h:AH) (b:Nat):R (List (AV×AV×Nat)×Nat):=
 match h.get b with
 |some (.mp es c)=> .ok (es,c)
 |_=> .no "map"
def lookup (h:AH) (t:TypeId) (m k:AV) (ok:Bool):R AV:=(fun(_:aZ)=> .no "lookup") tab
def mapUpdate (h:AH) (t:TypeId) (m k x:AV):R AH:=(fun(_:aZ)=> .no "mapUpdate") tab
def mapEntry (h:AH) (t:TypeId) (m k:AV):R (AV×AH):=(fun(_:aZ)=> .no "mapEntry") tab
def entryStore (h:AH) (m s x:AV):R AH:= .no "entryStore"
def delete (h:AH) (t:TypeId) (m k:AV):R AH:=do
 match<-und tab t,m with
 | .map kt _, .bh=>do
  ckKey tab kt k 8
  .ok h
 | .map kt _, .map b=>do
  let (es,c)<-qP h b
  ckKey tab kt k 8
  match<-findKey tab kt k es 0 with
  |some (i,_)=> .ok (h.set b (.mp (es.take i++es.drop (i+1)) c))
  |none=> .ok h
 |_,_=> .no "delete"
def rangeOp (h:AH) (t:TypeId) (x:AV):R (AV×AH):=(fun(_:aZ)=> .no "rangeOp") tab
def nextOp (h:AH) (it:AV) (isString:Bool):R (List (AV×AH)):= .no "nextOp"
def entryOp (h:AH) (it:AV):R AV:= .no "entryOp"
def qx (t:TypeId) (f:Nat):R Field:=do
 match<-und tab t with
 | .struct fs=>R.of "field" fs[f]?
 |_=> .no "struct"
def o5 (k:IntKind):Int->List AV->R AV
 |x,[]=> .ok (.int k x)
 |x, .int _ y::l=>o5 k (if y<x then y else x) l
 |_,_=> .no "min"
def oY (k:IntKind):Int->List AV->R AV
 |x,[]=> .ok (.int k x)
 |x, .int _ y::l=>oY k (if y>x then y else x) l
 |_,_=> .no "max"
def lenOf (h:AH):TypeDesc->AV->R Nat
 | .string, .str s=> .ok s.length
 | .slice _, .nils=> .ok 0
 | .slice _, .emp .. => .ok 0
 | .slice _, .sl _ _ n _=> .ok n
 | .slice _, .raw (.slice _ n _)=> .ok n
 | .map _ _, .bh=> .ok 0
 | .map _ _, .map b=>do
  let (es,_)<-qP h b
  .ok es.length
 | .array n _,_=> .ok n
 |_,_=> .no "len"
def CJ (h:AH) (e:TypeId) (x y:AV):R (AV×AH):=do
 let n<-siz tab e
 let by_<-R.of "byt" (tab.byt.get e)
 R.check "append: cells" (!(Nat.beq n 0))
 let m<-asNat y
 R.check "append of make: size" (Nat.ble m 1048576&&Nat.ble (m*by_) 16777216)
 let z<-zero tab e
 let zc<-z.cells
 R.check "append of make: zero" (Nat.beq zc.length n)
 bo tab h e n by_ x m (rep m zc)
def xN (h:AH) (x:AV):R (AV×AH):=
 match x with
 | .nils=> .ok (.aW,h)
 | .sl b off _ cap=>do
  let c<-capLow h b cap
  R.check "unsafe.SliceData" (!(Nat.beq c 0))
  .ok (.ptr b off,h)
 |_=> .no "unsafe.SliceData"
def unsafeString (h:AH) (t:TypeId) (x y:AV):R (AV×AH):=(fun(_:aZ)=> .no "unsafeString") tab
def builtin (b:Builtin) (argTypes:Array TypeId) (args:List AV) (h:AH):R (AV×AH):=do
 match b,args with
 | .len,[x]=>do
  let t<-R.of "len" argTypes[0]?
  let u<-und tab t
  match u with
  | .pointer e=>do
   match<-und tab e with
   | .array n _=> .ok (goInt n,h)
   |_=> .no "len"
  |u=>do
   let n<-lenOf h u x
   .ok (goInt n,h)
 | .cap,[x]=>do
  let t<-R.of "cap" argTypes[0]?
  match<-und tab t,x with
  | .slice _, .nils=> .ok (goInt 0,h)
  | .slice _, .sl _ _ _ (.lit n)=> .ok (goInt n,h)
  |_,_=> .no "cap"
 | .append,[x,y]=>do
  let t<-R.of "append" argTypes[0]?
  let u<-R.of "append" argTypes[1]?
  match<-und tab u with
  | .int _=>do
   match<-und tab t with
   | .slice e=>CJ tab h e x y
   |_=> .no "append"
  | _=>do
   match<-und tab t with
   | .slice e=>do
    let n<-siz tab e
    let by_<-R.of "byt" (tab.byt.get e)
    R.check "append: cells" (!(Nat.beq n 0))
    let (m,news)<-source h n y
    bo tab h e n by_ x m news
   |_=> .no "append"
 | .copy,[x,y]=>do
  let t<-R.of "copy" argTypes[0]?
  match<-und tab t with
  | .slice e=>do
   let n<-siz tab e
   let (m,cs)<-source h n y
   match x with
   | .nils=> .ok (goInt 0,h)
   | .emp .. => .ok (goInt 0,h)
   | .sl b off len _=>do
    let k:=Nat.min m len
    let h'<-writeN h b off (cs.take (k*n))
    .ok (goInt k,h')
   |_=> .no "copy"
  |_=> .no "copy"
 | .clear,[x]=>do
  let t<-R.of "clear" argTypes[0]?
  match<-und tab t,x with
  |_, .bh=> .ok (.bj [],h)
  |_, .nils=> .ok (.bj [],h)
  |_, .emp .. => .ok (.bj [],h)
  |_, .map b=>do
   let (_,c)<-qP h b
   .ok (.bj [],h.set b (.mp [] c))
  | .slice e, .sl b off len _=>do
   let z<-zero tab e
   let zc<-z.cells
   let h'<-writeN h b off (rep len zc)
   .ok (.bj [],h')
  |_,_=> .no "clear"
 | .delete,[m,k]=>do
  let t<-R.of "delete" argTypes[0]?
  let h'<-delete tab h t m k
  .ok (.bj [],h')
 | .unsafeSliceData,[x]=>xN h x
 | .unsafeString,[x,y]=>do
  let t<-R.of "unsafe.String" argTypes[0]?
  unsafeString tab h t x y
 | .min, .int k x::l=>do
  let v<-o5 k x l
  .ok (v,h)
 | .max, .int k x::l=>do
  let v<-oY k x l
  .ok (v,h)
 |_,_=> .no "builtin"
def eM (ts:T AV) (h:AH) (o:Oper):R (AV×AH):=do
 match o.op with
 | .move x=>do .ok (<-ev ts x,h)
 | .assign x=>do .ok (<-ev ts x,h)
 | .pick c a b=>do
  match<-ev ts c with
  | .bool true=>do .ok (<-ev ts a,h)
  | .bool false=>do .ok (<-ev ts b,h)
  |_=> .no "pick"
 | .alloc e=>do
  let z<-zero tab e
  let zc<-z.cells
  let (h',b)<-newRow tab h e zc
  .ok (.ptr b 0,h')
 | .box e x=>do
  let v<-ev ts x
  let vc<-v.cells
  let (h',b)<-newRow tab h e vc
  .ok (.ptr b 0,h')
 | .build t ps=>do
  let l<-kF ts ps.toList
  .ok (<-build tab t l,h)
 | .buildSlice t n ps=>do
  let l<-kF ts ps.toList
  buildSlice tab h t n l
 | .load t a=>do
  match<-ev ts a with
  | .ptr b off=>do .ok (<-loadVar tab h t b off,h)
  |_=> .no "load"
 | .store t a x=>do
  match<-ev ts a with
  | .ptr b off=>do
   let h'<-storeVar tab h t b off (<-ev ts x)
   .ok (.bj [],h')
  |_=> .no "store"
 | .nilCheck x=>do
  match<-ev ts x with
  | .ptr b off=> .ok (.ptr b off,h)
  | .fn (.func f) a b=> .ok (.fn (.func f) a b,h)
  |_=> .no "nilCheck"
 | .binOp op t x y _=>do .ok (<-binOp tab h op t (<-ev ts x) (<-ev ts y),h)
 | .unOp op _ x=>do .ok (<-unOp op (<-ev ts x),h)
 | .convert s d x=>do l9 tab h s d (<-ev ts x)
 | .makeInterface t x=>do
  match<-und tab t with
  | .interface _=> .no "makeInterface"
  |_=>do .ok (.iface t (<-ev ts x),h)
 | .makeFunc fn first captured=>do
  match fn with
  | .func _=>do .ok (.fn fn (<-iR ts first.toList) (<-iR ts captured.toList),h)
  |_=> .no "makeFunc"
 | .makeMap _ none=> .ok (.map h.next,h.new (.mp [] 0))
 | .makeSlice t l c=>do makeSlice tab h t (<-ev ts l) (<-ev ts c)
 | .slice t x lo hi mx=>do iU tab ts h t (<-ev ts x) lo hi mx
 | .fieldAddr s x f=>do
  let fd<-qx tab s f
  let n<-siz tab fd.type
  R.check "fieldAddr: size 0" (!(Nat.beq n 0))
  match<-ev ts x with
  | .ptr b off=> .ok (.ptr b (off+fd.offset),h)
  |_=> .no "fieldAddr"
 | .field t x f=>do
  let fd<-qx tab t f
  match<-ev ts x with
  | .agg cs=>do .ok (<-part tab fd.type cs fd.offset,h)
  |_=> .no "field"
 | .indexAddr t x ix=>do
  let i<-asNat (<-ev ts ix)
  match<-und tab t,<-ev ts x with
  | .array len e, .ptr b off=>do
   R.check "indexAddr" (Nat.blt i len)
   let n<-siz tab e
   .ok (.ptr b (off+i*n),h)
  | .slice e, .sl b off len _=>do
   R.check "indexAddr" (Nat.blt i len)
   let n<-siz tab e
   .ok (.ptr b (off+i*n),h)
  |_,_=> .no "indexAddr"
 | .index t x ix=>do
  let i<-asNat (<-ev ts ix)
  match<-und tab t,<-ev ts x with
  | .array len e, .agg cs=>do
   R.check "index" (Nat.blt i len)
   let n<-siz tab e
   .ok (<-part tab e cs (i*n),h)
  | .string, .str s=>do
   let b<-R.of "index" s[i]?
   .ok (.int .u8 (.ofNat b.toNat),h)
  |_,_=> .no "index"
 | .lookup t m k ok=>do .ok (<-lookup tab h t (<-ev ts m) (<-ev ts k) ok,h)
 | .mapUpdate t m k x| .insert t m k x=>do
  let h'<-mapUpdate tab h t (<-ev ts m) (<-ev ts k) (<-ev ts x)
  .ok (.bj [],h')
 | .mapEntry t m k=>do mapEntry tab h t (<-ev ts m) (<-ev ts k)
 | .entryStore _ m s x=>do
  let h'<-entryStore h (<-ev ts m) (<-ev ts s) (<-ev ts x)
  .ok (.bj [],h')
 | .range t x=>do rangeOp tab h t (<-ev ts x)
 | .entry it=>do .ok (<-entryOp h (<-ev ts it),h)
 | .typeAssert x xt t ok=>do
  let _:=xt
  match<-und tab t,<-ev ts x with
  | .interface _,_=> .no "typeAssert"
  | _, .iface u v=>if u=t then .ok ((if ok then .bj [v, .bool true]else v),h)else do
    R.check "typeAssert" ok
    let z<-zero tab t
    .ok (.bj [z, .bool false],h)
  | _, .fS=>do
    R.check "typeAssert" ok
    let z<-zero tab t
    .ok (.bj [z, .bool false],h)
  |_,_=> .no "typeAssert"
 | .extract t i=>do
  match<-ev ts t with
  | .bj vs=>do .ok (<-R.of "extract" vs[i]?,h)
  |_=> .no "extract"
 | .call c=>do
  match c.callee with
  | .builtin b=>do
   let l<-iR ts c.args.toList
   builtin tab b c.argTypes l h
  |_=> .no "call"
 |_=> .no "op"
end
end Go.Am
namespace Go.Am
open Go.RowKit
section
theorem ai {α β:Type} {x:R α} {f:α->R β} {b:β}:(x>>=f)= .ok b↔∃a,x= .ok a/\f a= .ok b:=by
 cases x with
 |ok a=>exact⟨fun h=>⟨a,rfl,h⟩,fun⟨_,h1,h2⟩=>by cases h1;exact h2⟩
 |no w=>exact⟨fun h=>(nomatch h),fun⟨_,h1,_⟩=>(nomatch h1)⟩
theorem cE {α:Type} {s:String} {x:Option α} {a:α}:R.of s x= .ok a↔x=some a:=by
 cases x<;>simp[R.of]
theorem dK {s:String} {b:Bool} {u:Unit}:R.check s b= .ok u↔b=true:=by
 cases b<;>simp[R.check]
theorem iQ {α:Type} (k:Nat):(T.e:T α).get k=none:=rfl
theorem ju {α:Type} (v:Option α) (l r:T α) (k:Nat):
  (T.n v l r).get k=if k=0 then v else if k % 2=1 then l.get (k / 2)else r.get (k / 2 - 1):=by
 have h1:(Nat.beq k 0)=decide (k=0):=by
  by_cases h:k=0<;>simp[h,Nat.beq_eq]
  cases k<;>simp_all[Nat.beq]
 have h2:(Nat.beq (Nat.mod k 2) 1)=decide (k % 2=1):=by
  by_cases h:k % 2=1
  . simp[h];exact h
  . simp only[h,Fc];exact AN.2 fun e=>h (Af e)
 conv=>lhs;unfold T.get
 rw[h1,h2];simp only[cond_eq_ite,Ae];rfl
theorem Su {α:Type} (f:Nat):∀(t:T α) (k j:Nat) (x:Option α),k<f->(T.bW f t k x).get j=if j=k then x else t.get j:=by
 induction f with
 |zero=>intro t k j x h;omega
 | succ f ih=>
  intro t k j x h;have h1:(Nat.beq k 0)=decide (k=0):=by
   by_cases h:k=0<;>simp[h]
   cases k<;>simp_all[Nat.beq]
  have h2:(Nat.beq (Nat.mod k 2) 1)=decide (k % 2=1):=by
   by_cases h:k % 2=1
   . simp[h];exact h
   . simp only[h,Fc];exact AN.2 fun e=>h (Af e)
  have e1:Nat.div k 2=k / 2:=rfl
  cases t with
  |e=>
   unfold T.bW;rw[h1,h2,e1,Fs];simp only[cond_eq_ite,Ae];by_cases k0:k=0
   . simp only[if_pos k0,ju,iQ];subst k0;split<;>simp
   . by_cases k1:k % 2=1
     . simp only[if_neg k0,if_pos k1,ju,iQ];rw[ih _ _ _ _ (by omega)];simp only[iQ];by_cases j0:j=0
       . simp[j0];intro e;omega
       . by_cases j1:j % 2=1
         . simp only[if_neg j0,if_pos j1];by_cases e:j=k
           . subst e;simp
           . rw[if_neg (by omega),if_neg e]
         . simp only[if_neg j0,if_neg j1];rw[if_neg (by intro e;subst e;exact j1 k1)]
     . simp only[if_neg k0,if_neg k1,ju,iQ];rw[ih _ _ _ _ (by omega)];simp only[iQ];by_cases j0:j=0
       . simp[j0];intro e;omega
       . by_cases j1:j % 2=1
         . simp only[if_neg j0,if_pos j1];rw[if_neg (by intro e;subst e;exact k1 j1)]
         . simp only[if_neg j0,if_neg j1];by_cases e:j=k
           . subst e;simp
           . rw[if_neg (by omega),if_neg e]
  |n v l r=>
   unfold T.bW;rw[h1,h2,e1,Fs];simp only[cond_eq_ite,Ae];by_cases k0:k=0
   . simp only[if_pos k0,ju];subst k0;split<;>simp_all
   . by_cases k1:k % 2=1
     . simp only[if_neg k0,if_pos k1,ju];rw[ih _ _ _ _ (by omega)];by_cases j0:j=0
       . simp only[if_pos j0];rw[if_neg (by omega)]
       . by_cases j1:j % 2=1
         . simp only[if_neg j0,if_pos j1];by_cases e:j=k
           . subst e;simp
           . rw[if_neg (by omega),if_neg e]
         . simp only[if_neg j0,if_neg j1];rw[if_neg (by intro e;subst e;exact j1 k1)]
     . simp only[if_neg k0,if_neg k1,ju];rw[ih _ _ _ _ (by omega)];by_cases j0:j=0
       . simp only[if_pos j0];rw[if_neg (by omega)]
       . by_cases j1:j % 2=1
         . simp only[if_neg j0,if_pos j1];rw[if_neg (by intro e;subst e;exact k1 j1)]
         . simp only[if_neg j0,if_neg j1];by_cases e:j=k
           . subst e;simp
           . rw[if_neg (by omega),if_neg e]
theorem T.aS {α:Type} (t:T α) (k j:Nat) (x:Option α):(t.set k x).get j=if j=k then x else t.get j:=
 Su (k+1) t k j x (DP k)
structure Env where
 aQ:Nat->Nat
 cap:Nat->Nat
def fD.val (c:fD) (n:Nat):Nat:=
 match c with
 | .lit m=>m
 | .tail k=>n - k
mutual
def ab (E:Env):AV->Value
 | .bool b=> .bool b
 | .int k n=> .int k n
 | .str s=> .string ⟨s.toArray⟩
 | .aW=> .pointer none
 | .ptr b off=> .pointer (some ⟨E.aQ b,off,none⟩)
 | .nils=> .slice none 0 0
 | .sl b off len cap=> .slice (some ⟨E.aQ b,off,none⟩) len (cap.val (E.cap b))
 | .emp b off l n k=> .slice (some ⟨E.aQ b,if E.cap b - k=l then off else off+l*n,none⟩) 0 (E.cap b - k - l)
 | .bh=> .map none
 | .map b=> .map (some (E.aQ b))
 | .bB=> .nilFunc
 | .fn f xs ys=> .func f (aY E xs).toArray (aY E ys).toArray
 | .lG l=> .func (.yield (E.aQ l)) #[] #[]
 | .fS=> .nilIface
 | .iface t v=> .iface t (ab E v)
 | .agg cs=> .agg (aY E cs).toArray
 | .bj vs=> .tuple (aY E vs).toArray
 | .raw v=>v
def aY (E:Env):List AV->List Value
 |[]=>[]
 |v::l=>ab E v::aY E l
end
theorem nN (E:Env) (l:List AV):aY E l=l.map (ab E):=by
 induction l with
 |nil=>rfl
 |cons v l ih=>simp[aY,ih]
@[simp] theorem dZ (E:Env):aY E []=[]:=rfl
@[simp] theorem bA (E:Env) (v:AV) (l:List AV):aY E (v::l)=ab E v::aY E l:=rfl
@[simp] theorem dq (E:Env) (l m:List AV):aY E (l++m)=aY E l++aY E m:=by simp[nN]
@[simp] theorem bp (E:Env) (l:List AV):(aY E l).length=l.length:=by simp[nN]
theorem rF (E:Env) (l:List AV) (n:Nat):aY E (l.take n)=(aY E l).take n:=by simp[nN,Eg]
theorem xu (E:Env) (l:List AV) (n:Nat):aY E (l.drop n)=(aY E l).drop n:=by simp[nN,Ex]
theorem jD (E:Env) (l:List AV) (i:Nat):(aY E l)[i]? =(l[i]?).map (ab E):=by simp[nN]
theorem Cr (E:Env) (v:Value):ab E (nh v)=v:=by
 unfold nh;split<;>simp[ab]
theorem zV (E:Env) (l:List Value):aY E (l.map nh)=l:=by
 induction l with
 |nil=>rfl
 |cons v l ih=>simp[Cr,ih]
theorem zW (E:Env) (v:Value):ab E (oW v)=v:=by
 unfold oW;split
 . simp[ab,zV]
 . simp[ab,zV]
 . exact Cr E v
theorem l7 {E:Env} {v:AV} {l:List AV} (h:v.cells= .ok l):(ab E v).cells=(aY E l).toArray:=by
 cases v
 case raw u=>cases u<;>simp only[AV.cells]at h<;>(try cases h)<;>simp[ab,Value.cells]
 all_goals simp only[AV.cells]at h<;>(try cases h)<;>simp[ab,Value.cells]
theorem Cc {E:Env} {v:AV} (h:kH v=true):(ab E v).oneCell'=true:=by
 cases v
 case raw u=>cases u<;>simp_all[kH,ab,Value.oneCell']
 all_goals simp_all[kH,ab,Value.oneCell']
mutual
theorem AV.beq_eq:∀(a b:AV),AV.beq a b=true->a=b
 | .bool a,b,h=>by cases b<;>simp_all[AV.beq]
 | .int k a,b,h=>by cases b<;>simp_all[AV.beq]
 | .str a,b,h=>by cases b<;>simp_all[AV.beq]
 | .aW,b,h=>by cases b<;>simp_all[AV.beq]
 | .ptr x i,b,h=>by
  cases b<;>simp only[AV.beq,Ab]at h<;>(try cases h)
  rename_i h1 h2;rw[Af h1,Af h2]
 | .nils,b,h=>by cases b<;>simp_all[AV.beq]
 | .sl x i n c,b,h=>by
  cases b<;>simp only[AV.beq,Ab]at h<;>(try cases h)
  rename_i h1 h2;obtain⟨⟨h3,h4⟩,h5⟩:=h1;rw[Af h3,Af h4,Af h5,eq_of_beq h2]
 | .emp x i n c e,b,h=>by
  cases b<;>simp only[AV.beq,Ab]at h<;>(try cases h)
  rename_i h1 h2;obtain⟨⟨⟨h3,h4⟩,h5⟩,h6⟩:=h1;rw[Af h3,Af h4,Af h5,Af h6,Af h2]
 | .bh,b,h=>by cases b<;>simp_all[AV.beq]
 | .map x,b,h=>by
  cases b<;>simp only[AV.beq]at h<;>(try cases h)
  rw[Af h]
 | .bB,b,h=>by cases b<;>simp_all[AV.beq]
 | .fn f x y,b,h=>by
  cases b<;>simp only[AV.beq,Ab]at h<;>(try cases h)
  rename_i h1 h2;rw[eq_of_beq h1.1,l4 _ _ h1.2,l4 _ _ h2]
 | .lG x,b,h=>by
  cases b<;>simp only[AV.beq]at h<;>(try cases h)
  rw[Af h]
 | .fS,b,h=>by cases b<;>simp_all[AV.beq]
 | .iface t v,b,h=>by
  cases b<;>simp only[AV.beq,Ab]at h<;>(try cases h)
  rename_i h1 h2;rw[Af h1,AV.beq_eq _ _ h2]
 | .agg x,b,h=>by
  cases b<;>simp only[AV.beq]at h<;>(try cases h)
  rw[l4 _ _ h]
 | .bj x,b,h=>by
  cases b<;>simp only[AV.beq]at h<;>(try cases h)
  rw[l4 _ _ h]
 | .raw v,b,h=>by
  cases b
  case raw u=>
   unfold AV.beq at h;split at h<;>first|(cases h;done)|skip
   all_goals (rename_i e1 e2;cases e1<;>cases e2)
   . simp only[Ab,Ae]at h;obtain⟨⟨h3,h4⟩,h2⟩:=h;rw[h3,Af h4,Af h2]
   . rw[BC h]
  all_goals (exfalso;revert h;simp[AV.beq])
theorem l4:∀(a b:List AV),gp a b=true->a=b
 |[],b,h=>by cases b<;>simp_all[gp]
 | x::l,b,h=>by
  cases b with
  |nil=>simp[gp]at h
  |cons y m=>
   simp only[gp,Ab]at h;rw[AV.beq_eq _ _ h.1,l4 _ _ h.2]
end
def yZ:TypeDesc->Bool
 | .struct _| .array _ _=>true
 |_=>false
structure bw (P:Program) (tab:aZ):Prop where
 und:∀t d,tab.und.get t=some d->P.underlying t=some d
 siz:∀t n,tab.siz.get t=some n->∃i,P.info? t=some i/\i.size=n
 byt:∀t n,tab.byt.get t=some n->∃i,P.info? t=some i/\i.bytes=n
 j3:∀t z,tab.j3.get t=some z->∃i,P.info? t=some i/\ ∀E,i.zero=some (ab E z)
 agg:∀t b,tab.agg.get t=some b->∃d,P.underlying t=some d/\yZ d=b
 held:∀t b,tab.held.get t=some b->P.stoodInHeld t=b
 ka:∀t b,tab.ka.get t=some b->P.eqGuardType P.depth t=b
 fns:∀f fn,tab.fns.get f=some fn->P.funcs[f]? =some fn
 tD:∀f fn,tab.fns.get f=some fn->(fn.name== "runtime.NumGoroutine")=false
section
variable {P:Program} {tab:aZ} (ok:bw P tab)
include ok
theorem jw {t:TypeId} {n:Nat} (h:siz tab t= .ok n) (w:World):(sizeOf t).run P w= .ok n w:=by
 obtain⟨i,hi,rfl⟩:=ok.siz t n (cE.1 h);simp[sizeOf,typeInfo,hi]
theorem sh {t:TypeId} {z:AV} (h:zero tab t= .ok z) (E:Env) (w:World):(zeroValue t).run P w= .ok (ab E z) w:=by
 obtain⟨i,hi,hz⟩:=ok.j3 t z (cE.1 h);simp[zeroValue,typeInfo,hi,hz E]
theorem Fw {t:TypeId} {b:Bool} (h:isAgg tab t= .ok b) (w:World):(Go.isAgg t).run P w= .ok b w:=by
 obtain⟨d,hd,rfl⟩:=ok.agg t b (cE.1 h);simp only[Go.isAgg,underlying,Sem.run_bind,run_program,Result.andThen_ok,hd,Sem.run_pure]
 cases d<;>rfl
theorem se {t:TypeId} {cs:List AV} {off:Nat} {v:AV} (h:part tab t cs off= .ok v) (E:Env) (w:World):
  (Go.part t (aY E cs).toArray off).run P w= .ok (ab E v) w:=by
 unfold part at h;obtain⟨b,hb,h⟩:=ai.1 h;unfold Go.part;rw[Sem.run_bind,Fw ok hb,Result.andThen_ok]
 cases b with
 |true=>
  simp only[if_true]at h⊢;obtain⟨n,hn,h⟩:=ai.1 h
  cases h;rw[Sem.run_bind,jw ok hn];simp[ab,rF,xu,E5]
 |false=>
  simp only[Ak,Aw]at h⊢;have h:=cE.1 h;simp[jD,h]
end
end
section
structure aF where
 dr:Prop
 old:Array Obj
variable [Inhabited aF]
def AO.ro:AO->Prop
 | .cells _ _ _ _ .ro=>True
 |_=>False
structure KS where
 p:Nat->Prop
 b:Nat
instance:CoeFun KS (fun _=>Nat->Prop):=⟨KS.p⟩
abbrev KS.old (n:Nat):KS:=⟨fun b=>b<n,n⟩
def mr (E:Env):AT->Target
 | .fn f captured=> .fn f (aY E captured).toArray
 | .lG l=> .fn (.yield (E.aQ l)) #[]
 | .collected r=> .collected (E.aQ r)
def eK (E:Env) (d:AD):Deferred:={target:=mr E d.target,args:=(aY E d.args).toArray}
def tf (E:Env) (ts:T AV) (i:Nat):Value:=ab E ((ts.get i).getD (.bj []))
def gn (E:Env) (ts:T AV) (nt:Nat):Array Value:=((List.range nt).map (tf E ts)).toArray
def kP (E:Env) (x:AV×AV×Nat):MapEntry:={key:=ab E x.1,val:=ab E x.2.1,born:=x.2.2}
def ko:BK->(Nat×Nat)->Nat->Prop
 | .rw,fz,_=>fz=(0,0)
 | .mark,fz,n=>fz=(n,n+1)
 | .any,fz,n=>fz=(0,0)\/fz=(n,n+1)
 | .ro,_,_=>True
 | .cold,_,_=>True
def oh (E:Env) (i:Nat):AO->Obj->Prop
 | .cells cs e sz ext bk,o=>∃arr fz,o= .cells arr e fz/\(∃rest,arr.toList=aY E cs++rest)/\
  (if ext then arr.size=E.cap i*sz else arr.size=cs.length)/\ko bk fz arr.size
 | .mp es c,o=>o= .map (es.map (kP E)).toArray c
 | .ry m since seen st,o=>o= .mapIter (m.map E.aQ) since seen.toArray st
 | .tk s pos,o=>o= .stringIter ⟨s.toArray⟩ pos
 | .loop st pending fn ts nt ps a b d,o=>o= .loop {state:=st,pending,fn,tmps:=gn E ts nt,params:=ps,assign:=a,body:=b,defers:=E.aQ d}/\ ∀t,nt<=t->ts.get t=none
 | .tz calls,o=>o= .deferred (calls.map (List.map (eK E)))
structure bn (E:Env) (h:AH) (K:KS) (w:World):Prop where
 obj:∀i o,h.get i=some o->∃c,w.heap[E.aQ i]? =some c/\oh E i o c
 nk:∀i o,h.get i=some o->¬o.ro->¬K (E.aQ i)
 inj:∀i j oi oj,h.get i=some oi->h.get j=some oj->¬oi.ro->E.aQ i=E.aQ j->i=j
 eo:∀i o,h.get i=some o->i<h.next
 kb:∀b,K b->b<w.heap.size
 im:∀i o,h.get i=some o->o.ro->E.aQ i<K.b
 k0:∀b,b<K.b->K b
structure Kept (K:KS) (w w':World):Prop where
 os:w'.os=w.os
 tape:w'.tape=w.tape
 output:w'.output=w.output
 size:w.heap.size<=w'.heap.size
 block:∀b,K b->w'.heap[b]? =w.heap[b]?
 drawn:(default:aF).dr->w.drawn<=w'.drawn
theorem Kept.refl (K:KS) (w:World):Kept K w w:=⟨rfl,rfl,rfl,Ah _,fun _ _=>rfl,fun _=>Ah _⟩
theorem Kept.trans {K:KS} {a b c:World} (h:Kept K a b) (k:Kept K b c):Kept K a c:=
 ⟨k.os.trans h.os,k.tape.trans h.tape,k.output.trans h.output,Aq h.size k.size,fun i hi=>(k.block i hi).trans (h.block i hi),fun hd=>Aq (h.drawn hd) (k.drawn hd)⟩
def eD (K:KS) (w:World):Prop:=∀b,b<(default:aF).old.size->K b/\w.heap[b]? =(default:aF).old[b]?
theorem eD.kept {K:KS} {w w':World} (h:eD K w) (k:Kept K w w'):eD K w':=fun b hb=>⟨(h b hb).1,(k.block b (h b hb).1).trans (h b hb).2⟩
theorem AH.aS (h:AH) (b i:Nat) (o:AO):(h.set b o).get i=if i=b then some o else h.get i:=T.aS _ _ _ _
theorem AH.aL (h:AH) (i:Nat) (o:AO):(h.new o).get i=if i=h.next then some o else h.get i:=T.aS _ _ _ _
theorem lY (h:AH) (b i:Nat):(h.kill b).get i=if i=b then none else h.get i:=T.aS _ _ _ _
@[simp] theorem AH.eu (h:AH) (b:Nat) (o:AO):(h.set b o).next=h.next:=rfl
@[simp] theorem AH.cR (h:AH) (o:AO):(h.new o).next=h.next+1:=rfl
@[simp] theorem AH.eO (h:AH) (b:Nat):(h.kill b).next=h.next:=rfl
theorem FU (w:World) (o:Obj) {i:Nat} (h:i<w.heap.size):(w.alloc o).heap[i]? =w.heap[i]? :=by
 unfold World.alloc;rw[Fu,if_neg (by omega)]
def _root_.Go.World.put (w:World) (g:Nat) (o:Obj):World:={w with heap:=w.heap.setIfInBounds g o}
theorem qt (w:World) (g i:Nat) (o:Obj):(w.put g o).heap[i]? =if i=g then(if g<w.heap.size then some o else none)else w.heap[i]? :=by
 unfold World.put;rw[Bx];by_cases h:g=i
 . subst h;simp
 . rw[if_neg h,if_neg (Ne.symm h)]
section
variable {E:Env} {h:AH} {K:KS} {w:World}
theorem bn.lt (H:bn E h K w) {i:Nat} {o:AO} (hi:h.get i=some o):E.aQ i<w.heap.size:=by
 obtain⟨c,hc,_⟩:=H.obj i o hi;exact(Ac.1 hc).1
theorem bn.drew (H:bn E h K w):bn E h K w.drew:=⟨H.obj,H.nk,H.inj,H.eo,H.kb,H.im,H.k0⟩
theorem Kept.drew (K:KS) (w:World):Kept K w w.drew:=⟨rfl,rfl,rfl,Ah _,fun _ _=>rfl,fun _=>Fm _⟩
theorem bn.new (H:bn E h K w) {o:AO} {c:Obj} (hE:E.aQ h.next=w.heap.size) (ho:oh E h.next o c) (hno:¬o.ro:=by simp[AO.ro]):bn E (h.new o) K (w.alloc c):=by
 have hnew:∀i o',(h.new o).get i=some o'->i≠h.next->h.get i=some o':=by
   intro i o' hi hne;rw[AH.aL,if_neg hne]at hi;exact hi
 have hne:∀i o',h.get i=some o'->E.aQ i≠E.aQ h.next:=by
   intro i o' hi e;have:=H.lt hi;omega
 refine⟨?_,?_,?_,?_,?_,?_,H.k0⟩
 . intro i o' hi;by_cases e:i=h.next
   . subst e;rw[AH.aL,if_pos rfl]at hi
     cases hi;exact⟨c,by rw[hE];exact heap_alloc_new w c,ho⟩
   . obtain⟨c',hc',hk⟩:=H.obj i o' (hnew i o' hi e);exact⟨c',(FU w c (H.lt (hnew i o' hi e))).trans hc',hk⟩
 . intro i o' hi hr hK;by_cases e:i=h.next
   . subst e;have:=H.kb _ hK;omega
   . exact H.nk i o' (hnew i o' hi e) hr hK
 . intro i j oi oj hi hj hr e;by_cases ei:i=h.next
   . by_cases ej:j=h.next
     . rw[ei,ej]
     . exact absurd (ei▸e.symm) (hne j oj (hnew j oj hj ej))
   . by_cases ej:j=h.next
     . exact absurd (ej▸e) (hne i oi (hnew i oi hi ei))
     . exact H.inj i j oi oj (hnew i oi hi ei) (hnew j oj hj ej) hr e
 . intro i o' hi;by_cases e:i=h.next
   . subst e;simp
   . have:=H.eo i o' (hnew i o' hi e);simp;omega
 . intro b hb;have:=H.kb b hb;simp;omega
 . intro i o' hi hr;by_cases e:i=h.next
   . subst e;rw[AH.aL,if_pos rfl]at hi
     cases hi;exact absurd hr hno
   . exact H.im i o' (hnew i o' hi e) hr
theorem Kept.alloc (hkb:∀b,K b->b<w.heap.size) (c:Obj):Kept K w (w.alloc c):=
 ⟨rfl,rfl,rfl,by simp,fun b hb=>FU w c (hkb b hb),fun _=>Ah _⟩
theorem bn.put (H:bn E h K w) {b:Nat} {o o':AO} {c:Obj} (hb:h.get b=some o) (hr:¬o.ro) (ho:oh E b o' c) (hno:¬o'.ro:=by simp[AO.ro]):bn E (h.set b o') K (w.put (E.aQ b) c):=by
 have hold:∀i o1,(h.set b o').get i=some o1->i≠b->h.get i=some o1:=by
   intro i o1 hi hne;rw[AH.aS,if_neg hne]at hi;exact hi
 refine⟨?_,?_,?_,?_,?_,?_,H.k0⟩
 . intro i o1 hi;by_cases e:i=b
   . subst e;rw[AH.aS,if_pos rfl]at hi
     cases hi;exact⟨c,by rw[qt,if_pos rfl,if_pos (H.lt hb)],ho⟩
   . obtain⟨c',hc',hk⟩:=H.obj i o1 (hold i o1 hi e);refine⟨c',?_,hk⟩;rw[qt,if_neg (fun e'=>e (H.inj b i o o1 hb (hold i o1 hi e) hr e'.symm).symm)];exact hc'
 . intro i o1 hi hr1;by_cases e:i=b
   . subst e;exact H.nk i o hb hr
   . exact H.nk i o1 (hold i o1 hi e) hr1
 . intro i j oi oj hi hj hri e;by_cases ei:i=b
   . subst ei;by_cases ej:j=i
     . exact ej.symm
     . exact H.inj i j o oj hb (hold j oj hj ej) hr e
   . by_cases ej:j=b
     . subst ej;exact H.inj i j oi o (hold i oi hi ei) hb hri e
     . exact H.inj i j oi oj (hold i oi hi ei) (hold j oj hj ej) hri e
 . intro i o1 hi;by_cases e:i=b
   . subst e;exact H.eo i o hb
   . exact H.eo i o1 (hold i o1 hi e)
 . intro g hg;have:=H.kb g hg;simp only[World.put,E9];exact this
 . intro i o1 hi hr1;by_cases e:i=b
   . subst e;rw[AH.aS,if_pos rfl]at hi
     cases hi;exact absurd hr1 hno
   . exact H.im i o1 (hold i o1 hi e) hr1
theorem bn.dv (H:bn E h K w) {b:Nat} {o:AO} (hb:h.get b=some o) (hr:¬o.ro) (c:Obj):Kept K w (w.put (E.aQ b) c):=
 ⟨rfl,rfl,rfl,by simp[World.put],fun g hg=>by rw[qt];exact if_neg (fun e=>H.nk b o hb hr (by rw[<-e];exact hg)),fun _=>Ah _⟩
theorem bn.kill (H:bn E h K w) (b:Nat):bn E (h.kill b) K w:=by
 have hold:∀i o1,(h.kill b).get i=some o1->h.get i=some o1:=by
  intro i o1 hi;rw[lY]at hi;split at hi
  . cases hi
  . exact hi
 exact⟨fun i o hi=>H.obj i o (hold i o hi),fun i o hi=>H.nk i o (hold i o hi),fun i j oi oj hi hj=>H.inj i j oi oj (hold i oi hi) (hold j oj hj),
  fun i o hi=>H.eo i o (hold i o hi),H.kb,fun i o hi=>H.im i o (hold i o hi),H.k0⟩
theorem bn.rename (H:bn E h K w) {b:Nat} {o o':AO} {c:Obj} (hb:h.get b=some o) (hr:¬o.ro) (hE:E.aQ h.next=E.aQ b) (ho:oh E h.next o' c) (hno:¬o'.ro:=by simp[AO.ro]):
   bn E ((h.kill b).new o') K (w.put (E.aQ b) c):=by
 have hold:∀i o1,((h.kill b).new o').get i=some o1->i≠h.next->i≠b/\h.get i=some o1:=by
   intro i o1 hi hne;rw[AH.aL,AH.eO,if_neg hne,lY]at hi;split at hi
   . cases hi
   . exact⟨‹_›,hi⟩
 have hnx:∀o1,((h.kill b).new o').get h.next=some o1->o1=o':=by
   intro o1 hi;rw[AH.aL,AH.eO,if_pos rfl]at hi
   cases hi;rfl
 have hne:∀i o1,h.get i=some o1->i≠b->E.aQ i≠E.aQ b:=fun i o1 hi hib e=>hib (H.inj b i o o1 hb hi hr e.symm).symm
 refine⟨?_,?_,?_,?_,?_,?_,H.k0⟩
 . intro i o1 hi;by_cases e:i=h.next
   . subst e;rw[hnx o1 hi];exact⟨c,by rw[qt,if_pos hE,if_pos (H.lt hb)],ho⟩
   . obtain⟨h1,h2⟩:=hold i o1 hi e;obtain⟨c',hc',hk⟩:=H.obj i o1 h2;exact⟨c',by rw[qt,if_neg (hne i o1 h2 h1)];exact hc',hk⟩
 . intro i o1 hi hr1;by_cases e:i=h.next
   . subst e;rw[hE];exact H.nk b o hb hr
   . exact H.nk i o1 (hold i o1 hi e).2 hr1
 . intro i j oi oj hi hj hri e;by_cases ei:i=h.next
   . by_cases ej:j=h.next
     . rw[ei,ej]
     . obtain⟨h1,h2⟩:=hold j oj hj ej;rw[ei,hE]at e;exact absurd e.symm (hne j oj h2 h1)
   . obtain⟨h1,h2⟩:=hold i oi hi ei;by_cases ej:j=h.next
     . rw[ej,hE]at e;exact absurd e (hne i oi h2 h1)
     . exact H.inj i j oi oj h2 (hold j oj hj ej).2 hri e
 . intro i o1 hi;by_cases e:i=h.next
   . subst e;simp
   . have:=H.eo i o1 (hold i o1 hi e).2;simp;omega
 . intro g hg;have:=H.kb g hg;simp only[World.put,E9];exact this
 . intro i o1 hi hr1;by_cases e:i=h.next
   . subst e;rw[hnx o1 hi]at hr1;exact absurd hr1 hno
   . exact H.im i o1 (hold i o1 hi e).2 hr1
theorem gx {b:Nat} {cs:List AV} {e:TypeId} {sz:Nat} {ext:Bool} {bk:BK} (hc:iT h b= .ok (cs,e,sz,ext,bk)):h.get b=some (.cells cs e sz ext bk):=by
 unfold iT at hc;split at hc
 . rename_i heq;cases hc;exact heq
 . cases hc
theorem bn.cells (H:bn E h K w) {b:Nat} {cs:List AV} {e:TypeId} {sz:Nat} {ext:Bool} {bk:BK} (hc:h.get b=some (.cells cs e sz ext bk)):
  ∃arr fz,w.heap[E.aQ b]? =some (.cells arr e fz)/\(∃rest,arr.toList=aY E cs++rest)/\(if ext then arr.size=E.cap b*sz else arr.size=cs.length)/\ko bk fz arr.size:=by
 obtain⟨c,h1,arr,fz,rfl,h2⟩:=H.obj b _ hc;exact⟨arr,fz,h1,h2⟩
theorem bn.cell (H:bn E h K w) {b:Nat} {cs:List AV} {e:TypeId} {sz:Nat} {ext:Bool} {bk:BK} (hc:h.get b=some (.cells cs e sz ext bk)) {i:Nat} {v:AV} (hv:cs[i]? =some v):
  w.cell? ⟨E.aQ b,i,none⟩=some (ab E v):=by
 obtain⟨arr,fz,h1,⟨rest,h2⟩,_⟩:=H.cells hc;rw[cell_of_row w _ i arr e fz h1];rw[<-Bd,h2,AX (by rw[bp];exact(Ad.1 hv).1),jD,hv];rfl
theorem add_lit (b o j:Nat):(⟨b,o,none⟩:Addr).add j=⟨b,o+j,none⟩:=by
 unfold Addr.add;split<;>simp_all
theorem GZ {b off n:Nat} {cs:List AV} (hr:readN h b off n= .ok cs):
  ∃cs0 e sz ext bk,h.get b=some (.cells cs0 e sz ext bk)/\off+n<=cs0.length/\cs=(cs0.drop off).take n:=by
 unfold readN at hr;obtain⟨⟨cs0,e,sz,ext,bk⟩,h1,hr⟩:=ai.1 hr;obtain⟨_,h2,hr⟩:=ai.1 hr
 cases hr;exact⟨cs0,e,sz,ext,bk,gx h1,Al (dK.1 h2),rfl⟩
theorem bn.jo (H:bn E h K w) {b off n:Nat} {cs:List AV} (hr:readN h b off n= .ok cs):
   (aY E cs).length=n/\ ∀j v,(aY E cs)[j]? =some v->w.cell? ((⟨E.aQ b,off,none⟩:Addr).add j)=some v:=by
 obtain⟨cs0,e,sz,ext,bk,hc,hl,rfl⟩:=GZ hr;refine⟨by simp;omega,fun j v hv=>?_⟩;rw[jD,Be]at hv;split at hv
 . rw[BN]at hv
   cases hx:cs0[off+j]? with
   |none=>rw[hx]at hv;cases hv
   |some u=>
    rw[hx]at hv
    cases hv;rw[add_lit];exact H.cell hc hx
 . cases hv
theorem bn.fq (H:bn E h K w) {P:Program} {b off n:Nat} {cs:List AV} (hr:readN h b off n= .ok cs):
  (loadCells ⟨E.aQ b,off,none⟩ n).run P w= .ok (aY E cs).toArray w:=by
 obtain⟨hl,hc⟩:=H.jo hr;have:=run_loadCells_list (P:=P) w ⟨E.aQ b,off,none⟩ (aY E cs) hc;rw[hl]at this;exact this
theorem wR {P:Program} (g o:Nat) (t:TypeId) (fz:Nat×Nat):∀(vs:List Value) (i:Nat) (cur:Array Value) (w:World),w.heap[g]? =some (.cells cur t fz)->
  (∀j,j<cur.size->¬(fz.1<=j/\j<fz.2))->o+i+vs.length<=cur.size->(∀v∈vs,v.oneCell'=true)->
  (storeCells ⟨g,o,none⟩ vs i).run P w= .ok () (w.put g (.cells (cur.toList.take (o+i)++vs++cur.toList.drop (o+i+vs.length)).toArray t fz))
 | [], i,cur,w,hg,_,_,_=>by
  simp only[storeCells,BW,Bb,Bk,Dh,Array.toArray_toList];have:w.put g (.cells cur t fz)=w:=by
   unfold World.put;have hlt:=(Ac.1 hg).1;have he:=(Ac.1 hg).2;have:w.heap.setIfInBounds g (.cells cur t fz)=w.heap:=by
     apply EL
     . simp
     . intro i h1 h2;rw[Du (by simpa using h2)];split
       . rename_i e;subst e;exact he.symm
       . rfl
   rw[this]
  rw[this];rfl
 | v ::rest,i,cur,w,hg,hf,hl,h1=>by
  have hi:o+i<cur.size:=by simp at hl;omega
  have hlt:=(Ac.1 hg).1;have hcell:w.cell? ⟨g,o+i,none⟩=some cur[o+i]:=by simp[World.cell?,hg,hi]
  have hfro:w.frozen? ⟨g,o+i,none⟩=false:=by
   have:=hf (o+i) hi;obtain⟨lo,hi'⟩:=fz;simp only[World.frozen?,hg];simpa using this
  have hset:w.setCell ⟨g,o+i,none⟩ v=w.put g (.cells (cur.setIfInBounds (o+i) v) t fz):=by
   unfold World.setCell World.put;congr 1
   apply EL
   . simp
   . intro j h1 h2;rw[Eu,Du (by simpa using h2)];have he:w.heap[g]= .cells cur t fz:=(Ac.1 hg).2;by_cases e:g=j
     . subst e;simp[he]
     . simp[e]
  have hst:(store ((⟨g,o,none⟩:Addr).add i) v).run P w= .ok () (w.put g (.cells (cur.setIfInBounds (o+i) v) t fz)):=by
   rw[add_lit,run_store P w _ v _ (h1 v (by simp)),hcell];simp[hfro,hset]
  have hg':(w.put g (.cells (cur.setIfInBounds (o+i) v) t fz)).heap[g]? =some (.cells (cur.setIfInBounds (o+i) v) t fz):=by
   rw[qt,if_pos rfl,if_pos hlt]
  simp only[storeCells,Sem.run_bind];rw[hst,Result.andThen_ok,wR g o t fz rest (i+1) _ _ hg' (by simpa using hf) (by simp at hl⊢;omega) (fun v hv=>h1 v (by simp[hv]))];have hL:(cur.setIfInBounds (o+i) v).toList.take (o+(i+1))++rest++(cur.setIfInBounds (o+i) v).toList.drop (o+(i+1)+rest.length)=cur.toList.take (o+i)++(v::rest)++cur.toList.drop (o+i+(v::rest).length):=by
   have:=list_seg_step cur.toList (o+i) v rest (by simp at hl⊢;omega);simp only[E2,A1];rw[show o+(i+1)=o+i+1 from by omega];exact this
  rw[hL];unfold World.put;simp only[Array.setIfInBounds_setIfInBounds]
end
end
section
variable [Inhabited aF]
def yJ (r:Next) (x:Value):Prop:=r= .value x\/(r= .skip/\x=undef)
section
variable {P:Program} {tab:aZ} (ok:bw P tab) {E:Env} {h:AH} {K:KS} {w:World}
include ok
theorem Ch (H:bn E h K w) {t:TypeId} {b off:Nat} {v:AV} (hl:loadVar tab h t b off= .ok v):
  (Go.loadVar t ⟨E.aQ b,off,none⟩).run P w= .ok (ab E v) w:=by
 unfold loadVar at hl;obtain⟨g,hg,hl⟩:=ai.1 hl;unfold Go.loadVar;rw[Sem.run_bind,Fw ok hg,Result.andThen_ok]
 cases g with
 |true=>
  simp only[if_true]at hl⊢;obtain⟨n,hn,hl⟩:=ai.1 hl;obtain⟨cs,hc,hl⟩:=ai.1 hl
  cases hl;rw[Sem.run_bind,jw ok hn,Result.andThen_ok,Sem.run_bind,H.fq hc];simp[ab]
 |false=>
  simp only[Ak,Aw]at hl⊢;obtain⟨⟨cs,e,sz,ext,bk⟩,hc,hl⟩:=ai.1 hl;have hl:=cE.1 hl;rw[run_load,H.cell (gx hc) hl]
omit ok in
theorem tM {b off:Nat} {vs:List AV} {h':AH} (hw:writeN h b off vs= .ok h'):h'.next=h.next:=by
 unfold writeN at hw;split at hw
 . cases hw;rfl
 . obtain⟨⟨cs,e,sz,ext,bk⟩,hc,hw⟩:=ai.1 hw;obtain⟨_,_,hw⟩:=ai.1 hw;obtain⟨_,_,hw⟩:=ai.1 hw;obtain⟨_,_,hw⟩:=ai.1 hw
   cases hw;rfl
omit ok in
theorem CH {bk:BK} {fz:Nat×Nat} {n:Nat} (hm:ko bk fz n) (hr:bk≠ .ro/\bk≠ .cold):∀j,j<n->¬(fz.1<=j/\j<fz.2):=by
 intro j hj
 cases bk with
 |rw=>simp only[ko]at hm;subst hm;simp
 |mark=>simp only[ko]at hm;subst hm;simp;omega
 |any=>
  simp only[ko]at hm;rcases hm with hm|hm
  . subst hm;simp
  . subst hm;simp;omega
 |ro=>exact absurd rfl hr.1
 |cold=>exact absurd rfl hr.2
omit ok in
theorem uk (H:bn E h K w) {b off:Nat} {vs:List AV} {h':AH} (hw:writeN h b off vs= .ok h'):
   ∃w',(storeCells ⟨E.aQ b,off,none⟩ (aY E vs)).run P w= .ok () w'/\bn E h' K w'/\Kept K w w':=by
 unfold writeN at hw;split at hw
 . cases hw;exact⟨w,rfl,H,Kept.refl K w⟩
 . obtain⟨⟨cs,e,sz,ext,bk⟩,hc,hw⟩:=ai.1 hw;obtain⟨_,h1,hw⟩:=ai.1 hw;obtain⟨_,h2,hw⟩:=ai.1 hw;obtain⟨_,h3,hw⟩:=ai.1 hw
   cases hw;have hc:=gx hc;have hro:bk≠ .ro/\bk≠ .cold:=by simpa using dK.1 h1
   have hlen:off+vs.length<=cs.length:=Al (dK.1 h2);have hone:=dK.1 h3;obtain⟨arr,fz,hh,⟨rest,harr⟩,hsz,hm⟩:=H.cells hc;have hasz:cs.length<=arr.size:=by
     have:=Ax List.length harr;simp at this;omega
   have hrun:=wR (P:=P) (E.aQ b) off e fz (aY E vs) 0 arr w hh (CH hm hro) (by simp;omega)
     (by
      intro v hv;rw[nN]at hv;obtain⟨u,hu,rfl⟩:=Ar.1 hv;exact Cc (AE.1 hone u hu))
   refine⟨_,hrun,H.put hc (by cases bk<;>simp_all[AO.ro]) ?_ (by cases bk<;>simp_all[AO.ro]),H.dv hc (by cases bk<;>simp_all[AO.ro]) _⟩;refine⟨_,fz,rfl,⟨rest,?_⟩,?_,?_⟩
   . simp only[mh,Bk,dq,rF,xu,bp,harr];rw[EN (by simp;omega),List.drop_append_of_le_length (by simp;omega)];simp
   . have e1:(arr.toList.take (off+0)++aY E vs++arr.toList.drop (off+0+(aY E vs).length)).length=arr.size:=by
      simp;omega
     cases ext with
     |true=>simp only[if_true]at hsz⊢;rw[Br,e1];exact hsz
     |false=>
      simp only[Ak,Aw]at hsz⊢;rw[Br,e1,hsz];simp[mh];omega
   . have e1:(arr.toList.take (off+0)++aY E vs++arr.toList.drop (off+0+(aY E vs).length)).length=arr.size:=by
      simp;omega
     rw[Br,e1];exact hm
theorem KJ (H:bn E h K w) {t:TypeId} {b off:Nat} {v:AV} {h':AH} (hs:storeVar tab h t b off v= .ok h'):
  ∃w',(Go.storeVar t ⟨E.aQ b,off,none⟩ (ab E v)).run P w= .ok () w'/\bn E h' K w'/\Kept K w w':=by
 unfold storeVar at hs;obtain⟨n,hn,hs⟩:=ai.1 hs;obtain⟨l,hl,hs⟩:=ai.1 hs;obtain⟨_,hc,hs⟩:=ai.1 hs;have hc:=Af (dK.1 hc);obtain⟨w',hw,H',hk⟩:=uk (P:=P) H hs;refine⟨w',?_,H',hk⟩;unfold Go.storeVar;rw[Sem.run_bind,jw ok hn,Result.andThen_ok,l7 hl];simp only[Br,bp,hc,ne_eq,not_true,Aw];exact hw
omit ok in
theorem Kx {t:TypeId} {b off:Nat} {v:AV} {h':AH} (hs:storeVar tab h t b off v= .ok h'):h'.next=h.next:=by
 unfold storeVar at hs;obtain⟨n,hn,hs⟩:=ai.1 hs;obtain⟨l,hl,hs⟩:=ai.1 hs;obtain⟨_,hc,hs⟩:=ai.1 hs;exact tM hs
omit ok in
theorem gP {e:TypeId} {cs:List AV} {ext:Bool} {bk:BK} {h':AH} {b:Nat} (hn:newRow tab h e cs ext bk= .ok (h',b)):
  ∃n,siz tab e= .ok n/\h'=h.new (.cells cs e n ext bk)/\b=h.next:=by
 unfold newRow at hn;obtain⟨n,h1,hn⟩:=ai.1 hn
 cases hn;exact⟨n,h1,rfl,rfl⟩
omit ok in
theorem xH (H:bn E h K w) (hE:E.aQ h.next=w.heap.size) (cs:List AV) (e:TypeId) (n:Nat):
  bn E (h.new (.cells cs e n false .rw)) K (w.alloc (.cells (aY E cs).toArray e))/\Kept K w (w.alloc (.cells (aY E cs).toArray e)):=
 ⟨H.new hE ⟨_,_,rfl,⟨[],by simp⟩,by simp,rfl⟩,Kept.alloc H.kb _⟩
omit ok in
theorem oF (e:TypeId) (cs:Array Value):(Go.newRow e cs).run P w= .ok ⟨w.heap.size,0,none⟩ (w.alloc (.cells cs e)):=by
 simp only[Go.newRow,Sem.run_bind,run_newObj,Result.andThen_ok,Sem.run_pure];rfl
omit ok in
theorem NP {v:AV} {k:IntKind} {n:Int} (ha:asInt v= .ok (k,n)):v= .int k n:=by
 cases v<;>simp only[asInt]at ha<;>cases ha
 rfl
omit ok in
theorem oL {v:AV} {n:Nat} (ha:asNat v= .ok n):∃k,v= .int k (n:Int):=by
 unfold asNat at ha;obtain⟨⟨k,m⟩,h1,ha⟩:=ai.1 ha
 cases m with
 |ofNat m=>cases ha;exact⟨k,NP h1⟩
 |negSucc m=>cases ha
omit ok in
theorem xP (l:List UInt8):(⟨l.toArray⟩:ByteArray).toList=l:=by
 simp
omit ok in
theorem qA (l:List UInt8):(⟨l.toArray⟩:ByteArray).size=l.length:=rfl
omit ok in
theorem M8 (l m:List UInt8):(⟨l.toArray⟩:ByteArray)++⟨m.toArray⟩=⟨(l++m).toArray⟩:=by
 apply E8;simp
omit ok in
theorem Mh {op:BinOp} {k:IntKind} {x y:Int} {v:AV} (hi:intOp op k x y= .ok v) (t:TypeId) (hs:op≠ .shl/\op≠ .shr):
  (Go.binOp op t (.int k x) (.int k y)).run P w= .ok (ab E v) w:=by
 cases op<;>simp only[intOp]at hi<;>(try (split at hi<;>try cases hi))<;>(try cases hi)<;>
  simp_all[Go.binOp,Op.intArith,Op.intDiv,Op.intBits,Op.intCmp,ab]
omit ok in
theorem CV {op:BinOp} {k yk:IntKind} {x y:Int} {v:AV} (hi:shiftOp op k x y= .ok v):
   (Op.shift op k x yk y).run P w= .ok (ab E v) w:=by
 unfold shiftOp at hi;split at hi
 . cases hi
 . rename_i hy
   cases op<;>simp only at hi<;>cases hi<;>simp[Op.shift,hy,ab]
omit ok in
theorem MX {op:BinOp} {x y:List UInt8} {v:AV} (hi:strOp op x y= .ok v):
   (Op.stringOp op ⟨x.toArray⟩ ⟨y.toArray⟩).run P w= .ok (ab E v) w:=by
 cases op<;>simp only[strOp]at hi<;>(try cases hi)<;>(try simp only[Op.stringOp,xP,Sem.run_pure,ab])
 split at hi
 . cases hi;rename_i hl;have:¬((((⟨x.toArray⟩:ByteArray).size+(⟨y.toArray⟩:ByteArray).size:Nat):Int)>IntKind.i64.max):=by
    rw[qA,qA];have:IntKind.i64.max=9223372036854775807:=by decide
    rw[this];omega
   simp only[if_neg this,Sem.run_pure,M8,ab]
 . cases hi
omit ok in
theorem N0 {op:UnOp} {x v:AV} (hu:unOp op x= .ok v):(Op.unary op (ab E x)).run P w= .ok (ab E v) w:=by
 cases op<;>cases x<;>simp only[unOp]at hu<;>cases hu<;>simp[Op.unary,ab,Op.intArith,Op.intBits]
end
end
section
variable [Inhabited aF]
section
variable {P:Program} {tab:aZ} (ok:bw P tab) {E:Env} {h:AH} {K:KS} {w:World}
include ok
theorem Ks (d:Nat) (eq:TypeId->AV->AV->R Bool)
  (heq:∀t x y b,eq t x y= .ok b->∀w,(Op.equalIn d t (ab E x) (ab E y)).run P w= .ok b w) (xs ys:List AV):
  ∀(fs:List Field) (b:Bool),eqFields tab eq xs ys fs= .ok b->∀w,(Op.eqFields d (aY E xs).toArray (aY E ys).toArray fs).run P w= .ok b w:=by
 intro fs;induction fs with
 |nil=>intro b hb w;simp only[eqFields]at hb;cases hb;rfl
 |cons f fs ih=>
  intro b hb w;simp only[eqFields]at hb;by_cases hn:f.name≠ "_"
  . rw[if_pos hn]at hb;obtain⟨a,ha,hb⟩:=ai.1 hb;obtain⟨c,hc,hb⟩:=ai.1 hb;obtain⟨r,hr,hb⟩:=ai.1 hb;simp only[Op.eqFields,if_pos hn,Sem.run_bind,se ok ha,se ok hc,heq _ _ _ _ hr,Result.andThen_ok]
    cases r with
    |true=>simp only[if_true]at hb;simpa using ih b hb w
    |false=>simp only[Ak,Aw]at hb;cases hb;simp
  . rw[if_neg hn]at hb;simp only[Op.eqFields,if_neg hn];exact ih b hb w
theorem oT :∀(d:Nat) (t:TypeId) (x y:AV) (b:Bool),eqT tab d t x y= .ok b->∀(k:Nat) (w:World),
    (Op.equalIn (d+k) t (ab E x) (ab E y)).run P w= .ok b w:=by
  intro d;induction d with
  |zero=>intro t x y b hb;cases hb
  | succ d ih=>
    intro t x y b hb k w;simp only[eqT]at hb;obtain⟨u,hu,hb⟩:=ai.1 hb;have hP:=ok.und t u (cE.1 hu);rw[show d+1+k=(d+k)+1 from by omega];have hagg:∀xs ys fs,x= .agg xs->y= .agg ys->u= .struct fs->tab.held.get t=some false->eqFields tab (eqT tab d) xs ys fs.toList= .ok b->
        (Op.equalIn (d+k+1) t (ab E x) (ab E y)).run P w= .ok b w:=by
      intro xs ys fs hx hy hu' hheld hb2;subst hx hy hu';have hf:P.fieldsOf t=fs:=by simp[Program.fieldsOf,hP]
      simp only[ab];rw[run_equalIn_struct w (d+k) t _ _ (by rw[hf];exact hP) (ok.held t false hheld),hf];exact Ks ok (d+k) (eqT tab d) (fun t x y b h w=>ih t x y b h k w) xs ys fs.toList b hb2 w
    split at hb
    case h_22=>
      split at hb
      . exact hagg _ _ _ rfl rfl rfl (by assumption) hb
      . cases hb
    all_goals
      clear hagg ih;simp only[Op.equalIn,underlying,Sem.run_bind,run_program,Result.andThen_ok,hP,Sem.run_pure,ab]
    all_goals
      first
      |(cases hb;done)
      |(cases hb;rfl)
      | (split at hb
         . cases hb;rename_i e;subst e;rw[if_pos rfl]
           try rfl
         . cases hb)
      | (cases hb
         rw[beq_toListBytes,xP,xP])
omit ok in
theorem Hl {d:Nat} (t:TypeId) (v:Value) (y:AV) (b:Bool) (hb:eqT tab (d+1) t (.raw v) y= .ok b):(∃a,v= .pointer (some a))/\y= .aW:=by
 simp only[eqT]at hb;obtain⟨u,hu,hb⟩:=ai.1 hb;split at hb<;>first|(cases hb;done)|simp_all
omit ok in
theorem Hm {d:Nat} (t:TypeId) (v:Value) (x:AV) (b:Bool) (hb:eqT tab (d+1) t x (.raw v)= .ok b):(∃a,v= .pointer (some a))/\x= .aW:=by
 simp only[eqT]at hb;obtain⟨u,hu,hb⟩:=ai.1 hb;split at hb<;>first|(cases hb;done)|simp_all
omit ok in
theorem uw (H:bn E h K w) {b:Nat} {cs:List AV} {e:TypeId} {sz:Nat} {ext:Bool} (hc:h.get b=some (.cells cs e sz ext .rw)) (i:Nat):
  w.frozen? ⟨E.aQ b,i,none⟩=false:=by
 obtain⟨arr,fz,h1,_,_,hm⟩:=H.cells hc;simp only[ko]at hm;subst hm;simp[World.frozen?,h1]
omit ok in
theorem uS (H:bn E h K w) {b:Nat} {cs:List AV} {e:TypeId} {sz:Nat} {ext:Bool} {bk:BK} (hc:h.get b=some (.cells cs e sz ext bk)):
  ∃n,w.shape? (E.aQ b)=some (e,n):=by
 obtain⟨arr,fz,h1,_⟩:=H.cells hc;exact⟨arr.size,by simp[World.shape?,h1]⟩
omit ok in
theorem ug (H:bn E h K w) {b:Nat} {cs:List AV} {e:TypeId} {sz:Nat} {ext:Bool} {bk:BK} (hc:h.get b=some (.cells cs e sz ext bk)) (i:Nat):
  (noView ⟨E.aQ b,i,none⟩).run P w= .ok () w:=by
 obtain⟨n,hn⟩:=uS H hc;simp[noView,viewAt,hn]
omit ok in
theorem Cf (H:bn E h K w) {b:Nat} {cs:List AV} {e:TypeId} {sz:Nat} {ext:Bool} (hc:h.get b=some (.cells cs e sz ext .rw)) (i:Nat):
  (stringish ⟨E.aQ b,i,none⟩).run P w= .ok false w:=by
 obtain⟨n,hn⟩:=uS H hc;simp[stringish,hn,uw H hc]
omit ok in
theorem Cb (H:bn E h K w) {b b':Nat} {cs cs':List AV} {e e':TypeId} {sz sz':Nat} {ext ext':Bool}
  (hc:h.get b=some (.cells cs e sz ext .rw)) (hc':h.get b'=some (.cells cs' e' sz' ext' .rw)) (i i':Nat):
  (mayBeOne ⟨E.aQ b,i,none⟩ ⟨E.aQ b',i',none⟩).run P w= .ok false w:=by
 obtain⟨n,hn⟩:=uS H hc;obtain⟨n',hn'⟩:=uS H hc';simp[mayBeOne,Cf H hc,Cf H hc',hn']
theorem Hk (H:bn E h K w) {t:TypeId} {x y:AV} {b:Bool} (hb:eqOp tab h t x y= .ok b):
   (Op.equal t (ab E x) (ab E y)).run P w= .ok b w/\
   (∀op ox oy,(op= .eql\/op= .neq)->(eqGuard op t ox oy (ab E x) (ab E y)).run P w= .ok () w):=by
 unfold eqOp at hb;split at hb
 . rename_i a i c j;obtain⟨u,hu,hb⟩:=ai.1 hb;have hP:=ok.und t u (cE.1 hu);split at hb
   . rename_i e;obtain⟨n,hn,hb⟩:=ai.1 hb;obtain⟨_,hz,hb⟩:=ai.1 hb;have hz:=dK.1 hz;have hn0:n≠0:=by
       rintro rfl;simp at hz
     refine⟨?_,fun op ox oy ho=>by rcases ho with rfl|rfl<;>simp[eqGuard,ab]⟩;have hstep:(Op.equal t (ab E (.ptr a i)) (ab E (.ptr c j))).run P w=(sameAddr ⟨E.aQ a,i,none⟩ ⟨E.aQ c,j,none⟩).run P w:=by
       have key:∀n,(Op.equalIn (n+1) t (ab E (.ptr a i)) (ab E (.ptr c j))).run P w=(sameAddr ⟨E.aQ a,i,none⟩ ⟨E.aQ c,j,none⟩).run P w:=by
         intro n;simp only[Op.equalIn,underlying,Sem.run_bind,run_program,Result.andThen_ok,hP,Sem.run_pure,ab,jw ok hn,ne_eq,hn0,Bf,if_true]
       exact key 9999
     rw[hstep];by_cases hac:Nat.beq a c=true
     . rw[if_pos hac]at hb
       cases hb;have:=Af hac;subst this;simp only[sameAddr,Eh,if_true,Sem.run_pure];congr 1
       rw[A4];simp[Nat.beq_eq]
     . rw[if_neg hac]at hb;split at hb
       . rename_i h1 h2
         cases hb;have hne:E.aQ a≠E.aQ c:=fun e'=>hac (by rw[H.inj a c _ _ h1 h2 (by simp[AO.ro]) e'];exact BS c)
         simp[sameAddr,hne,uw H h1,ug H h1,ug H h2,Cb H h1 h2]
       . cases hb
   . cases hb
 . rename_i xs ys;split at hb
   . rename_i hg;refine⟨?_,fun op ox oy ho=>?_⟩
     . have:=oT ok (E:=E) 8 t _ _ b hb 9992 w;exact this
     . simp only[ab];exact run_eqGuard_agg w op t ox oy _ _ (ok.ka t false hg)
   . cases hb
 . cases hb
 . rename_i h1 h2 h3;refine⟨oT ok (E:=E) 8 t _ _ b hb 9992 w,fun op ox oy ho=>?_⟩;have hrx:∀v,x= .raw v->∃a,v= .pointer (some a):=by
     rintro v rfl;exact(Hl t v y b hb).1
   have hry:∀v,y= .raw v->∃a,v= .pointer (some a):=by
     rintro v rfl;exact(Hm t v x b hb).1
   have hne:∀cs,ab E x= .agg cs->∀ds,ab E y= .agg ds->False:=by
     intro cs hx ds hy
     cases x<;>simp only[ab]at hx<;>(try cases hx)
     . cases y<;>simp only[ab]at hy<;>(try cases hy)
       . exact h2 _ _ rfl rfl
       . obtain⟨_,e⟩:=hry _ rfl;cases e
     . obtain⟨_,e⟩:=hrx _ rfl;cases e
   have hni:ab E x= .nilIface->ab E y= .nilIface->False:=by
     intro hx hy
     cases x<;>simp only[ab]at hx<;>(try cases hx)
     . cases y<;>simp only[ab]at hy<;>(try cases hy)
       . exact h3 rfl rfl
       . obtain⟨_,e⟩:=hry _ rfl;cases e
     . obtain⟨_,e⟩:=hrx _ rfl;cases e
   generalize ab E x=a at hne hni
   generalize ab E y=b at hne hni
   rcases ho with rfl|rfl<;>(unfold eqGuard;split)
   all_goals first
     |(exact absurd rfl (by simp))
     |skip
   all_goals simp_all
omit ok in
theorem xy (op:BinOp) (t:TypeId) (ox oy:Operand) (k j:IntKind) (a b:Int):(eqGuard op t ox oy (.int k a) (.int j b)).run P w= .ok () w:=by
 cases op<;>simp[eqGuard]
omit ok in
theorem MC (op:BinOp) (t:TypeId) (ox oy:Operand) (a b:ByteArray):(eqGuard op t ox oy (.string a) (.string b)).run P w= .ok () w:=by
 cases op<;>simp[eqGuard]
omit ok in
theorem uG {t:TypeId} {x y:AV} {b:Bool} (hb:eqOp tab h t x y= .ok b):(∀v,x= .raw v->∃a,v= .pointer (some a))/\(∀v,y= .raw v->∃a,v= .pointer (some a)):=by
 constructor
 . rintro v rfl;unfold eqOp at hb;exact(Hl t v y b hb).1
 . rintro v rfl;unfold eqOp at hb
   cases x<;>exact(Hm t v _ b hb).1
omit ok in
theorem CR {x:AV} (hx:∀v,x= .raw v->∃a,v= .pointer (some a)):(∀k b,ab E x≠ .float k b)/\(∀k a b,ab E x≠ .complex k a b)/\
  (∀k a,ab E x= .int k a->x= .int k a)/\(∀s,ab E x= .string s->∃l,x= .str l):=by
 cases x
 case raw v=>obtain⟨a,rfl⟩:=hx v rfl;simp[ab]
 all_goals simp_all[ab]
omit ok in
theorem Cl (t:TypeId) (x y:AV) (hi:∀k j a b,x= .int k a->y= .int j b->False) (hs:∀a b,x= .str a->y= .str b->False)
   (hx:∀v,x= .raw v->∃a,v= .pointer (some a)) (hy:∀v,y= .raw v->∃a,v= .pointer (some a)):
   Go.binOp .eql t (ab E x) (ab E y)=(do pure (.bool (<-Op.equal t (ab E x) (ab E y))))/\
   Go.binOp .neq t (ab E x) (ab E y)=(do pure (.bool (!(<-Op.equal t (ab E x) (ab E y))))):=by
 obtain⟨x1,x2,x3,x4⟩:=CR (E:=E) hx;obtain⟨y1,y2,y3,y4⟩:=CR (E:=E) hy;generalize ab E x=X at*
 generalize ab E y=Y at*
 constructor
 . unfold Go.binOp;split<;>simp_all
   . exact(hi _ _ _ _ rfl rfl rfl rfl).elim
   . obtain⟨l,rfl⟩:=x4;obtain⟨m,rfl⟩:=y4;exact(hs _ _ rfl rfl).elim
 . unfold Go.binOp;split<;>simp_all
   . exact(hi _ _ _ _ rfl rfl rfl rfl).elim
   . obtain⟨l,rfl⟩:=x4;obtain⟨m,rfl⟩:=y4;exact(hs _ _ rfl rfl).elim
theorem MG (H:bn E h K w) {op:BinOp} {t:TypeId} {x y v:AV} (hb:binOp tab h op t x y= .ok v) (ox oy:Operand):
   (do eqGuard op t ox oy (ab E x) (ab E y);Go.binOp op t (ab E x) (ab E y)).run P w= .ok (ab E v) w:=by
 unfold binOp at hb;split at hb
 . simp only[ab];rw[Sem.run_bind,xy];exact CV (yk:= .i64) hb
 . simp only[ab];rw[Sem.run_bind,xy];exact CV (yk:= .i64) hb
 . rename_i hs1 hs2;split at hb
   . rename_i e;subst e;simp only[ab];rw[Sem.run_bind,xy];exact Mh hb t ⟨fun e=>hs1 e,fun e=>hs2 e⟩
   . cases hb
 . simp only[ab];rw[Sem.run_bind,MC]
   cases op<;>exact MX (P:=P) hb
 . obtain⟨b,hb',hb⟩:=ai.1 hb
   cases hb;obtain⟨h1,h2⟩:=Hk ok H hb';rw[Sem.run_bind,h2 .eql ox oy (.inl rfl),Result.andThen_ok];rw[(Cl (E:=E) t x y (fun k j a b e1 e2=>by subst e1 e2;simp_all;exact ‹∀(k_1:IntKind) (a_1:Int) (j_1:IntKind) (b_1:Int),k=k_1->a=a_1->j=j_1->¬b=b_1› _ _ _ _ rfl rfl rfl rfl) (fun a b e1 e2=>by subst e1 e2;simp_all) (uG hb').1 (uG hb').2).1,Sem.run_bind,h1];simp[ab]
 . obtain⟨b,hb',hb⟩:=ai.1 hb
   cases hb;obtain⟨h1,h2⟩:=Hk ok H hb';rw[Sem.run_bind,h2 .neq ox oy (.inr rfl),Result.andThen_ok];rw[(Cl (E:=E) t x y (fun k j a b e1 e2=>by subst e1 e2;simp_all;exact ‹∀(k_1:IntKind) (a_1:Int) (j_1:IntKind) (b_1:Int),k=k_1->a=a_1->j=j_1->¬b=b_1› _ _ _ _ rfl rfl rfl rfl) (fun a b e1 e2=>by subst e1 e2;simp_all) (uG hb').1 (uG hb').2).2,Sem.run_bind,h1];simp[ab]
 . cases hb
end
end
section
variable [Inhabited aF]
def fW (n:Nat) (l:List Value):List Value:=
 match n with
 |0=>[]
 |n+1=>l++fW n l
theorem rL (E:Env) (n:Nat) (l:List AV):aY E (rep n l)=fW n (aY E l):=by
 induction n with
 |zero=>rfl
 |succ n ih=>simp[rep,fW,ih]
theorem xa (n:Nat) (l:List Value):(fW n l).length=n*l.length:=by
 induction n with
 |zero=>simp[fW]
 |succ n ih=>simp[fW,ih,Bq];omega
theorem HY (c:Nat) (l:List Value) (k:Nat) (hk:l.length=k) (h0:0<k):
  (List.range (c*k)).map (fun i=>l.toArray[i % k]!)=fW c l:=by
 induction c with
 |zero=>simp[fW]
 |succ c ih=>
  rw[show(c+1)*k=k+c*k from by rw[Bq];omega,List.range_add,AR,Bw];unfold fW;congr 1
  . apply List.ext_getElem
    . simp[hk]
    . intro i h1 h2;simp only[A6,List.length_range]at h1;simp[Nat.mod_eq_of_lt h1,h2]
  . rw[<-ih];apply Dc;intro i _;simp
theorem zS (n:Nat) (l:List Value) (h0:0<l.length):Builtin.zeroCells l.toArray n=(fW n l).toArray:=by
 unfold Builtin.zeroCells;apply Array.ext';rw[Array.toList_map,Array.toList_range];exact HY n l l.length rfl h0
theorem Ca (n:Nat) (l:List Value) (h0:0<l.length):madeCells l.toArray (n*l.length)=(fW n l).toArray:=by
 unfold madeCells;apply Array.ext';rw[Array.toList_map,Array.toList_range];exact HY n l l.length rfl h0
def sd (cs:List Value) (off:Nat) (vs:List Value):List Value:=cs.take off++(vs++cs.drop (off+vs.length))
theorem Kl (E:Env) (cs:List AV) (off:Nat) (vs:List AV):aY E (mh cs off vs)=sd (aY E cs) off (aY E vs):=by
 simp[mh,sd,rF,xu]
theorem Np (off:Nat):∀(vs:List Value) (j:Nat) (cs:Array Value),off+j+vs.length<=cs.size->
  ((vs.zipIdx j).foldl (fun cs (x:Value×Nat)=>cs.setIfInBounds (off+x.2) x.1) cs)=(sd cs.toList (off+j) vs).toArray:=by
 intro vs;induction vs with
 |nil=>intro j cs h;simp[sd]
 |cons v vs ih=>
  intro j cs h;simp only[List.zipIdx_cons,BF];rw[ih (j+1) _ (by simp at h⊢;omega)];congr 1
  have:=list_seg_step cs.toList (off+j) v vs (by simp at h⊢;omega);simp only[sd,E2,A1];rw[show off+(j+1)=off+j+1 from by omega];rw[<-B6,this];simp
section
variable {P:Program} {tab:aZ} (ok:bw P tab) {E:Env} {h:AH} {K:KS} {w:World}
theorem yb {place:Nat->Option (Nat×Nat)}:∀(ps:List (Nat×AV)) (qs:List (Nat×Nat×AV)) (cs out:List AV),
  (ps.length=qs.length/\ ∀i,i<ps.length->∀p q,ps[i]? =some p->qs[i]? =some q->place p.1=some (q.1,q.2.1)/\p.2=q.2.2)->
  fill cs qs= .ok out->Instr.fill place (aY E cs).toArray (ps.map fun p=>(p.1,ab E p.2))=some (aY E out).toArray:=by
 intro ps;induction ps with
 |nil=>
  intro qs cs out hq hf;have:qs=[]:=AG hq.1.symm;subst this;simp only[fill]at hf
  cases hf;rfl
 | cons p ps ih=>
  intro qs cs out hq hf
  cases qs with
  |nil=>simp at hq
  | cons q qs=>
   obtain⟨off,n,v⟩:=q;simp only[fill]at hf;obtain⟨l,hl,hf⟩:=ai.1 hf;obtain⟨_,hc,hf⟩:=ai.1 hf;have hc:=dK.1 hc;rw[Ab]at hc;have hc1:=Af hc.1;have hc2:=Al hc.2;obtain⟨h1,h2⟩:=hq.2 0 (by simp) p (off,n,v) rfl rfl;simp only at h1 h2;simp only[AP,Instr.fill,h1,h2,l7 hl];rw[if_neg (by simp[hc1];omega)];have hz:(aY E l).toArray.zipIdx.foldl (fun cs (x:Value×Nat)=>cs.setIfInBounds (off+x.2) x.1) (aY E cs).toArray=(aY E (mh cs off l)).toArray:=by
    have:=Np off (aY E l) 0 (aY E cs).toArray (by simp;omega);rw[Kl,<-Array.foldl_toList];simpa using this
   rw[hz];refine ih qs _ out ⟨by simpa using hq.1,fun i hi p' q' hp' hq'=>?_⟩ hf;exact hq.2 (i+1) (by simpa using hi) p' q' (by simpa using hp') (by simpa using hq')
include ok
theorem Kd {fs:Array Field}:∀(ps:List (Nat×AV)) (qs:List (Nat×Nat×AV)),oG tab fs ps= .ok qs->
  (ps.length=qs.length/\ ∀i,i<ps.length->∀p q,ps[i]? =some p->qs[i]? =some q->
   (∃f i,fs[p.1]? =some f/\P.info? f.type=some i/\q.1=f.offset/\q.2.1=i.size)/\p.2=q.2.2):=by
 intro ps;induction ps with
 |nil=>intro qs hq;simp only[oG]at hq;cases hq;simp
 | cons p ps ih=>
  intro qs hq;obtain⟨i,v⟩:=p;simp only[oG]at hq;obtain⟨f,hf,hq⟩:=ai.1 hq;obtain⟨n,hn,hq⟩:=ai.1 hq;obtain⟨r,hr,hq⟩:=ai.1 hq
  cases hq;obtain⟨h1,h2⟩:=ih r hr;refine⟨by simp[h1],fun j hj p q hp hq=>?_⟩
  cases j with
  |zero=>
   simp only[AA,AL]at hp hq;subst hp hq;obtain⟨x,hx,rfl⟩:=ok.siz _ _ (cE.1 hn);exact⟨⟨f,x,cE.1 hf,hx,rfl,rfl⟩,rfl⟩
  |succ j=>exact h2 j (by simpa using hj) p q (by simpa using hp) (by simpa using hq)
theorem Lg:∀(l:List Field),(∀f∈l,(tab.siz.get f.type).isSome=true)->
  ∃ ps:List (Nat×Nat),l.mapM (fun(f:Field)=>(P.info? f.type).map fun i=>(f.offset,i.size))=some ps/\
    ∀(i:Nat) (f:Field) (x:TypeInfo),l[i]? =some f->P.info? f.type=some x->ps[i]? =some (f.offset,x.size):=by
 intro l;induction l with
 |nil=>intro _;exact⟨[],by simp,by simp⟩
 |cons f l ih=>
  intro hl;obtain⟨ps,h1,h2⟩:=ih (fun f hf=>hl f (by simp[hf]));obtain⟨n,hn⟩:=By.1 (hl f (by simp));obtain⟨x,hx,rfl⟩:=ok.siz _ _ hn;refine⟨(f.offset,x.size)::ps,?_,?_⟩
  . simp[EZ,hx,h1]
  . intro j g y hj hy
    cases j with
    |zero=>
     simp only[AA,AL]at hj;subst hj;rw[hx]at hy
     cases hy;rfl
    |succ j=>simpa using h2 j g y (by simpa using hj) hy
theorem MH {t:TypeId} {ps:List (Nat×AV)} {v:AV} (hb:build tab t ps= .ok v):
   (Instr.build t (ps.map fun p=>(p.1,ab E p.2)).toArray).run P w= .ok (ab E v) w:=by
 unfold build at hb;obtain⟨z,hz,hb⟩:=ai.1 hb;obtain⟨zc,hzc,hb⟩:=ai.1 hb;obtain⟨u,hu,hb⟩:=ai.1 hb;have hP:=ok.und t u (cE.1 hu);obtain⟨it,hit,hiz⟩:=ok.j3 t z (cE.1 hz);split at hb
 . rename_i fs;obtain⟨_,hs,hb⟩:=ai.1 hb;obtain⟨qs,hq,hb⟩:=ai.1 hb;obtain⟨cs,hc,hb⟩:=ai.1 hb
   cases hb;have hs:=dK.1 hs;obtain⟨pl,hp1,hp2⟩:=Lg ok fs.toList (fun f hf=>AE.1 hs f hf);obtain⟨hl,hq⟩:=Kd ok ps qs hq;have hfill:=yb (E:=E) (place:=fun i=>pl[i]?) ps qs zc cs ⟨hl,fun i hi p q hp hq'=>by
    obtain⟨⟨f,x,h1,h2,h3,h4⟩,h5⟩:=hq i hi p q hp hq';refine⟨?_,h5⟩;rw[h3,h4];exact hp2 p.1 f x (by simpa using h1) h2⟩ hc
   have hbuilt:P.built t (ps.map fun p=>(p.1,ab E p.2))=some (aY E cs).toArray:=by
    unfold Program.built;simp only[hit,hP,hiz E,hp1,l7 hzc];simpa using hfill
   exact run_build w t _ _ (by simpa using hbuilt)
 . rename_i len e;obtain⟨n,hn,hb⟩:=ai.1 hb;obtain⟨cs,hc,hb⟩:=ai.1 hb
   cases hb;obtain⟨ie,hie,rfl⟩:=ok.siz _ _ (cE.1 hn);have hfill:=yb (E:=E) (place:=fun i=>some (i*ie.size,ie.size)) ps _ zc cs ⟨by simp,fun i hi p q hp hq=>by
    rw[Au,hp]at hq
    cases hq;exact⟨rfl,rfl⟩⟩ hc
   have hbuilt:P.built t (ps.map fun p=>(p.1,ab E p.2))=some (aY E cs).toArray:=by
    unfold Program.built;simp only[hit,hP,hiz E,hie,l7 hzc];exact hfill
   exact run_build w t _ _ (by simpa using hbuilt)
 . cases hb
theorem Ka (H:bn E h K w) {t:TypeId} {len:Nat} {ps:List (Nat×AV)} {v:AV} {h':AH} (hb:buildSlice tab h t len ps= .ok (v,h'))
   (hE:E.aQ h.next=w.heap.size):
   h'.next=h.next+1/\ ∃w',(Instr.buildSlice t len (ps.map fun p=>(p.1,ab E p.2)).toArray).run P w= .ok (ab E v) w'/\bn E h' K w'/\Kept K w w':=by
 unfold buildSlice at hb;obtain⟨u,hu,hb⟩:=ai.1 hb;have hP:=ok.und t u (cE.1 hu);split at hb
 . rename_i e;obtain⟨n,hn,hb⟩:=ai.1 hb;obtain⟨_,hc,hb⟩:=ai.1 hb;obtain⟨z,hz,hb⟩:=ai.1 hb;obtain⟨zc,hzc,hb⟩:=ai.1 hb;obtain⟨_,hzl,hb⟩:=ai.1 hb;obtain⟨cs,hf,hb⟩:=ai.1 hb;obtain⟨⟨h1,b⟩,hr,hb⟩:=ai.1 hb
   cases hb;have hc:=Al (dK.1 hc);have hzl:=Af (dK.1 hzl);obtain⟨n',_,rfl,rfl⟩:=gP hr;have hfill:=yb (E:=E) (place:=fun i=>some (i*n,n)) ps _ (rep len zc) cs ⟨by simp,fun i hi p q hp hq=>by
     rw[Au,hp]at hq
     cases hq;exact⟨rfl,rfl⟩⟩ hf
   have hmade:((Array.range (len*n)).map fun i=>(if len*n=0 then #[]else(aY E zc).toArray)[i % (if len*n=0 then #[]else(aY E zc).toArray).size]!)=(aY E (rep len zc)).toArray:=by
     rw[rL];by_cases h0:len*n=0
     . rw[h0];have:fW len (aY E zc)=[]:=AG (by rw[xa,bp,hzl];exact h0);simp[this]
     . simp only[if_neg h0];have hn0:0<n:=EA (fun e=>h0 (by rw[e];simp));have:=Ca len (aY E zc) (by rw[bp,hzl];exact hn0);rw[bp,hzl]at this;exact this
   obtain⟨H',hk⟩:=xH H hE cs e n';refine⟨rfl,_,?_,H',hk⟩;unfold Instr.buildSlice;simp only[Sem.run_bind,underlying,run_program,Result.andThen_ok,hP,Sem.run_pure,jw ok hn];rw[if_neg (by omega)];by_cases h0:len*n=0
   . simp only[if_pos h0]at hmade⊢;simp only[Sem.run_bind,Sem.run_pure,Result.andThen_ok];rw[hmade,hfill];simp only[Sem.run_bind,oF,Result.andThen_ok,Sem.run_pure,ab,fD.val,hE]
   . simp only[if_neg h0]at hmade⊢;simp only[Sem.run_bind,sh ok hz E,Sem.run_pure,Result.andThen_ok,l7 hzc];rw[hmade,hfill];simp only[Sem.run_bind,oF,Result.andThen_ok,Sem.run_pure,ab,fD.val,hE]
 . cases hb
theorem Kk (H:bn E h K w) {t:TypeId} {len cap v:AV} {h':AH} (hb:makeSlice tab h t len cap= .ok (v,h')) (hE:E.aQ h.next=w.heap.size):
   h'.next=h.next+1/\ ∃w',(Instr.makeSlice t (ab E len) (ab E cap)).run P w= .ok (ab E v) w'/\bn E h' K w'/\Kept K w w':=by
 unfold makeSlice at hb;obtain⟨u,hu,hb⟩:=ai.1 hb;have hP:=ok.und t u (cE.1 hu);split at hb
 . rename_i e;obtain⟨l,hl,hb⟩:=ai.1 hb;obtain⟨c,hc,hb⟩:=ai.1 hb;obtain⟨by_,hby,hb⟩:=ai.1 hb;obtain⟨_,hlim,hb⟩:=ai.1 hb;obtain⟨n,hn,hb⟩:=ai.1 hb;obtain⟨z,hz,hb⟩:=ai.1 hb;obtain⟨zc,hzc,hb⟩:=ai.1 hb;obtain⟨_,hzl,hb⟩:=ai.1 hb;obtain⟨⟨h1,b⟩,hr,hb⟩:=ai.1 hb
   cases hb;have hlim:=dK.1 hlim;simp only[Ab]at hlim;have hl1:=Al hlim.1.1;have hl2:=Al hlim.1.2;have hl3:=Al hlim.2;have hzl:=dK.1 hzl;simp only[Ab]at hzl;have hzl1:=Af hzl.1;have hn0:0<n:=EA (by rintro rfl;simp at hzl);obtain⟨n',_,rfl,rfl⟩:=gP hr;obtain⟨kl,rfl⟩:=oL hl;obtain⟨kc,rfl⟩:=oL hc;obtain⟨i,hi,rfl⟩:=ok.siz _ _ (cE.1 hn);obtain⟨i',hi',hz'⟩:=ok.j3 _ _ (cE.1 hz);rw[hi]at hi';cases hi';obtain⟨i',hi',hby'⟩:=ok.byt _ _ (cE.1 hby);rw[hi]at hi';cases hi';obtain⟨H',hk⟩:=xH H hE (rep c zc) e n';refine⟨rfl,_,?_,H',hk⟩;have hbc:(i.bytes:Int)*(c:Int)<=281474976710656:=by
    rw[hby'];have h3:((by_*c:Nat):Int)<=((16777216:Nat):Int):=Int.ofNat_le.2 hl3;rw[Int.natCast_mul]at h3;omega
   have hrun:=run_make (P:=P) w t e i (ab E z) hP hi (hz' E) kl kc l c (by omega) (by omega) hbc (by omega);simp only[ab];rw[hrun];simp only[DJ,l7 hzc,fD.val,hE,rL];have:=Ca c (aY E zc) (by rw[bp,hzl1];exact hn0);rw[bp,hzl1]at this;rw[this]
 . cases hb
end
end
section
variable [Inhabited aF]
section
variable {P:Program} {tab:aZ} (ok:bw P tab) {E:Env} {h:AH} {K:KS} {w:World}
def fH (o:Option Value) (d n:Nat):Prop:=
 match o with
 |none=>n=d
 |some v=>∃k,v= .int k (n:Int)
theorem mS (k:IntKind) (n y:Nat) (code:BoundsCode) (hn:n<=y):(Instr.sliceBound (.int k (n:Int)) y code).run P w= .ok n w:=by
 have:=run_sliceBound (P:=P) w k (n:Int) y code (by omega) (by omega);simpa using this
theorem rB {isSlice:Bool} {len cap l u m:Nat} {lo hi mx:Option Value} (hl:fH lo 0 l) (hu:fH hi len u) (hm:fH mx cap m)
  (hs:mx=none\/ ∃v,hi=some v) (h1:l<=u) (h2:u<=m) (h3:m<=cap):(Instr.sliceBounds isSlice len cap lo hi mx).run P w= .ok (l,u,m) w:=by
 unfold Instr.sliceBounds
 cases mx with
 | none=>
  simp only[fH]at hm;subst hm
  cases hi with
  |none=>
   simp only[fH]at hu;subst hu
   cases lo with
   |none=>simp only[fH]at hl;subst hl;simp
   |some v=>obtain⟨k,rfl⟩:=hl;simp[mS k l u _ h1]
  |some v=>
   obtain⟨k,rfl⟩:=hu
   cases lo with
   |none=>simp only[fH]at hl;subst hl;simp[mS k u m _ h2]
   |some v=>obtain⟨k',rfl⟩:=hl;simp[mS k u m _ h2,mS k' l u _ h1]
 |some v=>
  obtain⟨km,rfl⟩:=hm;obtain⟨v',rfl⟩:=hs.resolve_left (by simp);obtain⟨k,rfl⟩:=hu
  cases lo with
  |none=>simp only[fH]at hl;subst hl;simp[mS km m cap _ h3,mS k u m _ h2]
  |some v=>obtain⟨k',rfl⟩:=hl;simp[mS km m cap _ h3,mS k u m _ h2,mS k' l u _ h1]
theorem kD {ts:T AV} {ρ:Operand->Value} (hρ:∀x v,ev ts x= .ok v->ρ x=ab E v) {d:R Nat} {dn:Nat} (hd:d= .ok dn) {o:Option Operand} {n:Nat}
  (hn:fh ts d o= .ok n):fH (o.map ρ) dn n:=by
 cases o with
 |none=>simp only[fh]at hn;rw[hd]at hn;cases hn;exact rfl
 |some x=>
  simp only[fh]at hn;obtain⟨v,hv,hn⟩:=ai.1 hn;obtain⟨k,rfl⟩:=oL hn;exact⟨k,by rw[hρ x _ hv];rfl⟩
theorem CA (s:List UInt8) (l u:Nat):(⟨s.toArray⟩:ByteArray).extract l u=⟨((s.drop l).take (u - l)).toArray⟩:=by
 apply E8;simp[ByteArray.data_extract,E5]
theorem xA (H:bn E h K w) {b c:Nat} {cap:fD} (hc:capLow h b cap= .ok c):c<=cap.val (E.cap b):=by
 cases cap with
 |lit n=>simp only[capLow]at hc;cases hc;exact Ah _
 | tail k=>
  simp only[capLow]at hc;obtain⟨⟨cs,e,sz,ext,bk⟩,h1,hc⟩:=ai.1 hc;obtain⟨_,h2,hc⟩:=ai.1 hc
  cases hc;have h2:=dK.1 h2;simp only[Ab]at h2;obtain⟨hx,hz⟩:=h2;have hz0:0<sz:=EA (by rintro rfl;simp at hz);obtain⟨arr,fz,_,⟨rest,harr⟩,hsz,_⟩:=H.cells (gx h1);rw[if_pos hx]at hsz;have hl:=Ax List.length harr;simp at hl;have:cs.length / sz<=E.cap b:=by
   rw[Nat.div_le_iff_le_mul_add_pred hz0];have:cs.length<=E.cap b*sz:=by omega
   rw[Nat.mul_comm]at this;omega
  show cs.length / sz - k<=E.cap b - k
  omega
include ok
theorem Lq (H:bn E h K w) {ts:T AV} {ρ:Operand->Value} (hρ:∀x v,ev ts x= .ok v->ρ x=ab E v) {t:TypeId} {x v:AV} {h':AH} {lo hi mx:Option Operand}
   (hs:iU tab ts h t x lo hi mx= .ok (v,h')):
   h'=h/\(Instr.sliceAt t (ab E x) (lo.map ρ) (hi.map ρ) (mx.map ρ)).run P w= .ok (ab E v) w:=by
 unfold iU at hs;obtain⟨d,hd,hs⟩:=ai.1 hs;have hP:=ok.und t d (cE.1 hd);split at hs
 . rename_i s _;obtain⟨_,hm,hs⟩:=ai.1 hs;obtain⟨l,hl,hs⟩:=ai.1 hs;obtain⟨u,hu,hs⟩:=ai.1 hs;obtain⟨_,hb,hs⟩:=ai.1 hs
   cases hs;have hm:=dK.1 hm
   cases mx with
   |some x=>simp at hm
   | none=>
     have hb:=dK.1 hb;rw[Ab]at hb;have hb1:=Al hb.1;have hb2:=Al hb.2;refine⟨rfl,?_⟩;rw[run_sliceAt_string (P:=P) w t _ _ _ _ hP];unfold Instr.slice;simp only[Sem.run_bind,underlying,run_program,Result.andThen_ok,hP,Sem.run_pure,ab,BV,Bi,Ak,Aw,qA];rw[rB (kD hρ rfl hl) (kD hρ rfl hu) (show fH none s.length s.length from rfl) (.inl rfl) hb1 hb2 (Ah _)];simp[CA]
 . rename_i e _;have hel:P.elem t=e:=by simp[Program.elem,hP]
   obtain⟨n,hn,hs⟩:=ai.1 hs;obtain⟨l,hl,hs⟩:=ai.1 hs;obtain⟨u,hu,hs⟩:=ai.1 hs;obtain⟨m,hm,hs⟩:=ai.1 hs;obtain⟨_,hb,hs⟩:=ai.1 hs
   cases hs;have hb:=dK.1 hb;simp only[Ab,BL]at hb;have hb1:=Af hb.1.1.1;have hb2:=Af hb.1.1.2;have hb3:=Af hb.1.2;subst hb1 hb2 hb3;refine⟨rfl,?_⟩;have hmx:mx.map ρ=none\/ ∃v,hi.map ρ=some v:=by
     rcases hb.2 with h|h
     . left;cases mx<;>simp_all
     . right;cases hi<;>simp_all
   rw[run_sliceAt_slice (P:=P) w t _ _ _ _ (by rw[hel];exact hP)];simp only[ab];rw[run_slice_any (P:=P) w t none 0 0 (by rw[hel];exact hP),hel,
     rB (kD hρ rfl hl) (kD hρ rfl hu) (kD hρ rfl hm) hmx (Ah _) (Ah _) (Ah _),Result.andThen_ok,jw ok hn]
   simp[sliced]
 . rename_i e b off len cap _;have hel:P.elem t=e:=by simp[Program.elem,hP]
   obtain⟨c,hc,hs⟩:=ai.1 hs;obtain⟨n,hn,hs⟩:=ai.1 hs;obtain⟨l,hl,hs⟩:=ai.1 hs;obtain⟨u,hu,hs⟩:=ai.1 hs;have hcap:=xA H hc;have hgo:∀m,fH (mx.map ρ) (cap.val (E.cap b)) m->(mx.map ρ=none\/ ∃v,hi.map ρ=some v)->l<=u->u<=m->m<=cap.val (E.cap b)->
       (Instr.sliceAt t (ab E (.sl b off len cap)) (lo.map ρ) (hi.map ρ) (mx.map ρ)).run P w=
         .ok (.slice (some ⟨E.aQ b,if m=l then off else off+l*n,none⟩) (u - l) (m - l)) w:=by
     intro m hm hmx h1 h2 h3;rw[run_sliceAt_slice (P:=P) w t _ _ _ _ (by rw[hel];exact hP)];simp only[ab];rw[run_slice_any (P:=P) w t _ _ _ (by rw[hel];exact hP),hel,
       rB (kD hρ rfl hl) (kD hρ rfl hu) hm hmx h1 h2 h3,Result.andThen_ok,jw ok hn,Result.andThen_ok]
     simp only[sliced];by_cases e:m=l
     . simp[e]
     . simp[e,add_lit]
   split at hs
   . obtain⟨m,hm,hs⟩:=ai.1 hs;obtain⟨_,hb,hs⟩:=ai.1 hs
     cases hs;have hb:=dK.1 hb;simp only[Ab]at hb;have hb1:=Al hb.1.1.1;have hb2:=Al hb.1.1.2;have hb3:=Al hb.1.2;refine⟨rfl,?_⟩;have hm':fH (Option.map ρ (some ‹Operand›)) (cap.val (E.cap b)) m:=by
       have:=kD hρ rfl hm;exact this
     rw[hgo m hm' (.inr (by cases hi<;>simp_all)) hb1 hb2 (by omega)];simp only[ab,fD.val];by_cases e:m=l
     . simp[e]
     . have:Nat.beq m l=false:=AN.2 (fun h=>e (Af h));simp[e,this]
   . cases cap with
     | lit m=>
       obtain⟨_,hb,hs⟩:=ai.1 hs
       cases hs;have hb:=dK.1 hb;simp only[Ab]at hb;have hb1:=Al hb.1;have hb2:=Al hb.2;refine⟨rfl,?_⟩;rw[hgo m rfl (.inl rfl) hb1 hb2 (Ah _)];simp only[ab,fD.val];by_cases e:m=l
       . simp[e]
       . have:Nat.beq m l=false:=AN.2 (fun h=>e (Af h));simp[e,this]
     | tail k=>
       obtain⟨_,hb,hs⟩:=ai.1 hs;have hb:=dK.1 hb;simp only[Ab]at hb;have hb1:=Al hb.1;have hb2:=Al hb.2;have hcap':c<=E.cap b - k:=hcap;have hgo':=hgo (E.cap b - k) rfl (.inl rfl) hb1 (by omega) (Ah _);by_cases h0:Nat.beq l 0=true
       . rw[h0]at hs
         cases hs;have:=Af h0;subst this;refine⟨rfl,?_⟩;rw[hgo'];simp[ab,fD.val]
       . have h0':Nat.beq l 0=false:=AN.2 h0;rw[h0']at hs;by_cases h1:Nat.blt l c=true
         . simp only[AJ,h1,A8]at hs
           cases hs;have hlt:l<c:=Al h1;refine⟨rfl,?_⟩;rw[hgo'];simp only[ab,fD.val];rw[if_neg (by omega)];congr 2
           omega
         . have h1':Nat.blt l c=false:=AN.2 h1;simp only[AJ,h1']at hs
           cases hs;have hge:¬l<c:=fun h=>h1 (DM h)
           refine⟨rfl,?_⟩;rw[hgo'];simp only[ab];congr 2
           omega
 . rename_i e a c _;have hel:P.elem t=e:=by simp[Program.elem,hP]
   obtain⟨n,hn,hs⟩:=ai.1 hs;obtain⟨l,hl,hs⟩:=ai.1 hs;obtain⟨u,hu,hs⟩:=ai.1 hs;obtain⟨_,hb,hs⟩:=ai.1 hs
   cases hs;have hb:=dK.1 hb;simp only[Ab]at hb;have hb1:=Af hb.1.1;have hb2:=Af hb.1.2;subst hb1 hb2;have hm:mx=none:=by cases mx<;>simp_all
   subst hm;refine⟨rfl,?_⟩;rw[run_sliceAt_slice (P:=P) w t _ _ _ _ (by rw[hel];exact hP)];simp only[ab];rw[run_slice_any (P:=P) w t _ _ _ (by rw[hel];exact hP),hel,
     rB (kD hρ rfl hl) (kD hρ rfl hu) (show fH (Option.map ρ (none:Option Operand)) c c from rfl) (.inl rfl) (Ah _) (Av _) (Ah _),Result.andThen_ok,jw ok hn]
   cases a<;>simp[sliced,Addr.add]
 . rename_i e b off l0 n0 k _;have hel:P.elem t=e:=by simp[Program.elem,hP]
   obtain⟨n,hn,hs⟩:=ai.1 hs;obtain⟨l,hl,hs⟩:=ai.1 hs;obtain⟨u,hu,hs⟩:=ai.1 hs;obtain⟨_,hb,hs⟩:=ai.1 hs
   cases hs;have hb:=dK.1 hb;simp only[Ab]at hb;have hb1:=Af hb.1.1;have hb2:=Af hb.1.2;subst hb1 hb2;have hm:mx=none:=by cases mx<;>simp_all
   subst hm;refine⟨rfl,?_⟩;rw[run_sliceAt_slice (P:=P) w t _ _ _ _ (by rw[hel];exact hP)];simp only[ab];rw[run_slice_any (P:=P) w t _ _ _ (by rw[hel];exact hP),hel,
     rB (kD hρ rfl hl) (kD hρ rfl hu) (show fH (Option.map ρ (none:Option Operand)) (E.cap b - k - l0) (E.cap b - k - l0)from rfl) (.inl rfl) (Ah _) (Av _) (Ah _),Result.andThen_ok,jw ok hn]
   simp[sliced,Addr.add]
 . cases hs
end
end
section
variable [Inhabited aF]
section
variable {P:Program} {tab:aZ} (ok:bw P tab) {E:Env} {h:AH} {K:KS} {w:World}
theorem zL (E:Env) (s:List UInt8):aY E (kG s)=s.map fun b=>Value.int .u8 b.toNat:=by
 simp only[kG,nN,Bw];rfl
theorem rE {cs:List AV} {s:List UInt8} (hb:bytesOf cs= .ok s):
  ∃ns:List Int,aY E cs=ns.map (Value.int .u8)/\ns.map (fun n=>UInt8.ofNat n.toNat)=s:=by
 induction cs generalizing s with
 |nil=>simp only[bytesOf]at hb;cases hb;exact⟨[],rfl,rfl⟩
 |cons c cs ih=>
  unfold bytesOf at hb;split at hb
  . rename_i e;cases e
  . rename_i n l e
    cases e;obtain⟨r,hr,hb⟩:=ai.1 hb
    cases hb;obtain⟨ns,h1,h2⟩:=ih hr;exact⟨(n:Int)::ns,by simp[h1,ab],by simp[h2]⟩
  . cases hb
def vG:AV->Nat
 | .str s=>s.length
 |_=>0
theorem Mc (ns:List Int):∀(r:List UInt8),ns.foldl (fun(r:ByteArray) n=>r.push (UInt8.ofNat n.toNat)) ⟨r.toArray⟩=⟨(r++ns.map fun n=>UInt8.ofNat n.toNat).toArray⟩:=by
 induction ns with
 |nil=>intro r;simp
 | cons n ns ih=>
  intro r;simp only[BF];have:(⟨r.toArray⟩:ByteArray).push (UInt8.ofNat n.toNat)=⟨(r++[UInt8.ofNat n.toNat]).toArray⟩:=by
   apply E8;simp[ByteArray.push]
  rw[this,ih];simp
theorem Lp (w:World) (arr:Array Value) (e:TypeId) (fz:Nat×Nat):(w.alloc (.cells arr e fz)).shape? w.heap.size=some (e,arr.size):=by
 unfold World.shape?
 rw[heap_alloc_new]
theorem Ku (w:World) (arr:Array Value) (e:TypeId) (n:Nat):
   (w.alloc (.cells arr e)).freeze {block:=w.heap.size,off:=n} 1=w.alloc (.cells arr e (n,n+1)):=by
 unfold World.freeze World.alloc;simp only[Nat.one_ne_zero,Aw];congr 1
 apply EL
 . simp
 . intro i h1 h2;rw[Eu,Array.getElem_push,Array.getElem_push];by_cases h:i<w.heap.size
   . simp[h];omega
   . have:i=w.heap.size:=by simp at h2;omega
     simp[this]
include ok
theorem KV (H:bn E h K w) {src dst:TypeId} {x v:AV} {h':AH} (hc:convert tab h src dst x= .ok (v,h'))
   (hE:h.next<h'.next->E.aQ h.next=w.heap.size/\E.cap h.next=grownCap w (vG x) 0 (P.elem dst)):
   (h.next<=h'.next/\h'.next<=h.next+1)/\ ∃w',(Go.convert src dst (ab E x)).run P w= .ok (ab E v) w'/\bn E h' K w'/\Kept K w w':=by
 unfold convert at hc;obtain⟨a,ha,hc⟩:=ai.1 hc;obtain⟨b,hb,hc⟩:=ai.1 hc;have hPa:=ok.und src a (cE.1 ha);have hPb:=ok.und dst b (cE.1 hb);split at hc
 . cases hc;refine⟨by omega,w,?_,H,Kept.refl K w⟩;simp only[ab];unfold Go.convert;simp[underlying,hPa,hPb,Conv.intToInt]
 . cases hc;refine⟨by omega,w,?_,H,Kept.refl K w⟩;simp only[ab];unfold Go.convert;simp[underlying,hPa,hPb]
 . rename_i e s _ _;obtain⟨d,hd,hc⟩:=ai.1 hc;have hPe:=ok.und e d (cE.1 hd);split at hc
   . obtain⟨n,hn,hc⟩:=ai.1 hc;obtain⟨_,h1,hc⟩:=ai.1 hc;obtain⟨⟨h2,b2⟩,hr,hc⟩:=ai.1 hc
     cases hc;obtain⟨n',hn',rfl,rfl⟩:=gP hr;rw[hn]at hn';cases hn';have h1:=Af (dK.1 h1);subst h1;have hel:P.elem dst=e:=by simp[Program.elem,hPb]
     obtain⟨hE1,hE2⟩:=hE (by simp);rw[hel]at hE2;simp only[vG]at hE2;have hge:=grownCap_ge w s.length 0 e;have hrun:(Go.convert src dst (ab E (.str s))).run P w= .ok (.slice (some ⟨w.heap.size,0,none⟩) s.length (grownCap w s.length 0 e))
         (w.drew.alloc (.cells ((s.map fun b=>Value.int .u8 b.toNat).toArray++Array.replicate (grownCap w s.length 0 e - s.length) (.int .u8 0)) e (grownCap w s.length 0 e,grownCap w s.length 0 e+1))):=by
       simp only[ab];unfold Go.convert;have hq:(Question.appendCap s.length 0 e).cut (w.tape w.drawn (.appendCap s.length 0 e))=grownCap w s.length 0 e:=rfl;simp only[Sem.run_bind,underlying,run_program,Result.andThen_ok,hPa,hPb,hPe,Sem.run_pure,Conv.stringToBytes,run_choose,Question.forced,Ak,Aw,oF,markStringish,run_shape,qA,hq,World.drew_eq,World.size_drew];generalize grownCap w s.length 0 e=cp at*
       have harr:(Array.map (fun b=>Value.int .u8 b.toNat) s.toArray++Array.replicate (cp - s.length) (Value.int .u8 0)).size=cp:=by
         simp;omega
       have harr2:Array.map (fun b=>Value.int .u8 b.toNat) s.toArray=(s.map fun b=>Value.int .u8 b.toNat).toArray:=by simp
       rw[<-harr2];generalize Array.map (fun b=>Value.int .u8 b.toNat) s.toArray++Array.replicate (cp - s.length) (Value.int .u8 0)=arr at*
       have e1:=Lp w.drew arr e (0,0);rw[World.size_drew]at e1;rw[e1];simp only[harr,run_freeze,Result.andThen_ok];have e2:=Ku w.drew arr e cp;rw[World.size_drew]at e2;rw[e2]
     have hv:ab E (.sl h.next 0 s.length (.tail 0))= .slice (some ⟨w.heap.size,0,none⟩) s.length (grownCap w s.length 0 e):=by
       simp[ab,fD.val,hE1,hE2]
     rw[<-hv]at hrun;refine⟨by simp,_,hrun,H.drew.new (by simpa using hE1) ?_,(Kept.drew K w).trans (Kept.alloc (by simpa using H.kb) _)⟩
     . refine⟨_,_,rfl,⟨_,by rw[Array.toList_append,Dl,zL]⟩,?_,?_⟩
       . simp[hE2];omega
       . simp only[ko,Array.size_append,Br,A6,Array.size_replicate];congr 1<;>omega
   . cases hc
 . rename_i e _ hns;obtain⟨d,hd,hc⟩:=ai.1 hc;have hPe:=ok.und e d (cE.1 hd);split at hc
   . cases hc;refine⟨by omega,w,?_,H,Kept.refl K w⟩;simp only[ab];rw[run_convert_bytes_string w src dst e _ _ _ hPa hPe hPb];simp[Conv.bytesToString];rfl
   . obtain⟨cs,hcs,hc⟩:=ai.1 hc;obtain⟨s,hs,hc⟩:=ai.1 hc
     cases hc;refine⟨by omega,w,?_,H,Kept.refl K w⟩;obtain⟨ns,h1,h2⟩:=rE (E:=E) hs;simp only[ab];rw[run_convert_bytes_string w src dst e _ _ _ hPa hPe hPb,run_bytesToString w _ _ _ ns (by rw[<-h1];exact H.fq hcs)];have:=Mc ns [];rw[show(⟨([]:List UInt8).toArray⟩:ByteArray)=ByteArray.empty from rfl]at this;rw[this,h2];rfl
   . cases hc;refine⟨by omega,w,?_,H,Kept.refl K w⟩;simp only[ab];rw[run_convert_bytes_string w src dst e _ _ _ hPa hPe hPb];simp[Conv.bytesToString,loadCells,loadCellsFrom];rfl
   . cases hc;refine⟨by omega,w,?_,H,Kept.refl K w⟩;rename_i a _ _ _;simp only[ab];rw[run_convert_bytes_string w src dst e _ _ _ hPa hPe hPb]
     cases a<;>simp[Conv.bytesToString,loadCells,loadCellsFrom]<;>rfl
   . cases hc
 . rename_i e b off n c _ _;obtain⟨d,hd,hc⟩:=ai.1 hc;have hPe:=ok.und e d (cE.1 hd);split at hc
   . rename_i heq;obtain⟨⟨cs,e',sz,ext,bk⟩,hcs,hc⟩:=ai.1 hc;obtain⟨_,hro,hc⟩:=ai.1 hc
     cases hc;have hro:bk≠ .ro/\bk≠ .cold:=by simpa using dK.1 hro
     have hcs:=gx hcs;have heq:=Af heq;subst heq
     cases hPa.symm.trans hPb;obtain⟨arr,fz,hh,hpre,hsz,hm⟩:=H.cells hcs;have hnr:¬(AO.cells cs e' sz ext bk).ro:=by cases bk<;>simp_all[AO.ro]
     have hfz:w.freeze {block:=E.aQ b,off:=arr.size} 1=w.put (E.aQ b) (.cells arr e' (arr.size,arr.size+1)):=by
       unfold World.freeze World.put;simp only[Nat.one_ne_zero,Aw];congr 1
       have he:=(Ac.1 hh).2;apply EL
       . simp
       . intro j h1 h2;rw[Eu,Du (by simpa using h2)];by_cases ej:E.aQ b=j
         . subst ej;simp only[if_true,he]
           cases bk with
           |rw=>simp only[ko]at hm;subst hm;simp
           |mark=>simp only[ko]at hm;subst hm;simp
           |any=>simp only[ko]at hm;rcases hm with hm|hm<;>subst hm<;>simp
           |ro=>exact absurd rfl hro.1
           |cold=>exact absurd rfl hro.2
         . simp[ej]
     refine⟨by simp,_,?_,H.put hcs hnr ⟨arr,(arr.size,arr.size+1),rfl,hpre,hsz,rfl⟩,H.dv hcs hnr _⟩;simp only[ab];unfold Go.convert;have hshape:w.shape? (E.aQ b)=some (e',arr.size):=by simp[World.shape?,hh]
     simp only[Sem.run_bind,underlying,run_program,Result.andThen_ok,hPa,hPe,Sem.run_pure,Eh,markStringish,run_shape,hshape,run_freeze,hfz]
   . cases hc
 . cases hc
end
end
section
variable [Inhabited aF]
section
variable {P:Program} {tab:aZ} (ok:bw P tab) {E:Env} {h:AH} {K:KS} {w:World}
theorem Fv {n m:Nat} {y:AV} {news:List AV} (hs:source h n y= .ok (m,news)):
  news.length=m*n/\(∀w:World,(Builtin.lenOf (ab E y)).run P w= .ok m w)/\
  ∀w:World,bn E h K w->∀k,k<=m->(Builtin.firstCells n k (ab E y)).run P w= .ok (aY E (news.take (k*n))).toArray w:=by
 cases y<;>simp only[source]at hs<;>(try cases hs)
 case str s=>
  obtain⟨_,h1,hsz⟩:=ai.1 hs;clear hs;have hs:=hsz;clear hsz
  cases hs;have h1:=Af (dK.1 h1);subst h1;refine⟨by simp[kG],fun w=>by simp[ab,Builtin.lenOf,qA],fun w _ k hk=>?_⟩;simp only[ab,Builtin.firstCells,CA,Sem.run_pure,Nat.mul_one,List.drop_zero,Dd,rF,zL];simp[Eg]
 case nils=>
  refine⟨by simp,fun w=>by simp[ab,Builtin.lenOf],fun w _ k hk=>by simp[ab,Builtin.firstCells]⟩
 case sl b off len cap=>
  obtain⟨cs,hcs,hsz⟩:=ai.1 hs;clear hs;have hs:=hsz;clear hsz
  cases hs;obtain⟨cs0,e,sz,ext,bk,hc,hl,rfl⟩:=GZ hcs;refine⟨by simp;omega,fun w=>by simp[ab,Builtin.lenOf],fun w H k hk=>?_⟩;simp only[ab,Builtin.firstCells];have hk':k*n<=m*n:=Bp _ hk;have hr:readN h b off (k*n)= .ok ((cs0.drop off).take (k*n)):=by
   unfold readN iT;rw[hc];simp only[ai];exact⟨_,rfl,(),by rw[dK];exact DM (show off+k*n<=cs0.length by omega),rfl⟩
  rw[H.fq hr];congr 2
  rw[List.take_take];congr 1
  rw[EP hk']
 case emp b off l n' k'=>
  refine⟨by simp,fun w=>by simp[ab,Builtin.lenOf],fun w _ k hk=>?_⟩;have:k=0:=by omega
  subst this;simp[ab,Builtin.firstCells,loadCells,loadCellsFrom]
 case raw v=>
  have key:∃a c,v= .slice a 0 c/\m=0/\news=[]:=by
   split at hs
   all_goals first
    |(rename_i hv;cases hv;cases hs;exact⟨_,_,rfl,rfl,rfl⟩)
    |(rename_i hv;cases hv;done)
    |(cases hs;done)
  obtain⟨a,c,rfl,rfl,rfl⟩:=key;refine⟨by simp,fun w=>by simp[ab,Builtin.lenOf],fun w _ k hk=>?_⟩;have:k=0:=by omega
  subst this
  cases a<;>simp[ab,Builtin.firstCells,loadCells,loadCellsFrom]
theorem KO {argTypes:Array TypeId} {t u ty e:TypeId} {du:TypeDesc} {i:TypeInfo} (h0:argTypes[0]? =some t) (h1:argTypes[1]? =some u)
  (ht:P.underlying t=some (.slice e)) (hu:P.underlying u=some du) (hnz:∀k,du≠ .int k) (hi:P.info? e=some i)
  {base:Option Addr} {sLen sCap m:Nat} {Y:Value} {news:Array Value} (hlen:(Builtin.lenOf Y).run P w= .ok m w)
  (hf:(Builtin.firstCells i.size m Y).run P w= .ok news w) (hroom:sLen+m<=sCap):
  (Builtin.append_ argTypes ty #[.slice base sLen sCap,Y]).run P w=
   (match base with
    |none=>(Result.ok () w:Result Unit)
    |some a=>(storeCells (a.add (sLen*i.size)) news.toList).run P w).andThen fun _ w'=> .ok (.slice base (sLen+m) sCap) w':=by
 unfold Builtin.append_;simp only[h0,h1,AS,AA,AY];simp only[Sem.run_bind,underlying,run_program,Result.andThen_ok,ht,hu,Sem.run_pure,sizeOf,typeInfo,hi,Ak,Aw,hlen,Df,if_true,if_pos hroom,hf]
 cases base<;>simp[Result.andThen]
theorem KM {argTypes:Array TypeId} {t u ty e:TypeId} {du:TypeDesc} {i:TypeInfo} {z:Value} (h0:argTypes[0]? =some t) (h1:argTypes[1]? =some u)
  (ht:P.underlying t=some (.slice e)) (hu:P.underlying u=some du) (hnz:∀k,du≠ .int k) (hi:P.info? e=some i) (hzero:i.zero=some z)
  {base:Option Addr} {sLen sCap m:Nat} {Y:Value} {olds news:Array Value} (hlen:(Builtin.lenOf Y).run P w= .ok m w)
  (hf:(Builtin.firstCells i.size m Y).run P w.drew= .ok news w.drew) (ho:(Builtin.firstCells i.size sLen (.slice base sLen sCap)).run P w.drew= .ok olds w.drew)
  (hroom:¬sLen+m<=sCap) (h63:sLen+m<=16777216) (hb:(sLen+m)*i.bytes<=16777216):
  (Builtin.append_ argTypes ty #[.slice base sLen sCap,Y]).run P w=
   .ok (.slice (some ⟨w.heap.size,0,none⟩) (sLen+m) (grownCap w (sLen+m) sCap e))
    (w.drew.alloc (.cells (olds++news++Builtin.zeroCells z.cells (grownCap w (sLen+m) sCap e - (sLen+m))) e)):=by
 have hfit:=growslice_fits (need:=sLen+m) (old:=sCap) (bytes:=i.bytes) (by omega) (by omega);have h63':¬(((sLen+m:Nat):Int)>IntKind.i64.max/\(False\/i.bytes=0)):=by
  have:IntKind.i64.max=9223372036854775807:=by decide
  rw[this];omega
 have hfit':¬(Builtin.nextslicecap (sLen+m) sCap*i.bytes>2 ^ 48):=by
  have:(2:Nat) ^ 48=281474976710656:=by decide
  rw[this];omega
 have hq:(Question.appendCap (sLen+m) sCap e).cut (w.tape w.drawn (.appendCap (sLen+m) sCap e))=grownCap w (sLen+m) sCap e:=rfl;unfold Builtin.append_;simp only[h0,h1,AS,AA,AY];simp only[Sem.run_bind,underlying,run_program,Result.andThen_ok,ht,hu,Sem.run_pure,sizeOf,typeInfo,hi,Ak,Aw,hlen,Df,if_true,if_neg hroom];rw[if_neg (by simpa using h63')];simp only[Sem.run_bind,run_program,Result.andThen_ok,hi,Sem.run_pure];rw[if_neg hfit'];simp only[Sem.run_bind,run_choose,Question.forced,Ak,Aw,Result.andThen_ok,hq,World.drew_eq,run_askRoom,ho,hf,zeroValue,typeInfo,run_program,hi,hzero,Sem.run_pure,oF,World.size_drew]
theorem F5 (ok:bw P tab) {e:TypeId} {n:Nat} {u:Unit} (hz:kM tab e n= .ok u):
   ∃z,(∀E,∀i,P.info? e=some i->i.zero=some (ab E z))/\ ∀E,(ab E z).cells.size=n:=by
 unfold kM at hz;obtain⟨z,h1,hzz⟩:=ai.1 hz;clear hz;have hz:=hzz;clear hzz;obtain⟨zc,h2,hzz⟩:=ai.1 hz;clear hz;have hz:=hzz;clear hzz;have h3:=Af (dK.1 hz);obtain⟨i,hi,hzz⟩:=ok.j3 _ _ (cE.1 h1);refine⟨z,fun E i' hi'=>?_,fun E=>?_⟩
 . rw[hi]at hi';cases hi';exact hzz E
 . rw[l7 h2];simpa using h3
theorem Ib (H:bn E h K w) (hE:E.aQ h.next=w.heap.size) (cs:List AV) (e:TypeId) (n c:Nat) {zs:Array Value} (hc:E.cap h.next=c)
  (hs:cs.length+zs.size=c*n):
  bn E (h.new (.cells cs e n true .rw)) K (w.alloc (.cells ((aY E cs).toArray++zs) e))/\Kept K w (w.alloc (.cells ((aY E cs).toArray++zs) e)):=
 ⟨H.new hE ⟨_,_,rfl,⟨zs.toList,by simp⟩,by simp[hc];exact hs,rfl⟩,Kept.alloc H.kb _⟩
theorem OM (H:bn E h K w) (hE:E.aQ h.next=w.heap.size) (cs:List AV) (e:TypeId) (n c:Nat) (bk:BK) (hno:bk≠ .ro) (hbk:∀n,ko bk (0,0) n) {zs:Array Value} (hc:E.cap h.next=c)
  (hs:cs.length+zs.size=c*n):
  bn E (h.new (.cells cs e n true bk)) K (w.alloc (.cells ((aY E cs).toArray++zs) e))/\Kept K w (w.alloc (.cells ((aY E cs).toArray++zs) e)):=
 ⟨H.new hE ⟨_,_,rfl,⟨zs.toList,by simp⟩,by simp[hc];exact hs,hbk _⟩ (by cases bk<;>simp_all[AO.ro]),Kept.alloc H.kb _⟩
def ml (w:World) (X:Value) (m:Nat) (e:TypeId):Nat×Nat:=
 match X with
 | .slice base n c=>if n+m<=c then((base.map (·.block)).getD 0,c)else(w.heap.size,grownCap w (n+m) c e)
 |_=>(0,0)
structure jy (P:Program) (E:Env) (h:AH) (K:KS) (argTypes:Array TypeId) (ty e:TypeId) (i:TypeInfo) (Y:Value) (m:Nat) (news:List AV):Prop where
 len:news.length=m*i.size
 room:∀(w:World),bn E h K w->∀(base:Option Addr) (sLen sCap:Nat),sLen+m<=sCap->
  (Builtin.append_ argTypes ty #[.slice base sLen sCap,Y]).run P w=
   (match base with
    |none=>(Result.ok () w:Result Unit)
    |some a=>(storeCells (a.add (sLen*i.size)) (aY E news)).run P w).andThen fun _ w'=> .ok (.slice base (sLen+m) sCap) w'
 grow:∀(w:World),bn E h K w->∀(base:Option Addr) (sLen sCap:Nat) (olds:Array Value) (z:Value),i.zero=some z->
  (Builtin.firstCells i.size sLen (.slice base sLen sCap)).run P w.drew= .ok olds w.drew->
  ¬sLen+m<=sCap->sLen+m<=16777216->(sLen+m)*i.bytes<=16777216->
  (Builtin.append_ argTypes ty #[.slice base sLen sCap,Y]).run P w=
   .ok (.slice (some ⟨w.heap.size,0,none⟩) (sLen+m) (grownCap w (sLen+m) sCap e))
    (w.drew.alloc (.cells (olds++(aY E news).toArray++Builtin.zeroCells z.cells (grownCap w (sLen+m) sCap e - (sLen+m))) e))
theorem RE {argTypes:Array TypeId} {t u ty e:TypeId} {du:TypeDesc} {i:TypeInfo} (h0:argTypes[0]? =some t) (h1:argTypes[1]? =some u)
   (ht:P.underlying t=some (.slice e)) (hu:P.underlying u=some du) (hnz:∀k,du≠ .int k) (hi:P.info? e=some i) {n m:Nat} (hin:i.size=n)
   {y:AV} {news:List AV} (hs:source h n y= .ok (m,news)):jy P E h K argTypes ty e i (ab E y) m news:=by
 obtain⟨hnl,hlen,hf⟩:=Fv (P:=P) (E:=E) (K:=K) hs;have hfm:∀w:World,bn E h K w->(Builtin.firstCells i.size m (ab E y)).run P w= .ok (aY E news).toArray w:=by
   intro w H;have:=hf w H m (Ah _);rw[As (by omega)]at this;rw[hin];exact this
 refine⟨by rw[hin];exact hnl,?_,?_⟩
 . intro w H base sLen sCap hr;rw[KO h0 h1 ht hu hnz hi (hlen w) (hfm w H) hr]
 . intro w H base sLen sCap olds z hz ho hr h63 hb;exact KM h0 h1 ht hu hnz hi hz (hlen w) (hfm w.drew H.drew) ho hr h63 hb
theorem RH {argTypes:Array TypeId} {t u ty e:TypeId} {k:IntKind} {i:TypeInfo} (h0:argTypes[0]? =some t) (h1:argTypes[1]? =some u)
   (ht:P.underlying t=some (.slice e)) (hu:P.underlying u=some (.int k)) (hi:P.info? e=some i) {z:AV} (hz:i.zero=some (ab E z)) {zc:List AV} (hzc:z.cells= .ok zc)
   (hzl:zc.length=i.size) (hi0:i.size≠0) {y:AV} {m:Nat} (hy:asNat y= .ok m) (hm:m<=1048576) (hmb:m*i.bytes<=16777216):jy P E h K argTypes ty e i (ab E y) m (rep m zc):=by
 obtain⟨ky,rfl⟩:=oL hy;have hzz:Builtin.zeroCells (ab E z).cells m=(aY E (rep m zc)).toArray:=by
   rw[l7 hzc,rL];exact zS m _ (by simp;omega)
 have hrl:(rep m zc).length=m*i.size:=by
   have:=Ax List.length (rL E m zc);rw[bp,xa,bp,hzl]at this;exact this
 have hwrap:IntKind.i64.wrap (m:Int)=m:=by rw[IntKind.wrap_i64];omega
 have hb48:¬((m:Int)*(i.bytes:Int)>2 ^ 48):=by
   have h3:((m*i.bytes:Nat):Int)<=((16777216:Nat):Int):=Int.ofNat_le.2 hmb;rw[Int.natCast_mul]at h3;omega
 have happ:∀w:World,(if m*i.size=0 then pure #[]else do pure (Builtin.zeroCells (<-zeroValue e).cells m):Sem (Array Value)).run P w= .ok (aY E (rep m zc)).toArray w:=by
   intro w;by_cases h00:m*i.size=0
   . rw[if_pos h00];have:rep m zc=[]:=AG (by rw[hrl,h00]);rw[this];rfl
   . rw[if_neg h00];simp only[Sem.run_bind,zeroValue,typeInfo,run_program,Result.andThen_ok,hi,hz,Sem.run_pure,hzz]
 refine⟨hrl,?_,?_⟩
 . intro w H base sLen sCap hr;unfold Builtin.append_;simp only[h0,h1,AS,AA,AY];simp only[Sem.run_bind,underlying,run_program,Result.andThen_ok,ht,hu,Sem.run_pure,sizeOf,typeInfo,hi,if_true,ab,Go.asInt,Go.asIntOf,hwrap];rw[if_neg (by omega)];simp only[Sem.run_bind,run_program,Result.andThen_ok,hi,Sem.run_pure];rw[if_neg hb48];simp only[Sem.run_bind,Sem.run_pure,Result.andThen_ok,DJ,if_pos hr,BH,Ak,Aw];have:=happ w;simp only[zeroValue,typeInfo]at this;simp only[zeroValue,typeInfo];rw[this]
   cases base<;>simp[Result.andThen]
 . intro w H base sLen sCap olds z' hz' ho hr h63 hb;rw[hz]at hz'
   cases hz';have hfit:=growslice_fits (need:=sLen+m) (old:=sCap) (bytes:=i.bytes) (by omega) (by omega);have h63':¬(((sLen+m:Nat):Int)>IntKind.i64.max/\(True\/i.bytes=0)):=by
     have:IntKind.i64.max=9223372036854775807:=by decide
     rw[this];omega
   have hfit':¬(Builtin.nextslicecap (sLen+m) sCap*i.bytes>2 ^ 48):=by
     have:(2:Nat) ^ 48=281474976710656:=by decide
     rw[this];omega
   have hq:(Question.appendCap (sLen+m) sCap e).cut (w.tape w.drawn (.appendCap (sLen+m) sCap e))=grownCap w (sLen+m) sCap e:=rfl;unfold Builtin.append_;simp only[h0,h1,AS,AA,AY];simp only[Sem.run_bind,underlying,run_program,Result.andThen_ok,ht,hu,Sem.run_pure,sizeOf,typeInfo,hi,if_true,ab,Go.asInt,Go.asIntOf,hwrap];rw[if_neg (by omega)];simp only[Sem.run_bind,run_program,Result.andThen_ok,hi,Sem.run_pure];rw[if_neg hb48];simp only[Sem.run_bind,Sem.run_pure,Result.andThen_ok,DJ,if_neg hr,BH,Ak,Aw,run_program,hi];rw[if_neg h63'];simp only[Sem.run_bind,run_program,Result.andThen_ok,hi,Sem.run_pure];rw[if_neg hfit'];simp only[Sem.run_bind,run_choose,Question.forced,Ak,Aw,Result.andThen_ok,hq,World.drew_eq,run_program,hi,Sem.run_pure,run_askRoom,ho];have:=happ w.drew;simp only[zeroValue,typeInfo]at this;simp only[zeroValue,typeInfo];rw[this];simp only[Sem.run_bind,Result.andThen_ok,run_program,hi,hz,Sem.run_pure,oF,World.size_drew]
include ok
theorem zT (H:bn E h K w) {argTypes:Array TypeId} {ty e:TypeId}
   {n by_ m:Nat} (hn:siz tab e= .ok n) (hn0:n≠0) (hby:tab.byt.get e=some by_)
   {x v:AV} {Y:Value} {news:List AV} {h':AH} (hsrc:∀i,P.info? e=some i->jy P E h K argTypes ty e i Y m news) (ha:bo tab h e n by_ x m news= .ok (v,h'))
   (hE:h.next<h'.next->E.aQ h.next=(ml w (ab E x) m e).1/\E.cap h.next=(ml w (ab E x) m e).2):
   (h.next<=h'.next/\h'.next<=h.next+1)/\ ∃w',(Builtin.append_ argTypes ty #[ab E x,Y]).run P w= .ok (ab E v) w'/\bn E h' K w'/\Kept K w w':=by
 obtain⟨i,hi,hin⟩:=ok.siz _ _ (cE.1 hn);obtain⟨i',hi',hiby⟩:=ok.byt _ _ hby;rw[hi]at hi';cases hi';have hS:=hsrc i hi;have hnl:news.length=m*n:=by rw[<-hin];exact hS.len
 unfold bo at ha;split at ha
 ·
   by_cases hm:Nat.beq m 0=true
   . rw[hm]at ha
     cases ha;have:=Af hm;subst this;refine⟨by omega,w,?_,H,Kept.refl K w⟩;simp only[ab];rw[hS.room w H _ _ _ (by omega)];rfl
   . have hm':Nat.beq m 0=false:=AN.2 hm;rw[hm']at ha;simp only[AJ]at ha;obtain⟨_,hc,haz⟩:=ai.1 ha;clear ha;have ha:=haz;clear haz;obtain⟨_,hzo,haz⟩:=ai.1 ha;clear ha;have ha:=haz;clear haz;obtain⟨⟨h2,b2⟩,hr,haz⟩:=ai.1 ha;clear ha;have ha:=haz;clear haz
     cases ha;obtain⟨n',hn',rfl,rfl⟩:=gP hr;rw[hn]at hn';cases hn';have hc:=dK.1 hc;rw[Ab]at hc;have hc1:=Al hc.1;have hc2:=Al hc.2;have hm0:¬m<=0:=fun h=>hm (by rw[EM.1 h];rfl)
     obtain⟨z,hz,hzl⟩:=F5 ok hzo;have hzi:=hz E i hi;obtain⟨hE1,hE2⟩:=hE (by simp);simp only[ab,ml,Ay,if_neg hm0]at hE1 hE2;have hrun:=hS.grow w H none 0 0 #[] _ hzi
      (by simp[Builtin.firstCells]) (by omega) (by omega) (by rw[hiby];simpa using hc1)
     simp only[Ay,Array.empty_append]at hrun;obtain⟨H',hk⟩:=Ib (w:=w.drew) H.drew (by simpa using hE1) news e n (grownCap w m 0 e) (zs:=Builtin.zeroCells (ab E z).cells (grownCap w m 0 e - m))
      (by rw[hE2]) (by
        have:=grownCap_ge w m 0 e;rw[size_zeroCells,hzl E,hnl,<-Bq];congr 1
        omega)
     refine⟨by simp,_,?_,H',(Kept.drew K w).trans hk⟩;simp only[ab,fD.val,hE1,hE2,Dd];exact hrun
 . rename_i b off len cap;obtain⟨c,hc,haz⟩:=ai.1 ha;clear ha;have ha:=haz;clear haz;obtain⟨⟨cs,e',sz,ext,bk⟩,hcs,haz⟩:=ai.1 ha;clear ha;have ha:=haz;clear haz;obtain⟨_,hty,haz⟩:=ai.1 ha;clear ha;have ha:=haz;clear haz;obtain⟨_,hsz,haz⟩:=ai.1 ha;clear ha;have ha:=haz;clear haz;have hcap:=xA H hc;have hcs:=gx hcs;have hty:=dK.1 hty;rw[Ab]at hty;have hty1:=Af hty.1;have hty2:=Af hty.2;subst hty1 hty2;have hsz:=dK.1 hsz;rw[Ab]at hsz;have hsz1:=Al hsz.1;have hsz2:=Al hsz.2;by_cases hroom:Nat.ble (len+m) c=true
   ·
     rw[hroom]at ha;simp only[A8]at ha;obtain⟨h2,hw,haz⟩:=ai.1 ha;clear ha;have ha:=haz;clear haz
     cases ha;have hle:=Al hroom;obtain⟨w',hst,H',hk⟩:=uk (P:=P) H hw;refine⟨by rw[tM hw];omega,w',?_,H',hk⟩;simp only[ab];rw[hS.room w H _ _ _ (by omega)];simp only[add_lit,hin];rw[hst];rfl
   . have hroom':Nat.ble (len+m) c=false:=AN.2 hroom;rw[hroom']at ha;simp only[AJ]at ha;obtain⟨_,hold,haz⟩:=ai.1 ha;clear ha;have ha:=haz;clear haz;obtain⟨_,hzo,haz⟩:=ai.1 ha;clear ha;have ha:=haz;clear haz;have hold:=Al (dK.1 hold);obtain⟨z,hz,hzl⟩:=F5 ok hzo;have hzi:=hz E i hi;have hnr:¬len+m<=c:=fun h=>hroom (DM h)
     have hro:∀w:World,bn E h K w->(Builtin.firstCells i.size len (.slice (some ⟨E.aQ b,off,none⟩) len (cap.val (E.cap b)))).run P w= .ok (aY E ((cs.drop off).take (len*sz))).toArray w:=by
      intro w H;rw[hin];have hr:readN h b off (len*sz)= .ok ((cs.drop off).take (len*sz)):=by
        unfold readN iT;rw[hcs];simp only[ai];exact⟨_,rfl,(),by rw[dK];exact DM (show off+len*sz<=cs.length by omega),rfl⟩
      exact H.fq hr
     have hol:((cs.drop off).take (len*sz)).length=len*sz:=by simp;omega
     cases cap with
     |lit cn=>
      simp only at ha;obtain⟨⟨h2,b2⟩,hr,haz⟩:=ai.1 ha;clear ha;have ha:=haz;clear haz
      cases ha;obtain⟨n',hn',rfl,rfl⟩:=gP hr;rw[hn]at hn';cases hn';have hcn:c=cn:=by simp only[capLow]at hc;cases hc;rfl
      subst hcn;obtain⟨hE1,hE2⟩:=hE (by simp);simp only[ab,ml,fD.val,if_neg hnr]at hE1 hE2;have hrun:=hS.grow w H (some ⟨E.aQ b,off,none⟩) len c _ _ hzi
        (hro w.drew H.drew) hnr hsz2 (by rw[hiby];exact hsz1)
      obtain⟨H',hk⟩:=Ib (w:=w.drew) H.drew (by simpa using hE1) ((cs.drop off).take (len*sz)++news) e sz (grownCap w (len+m) c e) (zs:=Builtin.zeroCells (ab E z).cells (grownCap w (len+m) c e - (len+m)))
        (by rw[hE2]) (by
          have:=grownCap_ge w (len+m) c e;rw[size_zeroCells,hzl E,Bj,hol,hnl,<-Bq,<-Bq];congr 1
          omega)
      refine⟨by simp,_,?_,H',(Kept.drew K w).trans hk⟩;simp only[ab,fD.val,hE1,hE2,Dd];rw[hrun];simp
     | tail k=>
      simp only at ha;obtain⟨_,htl,haz⟩:=ai.1 ha;clear ha;have ha:=haz;clear haz;obtain⟨⟨h2,b2⟩,hr,haz⟩:=ai.1 ha;clear ha;have ha:=haz;clear haz
      cases ha;obtain⟨n',hn',rfl,rfl⟩:=gP hr;rw[hn]at hn';cases hn';have htl:=dK.1 htl;simp only[Ab]at htl;obtain⟨⟨⟨⟨⟨htl1,htl2⟩,hext⟩,hbk⟩,hbk2⟩,hone⟩:=htl;have htl1:=Af htl1;have htl2:=Af htl2;subst htl1 htl2;have hbk:bk≠ .ro/\bk≠ .cold:=⟨by simpa using hbk,by simpa using hbk2⟩;have hnro:¬(AO.cells cs e sz ext bk).ro:=by cases bk<;>simp_all[AO.ro]
      obtain⟨arr,fz,hh,⟨rest,harr⟩,hasz,hm⟩:=H.cells hcs;rw[if_pos hext]at hasz;have hcl:cs.length<=arr.size:=by
        have:=Ax List.length harr;simp at this;omega
      obtain⟨hE1,hE2⟩:=hE (by simp);simp only[ab,ml,fD.val,Dd]at hE1 hE2;by_cases hfit:len+m<=E.cap b
      . rw[if_pos hfit]at hE1 hE2;simp only[A2,AK]at hE1 hE2;have hbound:(len+m)*sz<=arr.size:=by rw[hasz];exact Bp _ hfit
        rw[Bq]at hbound;have hst:=wR (P:=P) (E.aQ b) (len*sz) e fz (aY E news) 0 arr w hh (CH hm hbk) (by simp;omega)
          (by
            intro v hv;rw[nN]at hv;obtain⟨u,hu,rfl⟩:=Ar.1 hv;exact Cc (AE.1 hone u hu))
        have e1:(arr.toList.take (len*sz+0)++aY E news++arr.toList.drop (len*sz+0+(aY E news).length)).length=arr.size:=by
          simp;omega
        refine⟨by simp,_,?_,H.rename (c:= .cells (arr.toList.take (len*sz+0)++aY E news++arr.toList.drop (len*sz+0+(aY E news).length)).toArray e fz) hcs hnro hE1 ?_ (fun hx=>by cases bk<;>exact hx),H.dv hcs hnro _⟩
        . simp only[ab,fD.val,Dd];rw[hS.room w H _ _ _ (by omega)];simp only[add_lit,hin,Ay];rw[hst,AH.eO,hE1,hE2];rfl
        . refine⟨_,fz,rfl,⟨arr.toList.drop (len*sz+0+(aY E news).length),?_⟩,?_,?_⟩
          . simp only[Bk,dq,rF,harr];rw[EN (by simp;omega)]
          . rw[if_pos rfl,Br,e1,hE2];exact hasz
          . rw[Br,e1]
            cases bk with
            |rw=>exact hm
            |mark=>exact .inr hm
            |any=>exact hm
            |ro=>exact absurd rfl hbk.1
            |cold=>exact absurd rfl hbk.2
      . rw[if_neg hfit]at hE1 hE2;have hrun:=hS.grow w H (some ⟨E.aQ b,0,none⟩) len (E.cap b) _ _ hzi
          (by have:=hro w.drew H.drew;simpa [fD.val]using this) hfit hsz2 (by rw[hiby];exact hsz1)
        obtain⟨H',hk⟩:=OM (w:=w.drew) (h:=h.kill b) (H.drew.kill b) (by simpa using hE1) (cs.take (len*sz)++news) e sz (grownCap w (len+m) (E.cap b) e)
          bk.grown (by cases bk<;>simp[BK.grown]) (by cases bk<;>simp_all[ko,BK.grown])
          (zs:=Builtin.zeroCells (ab E z).cells (grownCap w (len+m) (E.cap b) e - (len+m)))
          (by simpa using hE2) (by
            have:=grownCap_ge w (len+m) (E.cap b) e;rw[size_zeroCells,hzl E,Bj,hnl,Bz,EP (by omega),<-Bq,<-Bq];congr 1
            omega)
        refine⟨by simp,_,?_,H',(Kept.drew K w).trans hk⟩;simp only[ab,fD.val,AH.eO,hE1,hE2,Dd];rw[hrun];simp
 . cases ha
end
end
section
variable [Inhabited aF]
theorem Oi {w:World} {g:Nat} {o:Obj} (hg:w.heap[g]? =some o):w.put g o=w:=by
 unfold World.put;have hlt:=(Ac.1 hg).1;have he:=(Ac.1 hg).2;have:w.heap.setIfInBounds g o=w.heap:=by
  apply EL
  . simp
  . intro i h1 h2;rw[Du (by simpa using h2)];split
    . rename_i e;subst e;exact he.symm
    . rfl
 rw[this]
section
variable {P:Program} {tab:aZ} (ok:bw P tab) {E:Env} {h:AH} {K:KS} {w:World}
theorem xS {b:Nat} {es:List (AV×AV×Nat)} {c:Nat} (hm:qP h b= .ok (es,c)):h.get b=some (.mp es c):=by
 unfold qP at hm;split at hm
 . rename_i heq;cases hm;exact heq
 . cases hm
theorem bn.map (H:bn E h K w) {b:Nat} {es:List (AV×AV×Nat)} {c:Nat} (hm:h.get b=some (.mp es c)):
  w.heap[E.aQ b]? =some (.map (es.map (kP E)).toArray c):=by
 obtain⟨o,h1,h2⟩:=H.obj b _ hm;rw[h1,h2]
theorem ui {b c:Nat} {es:Array MapEntry} (hb:w.heap[b]? =some (.map es c)):(getObj b).run P w= .ok (.map es c) w:=by
 simp[getObj,Sem.run,hb]
theorem xo {b c:Nat} {es:Array MapEntry} (hb:w.heap[b]? =some (.map es c)) (o:Obj):(setObj b o).run P w= .ok () (w.put b o):=by
 simp[setObj,Sem.run,hb,World.put]
include ok
theorem Kr (d:Nat) (empty:Bool) (ck:TypeId->AV->R Unit)
  (hck:∀t v u,ck t v= .ok u->∀w,(Instr.checkKey empty d t (ab E v)).run P w= .ok () w) (cs:List AV):
  ∀ (fs:List Field) (u:Unit),rW tab ck cs fs= .ok u->∀w,
    (forIn fs PUnit.unit (fun(f:Field) (_:PUnit)=>(do
     if f.name≠ "_" then
      Instr.checkKey empty d f.type (<-Go.part f.type (aY E cs).toArray f.offset)
      pure (ForInStep.yield PUnit.unit)
     else pure (ForInStep.yield PUnit.unit):Sem (ForInStep PUnit)))).run P w= .ok PUnit.unit w:=by
 intro fs;induction fs with
 |nil=>intro u hu w;rfl
 |cons f fs ih=>
  intro u hu w;simp only[rW]at hu;simp only[List.forIn_cons];by_cases hn:f.name≠ "_"
  . rw[if_pos hn]at hu;obtain⟨x,hx,hu⟩:=ai.1 hu;obtain⟨_,hc,hu⟩:=ai.1 hu;simp only[if_pos hn,Sem.run_bind,se ok hx,Result.andThen_ok,hck _ _ _ hc,Sem.run_pure];exact ih u hu w
  . rw[if_neg hn]at hu;simp only[if_neg hn,Sem.run_bind,Sem.run_pure,Result.andThen_ok];exact ih u hu w
theorem L2 (empty:Bool):∀(d:Nat) (t:TypeId) (v:AV) (u:Unit),qI tab d t v= .ok u->∀(k:Nat) (w:World),
  (Instr.checkKey empty (d+k) t (ab E v)).run P w= .ok () w:=by
 intro d;induction d with
 |zero=>intro t v u hu;cases hu
 |succ d ih=>
  intro t v u hu k w;simp only[qI]at hu;obtain⟨x,hx,hu⟩:=ai.1 hu;have hP:=ok.und t x (cE.1 hx);rw[show d+1+k=(d+k)+1 from by omega];split at hu
  . cases hu
  . cases hu
  . rename_i fs cs _;unfold Instr.checkKey;simp only[Sem.run_bind,underlying,run_program,Result.andThen_ok,hP,Sem.run_pure,ab];rw[<-Array.forIn_toList];have:=Kr ok (d+k) empty (qI tab d) (fun t v u hu w=>ih t v u hu k w) cs fs.toList u hu w;rw[this];rfl
  . cases hu
  . rename_i h1 h2 h3 h4;unfold Instr.checkKey;simp only[Sem.run_bind,underlying,run_program,Result.andThen_ok,hP,Sem.run_pure];clear hx hP
    cases x<;>first|rfl|exact(h1 _ rfl).elim|exact(h2 _ _ rfl).elim|exact(h4 _ rfl).elim|exact(h3 _ rfl).elim
theorem FD {t:TypeId} {v:AV} {u:Unit} (hc:ckKey tab t v 8= .ok u) (empty:Bool) (w:World):(Instr.checkKey empty 10000 t (ab E v)).run P w= .ok () w:=
 L2 ok empty 8 t v u hc 9992 w
theorem Ke {t:TypeId} {k:AV}:∀(es:List (AV×AV×Nat)) (i:Nat) (r:Option (Nat×AV×AV×Nat)),findKey tab t k es i= .ok r->∀w,
  (Instr.findAsking t (ab E k) (es.map (kP E)) i).run P w= .ok (r.map fun x=>(x.1,ab E x.2.2.1)) w:=by
 intro es;induction es with
 |nil=>intro i r hr w;simp only[findKey]at hr;cases hr;rfl
 |cons e es ih=>
  intro i r hr w;obtain⟨a,v,n⟩:=e;simp only[findKey]at hr;obtain⟨b,hb,hr⟩:=ai.1 hr;have he:=oT ok (E:=E) 8 t _ _ b hb 9992 w;simp only[AP,Instr.findAsking,Sem.run_bind];have he':(Op.equal t (ab E k) (kP E (a,v,n)).key).run P w= .ok b w:=he;rw[he',Result.andThen_ok]
  cases b with
  |true=>simp only[if_true]at hr⊢;cases hr;rfl
  |false=>simp only[Ak,Aw]at hr⊢;exact ih (i+1) r hr w
theorem LS {t:TypeId} {d:TypeDesc} (hd:P.underlying t=some d) {k a:AV} {b:Bool} (hb:eqT tab 8 t k a= .ok b) {b':Bool}
   (hs:Instr.sameNow d (ab E k) (ab E a)=some b'):b'=b:=by
 have h1:=oT ok (E:=E) 8 t k a b hb 0 default;obtain⟨n,hn⟩:∃n,8+0=n+1:=⟨7,rfl⟩;rw[hn]at h1;generalize ab E k=X at*
 generalize ab E a=Y at*
 unfold Instr.sameNow at hs;split at hs
 . split at hs
   . cases hs;rename_i e;subst e;simp only[Op.equalIn,Sem.run_bind,underlying,run_program,Result.andThen_ok,hd,Sem.run_pure,if_true]at h1
     cases h1;rfl
   . cases hs
 . cases hs;simp only[Op.equalIn,Sem.run_bind,underlying,run_program,Result.andThen_ok,hd,Sem.run_pure]at h1
   cases h1;rfl
 . cases hs;simp only[Op.equalIn,Sem.run_bind,underlying,run_program,Result.andThen_ok,hd,Sem.run_pure]at h1
   cases h1;rfl
 . cases hs
theorem L9 {t:TypeId} {d:TypeDesc} (hd:P.underlying t=some d) {k:AV}:∀(es:List (AV×AV×Nat)) (i:Nat) (r:Option (Nat×AV×AV×Nat)),findKey tab t k es i= .ok r->∀r',
  Instr.findNow d (ab E k) (es.map (kP E)) i=some r'->r'=r.map fun x=>(x.1,ab E x.2.2.1):=by
 intro es;induction es with
 |nil=>intro i r hr r' hr';simp only[findKey]at hr;cases hr;simp only[D4,Instr.findNow]at hr';cases hr';rfl
 | cons e es ih=>
  intro i r hr r' hr';obtain⟨a,v,n⟩:=e;simp only[findKey]at hr;obtain⟨b,hb,hr⟩:=ai.1 hr;simp only[AP,Instr.findNow]at hr'
  cases hsn:Instr.sameNow d (ab E k) (kP E (a,v,n)).key with
  |none=>rw[hsn]at hr';cases hr'
  |some b'=>
   have:=LS ok (E:=E) hd hb hsn;subst this;rw[hsn]at hr'
   cases b' with
   |true=>simp only[if_true]at hr hr';cases hr;cases hr';rfl
   |false=>simp only[Ak,Aw]at hr hr';exact ih (i+1) r hr r' hr'
theorem qa {t:TypeId} {d:TypeDesc} (hd:P.underlying t=some d) {k:AV} {es:List (AV×AV×Nat)} {r:Option (Nat×AV×AV×Nat)} (hr:findKey tab t k es 0= .ok r) (w:World):
  (Instr.findKey t (ab E k) (es.map (kP E))).run P w= .ok (r.map fun x=>(x.1,ab E x.2.2.1)) w:=by
 unfold Instr.findKey;simp only[Sem.run_bind,underlying,run_program,Result.andThen_ok,hd,Sem.run_pure]
 cases hn:Instr.findNow d (ab E k) (es.map (kP E)) 0 with
 |none=>exact Ke ok es 0 r hr w
 |some r'=>rw[L9 ok hd es 0 r hr r' hn];rfl
omit ok in
theorem L8 {t:TypeId} {k:AV}:∀(es:List (AV×AV×Nat)) (i:Nat) (j:Nat) (a v:AV) (n:Nat),findKey tab t k es i= .ok (some (j,a,v,n))->i<=j/\es[j - i]? =some (a,v,n):=by
 intro es;induction es with
 |nil=>intro i j a v n h;simp only[findKey]at h;cases h
 | cons e es ih=>
  intro i j a v n h;obtain⟨a',v',n'⟩:=e;simp only[findKey]at h;obtain⟨b,hb,h⟩:=ai.1 h
  cases b with
  |true=>simp only[if_true]at h;cases h;simp
  |false=>
   simp only[Ak,Aw]at h;obtain⟨h1,h2⟩:=ih (i+1) j a v n h;refine⟨by omega,?_⟩;rw[show j - i=(j - (i+1))+1 from by omega];simpa using h2
theorem LD (H:bn E h K w) {t:TypeId} {m k v:AV} {c:Bool} (hl:lookup tab h t m k c= .ok v):
  (Instr.lookup t (ab E m) (ab E k) c).run P w= .ok (ab E v) w:=by
 simp[lookup]at hl
theorem zJ (H:bn E h K w) {t:TypeId} {m k x:AV} {h':AH} (hl:mapUpdate tab h t m k x= .ok h'):
  h'.next=h.next/\ ∃w',(Instr.mapUpdate t (ab E m) (ab E k) (ab E x)).run P w= .ok () w'/\bn E h' K w'/\Kept K w w':=by
 simp[mapUpdate]at hl
theorem Kq (H:bn E h K w) {t:TypeId} {m k v:AV} {h':AH} (hl:mapEntry tab h t m k= .ok (v,h')):
  h'.next=h.next/\ ∃w',(Instr.mapEntry t (ab E m) (ab E k)).run P w= .ok (ab E v) w'/\bn E h' K w'/\Kept K w w':=by
 simp[mapEntry]at hl
theorem Kc (H:bn E h K w) {t:TypeId} {m s x:AV} {h':AH} (hl:entryStore h m s x= .ok h'):
  h'.next=h.next/\ ∃w',(Instr.entryStore t (ab E m) (ab E s) (ab E x)).run P w= .ok () w'/\bn E h' K w'/\Kept K w w':=by
 simp[entryStore]at hl
theorem L4 (H:bn E h K w) {argTypes:Array TypeId} {t ty:TypeId} (h0:argTypes[0]? =some t) {m k:AV} {h':AH} (hl:delete tab h t m k= .ok h'):
   h'.next=h.next/\ ∃w',(Builtin.delete_ argTypes ty #[ab E m,ab E k]).run P w= .ok (.tuple #[]) w'/\bn E h' K w'/\Kept K w w':=by
 unfold delete at hl;obtain⟨d,hd,hl⟩:=ai.1 hl;have hP:=ok.und t d (cE.1 hd);split at hl
 . obtain⟨_,hck,hl⟩:=ai.1 hl
   cases hl;refine⟨rfl,w,?_,H,Kept.refl K w⟩;have hck':=FD ok (E:=E) hck true w;unfold Builtin.delete_;simp only[h0,AS,AA,AY,Sem.run_bind,underlying,run_program,Result.andThen_ok,hP,Sem.run_pure,ab,hck']
 . rename_i kt et b _;obtain⟨⟨es,c⟩,hm,hl⟩:=ai.1 hl;obtain⟨_,hck,hl⟩:=ai.1 hl;obtain⟨r,hr,hl⟩:=ai.1 hl;have hm:=xS hm;have hw:=H.map hm;have hnr:¬(AO.mp es c).ro:=fun h=>h
   obtain⟨kd,hkd⟩:∃kd,P.underlying kt=some kd:=by
    unfold ckKey at hck;simp only[qI]at hck;obtain⟨x,hx,_⟩:=ai.1 hck;exact⟨x,ok.und _ _ (cE.1 hx)⟩
   have hfind:=qa ok (E:=E) hkd hr w;have hck':=FD ok (E:=E) hck (es.map (kP E)).toArray.isEmpty w
   cases r with
   | some y=>
    obtain⟨i,a,v',n⟩:=y;simp only at hl
    cases hl;refine⟨rfl,_,?_,H.put hm hnr (c:= .map ((es.take i++es.drop (i+1)).map (kP E)).toArray c) rfl,H.dv hm hnr _⟩;obtain⟨_,hat⟩:=L8 es 0 i a v' n hr;simp only[Dd]at hat
    have hlt:i<es.length:=(Ad.1 hat).1;have her:(es.map (kP E)).toArray.eraseIdxIfInBounds i=((es.take i++es.drop (i+1)).map (kP E)).toArray:=by
     apply Array.ext';simp[Array.eraseIdxIfInBounds,hlt,Dk,Eg,Ex]
    unfold Builtin.delete_;simp only[h0,AS,AA,AY,Sem.run_bind,underlying,run_program,Result.andThen_ok,hP,Sem.run_pure,ab,hck',ui hw,Dl,hfind,A2,xo hw,her]
   |none=>
    simp only at hl
    cases hl;refine⟨rfl,w,?_,H,Kept.refl K w⟩;unfold Builtin.delete_;simp only[h0,AS,AA,AY,Sem.run_bind,underlying,run_program,Result.andThen_ok,hP,Sem.run_pure,ab,hck',ui hw,Dl,hfind,BV,xo hw,Oi hw]
 . cases hl
theorem Li (H:bn E h K w) {t:TypeId} {x v:AV} {h':AH} (hl:rangeOp tab h t x= .ok (v,h')) (hE:E.aQ h.next=w.heap.size):
  h'.next=h.next+1/\ ∃w',(Instr.range t (ab E x)).run P w= .ok (ab E v) w'/\bn E h' K w'/\Kept K w w':=by
 simp[rangeOp]at hl
end
end
section
variable [Inhabited aF]
section
variable {P:Program} {tab:aZ} (ok:bw P tab) {E:Env} {h:AH} {K:KS} {w:World}
theorem oV {ts:T AV} {ρ:Operand->Value} (hρ:∀x v,ev ts x= .ok v->ρ x=ab E v):∀(l:List Operand) (vs:List AV),iR ts l= .ok vs->l.map ρ=aY E vs:=by
 intro l;induction l with
 |nil=>intro vs h;simp only[iR]at h;cases h;rfl
 |cons x l ih=>
  intro vs h;simp only[iR]at h;obtain⟨v,hv,h⟩:=ai.1 h;obtain⟨vs',hvs,h⟩:=ai.1 h
  cases h;simp[hρ x v hv,ih vs' hvs]
theorem Ct {ts:T AV} {ρ:Operand->Value} (hρ:∀x v,ev ts x= .ok v->ρ x=ab E v):∀(l:List (Nat×Operand)) (vs:List (Nat×AV)),kF ts l= .ok vs->
  l.map (fun p=>(p.1,ρ p.2))=vs.map fun p=>(p.1,ab E p.2):=by
 intro l;induction l with
 |nil=>intro vs h;simp only[kF]at h;cases h;rfl
 |cons x l ih=>
  intro vs h;obtain⟨i,x⟩:=x;simp only[kF]at h;obtain⟨v,hv,h⟩:=ai.1 h;obtain⟨vs',hvs,h⟩:=ai.1 h
  cases h;simp[hρ x v hv,ih vs' hvs]
theorem KE (H:bn E h K w) {it v:AV} (he:entryOp h it= .ok v):(Instr.entry (ab E it)).run P w= .ok (ab E v) w:=by
 simp[entryOp]at he
theorem LG {k:IntKind}:∀(l:List AV) (x:Int) (v:AV),o5 k x l= .ok v->((aY E l).foldlM Builtin.min2 (.int k x)).run P w= .ok (ab E v) w:=by
 intro l;induction l with
 |nil=>intro x v h;simp only[o5]at h;cases h;rfl
 |cons a l ih=>
  intro x v h
  cases a<;>simp only[o5]at h<;>(try cases h)
  simp only[bA,List.foldlM_cons,Sem.run_bind,ab,Builtin.min2,Sem.run_pure,Result.andThen_ok];exact ih _ v h
theorem LF {k:IntKind}:∀(l:List AV) (x:Int) (v:AV),oY k x l= .ok v->((aY E l).foldlM Builtin.max2 (.int k x)).run P w= .ok (ab E v) w:=by
 intro l;induction l with
 |nil=>intro x v h;simp only[oY]at h;cases h;rfl
 |cons a l ih=>
  intro x v h
  cases a<;>simp only[oY]at h<;>(try cases h)
  simp only[bA,List.foldlM_cons,Sem.run_bind,ab,Builtin.max2,Sem.run_pure,Result.andThen_ok];exact ih _ v h
theorem Kv (H:bn E h K w) {argTypes:Array TypeId} {type:TypeId} {x v:AV} {h':AH} (hs:xN h x= .ok (v,h')):
   h'=h/\(Builtin.unsafeSliceData_ argTypes type #[ab E x]).run P w= .ok (ab E v) w:=by
 unfold xN at hs;split at hs
 . cases hs;exact⟨rfl,rfl⟩
 . rename_i b off n cap;obtain⟨c,hc,hs⟩:=ai.1 hs;obtain⟨_,h0,hs⟩:=ai.1 hs
   cases hs;refine⟨rfl,?_⟩;have hcap:=xA H hc;have h0:=dK.1 h0;have:cap.val (E.cap b)≠0:=by
    intro e;rw[e]at hcap;have:c=0:=by omega
    subst this;simp at h0
   obtain⟨k,hk⟩:∃k,cap.val (E.cap b)=k+1:=⟨cap.val (E.cap b) - 1,by omega⟩;simp only[ab];rw[hk];rfl
 . cases hs
theorem Mn (P:Program):∃d,P.depth=d+1:=⟨2*(P.types.size+Made.depth)+1,rfl⟩
include ok in
theorem J2 (H:bn E h K w) {argTypes:Array TypeId} {t ty:TypeId} (h0:argTypes[0]? =some t) {x y v:AV} {h':AH} (hs:unsafeString tab h t x y= .ok (v,h')):
  h'.next=h.next/\ ∃w',(Builtin.unsafeString_ argTypes ty #[ab E x,ab E y]).run P w= .ok (ab E v) w'/\bn E h' K w'/\Kept K w w':=by
 simp[unsafeString]at hs
def kZ (P:Program) (w:World) (b:Builtin) (argTypes:Array TypeId) (X:Value) (m:Nat):Nat×Nat:=
 match b with
 | .append=>ml w X m (P.elem (argTypes.getD 0 0))
 |_=>(w.heap.size,0)
def sM:List AV->Nat
 |[_, .str s]=>s.length
 |[_, .sl _ _ n _]=>n
 |[_, .int _ (.ofNat n)]=>n
 |_=>0
include ok
theorem KT (H:bn E h K w) {b:Builtin} {argTypes:Array TypeId} {args:List AV} {v:AV} {h':AH} (hb:builtin tab b argTypes args h= .ok (v,h'))
   (hE:h.next<h'.next->E.aQ h.next=(kZ P w b argTypes (((aY E args)[0]?).getD undef) (sM args)).1/\E.cap h.next=(kZ P w b argTypes (((aY E args)[0]?).getD undef) (sM args)).2)
   (ty:TypeId) (consts:Array Bool):
   (h.next<=h'.next/\h'.next<=h.next+1)/\ ∃w',(Go.builtin b argTypes ty consts (aY E args).toArray).run P w= .ok (.value (ab E v)) w'/\bn E h' K w'/\Kept K w w':=by
 unfold builtin at hb;split at hb
 ·
   rename_i x;obtain⟨t,ht,hb⟩:=ai.1 hb;obtain⟨u,hu,hb⟩:=ai.1 hb;have ht:=cE.1 ht;have hP:=ok.und t u (cE.1 hu);have hgo:∀(n:Nat),(Builtin.len_ argTypes ty (aY E [x]).toArray).run P w= .ok (Go.goInt n) w->
       (Go.builtin .len argTypes ty consts (aY E [x]).toArray).run P w= .ok (.value (ab E (goInt n))) w:=by
     intro n hn;simp only[Go.builtin,Sem.run_bind,hn,Result.andThen_ok,Sem.run_pure];rfl
   split at hb
   . rename_i e;obtain⟨d,hd,hb⟩:=ai.1 hb;have hPe:=ok.und e d (cE.1 hd);split at hb
     . cases hb;refine⟨by omega,w,hgo _ ?_,H,Kept.refl K w⟩;unfold Builtin.len_;simp[ht,underlying,hP,hPe]
     . cases hb
   . obtain⟨n,hn,hb⟩:=ai.1 hb
     cases hb;refine⟨by omega,w,hgo _ ?_,H,Kept.refl K w⟩;unfold Builtin.len_;unfold lenOf at hn;split at hn<;>(try cases hn)
     case h_7=>
       obtain⟨⟨es,c⟩,hm,hn⟩:=ai.1 hn
       cases hn;have hw:=H.map (xS hm);simp[ht,underlying,hP,ab,ui hw]
     all_goals simp[ht,underlying,hP,ab,qA]
 ·
   rename_i x;obtain⟨t,ht,hb⟩:=ai.1 hb;obtain⟨u,hu,hb⟩:=ai.1 hb;have ht:=cE.1 ht;have hP:=ok.und t u (cE.1 hu);split at hb
   . cases hb;refine⟨by omega,w,?_,H,Kept.refl K w⟩;simp[Go.builtin,Builtin.cap_,ht,underlying,hP,ab,goInt,Go.goInt]
   . cases hb;refine⟨by omega,w,?_,H,Kept.refl K w⟩;simp[Go.builtin,Builtin.cap_,ht,underlying,hP,ab,goInt,Go.goInt,fD.val]
   . cases hb
 ·
   rename_i x y;obtain⟨t,ht,hb⟩:=ai.1 hb;obtain⟨u,hu,hb⟩:=ai.1 hb;have ht:=cE.1 ht;have hu:=cE.1 hu;obtain⟨du,hdu,hb⟩:=ai.1 hb;have hPu:=ok.und u du (cE.1 hdu);split at hb
   . rename_i ki _;obtain⟨dt,hdt,hb⟩:=ai.1 hb;have hPt:=ok.und t dt (cE.1 hdt);split at hb
     . rename_i e;unfold CJ at hb;obtain⟨n,hn,hb⟩:=ai.1 hb;obtain⟨by_,hby,hb⟩:=ai.1 hb;obtain⟨_,hnz,hb⟩:=ai.1 hb;obtain⟨m,hm,hb⟩:=ai.1 hb;obtain⟨_,hlim,hb⟩:=ai.1 hb;obtain⟨z,hz,hb⟩:=ai.1 hb;obtain⟨zc,hzc,hb⟩:=ai.1 hb;obtain⟨_,hzl,hb⟩:=ai.1 hb;have hnz:n≠0:=by
         have:=dK.1 hnz;rintro rfl;simp at this
       have hlim:=dK.1 hlim;rw[Ab]at hlim;have hl1:=Al hlim.1;have hl2:=Al hlim.2;have hzl:=Af (dK.1 hzl);obtain⟨i,hi,hin⟩:=ok.siz _ _ (cE.1 hn);obtain⟨i',hi',hiby⟩:=ok.byt _ _ (cE.1 hby);rw[hi]at hi';cases hi';obtain⟨i',hi',hzi⟩:=ok.j3 _ _ (cE.1 hz);rw[hi]at hi';cases hi';have hsl:sM [x,y]=m:=by
         obtain⟨k,rfl⟩:=oL hm;rfl
       have hel:P.elem (argTypes.getD 0 0)=e:=by
         have:argTypes.getD 0 0=t:=by
           rw[De,ht];rfl
         rw[this];simp[Program.elem,hPt]
       have hE':h.next<h'.next->E.aQ h.next=(ml w (ab E x) m e).1/\E.cap h.next=(ml w (ab E x) m e).2:=by
         intro hlt;have:=hE hlt;simp only[kZ,hsl,hel,bA,AA,AK]at this;exact this
       obtain⟨h1,w',h2,h3,h4⟩:=zT ok H (ty:=ty) (argTypes:=argTypes) (Y:=ab E y) hn hnz (cE.1 hby)
         (fun i' hi'=>by
           rw[hi]at hi';cases hi';exact RH ht hu hPt hPu hi (hzi E) hzc (by rw[hzl,hin]) (by rw[hin];exact hnz) hm hl1 (by rw[hiby];exact hl2)) hb hE'
       refine⟨h1,w',?_,h3,h4⟩;simp only[Go.builtin,Sem.run_bind];have:(aY E [x,y]).toArray=#[ab E x,ab E y]:=rfl;rw[this,h2];rfl
     . cases hb
   . rename_i hni;obtain⟨dt,hdt,hb⟩:=ai.1 hb;have hPt:=ok.und t dt (cE.1 hdt);split at hb
     . rename_i e;obtain⟨n,hn,hb⟩:=ai.1 hb;obtain⟨by_,hby,hb⟩:=ai.1 hb;obtain⟨_,hnz,hb⟩:=ai.1 hb;obtain⟨⟨m,news⟩,hs,hb⟩:=ai.1 hb;have hnz:n≠0:=by
         have:=dK.1 hnz;rintro rfl;simp at this
       have hm:sM [x,y]=m:=by
         cases y<;>simp only[source]at hs<;>(try cases hs)<;>(try rfl)
         . obtain⟨_,_,hs⟩:=ai.1 hs
           cases hs;rfl
         . obtain⟨_,_,hs⟩:=ai.1 hs
           cases hs;rfl
         . split at hs<;>first|(rename_i hv;cases hv;cases hs;rfl)|(rename_i hv;cases hv;done)|(cases hs;rfl)|(cases hs;done)
       have hel:P.elem (argTypes.getD 0 0)=e:=by
         have:argTypes.getD 0 0=t:=by
           rw[De,ht];rfl
         rw[this];simp[Program.elem,hPt]
       have hE':h.next<h'.next->E.aQ h.next=(ml w (ab E x) m e).1/\E.cap h.next=(ml w (ab E x) m e).2:=by
         intro hlt;have:=hE hlt;simp only[kZ,hm,hel,bA,AA,AK]at this;exact this
       obtain⟨h1,w',h2,h3,h4⟩:=zT ok H (ty:=ty) (argTypes:=argTypes) (Y:=ab E y) hn hnz (cE.1 hby)
         (fun i hi=>by
           obtain⟨i',hi',hin⟩:=ok.siz _ _ (cE.1 hn);rw[hi]at hi';cases hi';exact RE ht hu hPt hPu (fun k e=>hni k e) hi hin hs) hb hE'
       refine⟨h1,w',?_,h3,h4⟩;simp only[Go.builtin,Sem.run_bind];have:(aY E [x,y]).toArray=#[ab E x,ab E y]:=rfl;rw[this,h2];rfl
     . cases hb
 ·
   rename_i x y;obtain⟨t,ht,hb⟩:=ai.1 hb;obtain⟨u,hu,hb⟩:=ai.1 hb;have ht:=cE.1 ht;have hP:=ok.und t u (cE.1 hu);split at hb
   . rename_i e;obtain⟨n,hn,hb⟩:=ai.1 hb;obtain⟨⟨m,cs⟩,hs,hb⟩:=ai.1 hb;obtain⟨hnl,hlen,hf⟩:=Fv (P:=P) (E:=E) (K:=K) hs;have hgo:∀(base:Option Addr) (dLen c:Nat),ab E x= .slice base dLen c->(Builtin.copy_ argTypes ty (aY E [x,y]).toArray).run P w=
         ((match base with
           |none=>(Result.ok () w:Result Unit)
           |some a=>(storeCells a (aY E (cs.take (Nat.min m dLen*n)))).run P w).andThen fun _ w'=> .ok (Go.goInt (Nat.min m dLen)) w'):=by
       intro base dLen c hx;unfold Builtin.copy_;have h2:(aY E [x,y]).toArray=#[ab E x,ab E y]:=rfl;rw[h2];simp only[ht,AS,AA,AY,Sem.run_bind,underlying,run_program,Result.andThen_ok,hP,Sem.run_pure,hx,hlen,jw ok hn,
         hf w H (Nat.min m dLen) (Nat.min_le_left _ _)]
       cases base<;>simp[Result.andThen]
     cases x with
     | nils=>
       simp only at hb
       cases hb;refine⟨by omega,w,?_,H,Kept.refl K w⟩;simp only[Go.builtin,Sem.run_bind];rw[hgo none 0 0 rfl];simp[Result.andThen,goInt,ab,Go.goInt]
     | emp b off l n' k=>
       simp only at hb
       cases hb;refine⟨by omega,w,?_,H,Kept.refl K w⟩;simp only[Go.builtin,Sem.run_bind];rw[hgo _ 0 _ rfl];simp[Result.andThen,goInt,ab,Go.goInt,storeCells]
     | sl b off len cap=>
       simp only at hb;obtain⟨h2,hw,hb⟩:=ai.1 hb
       cases hb;obtain⟨w',hst,H',hk⟩:=uk (P:=P) H hw;refine⟨by rw[tM hw];omega,w',?_,H',hk⟩;simp only[Go.builtin,Sem.run_bind];rw[hgo _ len _ rfl];simp only[hst,Result.andThen_ok];rfl
     |_=>cases hb
   . cases hb
 ·
   rename_i x;obtain⟨t,ht,hb⟩:=ai.1 hb;obtain⟨u,hu,hb⟩:=ai.1 hb;have ht:=cE.1 ht;have hP:=ok.und t u (cE.1 hu);have h2:(aY E [x]).toArray=#[ab E x]:=rfl;split at hb
   . cases hb;refine⟨by omega,w,?_,H,Kept.refl K w⟩;simp[Go.builtin,Builtin.clear_,ht,underlying,hP,ab]
   . cases hb;refine⟨by omega,w,?_,H,Kept.refl K w⟩;simp[Go.builtin,Builtin.clear_,ht,underlying,hP,ab]
   . cases hb;refine⟨by omega,w,?_,H,Kept.refl K w⟩;simp[Go.builtin,Builtin.clear_,ht,underlying,hP,ab]
   . obtain⟨⟨es,c⟩,hm,hb⟩:=ai.1 hb
     cases hb;have hm:=xS hm;have hw:=H.map hm;have hnr:¬(AO.mp es c).ro:=fun h=>h
     refine⟨by simp,_,?_,H.put hm hnr (c:= .map #[] c) rfl,H.dv hm hnr _⟩;simp only[Go.builtin,Builtin.clear_,h2,ht,AS,AA,Sem.run_bind,underlying,run_program,Result.andThen_ok,hP,Sem.run_pure,ab,ui hw,xo hw];rfl
   . rename_i e b off len cap _ _;obtain⟨z,hz,hb⟩:=ai.1 hb;obtain⟨zc,hzc,hb⟩:=ai.1 hb;obtain⟨h2',hw,hb⟩:=ai.1 hb
     cases hb;obtain⟨w',hst,H',hk⟩:=uk (P:=P) H hw;refine⟨by rw[tM hw];omega,w',?_,H',hk⟩;have hzz:Builtin.zeroCells (ab E z).cells len=(aY E (rep len zc)).toArray:=by
       rw[l7 hzc,rL];by_cases h0:0<zc.length
       . exact zS len _ (by simpa using h0)
       . have:zc=[]:=AG (by omega);subst this;have:fW len []=[]:=AG (by simp[xa]);simp[Builtin.zeroCells,this]
     simp only[Go.builtin,Builtin.clear_,h2,ht,AS,AA,Sem.run_bind,underlying,run_program,Result.andThen_ok,hP,Sem.run_pure,ab]
     cases len with
     | zero=>
       simp only[rep,dZ,storeCells]at hst
       cases hst;rfl
     | succ len=>
       simp only[Sem.run_bind,sh ok hz E,Result.andThen_ok,hzz,Dl,hst,Sem.run_pure];rfl
   . cases hb
 ·
   rename_i m k;obtain⟨t,ht,hb⟩:=ai.1 hb;obtain⟨h2,hd,hb⟩:=ai.1 hb
   cases hb;obtain⟨h3,w',h4,h5,h6⟩:=L4 ok H (ty:=ty) (cE.1 ht) hd;refine⟨by omega,w',?_,h5,h6⟩;have:(aY E [m,k]).toArray=#[ab E m,ab E k]:=rfl;simp only[Go.builtin,Sem.run_bind,this,h4,Result.andThen_ok,Sem.run_pure];rfl
 ·
   obtain⟨h1,h2⟩:=Kv (P:=P) H (type:=ty) (argTypes:=argTypes) hb;subst h1;refine⟨by omega,w,?_,H,Kept.refl K w⟩;simp only[Go.builtin,Sem.run_bind];rw[show ∀x:AV,(aY E [x]).toArray=#[ab E x]from fun _=>rfl,h2];rfl
 ·
   obtain⟨t,ht,hb⟩:=ai.1 hb;obtain⟨h1,w',h2,h3,h4⟩:=J2 ok H (ty:=ty) (cE.1 ht) hb;refine⟨by omega,w',?_,h3,h4⟩;simp only[Go.builtin,Sem.run_bind];rw[show ∀x y:AV,(aY E [x,y]).toArray=#[ab E x,ab E y]from fun _ _=>rfl,h2];rfl
 ·
   obtain⟨v',hv,hb⟩:=ai.1 hb
   cases hb;refine⟨by omega,w,?_,H,Kept.refl K w⟩;simp only[Go.builtin,Sem.run_bind,Builtin.min_,Dl,bA,ab];rw[LG _ _ _ hv];rfl
 . obtain⟨v',hv,hb⟩:=ai.1 hb
   cases hb;refine⟨by omega,w,?_,H,Kept.refl K w⟩;simp only[Go.builtin,Sem.run_bind,Builtin.max_,Dl,bA,ab];rw[LF _ _ _ hv];rfl
 . cases hb
end
end
section
variable [Inhabited aF]
section
variable {P:Program} {tab:aZ} (ok:bw P tab) {E:Env} {h:AH} {K:KS} {w:World}
theorem Le {e count s:Nat} (hs:P.cellsOf e=s) (h0:s≠0) (hl:1<=count):liesAt P P.depth e count 0 e 1=true:=by
 obtain⟨d,hd⟩:=Mn P;have h1:sameLayout P P.depth e e=true:=by
  rw[hd];simp[sameLayout]
 have h2:rowAt P (sameLayout P P.depth · e) P.depth e count 0 1=true:=by
  conv=>lhs;arg 3;rw[hd]
  unfold rowAt;simp[hs,h0,h1,hl]
 conv=>lhs;arg 2;rw[hd]
 unfold liesAt;simp only[BL];exact Or.inl h2
include ok
theorem Km (H:bn E h K w) {src dst t:TypeId} (hs:P.underlying src=some (.pointer t)) (hd:P.underlying dst=some .unsafePointer) {x v:AV} {h':AH}
   (hc:xD tab h t x= .ok (v,h')):h'=h/\(Go.convert src dst (ab E x)).run P w= .ok (ab E v) w:=by
 unfold xD at hc;split at hc
 . cases hc;refine⟨rfl,?_⟩;simp[Go.convert,Conv.unsafePointer,underlying,hs,hd,ab]
 . rename_i b off;obtain⟨⟨cs,e,sz,ext,bk⟩,hca,hc1⟩:=ai.1 hc;obtain⟨n,hn,hc2⟩:=ai.1 hc1;obtain⟨_,hck,hc3⟩:=ai.1 hc2;clear hc hc1 hc2
   cases hc3;refine⟨rfl,?_⟩;have hck:=dK.1 hck;simp only[Ab,AI,B9]at hck;have hn0:n≠0:=by
    intro e;subst e;simp at hck
   have hlt:off<cs.length:=by simpa using hck.2
   obtain⟨arr,fz,hw,⟨rest,hrest⟩,hext,hmk⟩:=H.cells (gx hca);have hsz:cs.length<=arr.size:=by
    have:=Ax List.length hrest;simp at this;omega
   obtain⟨i,hi,hin⟩:=ok.siz t n (cE.1 hn);have:¬(arr.size<=off):=by omega
   simp[Go.convert,Conv.unsafePointer,Conv.seenAt,viewAt,cellsIn,World.shape?,hw,underlying,hs,hd,ab,sizeOf,typeInfo,hi,hin,hn0,this]
 . cases hc
theorem J7 (H:bn E h K w) {src dst u:TypeId} (hs:P.underlying src=some .unsafePointer) (hd:P.underlying dst=some (.pointer u)) {x v:AV} {h':AH}
   (hc:xe tab h u x= .ok (v,h')):h'=h/\(Go.convert src dst (ab E x)).run P w= .ok (ab E v) w:=by
 unfold xe at hc;split at hc
 . cases hc;refine⟨rfl,?_⟩;simp[Go.convert,Conv.unsafePointer,underlying,hs,hd,ab]
 . rename_i b off;obtain⟨⟨cs,e,sz,ext,bk⟩,hca,hc1⟩:=ai.1 hc;obtain⟨n,hn,hc2⟩:=ai.1 hc1;obtain⟨_,hck,hc3⟩:=ai.1 hc2;clear hc hc1 hc2
   cases hc3;refine⟨rfl,?_⟩;have hck:=dK.1 hck;simp only[Ab,AI]at hck;obtain⟨⟨⟨he,hn1⟩,ho⟩,hle⟩:=hck;have hn0:n≠0:=by
    intro e;subst e;simp at hn1
   have he:=Af he;have ho:=Af ho;have hle:=Al hle
   try simp only at he hle
   subst he ho;obtain⟨arr,fz,hw,⟨rest,hrest⟩,hext,hmk⟩:=H.cells (gx hca);have hsz:cs.length<=arr.size:=by
    have:=Ax List.length hrest;simp at this;omega
   obtain⟨i,hi,hin⟩:=ok.siz e n (cE.1 hn);have hcells:P.cellsOf e=n:=by simp[Program.cellsOf,hi,hin]
   have h1:1<=arr.size / n:=by
    rw[Fi (by omega)];omega
   have hl:=Le (P:=P) hcells hn0 h1;simp[Go.convert,Conv.unsafePointer,Conv.seenAt,viewAt,World.shape?,hw,underlying,hs,hd,ab,sizeOf,typeInfo,hi,hin,hn0,variablesAt,hcells,hl]
 . cases hc
theorem Kb (H:bn E h K w) {src dst:TypeId} {x v:AV} {h':AH} (hc:l9 tab h src dst x= .ok (v,h'))
   (hE:h.next<h'.next->E.aQ h.next=w.heap.size/\E.cap h.next=grownCap w (vG x) 0 (P.elem dst)):
   (h.next<=h'.next/\h'.next<=h.next+1)/\ ∃w',(Go.convert src dst (ab E x)).run P w= .ok (ab E v) w'/\bn E h' K w'/\Kept K w w':=by
 unfold l9 at hc;obtain⟨d,hd,hc1⟩:=ai.1 hc;have hPd:=ok.und dst d (cE.1 hd);split at hc1
 . obtain⟨s,hs,hc2⟩:=ai.1 hc1;have hPs:=ok.und src s (cE.1 hs);split at hc2
   . obtain⟨h1,h2⟩:=Km ok H hPs hPd hc2;subst h1;exact⟨by omega,w,h2,H,Kept.refl K w⟩
   . cases hc2
 . obtain⟨s,hs,hc2⟩:=ai.1 hc1;have hPs:=ok.und src s (cE.1 hs);split at hc2
   . obtain⟨h1,h2⟩:=J7 ok H hPs hPd hc2;subst h1;exact⟨by omega,w,h2,H,Kept.refl K w⟩
   . cases hc2
 . exact KV ok H hc1 hE
end
end
section
variable [Inhabited aF]
section
variable {P:Program} {tab:aZ} (ok:bw P tab) {E:Env} {h:AH} {K:KS} {w:World}
theorem fN {ρ:Operand->Value} {o:Oper} {s:Sem Value} {a:Value} {w w':World} (hx:execOp ρ o=(do pure (.value (<-s)))) (hs:s.run P w= .ok a w'):
  (execOp ρ o).run P w= .ok (.value a) w':=by
 rw[hx];simp[hs]
theorem tE {ρ:Operand->Value} {o:Oper} {s:Sem Unit} {w w':World} (hx:execOp ρ o=(do s;pure .skip)) (hs:s.run P w= .ok () w'):
  (execOp ρ o).run P w= .ok .skip w':=by
 rw[hx];simp[hs]
def aD (P:Program) (s:Sem Next) (E:Env) (K:KS) (w:World) (v:AV) (h':AH):Prop:=
 ∃r w',s.run P w= .ok r w'/\yJ r (ab E v)/\bn E h' K w'/\Kept K w w'
theorem aD.value {s:Sem Next} {v:AV} {h':AH} {w':World} (hs:s.run P w= .ok (.value (ab E v)) w') (H:bn E h' K w') (hk:Kept K w w'):aD P s E K w v h':=
 ⟨_,w',hs, .inl rfl,H,hk⟩
theorem aD.same {s:Sem Next} {v:AV} (H:bn E h K w) (hs:s.run P w= .ok (.value (ab E v)) w):aD P s E K w v h:=
 ⟨_,w,hs, .inl rfl,H,Kept.refl K w⟩
theorem aD.unit {s:Sem Next} {h':AH} {w':World} (hs:s.run P w= .ok .skip w') (H:bn E h' K w') (hk:Kept K w w'):aD P s E K w (.bj []) h':=
 ⟨_,w',hs, .inr ⟨rfl,rfl⟩,H,hk⟩
theorem CB (ok:bw P tab) {t:TypeId} {f:Nat} {fd:Field} (hf:qx tab t f= .ok fd):∃fs,P.underlying t=some (.struct fs)/\fs[f]? =some fd:=by
 unfold qx at hf;obtain⟨d,hd,hf⟩:=ai.1 hf;have hP:=ok.und t d (cE.1 hd);split at hf
 . exact⟨_,hP,cE.1 hf⟩
 . cases hf
theorem QF {s:List UInt8} {i:Nat} {b:UInt8} (h:s[i]? =some b):(⟨s.toArray⟩:ByteArray)[i]? =some b:=by
 obtain⟨hlt,rfl⟩:=Ad.1 h;exact getElem?_pos (⟨s.toArray⟩:ByteArray) i (show i<(⟨s.toArray⟩:ByteArray).size from hlt)
def Good (P:Program) (o:Oper) (ts:T AV) (h:AH) (v:AV) (h':AH) (w:World) (ρ:Operand->Value):Prop:=
 ∃f:Nat×Nat,∀E K,bn E h K w->(∀x u,ev ts x= .ok u->ρ x=ab E u)->
  (h.next<h'.next->E.aQ h.next=f.1/\E.cap h.next=f.2)->(h.next<=h'.next/\h'.next<=h.next+1)/\aD P (execOp ρ o) E K w v h'
theorem uo {e:TypeId} {cs:List AV} {ext:Bool} {bk:BK} {h':AH} {b:Nat} (hn:newRow tab h e cs ext bk= .ok (h',b)):h.next<h'.next:=by
 obtain⟨n,hs,rfl,rfl⟩:=gP hn;simp
theorem Kn {t:TypeId} {len:Nat} {ps:List (Nat×AV)} {v:AV} {h':AH} (hb:buildSlice tab h t len ps= .ok (v,h')):h.next<h'.next:=by
 unfold buildSlice at hb;obtain⟨u,hu,hb1⟩:=ai.1 hb;split at hb1
 . obtain⟨n,_,hb2⟩:=ai.1 hb1;obtain⟨_,_,hb3⟩:=ai.1 hb2;obtain⟨_,_,hb4⟩:=ai.1 hb3;obtain⟨_,_,hb5⟩:=ai.1 hb4;obtain⟨_,_,hb6⟩:=ai.1 hb5;obtain⟨_,_,hb7⟩:=ai.1 hb6;obtain⟨⟨h1,b⟩,hn,hb8⟩:=ai.1 hb7
   cases hb8;exact uo hn
 . cases hb1
theorem Kp {t:TypeId} {l c v:AV} {h':AH} (hb:makeSlice tab h t l c= .ok (v,h')):h.next<h'.next:=by
 unfold makeSlice at hb;obtain⟨u,hu,hb1⟩:=ai.1 hb;split at hb1
 . obtain⟨n,_,hb2⟩:=ai.1 hb1;obtain⟨_,_,hb3⟩:=ai.1 hb2;obtain⟨_,_,hb4⟩:=ai.1 hb3;obtain⟨_,_,hb5⟩:=ai.1 hb4;obtain⟨_,_,hb6⟩:=ai.1 hb5;obtain⟨_,_,hb7⟩:=ai.1 hb6;obtain⟨_,_,hb8⟩:=ai.1 hb7;obtain⟨_,_,hb9⟩:=ai.1 hb8;obtain⟨⟨h1,b⟩,hn,hb10⟩:=ai.1 hb9
   cases hb10;exact uo hn
 . cases hb1
theorem LQ {t:TypeId} {x v:AV} {h':AH} (hb:rangeOp tab h t x= .ok (v,h')):h.next<h'.next:=by
 simp[rangeOp]at hb
theorem CT (ok:bw P tab) {e:TypeId} {z:AV} {zc:List AV} (hzc:z.cells= .ok zc) {h1:AH} {b:Nat} (hn:newRow tab h e zc= .ok (h1,b)) (H:bn E h K w) (hE:E.aQ h.next=w.heap.size):
  b=h.next/\h1.next=h.next+1/\(Go.newVar e (ab E z)).run P w= .ok ⟨E.aQ h.next,0,none⟩ (w.alloc (.cells (aY E zc).toArray e))/\bn E h1 K (w.alloc (.cells (aY E zc).toArray e))/\Kept K w (w.alloc (.cells (aY E zc).toArray e)):=by
 obtain⟨n,hs,rfl,rfl⟩:=gP hn;refine⟨rfl,rfl,?_,(xH H hE zc e n).1,Kept.alloc H.kb _⟩;rw[Go.newVar,oF,l7 hzc,hE]
set_option maxHeartbeats 1000000 in
include ok in
theorem Cd {ts:T AV} {o:Oper} {v:AV} {h':AH} (hp:eM tab ts h o= .ok (v,h')) (w:World) (ρ:Operand->Value):Good P o ts h v h' w ρ:=by
 unfold eM at hp
 cases hop:o.op<;>rw[hop]at hp<;>dsimp only at hp
 case move x=>
  obtain⟨u,hu,hp1⟩:=ai.1 hp
  cases hp1;exact⟨(0,0),fun E K H hρ _=>⟨by omega,aD.same H (by simp[execOp,hop,hρ _ _ hu])⟩⟩
 case assign x=>
  obtain⟨u,hu,hp1⟩:=ai.1 hp
  cases hp1;exact⟨(0,0),fun E K H hρ _=>⟨by omega,aD.same H (by simp[execOp,hop,hρ _ _ hu])⟩⟩
 case pick c a b=>
  obtain⟨u,hu,hp1⟩:=ai.1 hp;refine⟨(0,0),fun E K H hρ _=>?_⟩;have hc:=hρ _ _ hu;split at hp1
  . obtain⟨x,hx,hp2⟩:=ai.1 hp1
    cases hp2;exact⟨by omega,aD.same H (by simp[execOp,hop,hρ _ _ hx,hc,ab,asBool])⟩
  . obtain⟨x,hx,hp2⟩:=ai.1 hp1
    cases hp2;exact⟨by omega,aD.same H (by simp[execOp,hop,hρ _ _ hx,hc,ab,asBool])⟩
  . cases hp1
 case alloc e=>
  obtain⟨z,hz,hp1⟩:=ai.1 hp;obtain⟨zc,hzc,hp2⟩:=ai.1 hp1;obtain⟨⟨h1,b⟩,hn,hp3⟩:=ai.1 hp2
  cases hp3;refine⟨(w.heap.size,0),fun E K H hρ hE=>?_⟩;have hE1:E.aQ h.next=w.heap.size:=(hE (uo hn)).1;obtain⟨rfl,h2,h3,h4,h5⟩:=CT ok hzc hn H hE1;exact⟨by simp only;omega,aD.value (fN (s:=Instr.alloc e true (.tuple #[])) (by simp[execOp,hop]) (by simp[Instr.alloc,sh ok hz E,h3,ab])) h4 h5⟩
 case box e x=>
  obtain⟨z,hz,hp1⟩:=ai.1 hp;obtain⟨zc,hzc,hp2⟩:=ai.1 hp1;obtain⟨⟨h1,b⟩,hn,hp3⟩:=ai.1 hp2
  cases hp3;refine⟨(w.heap.size,0),fun E K H hρ hE=>?_⟩;have hE1:E.aQ h.next=w.heap.size:=(hE (uo hn)).1;obtain⟨rfl,h2,h3,h4,h5⟩:=CT ok hzc hn H hE1;exact⟨by simp only;omega,aD.value (fN (s:=Instr.box e (ρ x)) (by simp[execOp,hop]) (by simp[Instr.box,hρ _ _ hz,h3,ab])) h4 h5⟩
 case build t ps=>
  obtain⟨l,hl,hp1⟩:=ai.1 hp;obtain⟨u,hu,hp2⟩:=ai.1 hp1
  cases hp2;refine⟨(0,0),fun E K H hρ _=>⟨by omega,aD.same H ?_⟩⟩;refine fN (s:=Instr.build t (ps.map fun(i,x)=>(i,ρ x))) (by simp[execOp,hop]) ?_;have:=MH ok (E:=E) (w:=w) hu;rw[<-Ct hρ _ _ hl]at this;rw[<-this];congr 2
  simp[<-Array.toList_inj]
 case buildSlice t n ps=>
  obtain⟨l,hl,hp1⟩:=ai.1 hp;refine⟨(w.heap.size,0),fun E K H hρ hE=>?_⟩;obtain⟨h1,w',h2,h3,h4⟩:=Ka ok H hp1 (hE (Kn hp1)).1;rw[<-Ct hρ _ _ hl]at h2;refine⟨by omega,aD.value (fN (s:=Instr.buildSlice t n (ps.map fun(i,x)=>(i,ρ x))) (by simp[execOp,hop]) ?_) h3 h4⟩;rw[<-h2];congr 2
  simp[<-Array.toList_inj]
 case load t a=>
  obtain⟨x,hx,hp1⟩:=ai.1 hp;split at hp1
  . obtain⟨u,hu,hp2⟩:=ai.1 hp1
    cases hp2;refine⟨(0,0),fun E K H hρ _=>⟨by omega,aD.same H ?_⟩⟩;refine fN (s:=Instr.loadAt t (ρ a)) (by simp[execOp,hop]) ?_;simp[Instr.loadAt,hρ _ _ hx,ab,Instr.sureAddr,Ch ok H hu]
  . cases hp1
 case store t a x=>
  obtain⟨y,hy,hp1⟩:=ai.1 hp;split at hp1
  . obtain⟨u,hu,hp2⟩:=ai.1 hp1;obtain⟨h1,hh,hp3⟩:=ai.1 hp2
    cases hp3;refine⟨(0,0),fun E K H hρ _=>?_⟩;obtain⟨w',h2,h3,h4⟩:=KJ ok H hh;refine⟨by have:=Kx (tab:=tab) hh;omega,aD.unit (tE (s:=Instr.storeAt t (ρ a) (ρ x)) (by simp[execOp,hop]) ?_) h3 h4⟩;simp[Instr.storeAt,hρ _ _ hy,hρ _ _ hu,ab,Instr.sureAddr,h2]
  . cases hp1
 case nilCheck x=>
  obtain⟨y,hy,hp1⟩:=ai.1 hp;split at hp1
  . cases hp1;exact⟨(0,0),fun E K H hρ _=>⟨by omega,aD.same H (by simp[execOp,hop,hρ _ _ hy,ab])⟩⟩
  . cases hp1;exact⟨(0,0),fun E K H hρ _=>⟨by omega,aD.same H (by simp[execOp,hop,hρ _ _ hy,ab])⟩⟩
  . cases hp1
 case binOp op t x y yt=>
  obtain⟨a,ha,hp1⟩:=ai.1 hp;obtain⟨b,hb,hp2⟩:=ai.1 hp1;obtain⟨c,hc,hp3⟩:=ai.1 hp2
  cases hp3;refine⟨(0,0),fun E K H hρ _=>⟨by omega,aD.same H ?_⟩⟩;have:=MG ok H hc x y;refine fN (s:=do eqGuard op t x y (ρ x) (ρ y);Go.binOp op t (ρ x) (ρ y)) (by simp[execOp,hop]) ?_;rw[hρ _ _ ha,hρ _ _ hb];exact this
 case unOp op t x=>
  obtain⟨a,ha,hp1⟩:=ai.1 hp;obtain⟨c,hc,hp3⟩:=ai.1 hp1
  cases hp3;refine⟨(0,0),fun E K H hρ _=>⟨by omega,aD.same H ?_⟩⟩;refine fN (s:=Op.unary op (ρ x)) (by simp[execOp,hop]) ?_;rw[hρ _ _ ha];exact N0 hc
 case convert s d x=>
  obtain⟨a,ha,hp1⟩:=ai.1 hp;refine⟨(w.heap.size,grownCap w (vG a) 0 (P.elem d)),fun E K H hρ hE=>?_⟩;obtain⟨h1,w',h2,h3,h4⟩:=Kb ok H hp1 hE;refine⟨h1,aD.value (fN (s:=Go.convert s d (ρ x)) (by simp[execOp,hop]) ?_) h3 h4⟩;rw[hρ _ _ ha];exact h2
 case makeInterface t x=>
  obtain⟨d,hd,hp1⟩:=ai.1 hp;have hP:=ok.und t d (cE.1 hd);split at hp1
  . cases hp1
  . rename_i hni;obtain⟨a,ha,hp2⟩:=ai.1 hp1
    cases hp2;refine⟨(0,0),fun E K H hρ _=>⟨by omega,aD.same H ?_⟩⟩;refine fN (s:=Instr.makeInterface t (ρ x)) (by simp[execOp,hop]) ?_;unfold Instr.makeInterface;simp only[Sem.run_bind,underlying,run_program,Result.andThen_ok,hP,Sem.run_pure]
    cases d<;>first|exact absurd rfl (hni _)|(rw[hρ _ _ ha];simp[ab])
 case makeFunc fn fst cap=>
  split at hp
  . rename_i f;obtain⟨a,ha,hp1⟩:=ai.1 hp;obtain⟨b,hb,hp2⟩:=ai.1 hp1
    cases hp2;refine⟨(0,0),fun E K H hρ _=>⟨by omega,aD.same H ?_⟩⟩;refine fN (s:=Instr.makeFunc (.func f) (fst.map ρ) (cap.map ρ)) (by simp[execOp,hop]) ?_;have h1:=oV hρ _ _ ha;have h2:=oV hρ _ _ hb;simp only[Instr.makeFunc,Sem.run_pure,ab,<-h1,<-h2];congr 3<;>simp[<-Array.toList_inj]
  . cases hp
 case makeMap t r=>
  cases r with
  |some x=>cases hp
  | none=>
    cases hp;refine⟨(w.heap.size,0),fun E K H hρ hE=>⟨by simp,?_⟩⟩;refine aD.value (w':=w.alloc (.map #[] 0)) (fN (s:=Instr.makeMap t none) (by simp[execOp,hop]) ?_) (H.new (hE (by simp)).1 (by simp[oh])) (Kept.alloc H.kb _);simp[Instr.makeMap,ab,(hE (by simp)).1]
 case makeSlice t l c=>
  obtain⟨a,ha,hp1⟩:=ai.1 hp;obtain⟨b,hb,hp2⟩:=ai.1 hp1;refine⟨(w.heap.size,0),fun E K H hρ hE=>?_⟩;obtain⟨h1,w',h2,h3,h4⟩:=Kk ok H hp2 (hE (Kp hp2)).1;refine⟨by omega,aD.value (fN (s:=Instr.makeSlice t (ρ l) (ρ c)) (by simp[execOp,hop]) ?_) h3 h4⟩;rw[hρ _ _ ha,hρ _ _ hb];exact h2
 case slice t x lo hi mx=>
  obtain⟨a,ha,hp1⟩:=ai.1 hp;refine⟨(0,0),fun E K H hρ hE=>?_⟩;obtain⟨rfl,h2⟩:=Lq ok H hρ hp1;refine⟨by omega,aD.same H (fN (s:=Instr.sliceAt t (ρ x) (lo.map ρ) (hi.map ρ) (mx.map ρ)) (by simp[execOp,hop]) ?_)⟩;rw[hρ _ _ ha];exact h2
 case fieldAddr st x f=>
  obtain⟨fd,hf,hp1⟩:=ai.1 hp;obtain⟨n,hn,hp2⟩:=ai.1 hp1;obtain⟨_,hck,hp3⟩:=ai.1 hp2;obtain⟨a,ha,hp4⟩:=ai.1 hp3;obtain⟨fs,hP,hfd⟩:=CB ok hf;have hn0:n≠0:=by
    intro e;subst e;simp[R.check]at hck
  split at hp4
  . cases hp4;refine⟨(0,0),fun E K H hρ _=>⟨by omega,aD.same H ?_⟩⟩;refine fN (s:=Instr.fieldAt st (ρ x) f) (by simp[execOp,hop]) ?_;unfold Instr.fieldAt;simp[underlying,hP,hfd,hρ _ _ ha,ab,Instr.sureAddr,fieldPlace,jw ok hn,hn0,add_lit]
  . cases hp4
 case field t x f=>
  obtain⟨fd,hf,hp1⟩:=ai.1 hp;obtain⟨a,ha,hp2⟩:=ai.1 hp1;obtain⟨fs,hP,hfd⟩:=CB ok hf;split at hp2
  . obtain⟨u,hu,hp3⟩:=ai.1 hp2
    cases hp3;refine⟨(0,0),fun E K H hρ _=>⟨by omega,aD.same H ?_⟩⟩;refine fN (s:=Instr.field t (ρ x) f) (by simp[execOp,hop]) ?_;unfold Instr.field;simp[underlying,hP,hfd,hρ _ _ ha,ab,asAgg,se ok hu E w]
  . cases hp2
 case indexAddr t x ix=>
  obtain⟨y,hy,hp0⟩:=ai.1 hp;obtain⟨i,hi,hp1⟩:=ai.1 hp0;obtain⟨d,hd,hp2⟩:=ai.1 hp1;obtain⟨a,ha,hp3⟩:=ai.1 hp2;have hP:=ok.und t d (cE.1 hd);obtain⟨k,rfl⟩:=oL hi;split at hp3
  . obtain⟨_,hck,hp4⟩:=ai.1 hp3;obtain⟨n,hn,hp5⟩:=ai.1 hp4
    cases hp5;have hlt:=dK.1 hck;simp only[B9]at hlt;refine⟨(0,0),fun E K H hρ _=>⟨by omega,aD.same H ?_⟩⟩;refine fN (s:=Instr.indexAt t (ρ x) (ρ ix)) (by simp[execOp,hop]) ?_;unfold Instr.indexAt;simp[underlying,hP,hρ _ _ ha,hρ _ _ hy,ab,Go.asIntOf,Instr.sureAddr,jw ok hn,hlt,add_lit]
  . obtain⟨_,hck,hp4⟩:=ai.1 hp3;obtain⟨n,hn,hp5⟩:=ai.1 hp4
    cases hp5;have hlt:=dK.1 hck;simp only[B9]at hlt;refine⟨(0,0),fun E K H hρ _=>⟨by omega,aD.same H ?_⟩⟩;refine fN (s:=Instr.indexAt t (ρ x) (ρ ix)) (by simp[execOp,hop]) ?_;unfold Instr.indexAt;simp[underlying,hP,hρ _ _ ha,hρ _ _ hy,ab,Go.asIntOf,jw ok hn,hlt,add_lit]
  . cases hp3
 case index t x ix=>
  obtain⟨y,hy,hp0⟩:=ai.1 hp;obtain⟨i,hi,hp1⟩:=ai.1 hp0;obtain⟨d,hd,hp2⟩:=ai.1 hp1;obtain⟨a,ha,hp3⟩:=ai.1 hp2;have hP:=ok.und t d (cE.1 hd);obtain⟨k,rfl⟩:=oL hi;split at hp3
  . obtain⟨_,hck,hp4⟩:=ai.1 hp3;obtain⟨n,hn,hp5⟩:=ai.1 hp4;obtain⟨u,hu,hp6⟩:=ai.1 hp5
    cases hp6;have hlt:=dK.1 hck;simp only[B9]at hlt;refine⟨(0,0),fun E K H hρ _=>⟨by omega,aD.same H ?_⟩⟩;refine fN (s:=Instr.index t (ρ x) (ρ ix)) (by simp[execOp,hop]) ?_;unfold Instr.index;simp[underlying,hP,hρ _ _ ha,hρ _ _ hy,ab,Go.asIntOf,jw ok hn,hlt,se ok hu E w]
  . obtain⟨b,hb,hp4⟩:=ai.1 hp3
    cases hp4;have hb:=cE.1 hb;refine⟨(0,0),fun E K H hρ _=>⟨by omega,aD.same H ?_⟩⟩;refine fN (s:=Instr.index t (ρ x) (ρ ix)) (by simp[execOp,hop]) ?_;unfold Instr.index;simp[underlying,hP,hρ _ _ ha,hρ _ _ hy,ab,Go.asIntOf];rw[QF hb];rfl
  . cases hp3
 case lookup t m k c=>
  obtain⟨a,ha,hp1⟩:=ai.1 hp;obtain⟨b,hb,hp2⟩:=ai.1 hp1;obtain⟨u,hu,hp3⟩:=ai.1 hp2
  cases hp3;refine⟨(0,0),fun E K H hρ _=>⟨by omega,aD.same H ?_⟩⟩;refine fN (s:=Instr.lookup t (ρ m) (ρ k) c) (by simp[execOp,hop]) ?_;rw[hρ _ _ ha,hρ _ _ hb];exact LD ok H hu
 case mapUpdate t m k x=>
  obtain⟨a,ha,hp1⟩:=ai.1 hp;obtain⟨b,hb,hp2⟩:=ai.1 hp1;obtain⟨c,hc,hp3⟩:=ai.1 hp2;obtain⟨h1,hh,hp4⟩:=ai.1 hp3
  cases hp4;refine⟨(0,0),fun E K H hρ _=>?_⟩;obtain⟨h2,w',h3,h4,h5⟩:=zJ ok H hh;refine⟨by omega,aD.unit (tE (s:=Instr.mapUpdate t (ρ m) (ρ k) (ρ x)) (by simp[execOp,hop]) ?_) h4 h5⟩;rw[hρ _ _ ha,hρ _ _ hb,hρ _ _ hc];exact h3
 case insert t m k x=>
  obtain⟨a,ha,hp1⟩:=ai.1 hp;obtain⟨b,hb,hp2⟩:=ai.1 hp1;obtain⟨c,hc,hp3⟩:=ai.1 hp2;obtain⟨h1,hh,hp4⟩:=ai.1 hp3
  cases hp4;refine⟨(0,0),fun E K H hρ _=>?_⟩;obtain⟨h2,w',h3,h4,h5⟩:=zJ ok H hh;refine⟨by omega,aD.unit (tE (s:=Instr.mapUpdate t (ρ m) (ρ k) (ρ x)) (by simp[execOp,hop]) ?_) h4 h5⟩;rw[hρ _ _ ha,hρ _ _ hb,hρ _ _ hc];exact h3
 case mapEntry t m k=>
  obtain⟨a,ha,hp1⟩:=ai.1 hp;obtain⟨b,hb,hp2⟩:=ai.1 hp1;refine⟨(0,0),fun E K H hρ _=>?_⟩;obtain⟨h2,w',h3,h4,h5⟩:=Kq ok H hp2;refine⟨by omega,aD.value (fN (s:=Instr.mapEntry t (ρ m) (ρ k)) (by simp[execOp,hop]) ?_) h4 h5⟩;rw[hρ _ _ ha,hρ _ _ hb];exact h3
 case entryStore t m s x=>
  obtain⟨a,ha,hp1⟩:=ai.1 hp;obtain⟨b,hb,hp2⟩:=ai.1 hp1;obtain⟨c,hc,hp3⟩:=ai.1 hp2;obtain⟨h1,hh,hp4⟩:=ai.1 hp3
  cases hp4;refine⟨(0,0),fun E K H hρ _=>?_⟩;obtain⟨h2,w',h3,h4,h5⟩:=Kc ok (t:=t) H hh;refine⟨by omega,aD.unit (tE (s:=Instr.entryStore t (ρ m) (ρ s) (ρ x)) (by simp[execOp,hop]) ?_) h4 h5⟩;rw[hρ _ _ ha,hρ _ _ hb,hρ _ _ hc];exact h3
 case range t x=>
  obtain⟨a,ha,hp1⟩:=ai.1 hp;refine⟨(w.heap.size,0),fun E K H hρ hE=>?_⟩;obtain⟨h2,w',h3,h4,h5⟩:=Li ok H hp1 (hE (LQ hp1)).1;refine⟨by omega,aD.value (fN (s:=Instr.range t (ρ x)) (by simp[execOp,hop]) ?_) h4 h5⟩;rw[hρ _ _ ha];exact h3
 case entry it=>
  obtain⟨a,ha,hp1⟩:=ai.1 hp;obtain⟨u,hu,hp2⟩:=ai.1 hp1
  cases hp2;refine⟨(0,0),fun E K H hρ _=>⟨by omega,aD.same H ?_⟩⟩;refine fN (s:=Instr.entry (ρ it)) (by simp[execOp,hop]) ?_;rw[hρ _ _ ha];exact KE H hu
 case typeAssert x xt t c=>
  obtain⟨d,hd,hp1⟩:=ai.1 hp;obtain⟨a,ha,hp2⟩:=ai.1 hp1;have hP:=ok.und t d (cE.1 hd);have hx:execOp ρ o=(do pure (.value (<-Instr.typeAssert (ρ x) xt t c))):=by simp[execOp,hop]
  split at hp2
  . cases hp2
  . rename_i u v' hni;split at hp2
    . rename_i hut;subst hut
      cases hp2;refine⟨(0,0),fun E K H hρ _=>⟨by omega,aD.same H (fN hx ?_)⟩⟩;unfold Instr.typeAssert;rw[hρ _ _ ha];simp only[Sem.run_bind,underlying,run_program,Result.andThen_ok,hP,Sem.run_pure,ab]
      cases d<;>first|exact absurd rfl (hni _)|(cases c<;>simp[ab])
    . rename_i hut;obtain⟨_,hck,hp3⟩:=ai.1 hp2;obtain⟨z,hz,hp4⟩:=ai.1 hp3
      cases hp4;have hc:c=true:=dK.1 hck;subst hc;refine⟨(0,0),fun E K H hρ _=>⟨by omega,aD.same H (fN hx ?_)⟩⟩;unfold Instr.typeAssert;rw[hρ _ _ ha];simp only[Sem.run_bind,underlying,run_program,Result.andThen_ok,hP,Sem.run_pure,ab]
      cases d<;>first|exact absurd rfl (hni _)|(simp[ab,hut,sh ok hz E])
  . rename_i hni;obtain⟨_,hck,hp3⟩:=ai.1 hp2;obtain⟨z,hz,hp4⟩:=ai.1 hp3
    cases hp4;have hc:c=true:=dK.1 hck;subst hc;refine⟨(0,0),fun E K H hρ _=>⟨by omega,aD.same H (fN hx ?_)⟩⟩;unfold Instr.typeAssert;rw[hρ _ _ ha];simp only[Sem.run_bind,underlying,run_program,Result.andThen_ok,hP,Sem.run_pure,ab]
    cases d<;>first|exact absurd rfl (hni _)|(simp[ab,sh ok hz E])
  . cases hp2
 case extract t i=>
  obtain⟨a,ha,hp1⟩:=ai.1 hp;split at hp1
  . obtain⟨u,hu,hp2⟩:=ai.1 hp1
    cases hp2;have hu:=cE.1 hu;refine⟨(0,0),fun E K H hρ _=>⟨by omega,aD.same H ?_⟩⟩;refine fN (s:=Instr.extract (ρ t) i) (by simp[execOp,hop]) ?_;rw[hρ _ _ ha];simp[Instr.extract,ab,jD,hu]
  . cases hp1
 case call c=>
  split at hp
  . rename_i b hb;obtain⟨l,hl,hp1⟩:=ai.1 hp;refine⟨kZ P w b c.argTypes (((c.args.toList.map ρ)[0]?).getD undef) (sM l),fun E K H hρ hE=>?_⟩;have hmap:=oV hρ _ _ hl;rw[hmap]at hE;obtain⟨h1,w',h2,h3,h4⟩:=KT ok H hp1 hE o.type (c.args.map fun| .const _=>true|_=>false);refine⟨h1,_,w',?_, .inl rfl,h3,h4⟩;rw[<-h2,<-hmap];have:(c.args.toList.map ρ).toArray=c.args.map ρ:=by simp[<-Array.toList_inj]
    rw[this];simp[execOp,hop,resolve,hb,invoke];rfl
  . cases hp
 all_goals cases hp
end
end
end Go.Am
namespace Go.Am
section
def af.enter (fn:Func) (f:FuncId) (body:Code) (args:List AV) (kind:CallKind):af:=
 {fn:=f,nt:=Nat.max fn.ntmps args.length,tmps:=T.ofList args,todo:=[.code body],defers:=[],mode:= .run,kind,round:=none}
def af.put (fr:af) (d:Option Tmp) (v:AV):T AV:=
 match d with
 |some d=>bif Nat.blt d fr.nt then fr.tmps.set d (some v)else fr.tmps
 |none=>fr.tmps
def af.finish (fr:af) (v:AV):R af:=
 match fr.todo with
 | .inRegion ops (i::rest)::k=> .ok {fr with tmps:=fr.put ((ops[i]?).bind (·.dst)) v,todo:= .inRegion ops rest::k}
 | .jP l::k=> .ok {fr with todo:= .endRange l::k}
 | .beginRound::k=> .ok {fr with todo:=k}
 |_=> .no "finish"
def af.raise (fr:af) (c:List tx):af:=
 match fr.mode with
 | .panicking d=>{fr with mode:= .panicking (c++d)}
 |_=>{fr with mode:= .panicking c}
def exitTo (id:Nat):List bm->Option (List bm)
 | .inBlock j::k=>bif Nat.beq j id then some k else exitTo id k
 |_::k=>exitTo id k
 |[]=>none
inductive ee where
 |next (m:AM)
 |alts (l:List AM)
 |done (v:AV) (h:AH)
section
variable (tab:aZ) (sub:FuncId->List AV->AH->R (List (AV×AH)))
def wanted (ops:Array Oper) (o:Oper) (ts:T AV):R Bool:=
 match o.guard with
 |none=> .ok true
 |some (j,w)=>
  match((ops[j]?).bind (·.dst)).bind ts.get with
  |some (.bool b)=> .ok (b==w)
  |some (.raw _)=> .no "guard"
  |_=> .ok false
def doReturn (fr:af) (cs:List af) (v:AV) (h:AH):R ee:=
 match cs with
 |[]=>
  match fr.kind with
  | .normal=> .ok (.done v h)
  |_=> .no "doReturn: end"
 | c::rest=>
  match fr.kind with
  | .normal=>do .ok (.next {fr:= <-c.finish v,cs:=rest,h})
  | .deferred=>
   match c.mode with
   | .panicking ({recovered:=true, .. }::_)=> .ok (.next {fr:={c with mode:= .returning},cs:=rest,h})
   |_=> .ok (.next {fr:=c,cs:=rest,h})
  |_=> .no "doReturn: kind"
def leave (fr:af) (cs:List af) (h:AH) (jump:Option Code):R ee:=
 match fr.round with
 |none=>
  match jump with
  |none=> .ok (.next {fr:={fr with mode:= .returning},cs,h})
  |some .ret=> .ok (.next {fr:={fr with mode:= .returning},cs,h})
  |_=> .no "leave"
 | some l=>
  match h.get l,cs with
  |some (.loop _ _ fn ts nt ps a b d),_::_=>
   doReturn fr cs (.bool jump.isNone) (h.set l (.loop (if jump.isNone then .ready else .done) jump fn ts nt ps a b d))
  |_,_=> .no "leave: loop"
def yK (b:ByteArray) (c:UInt8):Int:=
 match(List.range b.size).find? fun i=>b[i]! ==c with
 |some i=>(i:Nat)
 |none=> -1
def extern (tag:Nat) (fn:Func) (args:List AV) (h:AH):R (AV×AH):=
 match tag,args with
 |1,[.str a, .str b]=> .ok (.int .i64 (Extern.BytealgCompare.cmp ⟨a.toArray⟩ ⟨b.toArray⟩),h)
 |2,[x]=> .ok (x,h)
 | 3,[.int .i64 (.ofNat n)]=>do
  let t<-R.of "MakeNoZero" fn.resultTypes[0]?
  match<-und tab t with
  | .slice e=>do
   let sz<-siz tab e
   R.check "MakeNoZero" (Nat.ble n 1048576&&Nat.beq sz 1)
   let (h',b)<-newRow tab h e [] true
   .ok (.sl b 0 n (.tail 0),h')
  |_=> .no "MakeNoZero"
 | 4,[x,y]=>do
  let t<-R.of "overlaps" fn.params[0]?
  match<-und tab t with
  | .slice e=>do
   let sz<-siz tab e
   R.check "overlaps: size" (!(Nat.beq sz 0))
   match x,y with
   | .nils, .nils=> .ok (.bool false,h)
   | .nils, .sl .. => .ok (.bool false,h)
   | .sl .., .nils=> .ok (.bool false,h)
   | .sl a i n _, .sl b j m _=>do
    match h.get a,h.get b with
    |some (.cells _ _ _ _ .rw),some (.cells _ _ _ _ .rw)=>
     bif Nat.beq n 0||Nat.beq m 0 then .ok (.bool false,h)
     else .ok (.bool (Nat.beq a b&&Nat.blt i (j+m*sz)&&Nat.blt j (i+n*sz)),h)
    |_,_=> .no "overlaps"
   |_,_=> .no "overlaps"
  |_=> .no "overlaps"
 |5,[.str a, .int .u8 c]=> .ok (.int .i64 (yK ⟨a.toArray⟩ c.toNat.toUInt8),h)
 |_,_=> .no "extern"
def uH (f:FuncId) (fn:Func) (args:List AV) (h:AH):R (AV×AH):=
 match tab.ext.get f with
 |some tag=>extern tab tag fn args h
 |none=> .no "extern"
def callFn (fr:af) (cs:List af) (h:AH) (f:FuncId) (args:List AV) (kind:CallKind):R ee:=
 match tab.fns.get f with
 | some fn=>
  match fn.body with
  | some body=>
   bif tab.merge f&&kind== .normal then do
    let outs<-sub f args h
    let ms<-outs.mapM fun(v,h')=>do R.ok {fr:= <-fr.finish v,cs,h:=h':AM}
    .ok (.alts ms)
   else .ok (.next {fr:=af.enter fn f body args kind,cs:=fr::cs,h})
  | none=>
   match kind with
   | .normal=>do
    let (v,h')<-uH tab f fn args h
    .ok (.next {fr:= <-fr.finish v,cs,h:=h'})
   |_=> .no "callFn: no body"
 |none=> .no "callFn: no function"
def callYield (fr:af) (cs:List af) (h:AH) (l:Nat) (args:List AV) (kind:CallKind):R ee:= .no "callYield"
def callTarget (fr:af) (cs:List af) (h:AH) (d:AD) (kind:CallKind):R ee:=
 match d.target with
 | .fn (.func f) captured=>callFn tab sub fr cs h f (d.args++captured) kind
 | .lG l=>callYield fr cs h l d.args kind
 |_=> .no "callTarget"
def qw (f:AV) (args:List AV):R AD:=
 match f with
 | .fn fn first captured=> .ok {target:= .fn fn captured,args:=first++args}
 | .lG l=> .ok {target:= .lG l,args}
 |_=> .no "resolve"
def tryRecover (fr:af) (cs:List af):R (Option (AV×List af)):=
 match fr.kind,cs with
 | .deferred,c::rest=>
  match c.mode with
  | .panicking ({v,recovered:=false}::older)=> .ok (some (v,{c with mode:= .panicking ({v,recovered:=true}::older)}::rest))
  |_=> .ok none
 | .normal,_::_=> .ok none
 |_,_=> .no "recover"
def oper (fr:af) (cs:List af) (h:AH) (o:Oper):R ee:=do
 match o.op with
 | .call c=>do
  match c.callee with
  | .value f=>do
   let args<-iR fr.tmps c.args.toList
   let d<-qw (<-ev fr.tmps f) args
   callTarget tab sub fr cs h d .normal
  | .builtin .recover=>
   match fr.round with
   |none=>do
    match<-tryRecover fr cs with
    |some (v,cs')=>do .ok (.next {fr:= <-fr.finish v,cs:=cs',h})
    |none=>do .ok (.next {fr:= <-fr.finish .fS,cs,h})
   |some _=> .no "recover in a round"
  |_=>do
   let (v,h')<-eM tab fr.tmps h o
   .ok (.next {fr:= <-fr.finish v,cs,h:=h'})
 | .defer c=>do
  match c.callee,fr.round with
  | .value f,none=>do
   let args<-iR fr.tmps c.args.toList
   let d<-qw (<-ev fr.tmps f) args
   .ok (.next {fr:= <-af.finish {fr with defers:=d::fr.defers} (.bj []),cs,h})
  |_,_=> .no "defer"
 | .panic x=>do
  match<-ev fr.tmps x with
  | .iface t v=> .ok (.next {fr:=fr.raise [{v:= .iface t v,recovered:=false}],cs,h})
  |_=> .no "panic"
 | .next it s=>do
  let l<-nextOp h (<-ev fr.tmps it) s
  let ms<-l.mapM fun(v,h')=>do R.ok {fr:= <-fr.finish v,cs,h:=h':AM}
  match ms with
  |[m]=> .ok (.next m)
  |ms=> .ok (.alts ms)
 |_=>do
  let (v,h')<-eM tab fr.tmps h o
  .ok (.next {fr:= <-fr.finish v,cs,h:=h'})
inductive j5 where
 |pure|read|alloc|jf
deriving DecidableEq
def cls (tab:aZ) (o:Oper):j5:=
 match o.op with
 | .move _| .assign _| .pick .. | .build .. | .unOp .. | .makeInterface .. | .makeFunc .. | .slice .. | .fieldAddr .. | .field .. | .indexAddr .. | .index .. | .extract .. | .nilCheck _| .typeAssert .. => .pure
 | .load .. | .lookup .. | .entry _| .binOp .. => .read
 | .convert a b _=>match tab.und.get a,tab.und.get b with
  |some (.int _),some (.int _)=> .pure
  |_,_=> .jf
 | .alloc _| .box .. | .buildSlice .. | .makeMap .. | .makeSlice .. => .alloc
 | .call c=>match c.callee with
  | .builtin .len=> .read
  | .builtin .cap| .builtin .min| .builtin .max=> .pure
  |_=> .jf
 |_=> .jf
structure DS where
 ts:T AV
 h:AH
 aE:T (List Nat)
 reads:List (Nat×T AV×AV)
 ax:List (Nat×Nat)
def gV (h:AH):List (Nat×Nat)->AH
 |[]=>h
 |(_,b)::l=>gV (h.kill b) l
def ik (h h0:AH):List (Nat×Nat)->AH
 |[]=>h
 |(_,b)::l=>ik {h with t:=h.t.set b (h0.get b)} h0 l
def cq (i:Nat) (l:List Nat):Bool:=l.any (Nat.beq i)
def gL (o:Oper):List Nat:=(o.after.toList.filter (Region.binds .any)).map (·.on)
def mG (j:Nat) (l:List Nat):List Nat:=bif cq j l then l else j::l
def sP:List Nat->List Nat->List Nat
 |[],l=>l
 |j::m,l=>sP m (mG j l)
def vy (aE:T (List Nat)):List Nat->List Nat
 |[]=>[]
 |j::l=>mG j (sP ((aE.get j).getD []) (vy aE l))
def dS (aE:T (List Nat)) (o:Oper):List Nat:=vy aE (gL o)
def gv (aE:T (List Nat)) (i:Nat) (o:Oper):Bool:=(aE.get i).isNone&&(gL o).all fun j=>(aE.get j).isSome
def mA (ops:Array Oper) (o:Oper):List Tmp:=
  (o.op.operands.toList.filterMap fun| .tmp t=>some t|_=>none)++
  (match o.guard with
   |some (g,_)=>((ops[g]?).bind (·.dst)).toList
   |none=>[])
def uz (aE:T (List Nat)) (t:Tmp) (pre:List Nat):Nat->List Oper->Bool
 |_,[]=>true
 |j,o::l=>(match o.dst with
  |some d=>bif Nat.beq d t&&(aE.get j).isSome then cq j pre else true
  |none=>true)&&uz aE t pre (j+1) l
def u7 (aE:T (List Nat)) (ops:Array Oper) (i:Nat) (a:Tmp) (an:List Nat):Nat->List Oper->Bool
 |_,[]=>true
 |j,o::l=>(match o.dst with
  |some d=>bif Nat.beq d a then Nat.beq i j else true
  |none=>true)&&(bif (aE.get j).isSome then cq j an|| !(cq a (mA ops o))else true)&&u7 aE ops i a an (j+1) l
def iE (aE:T (List Nat)) (ops:Array Oper) (i:Nat) (o:Oper):Bool:=
  (mA ops o).all (fun t=>uz aE t (gL o) 0 ops.toList)&&
  (match o.dst with
   |some d=>u7 aE ops i d (dS aE o) 0 ops.toList
   |none=>true)
def qW (ts:T AV) (h:AH) (o:Oper):R (AV×AH):=do
 match o.op with
 | .call c=>do
  match c.callee with
  | .value f=>do
   let args<-iR ts c.args.toList
   let d<-qw (<-ev ts f) args
   match d.target with
   | .fn (.func f) captured=>do
    match tab.fns.get f with
    | some fn=>
     match fn.body with
     |some _=>do
      match<-sub f (d.args++captured) h with
      |[(v,h')]=> .ok (v,h')
      |_=> .no "draw: more than one end"
     |none=>uH tab f fn (d.args++captured) h
    |none=> .no "draw: function"
   |_=> .no "draw: target"
  | .builtin .recover=> .no "draw: recover"
  |_=>eM tab ts h o
 | .defer _| .panic _| .next .. | .go _=> .no "draw: effect"
 |_=>eM tab ts h o
def fX (nt:Nat) (ts:T AV) (o:Oper) (v:AV):T AV:=
 match o.dst with
 |some d=>bif Nat.blt d nt then ts.set d (some v)else ts
 |none=>ts
def oJ (ops:Array Oper) (nt:Nat) (i:Nat) (o:Oper) (s:DS):R (Option DS):=do
 R.check "draw: temporaries" (iE s.aE ops i o)
 let aE:=s.aE.set i (some (dS s.aE o))
 if !(<-wanted ops o s.ts)then .ok (some {s with ts:=fX nt s.ts o (.bj []),aE})
 else
  match cls tab o with
  | .jf=> .ok none
  | .alloc=>do
   let (v,h1)<-eM tab s.ts {t:= .e,next:=s.h.next} o
   R.check "draw: a block" (Nat.beq h1.next (s.h.next+1))
   let obj<-R.of "draw: block" (h1.get s.h.next)
   .ok (some {s with ts:=fX nt s.ts o v,h:=s.h.new obj,aE,ax:=(i,s.h.next)::s.ax})
  | c=>
   match(match c with| .pure=>eM tab s.ts {t:= .e,next:=0} o|_=> .no "read")with
   | .ok (v,h1)=>do
    R.check "draw: no block" (Nat.beq h1.next 0)
    .ok (some {s with ts:=fX nt s.ts o v,aE})
   | .no _=>
    match eM tab s.ts (gV s.h s.ax) o with
    | .ok (v,_)=> .ok (some {s with ts:=fX nt s.ts o v,aE,reads:=(i,s.ts,v)::s.reads})
    | .no _=> .ok none
def jT (ops:Array Oper) (nt:Nat):Nat->List Oper->DS->R DS
 |_,[],s=> .ok s
 | i,o::l,s=>
  bif gv s.aE i o then do
   match<-oJ tab ops nt i o s with
   |some s'=>jT ops nt (i+1) l s'
   |none=>jT ops nt (i+1) l s
  else jT ops nt (i+1) l s
def iL (aE:T (List Nat)):Nat->List Oper->List (Nat×Oper)
 |_,[]=>[]
 |i,o::l=>bif gv aE i o then(i,o)::iL aE (i+1) l else iL aE (i+1) l
def reread (ops:Array Oper) (h:AH):List (Nat×T AV×AV)->R Unit
 |[]=> .ok ()
 |(i,ts,v)::l=>do
  let o<-R.of "reread" ops[i]?
  let (u,_)<-eM tab ts h o
  R.check "draw: a read behind an effect" (AV.beq u v)
  reread ops h l
def u6 (ops:Array Oper) (nt:Nat) (i:Nat) (o:Oper) (s:DS):R DS:=do
 R.check "draw: temporaries" (iE s.aE ops i o)
 let b<-wanted ops o s.ts
 R.check "draw: not wanted" b
 let an:=dS s.aE o
 let hid:=s.ax.filter fun x=> !(cq x.1 an)
 let (v,h1)<-qW tab sub s.ts (gV s.h hid) o
 R.check "draw: next" (Nat.ble s.h.next h1.next)
 let h2:=ik h1 s.h hid
 let reads:=s.reads.filter fun x=> !(cq x.1 an)
 reread tab ops (gV h2 hid) reads
 .ok {ts:=fX nt s.ts o v,h:=h2,aE:=s.aE.set i (some an),reads,ax:=hid}
def qp (ops:Array Oper) (nt:Nat):Nat->DS->R DS
 |0,_=> .no "draw: fuel"
 | n+1,s=>do
  let s1<-jT tab ops nt 0 ops.toList s
  match iL s1.aE 0 ops.toList with
  |[]=>do
   R.check "draw: not all" ((List.range ops.size).all fun i=>(s1.aE.get i).isSome)
   .ok s1
  |[(i,o)]=>do
   let s2<-u6 tab sub ops nt i o s1
   qp ops nt n s2
  |_=> .no "draw: two effects"
def oc:Nat->List Oper->Bool
 |_,[]=>true
 |i,o::l=>(gL o).all (fun p=>Nat.blt p i)&&oc (i+1) l
def draw (ops:Array Oper) (nt:Nat) (ts:T AV) (h:AH):R (T AV×AH):=do
 R.check "draw: order" (oc 0 ops.toList)
 let s<-qp tab sub ops nt (ops.size+1) {ts,h,aE:= .e,reads:=[],ax:=[]}
 .ok (s.ts,s.h)
def results (h:AH) (ts:T AV):List ResultVar->R (List AV)
 |[]=> .ok []
 | .tmp t::l=>do
  let vs<-results h ts l
  .ok ((ts.get t).getD (.bj [])::vs)
 | .cell a t::l=>do
  match ts.get a with
  |some (.ptr b off)=>do
   let v<-loadVar tab h t b off
   let vs<-results h ts l
   .ok (v::vs)
  |_=> .no "results"
def result (vs:List AV):AV:=
 match vs with
 |[v]=>v
 |vs=> .bj vs
def unwind (fr:af) (cs:List af) (h:AH):R ee:=
 match fr.defers with
 |{target:= .collected b, .. }::ds=>
  match h.get b with
  |some (.tz (some calls))=> .ok (.next {fr:={fr with defers:=calls++ds},cs,h:=h.set b (.tz none)})
  |_=> .no "unwind: collected"
 |d::ds=>callTarget tab sub {fr with defers:=ds} cs h d .deferred
 | []=>
  match fr.mode with
  | .run=> .no "unwind"
  | .panicking chain=>
   match cs with
   |c::rest=> .ok (.next {fr:=c.raise chain,cs:=rest,h})
   |[]=> .no "a panic at the end"
  | .returning=>
   match tab.fns.get fr.fn with
   |none=> .no "unwind: function"
   |some fn=>do
    let vs<-results tab h fr.tmps fn.results.toList
    doReturn fr cs (result vs) h
def step (m:AM):R ee:=
 let fr:=m.fr
 let cs:=m.cs
 let h:=m.h
 match fr.mode with
 | .run=>
  match fr.todo with
  |[]=>leave fr cs h none
  | .code .ret::_=>leave fr cs h (some .ret)
  | .code .skip::k=> .ok (.next {fr:={fr with todo:=k},cs,h})
  | .code (.label _)::k=> .ok (.next {fr:={fr with todo:=k},cs,h})
  | .inBlock _::k=> .ok (.next {fr:={fr with todo:=k},cs,h})
  | .inScope _::k=> .ok (.next {fr:={fr with todo:=k},cs,h})
  | .code (.seq a b)::k=> .ok (.next {fr:={fr with todo:= .code a:: .code b::k},cs,h})
  | .code (.cond c a b)::k=>do
   match<-ev fr.tmps c with
   | .bool true=> .ok (.next {fr:={fr with todo:= .code a::k},cs,h})
   | .bool false=> .ok (.next {fr:={fr with todo:= .code b::k},cs,h})
   |_=> .no "cond"
  | .code (.block id b)::k=> .ok (.next {fr:={fr with todo:= .code b:: .inBlock id::k},cs,h})
  | .code (.loop b)::k=> .ok (.next {fr:={fr with todo:= .code b:: .inLoop b::k},cs,h})
  | .inLoop b::k=> .ok (.next {fr:={fr with todo:= .code b:: .inLoop b::k},cs,h})
  | .code (.scope b)::k=> .ok (.next {fr:={fr with todo:= .code b:: .inScope b::k},cs,h})
  | .code (.exit id)::k=>
   match exitTo id k with
   |some k'=> .ok (.next {fr:={fr with todo:=k'},cs,h})
   |none=>leave fr cs h (some (.exit id))
  | .code (.rangeFunc _ _ _ _)::_=> .no "rangeFunc"
  | .endRange l::k=>
   match h.get l with
   |some (.loop st pending fn ts nt ps a b d)=>
    match st with
    | .busy=> .no "endRange: busy"
    |_=> .ok (.next {fr:={fr with todo:=(pending.map bm.code).toList++k},cs,h:=h.set l (.loop .exhausted pending fn ts nt ps a b d)})
   |_=> .no "endRange"
  | .beginRound::k=>
   match fr.round with
   |some l=>
    match h.get l with
    |some (.loop .ready pending fn ts nt ps a b d)=> .ok (.next {fr:={fr with todo:=k},cs,h:=h.set l (.loop .busy pending fn ts nt ps a b d)})
    |_=> .no "beginRound"
   |none=> .no "beginRound"
  | .code (.region _ ops false)::k=> .ok (.next {fr:={fr with todo:= .inRegion ops (List.range ops.size)::k},cs,h})
  | .code (.region _ ops true)::k=>do
   let (ts,h')<-draw tab sub ops fr.nt fr.tmps h
   .ok (.next {fr:={fr with tmps:=ts,todo:=k},cs,h:=h'})
  | .inRegion _ []::k=> .ok (.next {fr:={fr with todo:=k},cs,h})
  | .inRegion ops (i::_)::_=>
   match ops[i]? with
   |some o=>do
    if<-wanted ops o fr.tmps then oper tab sub fr cs h o
    else do .ok (.next {fr:= <-fr.finish (.bj []),cs,h})
   |none=> .no "region"
  |_=> .no "item"
 |_=>unwind tab sub fr cs h
end
mutual
def runs (tab:aZ):Nat->List AM->R (List (AV×AH))
 |0,_=> .no "fuel"
 |_+1,[]=> .ok []
 |n+1,m::l=>do
  let a<-run tab n m
  let b<-runs tab n l
  .ok (a++b)
def run (tab:aZ):Nat->AM->R (List (AV×AH))
 |0,_=> .no "fuel"
 | n+1,m=>
  match step tab (fun f args h=>match tab.fns.get f with
   |some fn=>match fn.body with
    |some body=>run tab n {fr:=af.enter fn f body args .normal,cs:=[],h}
    |none=> .no "run: body"
   |none=> .no "run: function") m with
  | .no w=> .no w
  | .ok (.done v h)=> .ok [(v,h)]
  | .ok (.next m')=>run tab n m'
  | .ok (.alts l)=>runs tab n l
end
end
end Go.Am
namespace Go.Am
open Go.RowKit
section
variable [Inhabited aF]
def dL (E:Env):bm->Item
 | .code c=> .code c
 | .inBlock id=> .inBlock id
 | .inLoop b=> .inLoop b
 | .inScope b=> .inScope b
 | .inRegion ops l=> .inRegion ops l
 | .jP l=> .inRangeFunc (E.aQ l)
 | .endRange l=> .endRangeFunc (E.aQ l)
 | .beginRound=> .beginRound
def mq (E:Env) (x:tx):PanicEntry:={v:=ab E x.v,recovered:=x.recovered}
def fe (E:Env):nI->FrameMode
 | .run=> .run
 | .returning=> .returning
 | .panicking c=> .panicking (c.map (mq E))
def bc (E:Env) (fr:af):Frame:=
 {fn:=fr.fn,tmps:=gn E fr.tmps fr.nt,todo:=fr.todo.map (dL E),defers:=fr.defers.map (eK E),mode:=fe E fr.mode,kind:=fr.kind,roundOf:=fr.round.map E.aQ}
def af.WF (fr:af):Prop:=∀t,fr.nt<=t->fr.tmps.get t=none
def ak (D:Nat->Prop) (E E':Env):Prop:=∀i,D i->E'.aQ i=E.aQ i/\E'.cap i=E.cap i
theorem ak.refl (D:Nat->Prop) (E:Env):ak D E E:=fun _ _=>⟨rfl,rfl⟩
theorem ak.trans {D D':Nat->Prop} {E E' E'':Env} (h:ak D E E') (h':ak D' E' E'') (hd:∀i,D i->D' i):ak D E E'':=
 fun i hi=>⟨(h' i (hd i hi)).1.trans (h i hi).1,(h' i (hd i hi)).2.trans (h i hi).2⟩
structure Rel (D:Nat->Prop) (E:Env) (K:KS) (m:AM) (base:List Frame) (fr:Frame) (cs:List Frame) (w:World):Prop where
 all:∀E',ak D E E'->bn E' m.h K w/\bc E' m.fr=fr/\m.cs.map (bc E')++base=cs
 eo:∀i,D i->i<m.h.next
 wf:m.fr.WF/\ ∀f∈m.cs,f.WF
def fQ (P:Program) (lo:Nat) (M0:Machine) (D:Nat->Prop) (E:Env) (K:KS) (m':AM) (base:List Frame) (w:World):Prop:=
 ∃fr' cs' w' E' D',Steps P M0 (lone fr' cs' w')/\Rel D' E' K m' base fr' cs' w'/\ak D E E'/\(∀i,D i->D' i)/\Kept K w w'/\lo<=m'.h.next/\ ∀i,D' i->D i\/lo<=i
def Ends (P:Program) (lo:Nat) (M0:Machine) (D:Nat->Prop) (E:Env) (K:KS) (v:AV) (h:AH) (base:List Frame) (f:FuncId) (w:World):Prop:=
 ∃fr' w' v' E' D',Steps P M0 (lone fr' base w')/\fr'.fn=f/\fr'.leaving P w' (.returned v')/\(∀E'',ak D' E' E''->bn E'' h K w'/\ab E'' v=v')/\
  ak D E E'/\(∀i,D i->D' i)/\(∀i,D' i->i<h.next)/\Kept K w w'/\lo<=h.next/\ ∀i,D' i->D i\/lo<=i
section
variable {P:Program} {D D1:Nat->Prop} {E E1:Env} {K:KS} {m:AM} {base:List Frame} {M0 M1:Machine} {w w1:World} {v:AV} {h:AH} {f:FuncId}
theorem fQ.trans {lo lo1:Nat} (hs:Steps P M0 M1) (ha:ak D E E1) (hd:∀i,D i->D1 i) (hk:Kept K w w1) (hlo:lo<=lo1) (hnew:∀i,D1 i->D i\/lo<=i) (hg:fQ P lo1 M1 D1 E1 K m base w1):fQ P lo M0 D E K m base w:=by
 obtain⟨fr',cs',w',E',D',h1,h2,h3,h4,h5,h6,h7⟩:=hg;refine⟨fr',cs',w',E',D',hs.trans h1,h2,ha.trans h3 hd,fun i hi=>h4 i (hd i hi),hk.trans h5,Aq hlo h6,fun i hi=>?_⟩;rcases h7 i hi with h|h
 . exact hnew i h
 . exact .inr (Aq hlo h)
theorem Ends.trans {lo lo1:Nat} (hs:Steps P M0 M1) (ha:ak D E E1) (hd:∀i,D i->D1 i) (hk:Kept K w w1) (hlo:lo<=lo1) (hnew:∀i,D1 i->D i\/lo<=i) (hg:Ends P lo1 M1 D1 E1 K v h base f w1):Ends P lo M0 D E K v h base f w:=by
 obtain⟨fr',w',v',E',D',h1,h2,h3,h4,h5,h6,h7,h8,h9',h9⟩:=hg;refine⟨fr',w',v',E',D',hs.trans h1,h2,h3,h4,ha.trans h5 hd,fun i hi=>h6 i (hd i hi),h7,hk.trans h8,Aq hlo h9',fun i hi=>?_⟩;rcases h9 i hi with h|h
 . exact hnew i h
 . exact .inr (Aq hlo h)
end
theorem oO {fr fr':Frame} {cs cs':List Frame} {w w':World} (h:lone fr cs w=lone fr' cs' w'):fr=fr'/\cs=cs'/\w=w':=by
 simp only[lone,Machine.mk.injEq,Array.mk.injEq,BG,Goroutine.mk.injEq,Dv,true_and]at h;obtain⟨h1,h2,h3⟩:=h;exact⟨h2,h3,h1⟩
def One (P:Program) (M0:Machine) (E:Env) (K:KS) (m':AM) (base:List Frame) (w:World):Prop:=
 ∃w',Go.step P M0= .next (lone (bc E m'.fr) (m'.cs.map (bc E)++base) w')/\bn E m'.h K w'/\Kept K w w'
section
variable {P:Program} {D:Nat->Prop} {E:Env} {K:KS} {m m':AM} {base:List Frame} {fr:Frame} {cs:List Frame} {w:World}
theorem Rel.mQ (hR:Rel D E K m base fr cs w) (f:Nat->Nat×Nat):∃E1,ak D E E1/\ ∀i,m.h.next<=i->E1.aQ i=(f i).1/\E1.cap i=(f i).2:=by
 refine⟨⟨fun i=>if i<m.h.next then E.aQ i else(f i).1,fun i=>if i<m.h.next then E.cap i else(f i).2⟩,fun i hi=>?_,fun i hi=>?_⟩
 . have:=hR.eo i hi;simp[this]
 . have hlt:¬i<m.h.next:=by omega
   simp[hlt]
theorem Rel.one (hR:Rel D E K m base fr cs w) (M0:Machine)
   (f:Nat->Nat×Nat) (hn:m.h.next<=m'.h.next) (hwf:m'.fr.WF/\ ∀f∈m'.cs,f.WF)
   (h1:∀E',ak D E E'->bn E' m.h K w->bc E' m.fr=fr->m.cs.map (bc E')++base=cs->(∀i,m.h.next<=i->i<m'.h.next->E'.aQ i=(f i).1/\E'.cap i=(f i).2)->One P M0 E' K m' base w):
   fQ P m.h.next M0 D E K m' base w:=by
 obtain⟨E1,ha,hE⟩:=hR.mQ f;let D1:Nat->Prop:=fun i=>D i\/(m.h.next<=i/\i<m'.h.next)
 have hE1:∀E',ak D1 E1 E'->One P M0 E' K m' base w:=by
   intro E' he;have hd:ak D E E':=ha.trans he (fun i hi=> .inl hi);obtain⟨g1,g2,g3⟩:=hR.all E' hd;refine h1 E' hd g1 g2 g3 (fun i hi hj=>?_);have h2:=he i (.inr ⟨hi,hj⟩);have h3:=hE i hi;exact⟨h2.1.trans h3.1,h2.2.trans h3.2⟩
 obtain⟨w',s1,s2,s3⟩:=hE1 E1 (ak.refl _ _);refine⟨_,_,w',E1,D1, .one s1,⟨?_,?_,hwf⟩,ha,fun i hi=> .inl hi,s3,hn,fun i hi=>hi.elim .inl (fun h=> .inr h.1)⟩
 . intro E' he;obtain⟨w2,t1,t2,t3⟩:=hE1 E' he;rw[s1]at t1;obtain⟨e1,e2,e3⟩:=oO (by simpa using t1);subst e3;exact⟨t2,e1.symm,e2.symm⟩
 . intro i hi;rcases hi with hi|hi
   . have:=hR.eo i hi;omega
   . exact hi.2
end
end
section
variable [Inhabited aF]
theorem xO (E:Env) (ts:T AV) (nt t:Nat) (hwf:∀t,nt<=t->ts.get t=none):(gn E ts nt).getD t undef=ab E ((ts.get t).getD (.bj [])):=by
 unfold gn;by_cases ht:t<nt
 . simp[Array.getD,ht,tf]
 . simp[Array.getD,ht,hwf t (by omega)];rfl
theorem tmps_get? (E:Env) (ts:T AV) (nt t:Nat):(gn E ts nt)[t]? =if t<nt then some (ab E ((ts.get t).getD (.bj [])))else none:=by
 unfold gn;by_cases ht:t<nt<;>simp[ht,tf]
theorem MZ (E:Env) (ts:T AV) (nt:Nat):(gn E ts nt).size=nt:=by simp[gn]
def fU (ts:T AV) (nt:Nat) (d:Tmp) (v:AV):T AV:=bif Nat.blt d nt then ts.set d (some v)else ts
theorem yl (ts:T AV) (nt:Nat) (d:Tmp) (v:AV) (t:Nat):(fU ts nt d v).get t=if d<nt/\t=d then some v else ts.get t:=by
 unfold fU;by_cases h:d<nt
 . have:Nat.blt d nt=true:=by simpa using h
   simp[h,this,T.aS]
 . have:Nat.blt d nt=false:=by
    cases hb:Nat.blt d nt
    . rfl
    . exact absurd (by simpa using hb) h
   simp[this,h]
theorem NZ (E:Env) (ts:T AV) (nt:Nat) (d:Tmp) (v:AV):(gn E ts nt).setIfInBounds d (ab E v)=gn E (fU ts nt d v) nt:=by
 apply Dg
 intro j;rw[Bx,tmps_get?,tmps_get?,MZ,yl];by_cases hj:d=j
 . subst hj;by_cases hd:d<nt<;>simp[hd]
 . have:¬j=d:=fun e=>hj e.symm
   simp[hj,this]
theorem PE {ts:T AV} {nt:Nat} (h:∀t,nt<=t->ts.get t=none) (d:Tmp) (v:AV):∀t,nt<=t->(fU ts nt d v).get t=none:=by
 intro t ht;rw[yl];split
 . rename_i hc;obtain⟨h1,h2⟩:=hc;subst h2;exact absurd h1 (EV.2 ht)
 . exact h t ht
theorem oU {fr:af} (hwf:fr.WF) (E:Env) {x:Operand} {u:AV} (h:ev fr.tmps x= .ok u):(bc E fr).eval x=ab E u:=by
 cases x<;>simp only[ev]at h<;>(try cases h)
 . exact xO E fr.tmps fr.nt _ hwf
 . exact(zW E _).symm
 . simp[Frame.eval,ab]
theorem rz (fr:af) (d:Option Tmp) (v:AV):fr.put d v=match d with|some d=>fU fr.tmps fr.nt d v|none=>fr.tmps:=by
 cases d<;>rfl
theorem jR {fr fr':af} {v:AV} (h:fr.finish v= .ok fr') (E:Env):(bc E fr).finish (ab E v)=bc E fr'/\(fr.WF->fr'.WF)/\fr'.fn=fr.fn:=by
 obtain⟨fn,nt,tmps,todo,defers,mode,kind,round⟩:=fr;unfold af.finish at h;split at h
 . rename_i ops i rest k htodo
   cases h;simp only at htodo;subst htodo;refine⟨?_,fun hwf=>?_,rfl⟩
   . rw[rz]
     cases hd:(ops[i]?).bind (·.dst)with
     |none=>simp[Frame.finish,bc,dL,hd]
     |some d=>simp[Frame.finish,bc,dL,hd,NZ]
   . unfold af.WF;simp only[rz]
     cases hd:(ops[i]?).bind (·.dst)with
     |none=>exact hwf
     |some d=>exact PE hwf d v
 . rename_i l k htodo
   cases h;simp only at htodo;subst htodo;exact⟨by simp[Frame.finish,bc,dL],fun hwf=>hwf,rfl⟩
 . rename_i k htodo
   cases h;simp only at htodo;subst htodo;exact⟨by simp[Frame.finish,bc,dL],fun hwf=>hwf,rfl⟩
 . cases h
def bot (fr:af):List af->FuncId
 |[]=>fr.fn
 |c::cs=>bot c cs
theorem gS {fr fr':af} (h:fr'.fn=fr.fn) (cs:List af):bot fr' cs=bot fr cs:=by
 cases cs with
 |nil=>exact h
 |cons c cs=>rfl
theorem Cu (E:Env) (id:Nat):∀(k:List bm),Go.exitTo id (k.map (dL E))=(exitTo id k).map (List.map (dL E)):=by
 intro k;induction k with
 |nil=>rfl
 |cons x k ih=>
  cases x<;>simp only[AP,dL,Go.exitTo,exitTo,ih]
  rename_i j;by_cases h:j=id
  . subst h;simp
  . have:Nat.beq j id=false:=by
     cases hb:Nat.beq j id
     . rfl
     . exact absurd (Af hb) h
    simp[h,this,ih]
section
variable {P:Program} {D:Nat->Prop} {E:Env} {K:KS} {m:AM} {base:List Frame} {fr:Frame} {cs:List Frame} {w:World}
theorem Rel.jd (hR:Rel D E K m base fr cs w) (fr':af) (hwf:fr'.WF) (h:∀E' cs',Go.step P (lone (bc E' m.fr) cs' w)= .next (lone (bc E' fr') cs' w)):
  fQ P m.h.next (lone fr cs w) D E K {fr:=fr',cs:=m.cs,h:=m.h} base w:=
 hR.one (m':={fr:=fr',cs:=m.cs,h:=m.h}) _ (fun _=>(0,0)) (Ah _) ⟨hwf,hR.wf.2⟩
  (fun E' _ H e1 e2 _=>⟨w,by rw[<-e1,<-e2];exact h E' _,H,Kept.refl K w⟩)
theorem Ck {fr:Frame} {cs:List Frame} {s:Sem Next} {r:Next} {x:Value} {w w':World} (hs:s.run P w= .ok r w') (hr:yJ r x):
  (stepG.apply P true fr cs none s w).bare= .go {frame:=fr.finish x,callers:=cs,status:= .running,dying:=none} w':=by
 rcases hr with rfl|⟨rfl,rfl⟩<;>simp[stepG.apply,hs]
theorem PM {fr:Frame} {cs:List Frame} {ops:Array Oper} {i:Nat} {rest:List Nat} {k:List Item} {o:Oper} (hm:fr.mode= .run) (ht:fr.todo= .inRegion ops (i::rest)::k)
   (ho:ops[i]? =some o) (hw:Region.wanted o (yielded ops fr.tmps)=true) (hd:fr.roundOf=none\/ ∀c,o.op≠ .defer c) (w:World):
   stepG P true {frame:=fr,callers:=cs,status:= .running,dying:=none} w=stepG.apply P true fr cs none (execOp fr.eval o) w:=by
 have:stepG P true {frame:=fr,callers:=cs,status:= .running,dying:=none} w=stepG.oper P true fr cs none w:=by
   simp[stepG,hm,stepG.exec,ht,ho,hw]
 rw[this];unfold stepG.oper;simp only[Frame.oper?,ht,ho];rcases hd with hd|hd
 . rw[hd]
 . cases fr.roundOf with
   |none=>rfl
   |some l=>
    split
    . exact absurd (by assumption) (hd _)
    . rfl
end
end
section
variable [Inhabited aF]
theorem RL {α:Type}:∀(l:List α) (k:Nat) (t:T α) (j:Nat),(T.fM l k t).get j=if k<=j/\j<k+l.length then l[j - k]? else t.get j:=by
 intro l;induction l with
 |nil=>
  intro k t j;simp only[T.fM,Bb,Bk];rw[if_neg (by omega)]
 |cons x l ih=>
  intro k t j;simp only[T.fM,ih,T.aS,A1];by_cases h1:k+1<=j/\j<k+1+l.length
  . rw[if_pos h1,if_pos (by omega)];have:j - k=(j - (k+1))+1:=by omega
    rw[this,AY]
  . rw[if_neg h1];by_cases h2:j=k
    . subst h2;simp
    . rw[if_neg h2,if_neg (by omega)]
theorem ku {α:Type} (l:List α) (j:Nat):(T.ofList l).get j=l[j]? :=by
 unfold T.ofList;rw[RL];by_cases h:j<l.length
 . rw[if_pos (by omega)];simp
 . rw[if_neg (by omega),Bl (by omega)];rfl
theorem qq (fn:Func) (f:FuncId) (body:Code) (args:List AV) (kind:CallKind):(af.enter fn f body args kind).WF:=by
 intro t ht;simp only[af.enter]at ht⊢;rw[ku,Bl];exact Aq (Nat.le_max_right _ _) ht
theorem mb {P:Program} {fn:Func} {f:FuncId} {body:Code} (hf:P.funcs[f]? =some fn) (hb:fn.body=some body) (E:Env) (args:List AV) (kind:CallKind):
   Frame.enter P f (aY E args).toArray kind=bc E (af.enter fn f body args kind):=by
 unfold Frame.enter af.enter bc;simp only[hf,hb,BO,AK,A2,AP,D4,dL,fe,BV];congr 1
 apply Dg
 intro j;rw[tmps_get?,ku,Fl,Br,bp,AS,jD,Fa];by_cases h1:j<args.length
 . have h2:j<Nat.max fn.ntmps args.length:=AU h1 (Nat.le_max_right _ _);rw[if_pos h1,if_pos h2,Ag h1];simp
 . rw[if_neg h1,Bl (by omega:args.length<=j)];have:Nat.max fn.ntmps args.length=max fn.ntmps args.length:=rfl;rw[this];by_cases h2:j<fn.ntmps
   . rw[if_pos (by omega),if_pos (by omega)];rfl
   . rw[if_neg (by omega),if_neg (by omega)]
theorem xd {ops:Array Oper} {o:Oper} {ts:T AV} {nt:Nat} (hwf:∀t,nt<=t->ts.get t=none) {b:Bool} (h:wanted ops o ts= .ok b) (E:Env):
  Region.wanted o (yielded ops (gn E ts nt))=b:=by
 unfold wanted at h;unfold Region.wanted
 cases hg:o.guard with
 |none=>rw[hg]at h;cases h;rfl
 | some gw=>
  obtain⟨j,u⟩:=gw;rw[hg]at h;simp only at h⊢;unfold yielded
  cases hd:(ops[j]?).bind (·.dst)with
  |none=>
   rw[hd]at h;simp only[Option.bind_none]at h
   cases h;rfl
  |some d=>
   rw[hd]at h;simp only[BO]at h⊢;rw[tmps_get?];by_cases hlt:d<nt
   . rw[if_pos hlt]
     cases hv:ts.get d with
     |none=>rw[hv]at h;cases h;rfl
     |some v=>
      rw[hv]at h
      cases v<;>simp only at h<;>first|(cases h;done)|(cases h;simp[ab])
   . rw[if_neg hlt];rw[hwf d (by exact DQ hlt)]at h
     cases h;rfl
end
section
variable [Inhabited aF]
instance:LawfulMonad R:=LawfulMonad.mk'
 (id_map:=by intro α x;cases x<;>rfl)
 (pure_bind:=by intros;rfl)
 (bind_assoc:=by intro α β γ x f g;cases x<;>rfl)
theorem uQ {P:Program} {w:World} {r:Nat} {o:Obj} (h:w.heap[r]? =some o) (hn:∀c e f,o≠ .cells c e f):(getObj r).run P w= .ok o w:=by
 simp only[getObj,Sem.run,h]
theorem GM {α β:Type} {g:α->R β}:∀{l:List α} {ms:List β},l.mapM g= .ok ms->∀x∈l,∃y∈ms,g x= .ok y:=by
 intro l;induction l with
 |nil=>intro ms _ x hx;cases hx
 |cons a l ih=>
  intro ms h x hx;rw[EZ]at h;obtain⟨b,hb,h1⟩:=ai.1 h;obtain⟨bs,hbs,h2⟩:=ai.1 h1
  cases h2;rcases Aj.1 hx with rfl|hx
  . exact⟨b,Ao,hb⟩
  . obtain⟨y,hy,hg⟩:=ih hbs x hx;exact⟨y,An _ hy,hg⟩
def Out (P:Program) (lo:Nat) (M0:Machine) (D:Nat->Prop) (E:Env) (K:KS) (b:FuncId) (base:List Frame) (w:World):ee->Prop
 | .next m'=>bot m'.fr m'.cs=b/\fQ P lo M0 D E K m' base w
 | .alts l=>∃m'∈l,bot m'.fr m'.cs=b/\fQ P lo M0 D E K m' base w
 | .done v h=>Ends P lo M0 D E K v h base b w
theorem Out.trans {P:Program} {D D1:Nat->Prop} {E E1:Env} {K:KS} {base:List Frame} {M0 M1:Machine} {w w1:World} {b:FuncId} {out:ee} {lo lo1:Nat}
  (hs:Steps P M0 M1) (ha:ak D E E1) (hd:∀i,D i->D1 i) (hk:Kept K w w1) (hlo:lo<=lo1) (hnew:∀i,D1 i->D i\/lo<=i) (hg:Out P lo1 M1 D1 E1 K b base w1 out):Out P lo M0 D E K b base w out:=by
 cases out with
 |next m'=>exact⟨hg.1,hg.2.trans hs ha hd hk hlo hnew⟩
 |alts l=>
  obtain⟨m',h1,h2,h3⟩:=hg;exact⟨m',h1,h2,h3.trans hs ha hd hk hlo hnew⟩
 |done v h=>exact Ends.trans hs ha hd hk hlo hnew hg
def jY (P:Program) (tab:aZ) (sub:FuncId->List AV->AH->R (List (AV×AH))):Prop:=
 ∀f fn body args h outs,tab.fns.get f=some fn->fn.body=some body->sub f args h= .ok outs->∀(D:Nat->Prop) (E:Env) (K:KS) (w:World) (argsC:Array Value),
  (∀E',ak D E E'->bn E' h K w/\(aY E' args).toArray=argsC)->(∀i,D i->i<h.next)->∀cs,∃v h',(v,h')∈outs/\Ends P h.next (lone (Frame.enter P f argsC .normal) cs w) D E K v h' cs f w
def jX (P:Program) (tab:aZ):Prop:=
 ∀f fn args h v h',tab.fns.get f=some fn->fn.body=none->uH tab f fn args h= .ok (v,h')->∀w,∃g:Nat×Nat,∀E K,bn E h K w->(h.next<h'.next->E.aQ h.next=g.1/\E.cap h.next=g.2)->
  (h.next<=h'.next/\h'.next<=h.next+1)/\ ∃w',(callFunc f (aY E args).toArray).run P w= .ok (.value (ab E v)) w'/\bn E h' K w'/\Kept K w w'
structure Ctx (P:Program) (M0:Machine) (frC:Frame) (csC:List Frame) (w:World) (kind:CallKind) (dC:Deferred):Prop where
 enter:∀f a w',(invoke dC.target dC.args).run P w= .ok (.enter f a) w'->Go.step P M0= .next (lone (Frame.enter P f a kind) (frC::csC) w')
 round:∀l f t a b w',(invoke dC.target dC.args).run P w= .ok (.round l f t a b) w'->Go.step P M0= .next (lone (Frame.round l f t a b kind) (frC::csC) w')
 value:∀v w',(invoke dC.target dC.args).run P w= .ok (.value v) w'->kind= .normal->Go.step P M0= .next (lone (frC.finish v) csC w')
section
variable {P:Program} {tab:aZ} (ok:bw P tab) {sub:FuncId->List AV->AH->R (List (AV×AH))} (hsub:jY P tab sub) (hext:jX P tab)
variable {D:Nat->Prop} {E:Env} {K:KS} {base:List Frame} {frC:Frame} {csC:List Frame} {w:World}
include ok hsub hext in
theorem KB {fr:af} {cs:List af} {h:AH} {f:FuncId} {args:List AV} {kind:CallKind} {out:ee} (hc:callFn tab sub fr cs h f args kind= .ok out)
   (hR:Rel D E K {fr,cs,h} base frC csC w) (M0:Machine) {dC:Deferred} (hctx:Ctx P M0 frC csC w kind dC)
   (hinv:∀E',ak D E E'->invoke dC.target dC.args=callFunc f (aY E' args).toArray):Out P h.next M0 D E K (bot fr cs) base w out:=by
 unfold callFn at hc;split at hc
 . rename_i fn hfn;have hP:=ok.fns f fn hfn;have hn:fn.name≠ "runtime.NumGoroutine" :=by simpa using ok.tD f fn hfn
   split at hc
   . rename_i body hb;have hrun:∀a,(callFunc f a).run P w= .ok (.enter f a) w:=by
       intro a;simp[callFunc,hP,hn,hb]
     have hstep:∀E',ak D E E'->Go.step P M0= .next (lone (Frame.enter P f (aY E' args).toArray kind) (frC::csC) w):=fun E' he=>
       hctx.enter _ _ _ (by rw[hinv E' he,hrun])
     by_cases hm:(tab.merge f&&kind== .normal)=true
     . simp only[hm,A8]at hc;obtain⟨outs,ho,hc1⟩:=ai.1 hc;obtain⟨ms,hms,hc2⟩:=ai.1 hc1
       cases hc2;have hk:kind= .normal:=eq_of_beq ((Ab _ _▸hm).2:(kind== .normal)=true);subst hk;have hargs:∀E',ak D E E'->(aY E' args).toArray=(aY E args).toArray:=by
         intro E' he;have h1:=hstep E' he;rw[hstep E (ak.refl _ _)]at h1;obtain⟨e,_,_⟩:=oO (by simpa using h1);have h2:=hinv E' he;have h3:=hinv E (ak.refl _ _);rw[h2]at h3;have h4:=hrun (aY E' args).toArray;rw[h3,hrun]at h4;simpa using h4.symm
       obtain⟨v,h',hmem,he⟩:=hsub f fn body args h outs hfn hb ho D E K w (aY E args).toArray (fun E' he=>⟨(hR.all E' he).1,hargs E' he⟩) hR.eo (frC::csC);obtain⟨fr',w',v',E',D',s1,s2,s3,s4,s5,s6,s7,s8,s9,s10⟩:=he;obtain⟨y,hy,hg⟩:=GM hms _ hmem;obtain⟨fr1,hfin,hg1⟩:=ai.1 hg
       cases hg1;have hfc:=jR hfin;refine⟨_,hy,gS (hfc E).2.2 cs,frC.finish v',csC,w',E',D',?_,⟨?_,s7,?_⟩,s5,s6,s8,s9,s10⟩
       . exact(Steps.head (hstep E (ak.refl _ _)) s1).trans (.one (step_leave_returned s3))
       . intro E'' he';obtain⟨g1,g2⟩:=s4 E'' he';obtain⟨k1,k2,k3⟩:=hR.all E'' (s5.trans he' s6);refine⟨g1,?_,k3⟩;rw[<-(hfc E'').1,<-g2,<-k2]
       . exact⟨(hfc E).2.1 hR.wf.1,hR.wf.2⟩
     . have hm':(tab.merge f&&kind== .normal)=false:=by simpa using hm
       simp only[hm',AJ]at hc
       cases hc;refine⟨rfl,?_⟩;refine hR.one (m':={fr:=af.enter fn f body args kind,cs:=fr::cs,h}) M0 (fun _=>(0,0)) (Ah _) ⟨qq _ _ _ _ _,?_⟩ ?_
       . intro g hg;rcases Aj.1 hg with rfl|hg
         . exact hR.wf.1
         . exact hR.wf.2 g hg
       . intro E' he H e1 e2 _;refine⟨w,?_,H,Kept.refl K w⟩;rw[hstep E' he,mb hP hb];simp only[AP,Bh,e1,e2]
   . rename_i hb;split at hc
     . obtain⟨⟨v,h'⟩,hx,hc1⟩:=ai.1 hc;obtain⟨fr1,hfin,hc2⟩:=ai.1 hc1
       cases hc2;obtain⟨g,hg⟩:=hext f fn args h v h' hfn hb hx w;have hfc:=jR hfin;refine⟨gS (hfc E).2.2 cs,?_⟩;obtain⟨E1,ha1,hE1⟩:=hR.mQ (fun _=>g);have hn:=(hg E1 K (hR.all E1 ha1).1 (fun _=>hE1 h.next (Ah _))).1;refine hR.one (m':={fr:=fr1,cs,h:=h'}) M0 (fun _=>g) hn.1 ⟨(hfc E).2.1 hR.wf.1,hR.wf.2⟩ ?_;intro E' he H e1 e2 hE';obtain⟨_,w',s1,s2,s3⟩:=hg E' K H (fun hlt=>hE' h.next (Ah _) hlt);refine⟨w',?_,s2,s3⟩;rw[hctx.value (ab E' v) w' (by rw[hinv E' he,s1]) rfl,<-e1,<-e2,(hfc E').1]
     . cases hc
 . cases hc
omit ok hsub hext in
theorem J5 {fr:af} {cs:List af} {h:AH} {l:Nat} {args:List AV} {kind:CallKind} {out:ee} (hc:callYield fr cs h l args kind= .ok out)
  (hR:Rel D E K {fr,cs,h} base frC csC w) (M0:Machine) {dC:Deferred} (hctx:Ctx P M0 frC csC w kind dC)
  (hinv:∀E',ak D E E'->invoke dC.target dC.args=Instr.yield (E'.aQ l) (aY E' args).toArray):Out P h.next M0 D E K (bot fr cs) base w out:=by
 simp[callYield]at hc
include ok hsub hext in
theorem zG {fr:af} {cs:List af} {h:AH} {d:AD} {kind:CallKind} {out:ee} (hc:callTarget tab sub fr cs h d kind= .ok out)
   (hR:Rel D E K {fr,cs,h} base frC csC w) (M0:Machine) {dC:Deferred} (hctx:Ctx P M0 frC csC w kind dC) (hd:∀E',ak D E E'->eK E' d=dC):Out P h.next M0 D E K (bot fr cs) base w out:=by
 unfold callTarget at hc;split at hc
 . rename_i f captured ht;refine KB ok hsub hext hc hR M0 hctx (fun E' he=>?_);rw[<-hd E' he];simp only[eK,ht,mr,invoke,dq];simp
 . rename_i l ht;refine J5 hc hR M0 hctx (fun E' he=>?_);rw[<-hd E' he];simp only[eK,ht,mr,invoke]
 . cases hc
end
end
section
variable [Inhabited aF]
theorem uR {P:Program} {w:World} {r:Nat} {o:Obj} (h:w.heap[r]? =some o) (hn:∀c e f,o≠ .cells c e f) (o':Obj):(setObj r o').run P w= .ok () (w.put r o'):=by
 simp only[setObj,Sem.run,h];rfl
section
variable {P:Program} {h:AH}
theorem LK {it:AV} {s:Bool} {l:List (AV×AH)} (hn:nextOp h it s= .ok l) (w:World) (ty:TypeId):
  ∃j:Nat,∀E K,bn E h K w->∃(v:AV) (h':AH),l[j]? =some (v,h')/\h'.next=h.next/\ ∃w',(Instr.next (ab E it) s ty).run P w= .ok (ab E v) w'/\bn E h' K w'/\Kept K w w':=by
 simp[nextOp]at hn
end
end
section
variable [Inhabited aF]
section
variable {P:Program} {tab:aZ} (ok:bw P tab) {sub:FuncId->List AV->AH->R (List (AV×AH))} (hsub:jY P tab sub) (hext:jX P tab)
variable {D:Nat->Prop} {E:Env} {K:KS} {base:List Frame} {frC:Frame} {csC:List Frame} {w:World}
variable {fr:af} {cs:List af} {h:AH} {ops:Array Oper} {i:Nat} {rest:List Nat} {k:List bm} {o:Oper}
structure gX (frC:Frame) (ops:Array Oper) (i:Nat) (rest:List Nat) (o:Oper):Prop where
 mode:frC.mode= .run
 todo:∃k,frC.todo= .inRegion ops (i::rest)::k
 op:ops[i]? =some o
 wanted:Region.wanted o (yielded ops frC.tmps)=true
theorem kX (hR:Rel D E K {fr,cs,h} base frC csC w) (hm:fr.mode= .run) (ht:fr.todo= .inRegion ops (i::rest)::k) (ho:ops[i]? =some o) (hw:wanted ops o fr.tmps= .ok true):gX frC ops i rest o:=by
 obtain⟨_,e,_⟩:=hR.all E (ak.refl _ _);subst e;refine⟨by simp[bc,hm,fe],⟨k.map (dL E),by simp[bc,ht,dL]⟩,ho,?_⟩;exact xd hR.wf.1 hw E
theorem gX.step (a:gX frC ops i rest o) (hd:frC.roundOf=none\/ ∀c,o.op≠ .defer c) (csC:List Frame) (w:World):
  stepG P true {frame:=frC,callers:=csC,status:= .running,dying:=none} w=stepG.apply P true frC csC none (execOp frC.eval o) w:=by
 obtain⟨k,hk⟩:=a.todo;exact PM a.mode hk a.op a.wanted hd w
theorem gX.value (a:gX frC ops i rest o) (hd:frC.roundOf=none\/ ∀c,o.op≠ .defer c) (csC:List Frame) {w w':World} {r:Next} {x:Value} (hs:(execOp frC.eval o).run P w= .ok r w') (hr:yJ r x):
  Go.step P (lone frC csC w)= .next (lone (frC.finish x) csC w'):=
 step_lone_go (by rw[a.step hd,Ck hs hr])
theorem Gd {ts:T AV} {v:AV} {h':AH} (hp:eM tab ts h o= .ok (v,h')):∀c,o.op≠ .defer c:=by
 intro c e;unfold eM at hp;rw[e]at hp
 cases hp
include ok in
theorem Ng (hR:Rel D E K {fr,cs,h} base frC csC w) (a:gX frC ops i rest o) {v:AV} {h':AH} (hp:eM tab fr.tmps h o= .ok (v,h')) {fr':af} (hf:fr.finish v= .ok fr'):
  Out P h.next (lone frC csC w) D E K (bot fr cs) base w (.next {fr:=fr',cs,h:=h'}):=by
 obtain⟨f,hgood⟩:=Cd ok hp w frC.eval;have hfc:=jR hf;have hρ:∀E',ak D E E'->∀x u,ev fr.tmps x= .ok u->frC.eval x=ab E' u:=by
  intro E' he x u hx;rw[<-(hR.all E' he).2.1];exact oU hR.wf.1 E' hx
 obtain⟨E1,ha1,hE1⟩:=hR.mQ (fun _=>f);have hn:=(hgood E1 K (hR.all E1 ha1).1 (hρ E1 ha1) (fun _=>hE1 h.next (Ah _))).1;refine⟨gS (hfc E).2.2 cs,?_⟩;refine hR.one (m':={fr:=fr',cs,h:=h'}) _ (fun _=>f) hn.1 ⟨(hfc E).2.1 hR.wf.1,hR.wf.2⟩ ?_;intro E' he H e1 e2 hE';obtain⟨_,r,w',s1,s2,s3,s4⟩:=hgood E' K H (hρ E' he) (fun hlt=>hE' h.next (Ah _) hlt);refine⟨w',?_,s3,s4⟩;rw[a.value (.inr (Gd hp)) csC s1 s2,<-e1,<-e2,(hfc E').1]
theorem tI {u:AV} {args:List AV} {d:AD} (hd:qw u args= .ok d) (E:Env):Deferred.ofValue (ab E u) (aY E args).toArray=pure (eK E d):=by
 unfold qw at hd;split at hd
 . cases hd;simp[Deferred.ofValue,ab,eK,mr]
 . cases hd;simp[Deferred.ofValue,ab,eK,mr]
 . cases hd
theorem wV {f:Value} {a:Array Value} {d:AD} (h:∀E',ak D E E'->Deferred.ofValue f a=pure (eK E' d)):∀E',ak D E E'->eK E' d=eK E d:=by
 intro E' he;have h1:=h E' he;rw[h E (ak.refl _ _)]at h1;have h2:(pure (eK E d):Sem Deferred).run default default=(pure (eK E' d):Sem Deferred).run default default:=by rw[h1]
 simpa using h2.symm
theorem xE (a:gX frC ops i rest o) (hd:frC.roundOf=none\/ ∀c,o.op≠ .defer c) {dC:Deferred} (hx:(execOp frC.eval o).run P w=(invoke dC.target dC.args).run P w):
   Ctx P (lone frC csC w) frC csC w .normal dC:=by
 obtain⟨k,hk⟩:=a.todo;refine⟨fun f x w' hr=>?_,fun l f t x b w' hr=>?_,fun v w' hr _=>?_⟩
 . refine step_lone_go ?_;rw[a.step hd];simp[stepG.apply,hx,hr,hk]
 . refine step_lone_go ?_;rw[a.step hd];simp[stepG.apply,hx,hr]
 . exact a.value hd csC (by rw[hx,hr]) (.inl rfl)
theorem Ki {r:Option (AV×List af)} (hr:tryRecover fr cs= .ok r) (E:Env) (base:List Frame):
   Go.tryRecover (bc E fr) (cs.map (bc E)++base)=r.map (fun x=>(ab E x.1,x.2.map (bc E)++base)):=by
 unfold tryRecover at hr;split at hr
 . rename_i _ c rest hk;have hk':(bc E fr).kind= .deferred:=hk;split at hr
   . rename_i v older hm
     cases hr;have hm':(bc E c).mode= .panicking ({v:=ab E v,recovered:=false}::older.map (mq E)):=by simp[bc,hm,fe,mq]
     simp only[AP,Bh,Go.tryRecover,hk',hm',A2];rfl
   . rename_i hm
     cases hr;simp only[AP,Bh,Go.tryRecover,hk',BV];split
     . rename_i heq;exfalso;simp only[bc,fe]at heq;split at heq
       . cases heq
       . cases heq
       . rename_i chain hch
         cases chain with
         |nil=>simp at heq
         |cons p older=>
          obtain⟨v',rc⟩:=p;simp[mq]at heq;obtain⟨⟨_,h2⟩,_⟩:=heq;subst h2;exact hm _ _ hch
     . rfl
 . rename_i _ c rest hk
   cases hr;have hk':(bc E fr).kind= .normal:=hk;simp only[AP,Bh];unfold Go.tryRecover;simp[hk']
 . cases hr
theorem Ky {v:AV} {cs':List af} (hr:tryRecover fr cs= .ok (some (v,cs'))):(∀f∈cs,f.WF)->(∀f∈cs',f.WF)/\(∀fr',fr'.fn=fr.fn->bot fr' cs'=bot fr cs):=by
 intro hwf;unfold tryRecover at hr;split at hr
 . rename_i _ c rest hk;split at hr
   . cases hr;refine⟨fun f hf=>?_,fun fr' hf=>?_⟩
     . rcases Aj.1 hf with rfl|hf
       . exact hwf c Ao
       . exact hwf f (An _ hf)
     . show bot _ rest=bot c rest
       exact gS (by rfl) rest
   . cases hr
 . cases hr
 . cases hr
include ok hsub hext in
theorem LN {out:ee} (hop:oper tab sub fr cs h o= .ok out) (hR:Rel D E K {fr,cs,h} base frC csC w) (hm:fr.mode= .run) (ht:fr.todo= .inRegion ops (i::rest)::k)
   (ho:ops[i]? =some o) (hw:wanted ops o fr.tmps= .ok true):Out P h.next (lone frC csC w) D E K (bot fr cs) base w out:=by
 have a:=kX hR hm ht ho hw;have hρ:∀E',ak D E E'->∀x u,ev fr.tmps x= .ok u->frC.eval x=ab E' u:=by
   intro E' he x u hx;rw[<-(hR.all E' he).2.1];exact oU hR.wf.1 E' hx
 have hpure:∀{out:ee},(do let (v,h')<-eM tab fr.tmps h o;R.ok (ee.next {fr:= <-fr.finish v,cs,h:=h'}):R ee)= .ok out->Out P h.next (lone frC csC w) D E K (bot fr cs) base w out:=by
   intro out hp;obtain⟨⟨v,h'⟩,h1,hp1⟩:=ai.1 hp;obtain⟨fr',h2,hp2⟩:=ai.1 hp1
   cases hp2;exact Ng ok hR a h1 h2
 unfold oper at hop;split at hop
 . rename_i c hc;split at hop
   ·
     rename_i f hf;obtain⟨args,hargs,hop1⟩:=ai.1 hop;obtain⟨u,hu,hop2⟩:=ai.1 hop1;obtain⟨d,hd,hop3⟩:=ai.1 hop2;have hres:∀E',ak D E E'->Deferred.ofValue (frC.eval f) (c.args.map frC.eval)=pure (eK E' d):=by
       intro E' he;rw[<-tI hd E',hρ E' he _ _ hu,<-oV (hρ E' he) _ _ hargs];congr 1
       simp[<-Array.toList_inj]
     have hrob:=wV hres;refine zG ok hsub hext hop3 hR _ (dC:=eK E d) (xE a (.inr (by rw[hc];intro c' e;cases e)) ?_) hrob;simp[execOp,hc,resolve,hf,hres E (ak.refl _ _)]
   ·
     rename_i hb;split at hop
     . rename_i hround;have hr0:frC.roundOf=none:=by
         rw[<-(hR.all E (ak.refl _ _)).2.1];simp[bc,hround]
       obtain⟨r,hr,hop1⟩:=ai.1 hop;have hnd:frC.roundOf=none\/ ∀c,o.op≠ .defer c:= .inl hr0;have hrun:(execOp frC.eval o).run P w= .ok .recover w:=by
         simp[execOp,hc,resolve,hb,invoke,Go.builtin]
       have hstep:∀E',ak D E E'->(stepG P true {frame:=frC,callers:=csC,status:= .running,dying:=none} w).bare=
          (match r.map (fun x=>(ab E' x.1,x.2.map (bc E')++base))with
           |some (v,callers)=> .go {frame:=frC.finish v,callers,status:= .running,dying:=none} w
           |none=> .go {frame:=frC.finish .nilIface,callers:=csC,status:= .running,dying:=none} w):=by
         intro E' he;obtain⟨_,e1,e2⟩:=hR.all E' he;rw[<-Ki hr E' base,e1,e2,a.step hnd];simp only[stepG.apply,hrun,hr0,Sem.runT_eq,if_true]
         cases Go.tryRecover frC csC<;>simp
       split at hop1
       . rename_i v cs';obtain⟨fr',hf,hop2⟩:=ai.1 hop1
         cases hop2;have hfc:=jR hf;obtain⟨g1,g2⟩:=Ky hr hR.wf.2;refine⟨g2 _ (hfc E).2.2,?_⟩;refine hR.one (m':={fr:=fr',cs:=cs',h}) _ (fun _=>(0,0)) (Ah _) ⟨(hfc E).2.1 hR.wf.1,g1⟩ ?_;intro E' he H e1 e2 _;refine⟨w,step_lone_go ?_,H,Kept.refl K w⟩;rw[hstep E' he,<-(hfc E').1,e1];rfl
       . obtain⟨fr',hf,hop2⟩:=ai.1 hop1
         cases hop2;have hfc:=jR hf;refine⟨gS (hfc E).2.2 cs,?_⟩;refine hR.one (m':={fr:=fr',cs,h}) _ (fun _=>(0,0)) (Ah _) ⟨(hfc E).2.1 hR.wf.1,hR.wf.2⟩ ?_;intro E' he H e1 e2 _;refine⟨w,step_lone_go ?_,H,Kept.refl K w⟩;rw[hstep E' he,<-(hfc E').1,e1,e2];rfl
     . cases hop
   . exact hpure hop
 ·
   rename_i c hc;split at hop
   . rename_i f hf hround;have hr0:frC.roundOf=none:=by
       rw[<-(hR.all E (ak.refl _ _)).2.1];simp[bc,hround]
     obtain⟨args,hargs,hop1⟩:=ai.1 hop;obtain⟨u,hu,hop2⟩:=ai.1 hop1;obtain⟨d,hd,hop3⟩:=ai.1 hop2;obtain⟨fr',hfin,hop4⟩:=ai.1 hop3
     cases hop4;have hres:∀E',ak D E E'->Deferred.ofValue (frC.eval f) (c.args.map frC.eval)=pure (eK E' d):=by
       intro E' he;rw[<-tI hd E',hρ E' he _ _ hu,<-oV (hρ E' he) _ _ hargs];congr 1
       simp[<-Array.toList_inj]
     have hfc:=jR hfin;refine⟨(gS (hfc E).2.2 cs).trans (gS (by rfl) cs),?_⟩;refine hR.one (m':={fr:=fr',cs,h}) _ (fun _=>(0,0)) (Ah _) ⟨(hfc E).2.1 hR.wf.1,hR.wf.2⟩ ?_;intro E' he H e1 e2 _;refine⟨w,step_lone_go ?_,H,Kept.refl K w⟩;have hrun:(execOp frC.eval o).run P w= .ok (.defer (eK E' d)) w:=by
       simp[execOp,hc,resolve,hf,hres E' he]
     rw[a.step (.inl hr0),<-(hfc E').1,<-e2];simp only[stepG.apply,hrun,Sem.runT_eq,if_true,GStep.bare_after,GStep.bare_go];rw[<-e1];rfl
   . cases hop
 ·
   rename_i x hx;obtain⟨u,hu,hop1⟩:=ai.1 hop;split at hop1
   . rename_i t v
     cases hop1;have hnd:∀c,o.op≠ .defer c:=by rw[hx];intro c e;cases e
     refine⟨gS (by unfold af.raise;split<;>rfl) cs,?_⟩;refine hR.one (m':={fr:=fr.raise [{v:= .iface t v,recovered:=false}],cs,h}) _ (fun _=>(0,0)) (Ah _) ⟨by unfold af.raise;split<;>exact hR.wf.1,hR.wf.2⟩ ?_;intro E' he H e1 e2 _;refine⟨w,step_lone_go ?_,H,Kept.refl K w⟩;have hrun:(execOp frC.eval o).run P w= .halt (.panic (ab E' (.iface t v))) w:=by
       simp[execOp,hx,hρ E' he _ _ hu,ab,Instr.panic,goPanic,Sem.run,Result.andThen]
     rw[a.step (.inr hnd),<-e2];simp only[stepG.apply,hrun,Sem.runT_eq,if_true,GStep.bare_after,GStep.bare_go];rw[<-e1];simp[Frame.raise,af.raise,bc,hm,fe,mq]
   . cases hop1
 ·
   rename_i it s hn;obtain⟨u,hu,hop1⟩:=ai.1 hop;obtain⟨l,hl,hop2⟩:=ai.1 hop1;obtain⟨ms,hms,hop3⟩:=ai.1 hop2;have hnd:∀c,o.op≠ .defer c:=by rw[hn];intro c e;cases e
   obtain⟨j,hj⟩:=LK (P:=P) hl w o.type;obtain⟨v,h',hv,hh,_⟩:=hj E K (hR.all E (ak.refl _ _)).1;obtain⟨y,hy,hg⟩:=GM hms _ (BP hv);obtain⟨fr',hfin,hg1⟩:=ai.1 hg
   cases hg1;have hfc:=jR hfin;have hgets:bot fr' cs=bot fr cs/\fQ P h.next (lone frC csC w) D E K {fr:=fr',cs,h:=h'} base w:=by
     refine⟨gS (hfc E).2.2 cs,?_⟩;refine hR.one (m':={fr:=fr',cs,h:=h'}) _ (fun _=>(0,0)) (by simp only;omega) ⟨(hfc E).2.1 hR.wf.1,hR.wf.2⟩ ?_;intro E' he H e1 e2 _;obtain⟨v2,h2,hv2,_,w',s1,s2,s3⟩:=hj E' K H;rw[hv]at hv2
     cases hv2;refine⟨w',?_,s2,s3⟩;rw[a.value (.inr hnd) csC (fN (s:=Instr.next (frC.eval it) s o.type) (by simp[execOp,hn]) (by rw[hρ E' he _ _ hu];exact s1)) (.inl rfl),<-e1,<-e2,(hfc E').1]
   split at hop3
   . rename_i m
     cases hop3;rcases Aj.1 hy with rfl|hy
     . exact hgets
     . cases hy
   . cases hop3;exact⟨_,hy,hgets⟩
 . exact hpure hop
end
end
section
variable [Inhabited aF]
section
variable {P:Program} {tab:aZ} (ok:bw P tab) {sub:FuncId->List AV->AH->R (List (AV×AH))} (hsub:jY P tab sub) (hext:jX P tab)
variable {D:Nat->Prop} {E:Env} {K:KS} {base:List Frame} {frC:Frame} {csC:List Frame} {w:World}
variable {fr:af} {cs:List af} {h:AH}
theorem KC (E:Env) (l:List tx):(l.map (mq E)).dropWhile (fun e=> !e.goexit)=[]:=by
 induction l with
 |nil=>rfl
 |cons a l ih=>simp[mq];exact ih
theorem wW {v:AV} {m':AM} (hd:doReturn fr cs v h= .ok (.next m')) (hwf:∀f∈cs,f.WF) (w:World):
   m'.h=h/\bot m'.fr m'.cs=bot fr cs/\(m'.fr.WF/\ ∀f∈m'.cs,f.WF)/\
   ∀ E base,(Go.doReturn P true (bc E fr) (cs.map (bc E)++base) none (ab E v) w).bare=
     .go {frame:=bc E m'.fr,callers:=m'.cs.map (bc E)++base,status:= .running,dying:=none} w:=by
 unfold doReturn at hd;split at hd
 . split at hd<;>cases hd
 . rename_i c rest;have hc:=hwf c Ao;have hrest:∀f∈rest,f.WF:=fun f hf=>hwf f (An _ hf)
   split at hd
   . rename_i hk;obtain⟨fr1,hf,hd1⟩:=ai.1 hd
     cases hd1;have hfc:=jR hf;refine⟨rfl,gS (hfc ⟨fun _=>0,fun _=>0⟩).2.2 rest,⟨(hfc ⟨fun _=>0,fun _=>0⟩).2.1 hc,hrest⟩,fun E base=>?_⟩;have hk':(bc E fr).kind= .normal:=hk;simp[Go.doReturn,hk',(hfc E).1]
   . rename_i hk;split at hd
     . rename_i r hm
       cases hd;refine⟨rfl,gS (by rfl) rest,⟨hc,hrest⟩,fun E base=>?_⟩;have hk':(bc E fr).kind= .deferred:=hk;simp only[AP,Bh,Go.doReturn,hk'];simp only[bc,hm,fe,AP,mq];simp[KC]
     . rename_i hm
       cases hd;refine⟨rfl,rfl,⟨hc,hrest⟩,fun E base=>?_⟩;have hk':(bc E fr).kind= .deferred:=hk;simp only[AP,Bh,Go.doReturn,hk'];split
       . rename_i heq;exfalso;simp only[bc,fe]at heq;split at heq
         . cases heq
         . cases heq
         . rename_i chain hch
           cases chain with
           |nil=>simp at heq
           |cons p older=>
            obtain⟨v',rc⟩:=p;simp[mq]at heq;obtain⟨⟨_,h2,_⟩,_⟩:=heq;subst h2;exact hm _ _ hch
       . rfl
   . cases hd
include ok in
theorem Ll {ts:T AV} {nt:Nat} (hwf:∀t,nt<=t->ts.get t=none) (H:bn E h K w):∀(l:List ResultVar) (vs:List AV),results tab h ts l= .ok vs->
  (l.mapM (m:=Sem) fun
   | .tmp t=>pure ((gn E ts nt).getD t undef)
   | .cell a t=>do Go.loadVar t (<-asAddr ((gn E ts nt).getD a undef))).run P w= .ok (aY E vs) w:=by
 intro l;induction l with
 |nil=>intro vs h;simp only[results]at h;cases h;simp
 | cons x l ih=>
  intro vs hr;rw[EZ]
  cases x with
  |tmp t=>
   simp only[results]at hr;obtain⟨vs1,h1,h2⟩:=ai.1 hr
   cases h2;simp only[Sem.run_bind,Sem.run_pure,Result.andThen_ok,ih _ h1,xO E ts nt t hwf,bA]
  |cell a t=>
   simp only[results]at hr;split at hr
   . rename_i b off ha;obtain⟨v,h1,h2⟩:=ai.1 hr;obtain⟨vs1,h3,h4⟩:=ai.1 h2
     cases h4;have hv:=Ch ok H h1;have hva:asAddr (ab E (.ptr b off))=pure ⟨E.aQ b,off,none⟩:=rfl;simp only[Sem.run_bind,Sem.run_pure,Result.andThen_ok,ih _ h3,xO E ts nt a hwf,bA,ha,AK,hva,hv]
   . cases hr
include ok in
theorem KZ {fn:Func} {ts:T AV} {nt:Nat} (hwf:∀t,nt<=t->ts.get t=none) (H:bn E h K w) {vs:List AV} (hr:results tab h ts fn.results.toList= .ok vs):
  (Go.results fn (gn E ts nt)).run P w= .ok (ab E (result vs)) w:=by
 have h1:=Ll ok hwf H _ _ hr;unfold Go.results;rw[Array.mapM_eq_mapM_toList,map_eq_pure_bind,Sem.run_bind,Sem.run_bind];erw[h1]
 simp only[Result.andThen_ok,Sem.run_pure]
 cases vs with
 |nil=>simp[result,ab]
 |cons v vs=>
  cases vs with
  |nil=>simp[result]
  |cons u vs=>simp[result,ab]
end
end
section
variable [Inhabited aF]
section
variable {P:Program} {tab:aZ} (ok:bw P tab) {sub:FuncId->List AV->AH->R (List (AV×AH))} (hsub:jY P tab sub) (hext:jX P tab)
variable {D:Nat->Prop} {E:Env} {K:KS} {base:List Frame} {frC:Frame} {csC:List Frame} {w:World}
variable {fr:af} {cs:List af} {h:AH}
theorem FG {E E':Env} (e:bc E' fr=bc E fr):gn E' fr.tmps fr.nt=gn E fr.tmps fr.nt/\fr.todo.map (dL E')=fr.todo.map (dL E)/\
  fr.defers.map (eK E')=fr.defers.map (eK E)/\fe E' fr.mode=fe E fr.mode/\fr.round.map E'.aQ=fr.round.map E.aQ:=by
 simpa [bc]using e
def kk (P:Program) (fr:Frame) (callers:List Frame) (w:World) (jump:Option Code):GStep:=
 match fr.roundOf with
 |none=>if jump matches none|some .ret then .go {frame:={fr with mode:= .returning},callers,status:= .running,dying:=none} w else .ended (.stuck "exit, goto: no such block or label" (fr.pos P)) w
 |some l=>
  let (r,es):=(Instr.endRound l jump).runT P w #[]
  GStep.after (seen P fr.fn es)<|match r with
  | .ok v w=>Go.doReturn P true fr callers none v w
  | .halt _ w=> .ended (.stuck "range over a function: no such loop" (fr.pos P)) w
theorem zM {c:af} {rest:List af} {v:AV} {out:ee} (hd:doReturn fr (c::rest) v h= .ok out):∃m',out= .next m':=by
 unfold doReturn at hd;simp only at hd;split at hd
 . obtain⟨fr1,hf,hd1⟩:=ai.1 hd
   cases hd1;exact⟨_,rfl⟩
 . split at hd<;>(cases hd;exact⟨_,rfl⟩)
 . cases hd
theorem xi {jump:Option Code} {out:ee} (hl:leave fr cs h jump= .ok out) (hR:Rel D E K {fr,cs,h} base frC csC w)
   (hx:stepG P true {frame:=frC,callers:=csC,status:= .running,dying:=none} w=kk P frC csC w jump):Out P h.next (lone frC csC w) D E K (bot fr cs) base w out:=by
 unfold leave at hl;split at hl
 . rename_i hround;have hret:(jump=none\/jump=some .ret)->Out P h.next (lone frC csC w) D E K (bot fr cs) base w (.next {fr:={fr with mode:= .returning},cs,h}):=by
     intro hj;refine⟨gS (by rfl) cs,?_⟩;refine hR.one (m':={fr:={fr with mode:= .returning},cs,h}) _ (fun _=>(0,0)) (Ah _) ⟨hR.wf.1,hR.wf.2⟩ ?_;intro E' he H e1 e2 _;refine⟨w,step_lone_go ?_,H,Kept.refl K w⟩;rw[hx];have hr0:frC.roundOf=none:=by rw[<-e1];simp[bc,hround]
     have hgo:(kk P frC csC w jump).bare= .go {frame:={frC with mode:= .returning},callers:=csC,status:= .running,dying:=none} w:=by
       unfold kk;rw[hr0];rcases hj with rfl|rfl<;>rfl
     rw[hgo,<-e1,<-e2];simp[bc,hround,fe]
   split at hl
   . cases hl;exact hret (.inl rfl)
   . cases hl;exact hret (.inr rfl)
   . cases hl
 . rename_i l hround;split at hl
   . rename_i _ st pd fn ts nt ps a b d c rest hg;obtain⟨m',rfl⟩:=zM hl
     . obtain⟨h1,h2,h3,h4⟩:=wW (P:=P) hl hR.wf.2 w;refine⟨h2,?_⟩;refine hR.one _ (fun _=>(0,0)) (by rw[h1];exact Ah _) h3 ?_;intro E' he H e1 e2 _;obtain⟨o,ho,hoo,hw⟩:=H.obj l _ hg;subst hoo;let o':Obj:= .loop {state:=if jump.isNone then .ready else .done,pending:=jump,fn,tmps:=gn E' ts nt,params:=ps,assign:=a,body:=b,defers:=E'.aQ d}
       have hrun:(Instr.endRound (E'.aQ l) jump).run P w= .ok (.bool jump.isNone) (w.put (E'.aQ l) o'):=by
         unfold Instr.endRound Instr.getLoop;simp only[Sem.run_bind,uQ ho (by simp),Result.andThen_ok,Sem.run_pure,uR ho (by simp)];rfl
       refine⟨w.put (E'.aQ l) o',step_lone_go ?_,?_,H.dv hg (by simp[AO.ro]) _⟩
       . rw[hx];have hr0:frC.roundOf=some (E'.aQ l):=by rw[<-e1];simp[bc,hround]
         unfold kk;rw[hr0];simp only[Sem.runT_eq,hrun,GStep.bare_after];have:=(wW (P:=P) hl hR.wf.2 (w.put (E'.aQ l) o')).2.2.2 E' base;simp only at e1 e2;rw[e1,e2]at this;exact this
       . rw[h1];refine H.put hg (by simp[AO.ro]) ⟨?_,hw⟩;by_cases hj:jump.isNone<;>simp[o',hj]
   . cases hl
theorem KI (hm:frC.mode≠ .run):stepG P true {frame:=frC,callers:=csC,status:= .running,dying:=none} w=Go.unwind P true frC csC none w:=by
 unfold stepG
 cases hmode:frC.mode with
 |run=>exact absurd hmode hm
 |returning=>simp[hmode]
 |panicking c=>simp[hmode]
include ok hsub hext in
theorem KK {out:ee} (hu:unwind tab sub fr cs h= .ok out) (hm:∀(_:fr.mode= .run),False) (hR:Rel D E K {fr,cs,h} base frC csC w):Out P h.next (lone frC csC w) D E K (bot fr cs) base w out:=by
 have hmC:frC.mode≠ .run:=by
   rw[<-(hR.all E (ak.refl _ _)).2.1];intro e;simp only[bc,fe]at e;split at e
   . rename_i hmm;exact hm hmm
   . cases e
   . cases e
 have hx:=KI (P:=P) (csC:=csC) (w:=w) hmC;unfold unwind at hu;split at hu
 ·
   rename_i b args ds hds;split at hu
   . rename_i calls hb
     cases hu;refine⟨gS (by rfl) cs,?_⟩;refine hR.one (m':={fr:={fr with defers:=calls++ds},cs,h:=h.set b (.tz none)}) _ (fun _=>(0,0)) (Ah _) ⟨hR.wf.1,hR.wf.2⟩ ?_;intro E' he H e1 e2 _;obtain⟨o,ho,hoo⟩:=H.obj b _ hb;simp only[oh]at hoo;subst hoo;refine⟨w.put (E'.aQ b) (.deferred none),step_lone_go ?_,H.put hb (by simp[AO.ro]) (by simp[oh]),H.dv hb (by simp[AO.ro]) _⟩;rw[hx];have hrun:(Instr.takeDeferred (E'.aQ b)).run P w= .ok (calls.map (eK E')) (w.put (E'.aQ b) (.deferred none)):=by
       unfold Instr.takeDeferred;simp only[Sem.run_bind,uQ ho (by simp),Result.andThen_ok,Sem.run_pure,uR ho (by simp),A2]
     have hdef:frC.defers={target:= .collected (E'.aQ b),args:=(aY E' args).toArray}::ds.map (eK E'):=by
       rw[<-e1];simp[bc,hds,eK,mr]
     unfold Go.unwind;simp only[hdef,Sem.runT_eq,hrun,GStep.bare_after,GStep.bare_go];rw[<-e1,<-e2];simp[bc]
   . cases hu
 ·
   rename_i d ds hnc hds;have hR':Rel D E K {fr:={fr with defers:=ds},cs,h} base (bc E {fr with defers:=ds}) csC w:=by
     refine⟨fun E' he=>?_,hR.eo,hR.wf.1,hR.wf.2⟩;obtain⟨g1,g2,g3⟩:=hR.all E' he;refine⟨g1,?_,g3⟩;obtain⟨h1,h2,h3,h4,h5⟩:=FG (g2.trans (hR.all E (ak.refl _ _)).2.1.symm);rw[hds]at h3;simp only[AP,BG]at h3;simp[bc,h1,h2,h3.2,h4,h5]
   have hdrob:∀E',ak D E E'->eK E' d=eK E d:=by
     intro E' he;obtain⟨g1,g2,g3⟩:=hR.all E' he;obtain⟨h1,h2,h3,h4,h5⟩:=FG (g2.trans (hR.all E (ak.refl _ _)).2.1.symm);rw[hds]at h3;simp only[AP,BG]at h3;exact h3.1
   have hfr:frC=bc E fr:=(hR.all E (ak.refl _ _)).2.1.symm;have hdef:frC.defers=eK E d::ds.map (eK E):=by
     rw[hfr];simp[bc,hds]
   have hfr':({frC with defers:=ds.map (eK E)}:Frame)=bc E {fr with defers:=ds}:=by
     rw[hfr];rfl
   have hux:Go.unwind P true frC csC none w=callDeferred P (bc E {fr with defers:=ds}) csC none (eK E d) w:=by
     have hnc':∀b,(eK E d).target≠ .collected b:=by
       intro b e;obtain⟨t,a⟩:=d
       cases t with
       |fn f c=>simp[eK,mr]at e
       |lG l=>simp[eK,mr]at e
       |collected r=>exact hnc _ _ rfl
     unfold Go.unwind;rw[hdef];split
     . rename_i b ds' _ heq;simp only[BG]at heq;exact absurd (by rw[heq.1]) (hnc' _)
     . rename_i heq;simp only[BG]at heq;obtain⟨rfl,rfl⟩:=heq;rw[hfr']
     . rename_i heq;cases heq
   obtain⟨tg,tc,htgt⟩:∃g c,(eK E d).target= .fn g c:=by
     obtain⟨t,a⟩:=d
     cases t with
     |fn f c=>exact⟨_,_,rfl⟩
     |lG l=>exact⟨_,_,rfl⟩
     |collected r=>exact absurd rfl (fun e=>hnc r a e)
   rw[<-gS (fr:=fr) (fr':={fr with defers:=ds}) rfl cs];refine(zG ok hsub hext hu hR' (lone frC csC w) (dC:=eK E d) ⟨fun f x w' hr=>?_,fun l f t x b w' hr=>?_,fun v w' hr hk=>?_⟩ hdrob)
   . refine step_lone_go ?_;rw[hx,hux];unfold callDeferred;rw[htgt]at hr;simp only[htgt,Bc,Ak,Aw,Sem.runT_eq,hr,GStep.bare_after,GStep.bare_go]
   . refine step_lone_go ?_;rw[hx,hux];unfold callDeferred;rw[htgt]at hr;simp only[htgt,Bc,Ak,Aw,Sem.runT_eq,hr,GStep.bare_after,GStep.bare_go]
   . cases hk
 . rename_i hds;have hdef:frC.defers=[]:=by
     rw[<-(hR.all E (ak.refl _ _)).2.1];simp[bc,hds]
   split at hu
   . cases hu
   ·
     rename_i chain hmode;split at hu
     . rename_i c rest
       cases hu;refine⟨gS (by unfold af.raise;split<;>rfl) rest,?_⟩;refine hR.one (m':={fr:=c.raise chain,cs:=rest,h}) _ (fun _=>(0,0)) (Ah _)
        ⟨by have:=hR.wf.2 c Ao;unfold af.raise;split<;>exact this,fun f hf=>hR.wf.2 f (An _ hf)⟩ ?_
       intro E' he H e1 e2 _;refine⟨w,step_lone_go ?_,H,Kept.refl K w⟩;have hmd:frC.mode= .panicking (chain.map (mq E')):=by rw[<-e1];simp[bc,hmode,fe]
       have hcat:frC.catches P=false:=by
        unfold Frame.catches;rw[<-e1]
        cases P.funcs[(bc E' fr).fn]? with
        |some _=>rfl
        | none=>
          cases htd:fr.todo with
          |nil=>simp[bc,htd]
          |cons x l=>cases x<;>simp[bc,htd,dL]
       rw[hx];unfold Go.unwind;simp only[hdef,hmd,hcat,Ak,Aw];rw[<-e2];simp only[AP,Bh,GStep.bare_go];congr 2
       unfold Frame.raise af.raise
       cases hcm:c.mode<;>simp[bc,hcm,fe]
     . cases hu
   ·
     rename_i hmode;split at hu
     . cases hu
     . rename_i fn hfn;obtain⟨vs,hvs,hu1⟩:=ai.1 hu;have hP:=ok.fns _ _ hfn;have hmd:frC.mode= .returning:=by rw[<-(hR.all E (ak.refl _ _)).2.1];simp[bc,hmode,fe]
       have hres:∀E',ak D E E'->(Go.results fn frC.tmps).run P w= .ok (ab E' (result vs)) w:=by
        intro E' he;obtain⟨g1,g2,g3⟩:=hR.all E' he;rw[<-g2];exact KZ ok hR.wf.1 g1 hvs
       have hfn':frC.fn=fr.fn:=by rw[<-(hR.all E (ak.refl _ _)).2.1];rfl
       have hP':P.funcs[frC.fn]? =some fn:=by rw[hfn'];exact hP
       have hxx:∀E',ak D E E'->(stepG P true {frame:=frC,callers:=csC,status:= .running,dying:=none} w).bare=(Go.doReturn P true frC csC none (ab E' (result vs)) w).bare:=by
        intro E' he;rw[hx];unfold Go.unwind;simp only[hdef,hmd,hP',Sem.runT_eq,hres E' he,GStep.bare_after]
       cases cs with
       |cons c rest=>
        obtain⟨m',rfl⟩:=zM hu1;obtain⟨h1,h2,h3,h4⟩:=wW (P:=P) hu1 hR.wf.2 w;refine⟨h2,?_⟩;refine hR.one _ (fun _=>(0,0)) (by rw[h1];exact Ah _) h3 ?_;intro E' he H e1 e2 _;refine⟨w,step_lone_go ?_,by rw[h1];exact H,Kept.refl K w⟩;rw[hxx E' he];have:=h4 E' base;simp only at e1 e2;rw[e1,e2]at this;exact this
       |nil=>
        unfold doReturn at hu1;simp only at hu1;split at hu1
        . rename_i hk
          cases hu1;have hk':frC.kind= .normal:=by rw[<-(hR.all E (ak.refl _ _)).2.1];exact hk
          have hcs:csC=base:=by rw[<-(hR.all E (ak.refl _ _)).2.2];rfl
          subst hcs;refine⟨frC,w,ab E (result vs),E,D,Steps.refl P _,hfn',⟨hmd,hdef,hk',fn,hP',hres E (ak.refl _ _)⟩,?_,ak.refl _ _,fun _ hi=>hi,hR.eo,Kept.refl K w,Ah _,fun _ hi=> .inl hi⟩;intro E'' he;refine⟨(hR.all E'' he).1,?_⟩;have h1:=hres E'' he;rw[hres E (ak.refl _ _)]at h1;simpa using h1.symm
        . cases hu1
end
end
section
variable [Inhabited aF]
section
variable {P:Program} {tab:aZ} (ok:bw P tab) {sub:FuncId->List AV->AH->R (List (AV×AH))} (hsub:jY P tab sub) (hext:jX P tab)
variable {D:Nat->Prop} {E:Env} {K:KS} {base:List Frame} {frC:Frame} {csC:List Frame} {w:World}
variable {fr:af} {cs:List af} {h:AH}
theorem Rel.grow {m:AM} (hR:Rel D E K m base frC csC w) (m':AM) (fr':Frame) (w':World) (f:Nat->Nat×Nat) (hn:m.h.next<=m'.h.next) (hwf:m'.fr.WF/\ ∀f∈m'.cs,f.WF) (hcs:m'.cs=m.cs)
   (h1:∀E',ak D E E'->bn E' m.h K w->bc E' m.fr=frC->(∀i,m.h.next<=i->i<m'.h.next->E'.aQ i=(f i).1/\E'.cap i=(f i).2)->bn E' m'.h K w'/\bc E' m'.fr=fr'):
   ∃D1 E1,Rel D1 E1 K m' base fr' csC w'/\ak D E E1/\(∀i,D i->D1 i)/\(∀i,m.h.next<=i->i<m'.h.next->∀E',ak D1 E1 E'->E'.aQ i=(f i).1)/\(∀i,D1 i->D i\/m.h.next<=i):=by
 obtain⟨E1,ha,hE⟩:=hR.mQ f;let D1:Nat->Prop:=fun i=>D i\/(m.h.next<=i/\i<m'.h.next)
 have hnew:∀i,m.h.next<=i->i<m'.h.next->∀E',ak D1 E1 E'->E'.aQ i=(f i).1/\E'.cap i=(f i).2:=by
   intro i hi hj E' he;have h2:=he i (.inr ⟨hi,hj⟩);have h3:=hE i hi;exact⟨h2.1.trans h3.1,h2.2.trans h3.2⟩
 refine⟨D1,E1,⟨fun E' he=>?_,fun i hi=>?_,hwf⟩,ha,fun i hi=> .inl hi,fun i hi hj E' he=>(hnew i hi hj E' he).1,fun i hi=>hi.elim .inl (fun h=> .inr h.1)⟩
 . have hd:ak D E E':=ha.trans he (fun i hi=> .inl hi);obtain⟨g1,g2,g3⟩:=hR.all E' hd;obtain⟨k1,k2⟩:=h1 E' hd g1 g2 (fun i hi hj=>hnew i hi hj E' he);exact⟨k1,k2,by rw[hcs];exact g3⟩
 . rcases hi with hi|hi
   . have:=hR.eo i hi;omega
   . exact hi.2
def yI (P:Program) (tab:aZ) (sub:FuncId->List AV->AH->R (List (AV×AH))):Prop:=
 ∀ (fr:af) (cs:List af) (h:AH) (id:Nat) (ops:Array Oper) (k:List bm) (ts:T AV) (h':AH),fr.mode= .run->fr.todo= .code (.region id ops true)::k->draw tab sub ops fr.nt fr.tmps h= .ok (ts,h')->
  ∀(D:Nat->Prop) (E:Env) (K:KS) (base:List Frame) (frC:Frame) (csC:List Frame) (w:World),Rel D E K {fr,cs,h} base frC csC w->
   fQ P h.next (lone frC csC w) D E K {fr:={fr with tmps:=ts,todo:=k},cs,h:=h'} base w
end
end
section
variable [Inhabited aF]
section
variable {P:Program} {tab:aZ} (ok:bw P tab) {sub:FuncId->List AV->AH->R (List (AV×AH))} (hsub:jY P tab sub) (hext:jX P tab) (hdraw:yI P tab sub)
variable {D:Nat->Prop} {E:Env} {K:KS} {base:List Frame} {frC:Frame} {csC:List Frame} {w:World}
theorem Ml (hm:frC.mode= .run) (ht:frC.todo=[]):stepG P true {frame:=frC,callers:=csC,status:= .running,dying:=none} w=kk P frC csC w none:=by
 obtain⟨fn,tmps,todo,defers,mode,kind,roundOf⟩:=frC;simp only at hm ht;subst hm ht
 cases roundOf with
 |none=>simp[stepG,stepG.exec,kk]
 |some l=>
  simp[stepG,stepG.exec,kk];rfl
theorem Mm {k:List Item} (hm:frC.mode= .run) (ht:frC.todo= .code .ret::k):stepG P true {frame:=frC,callers:=csC,status:= .running,dying:=none} w=kk P frC csC w (some .ret):=by
 obtain⟨fn,tmps,todo,defers,mode,kind,roundOf⟩:=frC;simp only at hm ht;subst hm ht
 cases roundOf with
 |none=>simp[stepG,stepG.exec,kk]
 |some l=>
  simp[stepG,stepG.exec,kk];rfl
theorem LB {id:Nat} {k:List Item} (hm:frC.mode= .run) (ht:frC.todo= .code (.exit id)::k) (hk:Go.exitTo id k=none):stepG P true {frame:=frC,callers:=csC,status:= .running,dying:=none} w=kk P frC csC w (some (.exit id)):=by
 obtain⟨fn,tmps,todo,defers,mode,kind,roundOf⟩:=frC;simp only at hm ht;subst hm ht
 cases roundOf with
 |none=>simp[stepG,stepG.exec,kk,hk]
 |some l=>
  simp[stepG,stepG.exec,kk,hk];rfl
theorem jS {fr:af} {cs:List af} {h:AH} (hR:Rel D E K {fr,cs,h} base frC csC w) (k:List bm)
  (hx:∀E' cs',Go.step P (lone (bc E' fr) cs' w)= .next (lone (bc E' {fr with todo:=k}) cs' w)):
  Out P h.next (lone frC csC w) D E K (bot fr cs) base w (.next {fr:={fr with todo:=k},cs,h}):=
 ⟨gS (by rfl) cs,hR.jd {fr with todo:=k} hR.wf.1 hx⟩
include ok hsub hext hdraw in
theorem xq {m:AM} {out:ee} (hs:step tab sub m= .ok out) (hR:Rel D E K m base frC csC w):Out P m.h.next (lone frC csC w) D E K (bot m.fr m.cs) base w out:=by
 obtain⟨fr,cs,h⟩:=m;unfold step at hs;simp only at hs;split at hs
 . rename_i hm;have hmC:frC.mode= .run:=by rw[<-(hR.all E (ak.refl _ _)).2.1];simp[bc,hm,fe]
   split at hs
   ·
     rename_i ht;have htC:frC.todo=[]:=by rw[<-(hR.all E (ak.refl _ _)).2.1];simp[bc,ht]
     exact xi hs hR (Ml hmC htC)
   . rename_i k ht;have htC:frC.todo= .code .ret::k.map (dL E):=by rw[<-(hR.all E (ak.refl _ _)).2.1];simp[bc,ht,dL]
     exact xi hs hR (Mm hmC htC)
   . rename_i k ht
     cases hs;exact jS hR k (fun E' cs'=>step_lone_go (by simp[stepG,stepG.exec,bc,hm,ht,fe,dL]))
   . rename_i l k ht
     cases hs;exact jS hR k (fun E' cs'=>step_lone_go (by simp[stepG,stepG.exec,bc,hm,ht,fe,dL]))
   . rename_i l k ht
     cases hs;exact jS hR k (fun E' cs'=>step_lone_go (by simp[stepG,stepG.exec,bc,hm,ht,fe,dL]))
   . rename_i l k ht
     cases hs;exact jS hR k (fun E' cs'=>step_lone_go (by simp[stepG,stepG.exec,bc,hm,ht,fe,dL]))
   . rename_i a b k ht
     cases hs;exact jS hR _ (fun E' cs'=>step_lone_go (by simp[stepG,stepG.exec,bc,hm,ht,fe,dL]))
   ·
     rename_i c a b k ht;obtain⟨u,hu,hs1⟩:=ai.1 hs;split at hs1
     . cases hs1;exact jS hR _ (fun E' cs'=>step_lone_go (by
         have:=oU hR.wf.1 E' hu;simp only[ab]at this;simp[stepG,stepG.exec,bc,hm,ht,fe,dL]at this⊢;simp[this]))
     . cases hs1;exact jS hR _ (fun E' cs'=>step_lone_go (by
         have:=oU hR.wf.1 E' hu;simp only[ab]at this;simp[stepG,stepG.exec,bc,hm,ht,fe,dL]at this⊢;simp[this]))
     . cases hs1
   . rename_i id b k ht
     cases hs;exact jS hR _ (fun E' cs'=>step_lone_go (by simp[stepG,stepG.exec,bc,hm,ht,fe,dL]))
   . rename_i b k ht
     cases hs;exact jS hR _ (fun E' cs'=>step_lone_go (by simp[stepG,stepG.exec,bc,hm,ht,fe,dL]))
   . rename_i b k ht
     cases hs;exact jS hR _ (fun E' cs'=>step_lone_go (by simp[stepG,stepG.exec,bc,hm,ht,fe,dL]))
   . rename_i b k ht
     cases hs;exact jS hR _ (fun E' cs'=>step_lone_go (by simp[stepG,stepG.exec,bc,hm,ht,fe,dL]))
   ·
     rename_i id k ht;split at hs
     . rename_i k' hk
       cases hs;exact jS hR _ (fun E' cs'=>step_lone_go (by simp[stepG,stepG.exec,bc,hm,ht,fe,dL,Cu,hk]))
     . rename_i hk;have htC:frC.todo= .code (.exit id)::k.map (dL E):=by rw[<-(hR.all E (ak.refl _ _)).2.1];simp[bc,ht,dL]
       exact xi hs hR (LB hmC htC (by rw[Cu,hk];rfl))
   ·
     rename_i f ps a b k ht
     cases hs
   ·
     rename_i l k ht;split at hs
     . rename_i st pd fn ts nt ps a b d hl;have hbusy:st≠ .busy:=by intro e;subst e;cases hs
       have hs1:(R.ok (ee.next {fr:={fr with todo:=(pd.map bm.code).toList++k},cs,h:=h.set l (.loop .exhausted pd fn ts nt ps a b d)}):R ee)= .ok out:=by
         cases st<;>first|exact hs|exact absurd rfl hbusy
       cases hs1;refine⟨gS (by rfl) cs,?_⟩;refine hR.one (m':={fr:={fr with todo:=(pd.map bm.code).toList++k},cs,h:=h.set l (.loop .exhausted pd fn ts nt ps a b d)}) _ (fun _=>(0,0)) (Ah _) ⟨hR.wf.1,hR.wf.2⟩ ?_;intro E' he H e1 e2 _;obtain⟨o,ho,hoo,hw⟩:=H.obj l _ hl;subst hoo;let o':Obj:= .loop {state:= .exhausted,pending:=pd,fn,tmps:=gn E' ts nt,params:=ps,assign:=a,body:=b,defers:=E'.aQ d}
       have hrun:(Instr.endLoop (E'.aQ l)).run P w= .ok pd (w.put (E'.aQ l) o'):=by
         unfold Instr.endLoop Instr.getLoop;have:(st==LoopState.busy)=false:=by cases st<;>first|rfl|exact absurd rfl hbusy
         simp only[Sem.run_bind,uQ ho (by simp),Result.andThen_ok,Sem.run_pure,this,Ak,Aw,uR ho (by simp)];rfl
       refine⟨w.put (E'.aQ l) o',step_lone_go ?_,H.put hl (by simp[AO.ro]) ⟨rfl,hw⟩,H.dv hl (by simp[AO.ro]) _⟩;simp only at e1 e2;have htC:frC.todo= .endRangeFunc (E'.aQ l)::k.map (dL E'):=by rw[<-e1];simp[bc,ht,dL]
       rw[<-e2];have hgoal:bc E' {fr with todo:=(pd.map bm.code).toList++k}={frC with todo:=(pd.map Item.code).toList++k.map (dL E')}:=by
         rw[<-e1]
         cases pd<;>simp[bc,dL]
       simp only[hgoal];unfold stepG stepG.exec;simp only[hmC,htC,Sem.runT_eq,hrun,GStep.bare_after,GStep.bare_go]
     . cases hs
   ·
     rename_i k ht;split at hs
     . rename_i l hround;split at hs
       . rename_i pd fn ts nt ps a b d hl
         cases hs;refine⟨gS (by rfl) cs,?_⟩;refine hR.one (m':={fr:={fr with todo:=k},cs,h:=h.set l (.loop .busy pd fn ts nt ps a b d)}) _ (fun _=>(0,0)) (Ah _) ⟨hR.wf.1,hR.wf.2⟩ ?_;intro E' he H e1 e2 _;obtain⟨o,ho,hoo,hw⟩:=H.obj l _ hl;subst hoo;let o':Obj:= .loop {state:= .busy,pending:=pd,fn,tmps:=gn E' ts nt,params:=ps,assign:=a,body:=b,defers:=E'.aQ d}
         simp only at e1 e2;have hr0:frC.roundOf=some (E'.aQ l):=by rw[<-e1];simp[bc,hround]
         have htC:frC.todo= .beginRound::k.map (dL E'):=by rw[<-e1];simp[bc,ht,dL]
         have hrun:(do frC.roundOf.elim (stuck "beginRound: no round") Instr.beginRound;pure .skip:Sem Next).run P w= .ok .skip (w.put (E'.aQ l) o'):=by
          rw[hr0];simp only[Option.elim_some,Instr.beginRound,Instr.getLoop];simp only[Sem.run_bind,uQ ho (by simp),Result.andThen_ok,Sem.run_pure,uR ho (by simp)];rfl
         refine⟨w.put (E'.aQ l) o',step_lone_go ?_,H.put hl (by simp[AO.ro]) ⟨rfl,hw⟩,H.dv hl (by simp[AO.ro]) _⟩;rw[<-e2];have hgoal:bc E' {fr with todo:=k}={frC with todo:=k.map (dL E')}:=by
          rw[<-e1];rfl
         simp only[hgoal];have hx:stepG P true {frame:=frC,callers:=cs.map (bc E')++base,status:= .running,dying:=none} w=stepG.apply P true frC (cs.map (bc E')++base) none (do frC.roundOf.elim (stuck "beginRound: no round") Instr.beginRound;pure .skip) w:=by
          unfold stepG stepG.exec;simp only[hmC,htC]
         rw[hx,Ck hrun (.inr ⟨rfl,rfl⟩)];simp[Frame.finish,htC]
       . cases hs
     . cases hs
   . rename_i id ops k ht
     cases hs;exact jS hR _ (fun E' cs'=>step_lone_go (by simp[stepG,stepG.exec,bc,hm,ht,fe,dL]))
   . rename_i id ops k ht;obtain⟨⟨ts,h'⟩,hd,hs1⟩:=ai.1 hs
     cases hs1;exact⟨gS (by rfl) cs,hdraw fr cs h id ops k ts h' hm ht hd D E K base frC csC w hR⟩
   . rename_i ops k ht
     cases hs;exact jS hR _ (fun E' cs'=>step_lone_go (by simp[stepG,stepG.exec,bc,hm,ht,fe,dL]))
   ·
     rename_i ops i rest k ht;split at hs
     . rename_i o ho;obtain⟨b,hb,hs1⟩:=ai.1 hs
       cases b with
       |true=>exact LN ok hsub hext hs1 hR hm ht ho hb
       | false=>
         simp only[Ak,Aw]at hs1;obtain⟨fr',hf,hs2⟩:=ai.1 hs1
         cases hs2;have hfc:=jR hf;refine⟨gS (hfc E).2.2 cs,hR.jd fr' ((hfc E).2.1 hR.wf.1) (fun E' cs'=>step_lone_go ?_)⟩;have hw:=xd hR.wf.1 hb E';rw[<-(hfc E').1];have h1:(bc E' fr).todo= .inRegion ops (i::rest)::k.map (dL E'):=by simp[bc,ht,dL]
         have h2:(bc E' fr).mode= .run:=by simp[bc,hm,fe]
         have h3:Region.wanted o (yielded ops (bc E' fr).tmps)=false:=hw;generalize bc E' fr=g at*
         unfold stepG stepG.exec;simp[h1,h2,ho,h3];rfl
     . cases hs
   . cases hs
 . rename_i hm;exact KK ok hsub hext hs hm hR
end
end
section
variable [Inhabited aF]
section
variable {P:Program} {tab:aZ} (ok:bw P tab) (hext:jX P tab) (hdraw:∀sub,jY P tab sub->yI P tab sub)
def Jg (P:Program) (tab:aZ) (m:AM) (outs:List (AV×AH)):Prop:=
 ∀(D:Nat->Prop) (E:Env) (K:KS) (base:List Frame) (frC:Frame) (csC:List Frame) (w:World),Rel D E K m base frC csC w->
  ∃v h',(v,h')∈outs/\Ends P m.h.next (lone frC csC w) D E K v h' base (bot m.fr m.cs) w
include ok hext hdraw in
theorem MP:∀n,(∀m outs,run tab n m= .ok outs->Jg P tab m outs)/\
  (∀l outs,runs tab n l= .ok outs->∀m∈l,∀outs',(∀x∈outs,x∈outs')->Jg P tab m outs'):=by
 intro n;induction n with
 |zero=>
  refine⟨fun m outs h=>?_,fun l outs h=>?_⟩
  . simp only[run]at h;cases h
  . cases l<;>(simp only[runs]at h;cases h)
 |succ n ih=>
  refine⟨fun m outs h=>?_,fun l outs h=>?_⟩
  . simp only[run]at h;let sub:FuncId->List AV->AH->R (List (AV×AH)):=fun f args h=>match tab.fns.get f with
     | some fn=>match fn.body with
       |some body=>run tab n {fr:=af.enter fn f body args .normal,cs:=[],h}
       |none=> .no "run: body"
     |none=> .no "run: function"
    have hsub:jY P tab sub:=by
     intro f fn body args h outs hfn hb ho D E K w argsC hargs hdom cs;simp only[sub,hfn,hb]at ho;have hP:=ok.fns f fn hfn;have hR:Rel D E K {fr:=af.enter fn f body args .normal,cs:=[],h} cs (Frame.enter P f argsC .normal) cs w:=by
       refine⟨fun E' he=>?_,hdom,qq _ _ _ _ _,fun f hf=>by cases hf⟩;obtain⟨h1,h2⟩:=hargs E' he;refine⟨h1,?_,rfl⟩;rw[<-h2,mb hP hb]
     exact ih.1 _ _ ho D E K cs _ cs w hR
    intro D E K base frC csC w hR;change (match step tab sub m with
     | .no w=>R.no w
     | .ok (.done v h)=> .ok [(v,h)]
     | .ok (.next m')=>run tab n m'
     | .ok (.alts l)=>runs tab n l)= .ok outs at h
    cases hs:step tab sub m with
    |no w=>rw[hs]at h;cases h
    |ok out=>
     rw[hs]at h;have ho:=xq ok hsub hext (hdraw sub hsub) hs hR
     cases out with
     | done v hh=>
       cases h;exact⟨v,hh,Ao,ho⟩
     | next m'=>
       obtain⟨hb,fr',cs',w',E',D',s1,s2,s3,s4,s5,s6,s7⟩:=ho;obtain⟨v,h',hm,he⟩:=ih.1 m' outs h D' E' K base fr' cs' w' s2;rw[hb]at he;exact⟨v,h',hm,Ends.trans s1 s3 s4 s5 s6 s7 he⟩
     | alts l=>
       obtain⟨m',hml,hb,fr',cs',w',E',D',s1,s2,s3,s4,s5,s6,s7⟩:=ho;obtain⟨v,h',hm,he⟩:=ih.2 l outs h m' hml outs (fun _ hx=>hx) D' E' K base fr' cs' w' s2;rw[hb]at he;exact⟨v,h',hm,Ends.trans s1 s3 s4 s5 s6 s7 he⟩
  . intro m hm outs' hsub'
    cases l with
    |nil=>cases hm
    |cons x l=>
     simp only[runs]at h;obtain⟨a,ha,h1⟩:=ai.1 h;obtain⟨b,hb,h2⟩:=ai.1 h1
     cases h2;rcases Aj.1 hm with rfl|hm
     . intro D E K base frC csC w hR;obtain⟨v,h',hx,he⟩:=ih.1 m a ha D E K base frC csC w hR;exact⟨v,h',hsub' _ (Er _ hx),he⟩
     . exact ih.2 l b hb m hm outs' (fun x hx=>hsub' x (DN _ hx))
end
end
section
variable [Inhabited aF]
section
variable {tab:aZ} {ts ts':T AV} {h:AH}
theorem rM:∀(l:List Operand),(∀x∈l,ev ts x=ev ts' x)->iR ts l=iR ts' l:=by
 intro l;induction l with
 |nil=>intro _;rfl
 |cons x l ih=>
  intro hx;simp only[iR,hx x Ao,ih (fun y hy=>hx y (An _ hy))]
theorem zO:∀(l:List (Nat×Operand)),(∀x∈l.map (·.2),ev ts x=ev ts' x)->kF ts l=kF ts' l:=by
 intro l;induction l with
 |nil=>intro _;rfl
 |cons x l ih=>
  intro hx;simp only[kF,hx x.2 (by simp),ih (fun y hy=>hx y (by simp at hy⊢;exact .inr hy))]
theorem rJ (o:Oper) (hx:∀x∈o.op.operands,ev ts x=ev ts' x):eM tab ts h o=eM tab ts' h o:=by
 obtain⟨dst,op,type,pos,after,guard⟩:=o
 cases op<;>simp only[Op.operands]at hx<;>simp only[eM]
 case build t ps=>rw[zO ps.toList fun x hm=>hx x (by simpa using hm)]
 case buildSlice t n ps=>rw[zO ps.toList fun x hm=>hx x (by simpa using hm)]
 case makeFunc fn first captured=>
  rw[rM first.toList fun x hm=>hx x (by simp at hm;simp[hm]),rM captured.toList fun x hm=>hx x (by simp at hm;simp[hm])]
 case call c=>
  cases hc:c.callee with
  |builtin b=>
   simp only;rw[rM c.args.toList fun x hm=>hx x (by simp[Call.operands,hc];simpa using hm)]
  |value f=>rfl
  |invoke r m=>rfl
 case slice t x lo hi mx=>
  have h0:ev ts x=ev ts' x:=hx x (by simp);have h1:∀y,lo=some y->ev ts y=ev ts' y:=fun y e=>hx y (by simp[e])
  have h2:∀y,hi=some y->ev ts y=ev ts' y:=fun y e=>hx y (by simp[e])
  have h3:∀y,mx=some y->ev ts y=ev ts' y:=fun y e=>hx y (by simp[e])
  rw[h0]
  cases lo<;>cases hi<;>cases mx<;>simp_all[iU,fh]
 case makeMap t r=>cases r<;>rfl
 all_goals (first|rfl|(simp_all;done))
theorem KD {sub:FuncId->List AV->AH->R (List (AV×AH))} (o:Oper) (hx:∀x∈o.op.operands,ev ts x=ev ts' x):qW tab sub ts h o=qW tab sub ts' h o:=by
 have hp:=rJ (tab:=tab) (h:=h) o hx;unfold qW
 cases hop:o.op
 case call c=>
  rw[hop]at hx;simp only
  cases hc:c.callee with
  |builtin b=>cases b<;>simp only[hp]
  |value f=>
   have h1:ev ts f=ev ts' f:=hx f (by simp[Op.operands,Call.operands,hc]);have h2:iR ts c.args.toList=iR ts' c.args.toList:=rM c.args.toList fun x hm=>hx x (by simp[Op.operands,Call.operands,hc];right;simpa using hm)
   simp only[h1,h2]
  |invoke r m=>simp only[hp]
 all_goals simp only[hp]
theorem xl {ops:Array Oper} {o:Oper} (h:∀t∈mA ops o,ts.get t=ts'.get t):(∀x∈o.op.operands,ev ts x=ev ts' x)/\wanted ops o ts=wanted ops o ts':=by
 constructor
 . intro x hx
   cases x with
   |tmp t=>
    have:=h t (Er _ (List.mem_filterMap.2 ⟨.tmp t,by simpa using hx,rfl⟩));simp only[ev,this]
   |const v=>rfl
   |func f=>rfl
   |global g=>rfl
 . unfold wanted
   cases hg:o.guard with
   |none=>rfl
   | some gw=>
    obtain⟨g,want⟩:=gw;simp only
    cases hd:(ops[g]?).bind (·.dst)with
    |none=>rfl
    |some d=>
     have:=h d (DN _ (by simp[hg,hd]));simp only[BO,this]
end
end
section
variable [Inhabited aF]
theorem iH:∀(l:List (Nat×Nat)) (h:AH),(gV h l).next=h.next:=by
 intro l;induction l with
 |nil=>intro h;rfl
 |cons x l ih=>intro h;simp only[gV,ih,AH.eO]
theorem gR:∀(l:List (Nat×Nat)) (h:AH) (i:Nat),(gV h l).get i=if ∃x∈l,x.2=i then none else h.get i:=by
 intro l;induction l with
 |nil=>intro h i;simp[gV]
 |cons x l ih=>
  intro h i;simp only[gV,ih,lY];by_cases h1:∃y∈l,y.2=i
  . rw[if_pos h1,if_pos (by obtain⟨y,hy,e⟩:=h1;exact⟨y,An _ hy,e⟩)]
  . rw[if_neg h1];by_cases h2:i=x.2
    . rw[if_pos h2,if_pos ⟨x,Ao,h2.symm⟩]
    . rw[if_neg h2,if_neg];rintro⟨y,hy,e⟩;rcases Aj.1 hy with rfl|hy
      . exact h2 e.symm
      . exact h1 ⟨y,hy,e⟩
theorem qf:∀(l:List (Nat×Nat)) (h h0:AH),(ik h h0 l).next=h.next:=by
 intro l;induction l with
 |nil=>intro h h0;rfl
 |cons x l ih=>intro h h0;simp only[ik,ih]
theorem mU:∀(l:List (Nat×Nat)) (h h0:AH) (i:Nat),(ik h h0 l).get i=if ∃x∈l,x.2=i then h0.get i else h.get i:=by
 intro l;induction l with
 |nil=>intro h h0 i;simp[ik]
 |cons x l ih=>
  intro h h0 i;simp only[ik,ih];have hg:({h with t:=h.t.set x.2 (h0.get x.2)}:AH).get i=if i=x.2 then h0.get x.2 else h.get i:=T.aS _ _ _ _
  rw[hg];by_cases h1:∃y∈l,y.2=i
  . rw[if_pos h1,if_pos (by obtain⟨y,hy,e⟩:=h1;exact⟨y,An _ hy,e⟩)]
  . rw[if_neg h1];by_cases h2:i=x.2
    . rw[if_pos h2,if_pos ⟨x,Ao,h2.symm⟩,h2]
    . rw[if_neg h2,if_neg];rintro⟨y,hy,e⟩;rcases Aj.1 hy with rfl|hy
      . exact h2 e.symm
      . exact h1 ⟨y,hy,e⟩
section
variable {E:Env} {h h0 h1 h2:AH} {K:KS} {w w':World}
def Rest (E:Env) (h h0:AH) (K:KS):KS:=⟨fun b=>K b\/ ∃i o,h.get i=some o/\h0.get i=none/\b=E.aQ i,K.b⟩
theorem bn.part (H:bn E h K w) (hs:∀i o,h0.get i=some o->h.get i=some o) (hd:∀i o,h0.get i=some o->i<h0.next):bn E h0 (Rest E h h0 K) w:=by
 refine⟨fun i o hi=>H.obj i o (hs i o hi),?_,fun i j oi oj hi hj=>H.inj i j oi oj (hs i oi hi) (hs j oj hj),hd,?_,fun i o hi=>H.im i o (hs i o hi),fun b hb=> .inl (H.k0 b hb)⟩
 . rintro i o hi hr (hk|⟨j,oj,hj,hn,e⟩)
   . exact H.nk i o (hs i o hi) hr hk
   . have:=H.inj i j o oj (hs i o hi) hj hr e;subst this;rw[hi]at hn;cases hn
 . rintro b (hk|⟨j,oj,hj,hn,e⟩)
   . exact H.kb b hk
   . subst e;exact H.lt hj
theorem bn.join (H:bn E h K w) (H1:bn E h1 (Rest E h h0 K) w') (hk:Kept (Rest E h h0 K) w w')
   (hg:∀i o,h2.get i=some o->h1.get i=some o\/(h.get i=some o/\h0.get i=none)) (hd:∀i o,h2.get i=some o->i<h2.next):bn E h2 K w':=by
 refine⟨?_,?_,?_,hd,?_,?_,H.k0⟩
 . intro i o hi;rcases hg i o hi with g|⟨g,n⟩
   . exact H1.obj i o g
   . obtain⟨c,hc,ho⟩:=H.obj i o g;refine⟨c,?_,ho⟩;rw[<-hc];exact hk.block _ (.inr ⟨i,o,g,n,rfl⟩)
 . intro i o hi hr hK;rcases hg i o hi with g|⟨g,n⟩
   . exact H1.nk i o g hr (.inl hK)
   . exact H.nk i o g hr hK
 . intro i j oi oj hi hj hr e;rcases hg i oi hi with g|⟨g,n⟩<;>rcases hg j oj hj with g'|⟨g',n'⟩
   . exact H1.inj i j oi oj g g' hr e
   . exact absurd (.inr ⟨j,oj,g',n',e⟩) (H1.nk i oi g hr)
   . by_cases hrj:oj.ro
     . exact absurd (H.k0 _ (H1.im j oj g' hrj)) (by rw[<-e];exact H.nk i oi g hr)
     . exact absurd (.inr ⟨i,oi,g,n,e.symm⟩) (H1.nk j oj g' hrj)
   . exact H.inj i j oi oj g g' hr e
 . intro b hb;exact H1.kb b (.inl hb)
 . intro i o hi hr;rcases hg i o hi with g|⟨g,n⟩
   . exact H1.im i o g hr
   . exact H.im i o g hr
theorem Kept.part (hk:Kept (Rest E h h0 K) w w'):Kept K w w':=
 ⟨hk.os,hk.tape,hk.output,hk.size,fun b hb=>hk.block b (.inl hb),hk.drawn⟩
end
end
section
variable [Inhabited aF]
section
variable {P:Program} {tab:aZ} (ok:bw P tab) {sub:FuncId->List AV->AH->R (List (AV×AH))} (hsub:jY P tab sub) (hext:jX P tab)
variable {D:Nat->Prop} {E:Env} {K:KS} {base:List Frame} {frC:Frame} {csC:List Frame} {w:World}
def sN (P:Program) (M0:Machine) (D N:Nat->Prop) (E:Env) (K:KS) (m':AM) (base:List Frame) (w:World):Prop:=
 ∃fr' cs' w' E',Steps P M0 (lone fr' cs' w')/\Rel (fun i=>D i\/N i) E' K m' base fr' cs' w'/\ak D E E'/\Kept K w w'
open Classical in
theorem Rel.oE {m m':AM} (hR:Rel D E K m base frC csC w) (M0:Machine) (N:Nat->Prop) (f:Nat->Nat×Nat) (hN:∀i,N i->¬D i) (hlt:∀i,D i\/N i->i<m'.h.next) (hwf:m'.fr.WF/\ ∀f∈m'.cs,f.WF)
  (h1:∀E',ak D E E'->bn E' m.h K w->bc E' m.fr=frC->m.cs.map (bc E')++base=csC->(∀i,N i->E'.aQ i=(f i).1/\E'.cap i=(f i).2)->One P M0 E' K m' base w):
  sN P M0 D N E K m' base w:=by
 let E1:Env:=⟨fun i=>if N i then(f i).1 else E.aQ i,fun i=>if N i then(f i).2 else E.cap i⟩
 have ha:ak D E E1:=by
  intro i hi;have:¬N i:=fun hn=>hN i hn hi
  simp[E1,this]
 have hE:∀i,N i->E1.aQ i=(f i).1/\E1.cap i=(f i).2:=by
  intro i hi;simp[E1,hi]
 have hE1:∀E',ak (fun i=>D i\/N i) E1 E'->One P M0 E' K m' base w:=by
  intro E' he;have hd:ak D E E':=ha.trans he (fun i hi=> .inl hi);obtain⟨g1,g2,g3⟩:=hR.all E' hd;refine h1 E' hd g1 g2 g3 (fun i hi=>?_);have h2:=he i (.inr hi);have h3:=hE i hi;exact⟨h2.1.trans h3.1,h2.2.trans h3.2⟩
 obtain⟨w',s1,s2,s3⟩:=hE1 E1 (ak.refl _ _);refine⟨_,_,w',E1, .one s1,⟨?_,hlt,hwf⟩,ha,s3⟩;intro E' he;obtain⟨w2,t1,t2,t3⟩:=hE1 E' he;rw[s1]at t1;obtain⟨e1,e2,e3⟩:=oO (by simpa using t1);subst e3;exact⟨t2,e1.symm,e2.symm⟩
variable {fr fr':af} {cs:List af} {h h0 h1 h2:AH} {ops:Array Oper} {i:Nat} {rest:List Nat} {k:List bm} {o:Oper} {v:AV}
theorem Rel.live (hR:Rel D E K {fr,cs,h} base frC csC w) {i:Nat} {ob:AO} (hi:h.get i=some ob):D i:=by
 by_cases hd:D i
 . exact hd
 . exfalso;have ha:ak D E ⟨fun j=>if j=i then w.heap.size else E.aQ j,E.cap⟩:=by
    intro j hj;have:¬j=i:=fun e=>hd (e▸hj)
    simp[this]
   have:=(hR.all _ ha).1.lt hi;simp at this
include ok in
theorem rS (hR:Rel D E K {fr,cs,h} base frC csC w) (a:gX frC ops i rest o) (hp:eM tab fr.tmps h0 o= .ok (v,h1)) (hf:fr.finish v= .ok fr')
  (hs:∀i o,h0.get i=some o->h.get i=some o) (hd0:∀i o,h0.get i=some o->i<h0.next)
  (hg:∀i o,h2.get i=some o->h1.get i=some o\/(h.get i=some o/\h0.get i=none)) (hd2:∀i o,h2.get i=some o->i<h2.next\/(h1.get i=some o/\h1.next<=h2.next))
  (N:Nat->Prop) (hN1:h0.next<h1.next->N h0.next) (hN:∀i,N i->i=h0.next/\ ¬D i) (hlt:∀i,D i\/N i->i<h2.next):
  sN P (lone frC csC w) D N E K {fr:=fr',cs,h:=h2} base w:=by
 obtain⟨f,hgood⟩:=Cd ok hp w frC.eval;have hfc:=jR hf;have hρ:∀E',ak D E E'->∀x u,ev fr.tmps x= .ok u->frC.eval x=ab E' u:=by
  intro E' he x u hx;rw[<-(hR.all E' he).2.1];exact oU hR.wf.1 E' hx
 refine hR.oE (m':={fr:=fr',cs,h:=h2}) _ N (fun _=>f) (fun i hi=>(hN i hi).2) hlt ⟨(hfc E).2.1 hR.wf.1,hR.wf.2⟩ ?_;intro E' he H e1 e2 hE';obtain⟨_,r,w',s1,s2,s3,s4⟩:=hgood E' _ (H.part hs hd0) (hρ E' he) (fun hlt=>hE' h0.next (hN1 hlt));refine⟨w',?_,H.join s3 s4 hg (fun i o hi=>(hd2 i o hi).elim id (fun h=>AU (s3.eo i o h.1) h.2)),s4.part⟩;rw[a.value (.inr (Gd hp)) csC s1 s2,<-e1,<-e2,(hfc E').1]
theorem zp {M0:Machine} {N:Nat->Prop} {m':AM} {lo:Nat} (hg:sN P M0 D N E K m' base w) (hlo:lo<=m'.h.next) (hN:∀i,N i->lo<=i):fQ P lo M0 D E K m' base w:=by
 obtain⟨fr',cs',w',E',h1,h2,h3,h4⟩:=hg;exact⟨fr',cs',w',E',_,h1,h2,h3,fun i hi=> .inl hi,h4,hlo,fun i hi=>hi.elim .inl (fun h=> .inr (hN i h))⟩
theorem Rel.eY (hR:Rel D E K {fr,cs,h} base frC csC w) {E':Env} (he:ak D E E'):Rest E' h h0 K=Rest E h h0 K:=by
 unfold Rest;congr 1
 funext b
 apply propext;constructor
 . rintro(hk|⟨i,o,h1,h2,e⟩)
   . exact .inl hk
   . exact .inr ⟨i,o,h1,h2,by rw[e,(he i (hR.live h1)).1]⟩
 . rintro(hk|⟨i,o,h1,h2,e⟩)
   . exact .inl hk
   . exact .inr ⟨i,o,h1,h2,by rw[e,(he i (hR.live h1)).1]⟩
include ok hsub hext in
theorem NF (hR :Rel D E K {fr,cs,h} base frC csC w) (a:gX frC ops i rest o) (hp:qW tab sub fr.tmps h0 o= .ok (v,h1)) (hf:fr.finish v= .ok fr')
   (hs:∀i o,h0.get i=some o->h.get i=some o) (hd0:∀i o,h0.get i=some o->i<h0.next)
   (hg:∀i o,h2.get i=some o->h1.get i=some o\/(h.get i=some o/\h0.get i=none)) (hd2:∀i o,h2.get i=some o->i<h2.next\/(h1.get i=some o/\h1.next<=h2.next))
   (hle:h0.next<=h1.next) (hnx:h2.next=h1.next) (hltD:∀i,D i->i<h0.next):
   fQ P h0.next (lone frC csC w) D E K {fr:=fr',cs,h:=h2} base w:=by
 have hpure:eM tab fr.tmps h0 o= .ok (v,h1)->fQ P h0.next (lone frC csC w) D E K {fr:=fr',cs,h:=h2} base w:=by
   intro hp;refine zp (rS ok hR a hp hf hs hd0 hg hd2 (fun i=>i=h0.next/\h0.next<h1.next) (fun h=>⟨rfl,h⟩) (fun i hi=>⟨hi.1,fun hd=>by have:=hltD i hd;omega⟩) ?_) (by simp only;omega) (fun i hi=>by omega);rintro i (hi|hi)
   . have:=hltD i hi;omega
   . omega
 have hfc:=jR hf;have hρ:∀E',ak D E E'->∀x u,ev fr.tmps x= .ok u->frC.eval x=ab E' u:=by
   intro E' he x u hx;rw[<-(hR.all E' he).2.1];exact oU hR.wf.1 E' hx
 unfold qW at hp;split at hp
 . rename_i c hc;split at hp
   . rename_i f hcf;obtain⟨args,hargs,hp1⟩:=ai.1 hp;obtain⟨u,hu,hp2⟩:=ai.1 hp1;obtain⟨d,hd,hp3⟩:=ai.1 hp2;clear hp hp1 hp2;have hres:∀E',ak D E E'->Deferred.ofValue (frC.eval f) (c.args.map frC.eval)=pure (eK E' d):=by
       intro E' he;rw[<-tI hd E',hρ E' he _ _ hu,<-oV (hρ E' he) _ _ hargs];congr 1
       simp[<-Array.toList_inj]
     have hrob:=wV hres;have hnd:∀c',o.op≠ .defer c':=by rw[hc];intro c' e;cases e
     have hctx:Ctx P (lone frC csC w) frC csC w .normal (eK E d):=xE a (.inr hnd) (by simp[execOp,hc,resolve,hcf,hres E (ak.refl _ _)]);split at hp3
     . rename_i g captured htg;have hinv:∀E',ak D E E'->invoke (eK E d).target (eK E d).args=callFunc g (aY E' (d.args++captured)).toArray:=by
         intro E' he;rw[<-hrob E' he];simp only[eK,htg,mr,invoke,dq];simp
       split at hp3
       . rename_i fn hfn;have hP:=ok.fns g fn hfn;have hn:fn.name≠ "runtime.NumGoroutine" :=by simpa using ok.tD g fn hfn
         split at hp3
         . rename_i body hb;obtain⟨outs,ho,hp4⟩:=ai.1 hp3;split at hp4
           . rename_i v' h' 
             cases hp4;have hrun:∀a,(callFunc g a).run P w= .ok (.enter g a) w:=by
               intro a;simp[callFunc,hP,hn,hb]
             have hstep:∀E',ak D E E'->Go.step P (lone frC csC w)= .next (lone (Frame.enter P g (aY E' (d.args++captured)).toArray .normal) (frC::csC) w):=fun E' he=>
               hctx.enter _ _ _ (by rw[hinv E' he,hrun])
             have hargsC:∀E',ak D E E'->(aY E' (d.args++captured)).toArray=(aY E (d.args++captured)).toArray:=by
               intro E' he;have h4:=hrun (aY E' (d.args++captured)).toArray;rw[<-hinv E' he,hinv E (ak.refl _ _),hrun]at h4;simpa using h4.symm
             obtain⟨v2,h2',hmem,he2⟩:=hsub g fn body _ h0 _ hfn hb ho D E (Rest E h h0 K) w (aY E (d.args++captured)).toArray
               (fun E' he=>⟨by rw[<-hR.eY he];exact(hR.all E' he).1.part hs hd0,hargsC E' he⟩) hltD (frC::csC)
             rcases Aj.1 hmem with e|hmem
             . cases e;obtain⟨fr1,w',vC,E',D',s1,s2,s3,s4,s5,s6,s7,s8,s9,s10⟩:=he2;refine⟨frC.finish vC,csC,w',E',D',?_,⟨?_,?_,?_⟩,s5,s6,s8.part,by simp only;omega,s10⟩
               . exact(Steps.head (hstep E (ak.refl _ _)) s1).trans (.one (step_leave_returned s3))
               . intro E'' he';obtain⟨g1,g2⟩:=s4 E'' he';have hag:=s5.trans he' s6;obtain⟨k1,k2,k3⟩:=hR.all E'' hag;refine⟨k1.join (by rw[hR.eY hag];exact g1) (by rw[hR.eY hag];exact s8) hg (fun i o hi=>(hd2 i o hi).elim id (fun h=>AU (g1.eo i o h.1) h.2)),?_,k3⟩;rw[<-(hfc E'').1,<-g2,<-k2]
               . intro i hi;have:=s7 i hi;simp only;omega
               . exact⟨(hfc E).2.1 hR.wf.1,hR.wf.2⟩
             . cases hmem
           . cases hp4
         . rename_i hb;obtain⟨gg,hgg⟩:=hext g fn _ h0 v h1 hfn hb hp3 w;refine zp (N:=fun i=>i=h0.next/\h0.next<h1.next) (hR.oE (m':={fr:=fr',cs,h:=h2}) _ _ (fun _=>gg) (fun i hi hd=>by have:=hltD i hd;omega) ?_ ⟨(hfc E).2.1 hR.wf.1,hR.wf.2⟩ ?_) (by simp only;omega) (fun i hi=>by omega)
           . rintro i (hi|hi)
             . have:=hltD i hi;simp only;omega
             . simp only;omega
           . intro E' he H e1 e2 hE';obtain⟨_,w',s1,s2,s3⟩:=hgg E' _ (H.part hs hd0) (fun hlt=>hE' h0.next ⟨rfl,hlt⟩);refine⟨w',?_,H.join s2 s3 hg (fun i o hi=>(hd2 i o hi).elim id (fun h=>AU (s2.eo i o h.1) h.2)),s3.part⟩;rw[hctx.value (ab E' v) w' (by rw[hinv E' he,s1]) rfl,<-e1,<-e2,(hfc E').1]
       . cases hp3
     . cases hp3
   . cases hp
   . exact hpure hp
 . cases hp
 . cases hp
 . cases hp
 . cases hp
 . exact hpure hp
end
end
section
variable [Inhabited aF]
section
variable {tab:aZ} {ts:T AV} {h h':AH} {v:AV}
theorem K3 {t:TypeId} {x:AV} {lo hi mx:Option Operand} (hp:iU tab ts h t x lo hi mx= .ok (v,h')):h'=h:=by
 unfold iU at hp;simp only[cond_eq_ite]at hp
 repeat' (first
  |(cases hp;done)
  |(cases hp;rfl)
  |(obtain⟨_,_,hp⟩:=ai.1 hp)
  |split at hp)
theorem tG {b:Builtin} {l:List AV} {at_:Array TypeId} (hb:b= .len\/b= .cap\/b= .min\/b= .max) (hp:builtin tab b at_ l h= .ok (v,h')):h'=h:=by
 unfold builtin at hp;rcases hb with rfl|rfl|rfl|rfl
 all_goals (repeat' (first
  |contradiction
  |(cases hp;done)
  |(cases hp;rfl)
  |(obtain⟨_,_,hp⟩:=ai.1 hp)
  |split at hp))
theorem HU {src dst:TypeId} (h:(match tab.und.get src,tab.und.get dst with
   |some (.int _),some (.int _)=>j5.pure
   |_,_=>j5.jf)≠j5.jf):∃k j,tab.und.get src=some (.int k)/\tab.und.get dst=some (.int j):=by
 split at h
 . rename_i k j h1 h2;exact⟨k,j,h1,h2⟩
 . exact absurd rfl h
theorem GI {src dst:TypeId} (h:(match tab.und.get src,tab.und.get dst with
  |some (.int _),some (.int _)=>j5.pure
  |_,_=>j5.jf)=j5.pure\/(match tab.und.get src,tab.und.get dst with
  |some (.int _),some (.int _)=>j5.pure
  |_,_=>j5.jf)=j5.read):∃k j,tab.und.get src=some (.int k)/\tab.und.get dst=some (.int j):=by
 apply HU;rcases h with h|h<;>rw[h]<;>simp
theorem NR {src dst:TypeId} (h:(match tab.und.get src,tab.und.get dst with
  |some (.int _),some (.int _)=>j5.pure
  |_,_=>j5.jf)=j5.alloc):False:=by
 split at h<;>cases h
theorem HC {src dst:TypeId} {k j:IntKind} (h1:tab.und.get src=some (.int k)) (h2:tab.und.get dst=some (.int j)) {x:AV} (hp:l9 tab h src dst x= .ok (v,h')):∃i n,x= .int i n/\v= .int j (j.wrap n)/\h'=h:=by
 have e1:und tab src= .ok (.int k):=cE.2 h1;have e2:und tab dst= .ok (.int j):=cE.2 h2;unfold l9 at hp;obtain⟨d,hd,hp⟩:=ai.1 hp;rw[e2]at hd
 cases hd;simp only at hp;unfold convert at hp;obtain⟨d,hd,hp⟩:=ai.1 hp;rw[e1]at hd
 cases hd;obtain⟨d,hd,hp⟩:=ai.1 hp;rw[e2]at hd
 cases hd
 cases x<;>simp only at hp<;>first|(cases hp;exact⟨_,_,rfl,rfl,rfl⟩)|(cases hp;done)
theorem Cz {src dst:TypeId} {k j:IntKind} (h1:tab.und.get src=some (.int k)) (h2:tab.und.get dst=some (.int j)) (i:IntKind) (n:Int) (h:AH):l9 tab h src dst (.int i n)= .ok (.int j (j.wrap n),h):=by
 have e1:und tab src= .ok (.int k):=cE.2 h1;have e2:und tab dst= .ok (.int j):=cE.2 h2;unfold l9;rw[e2];show convert tab h src dst (.int i n)=_
 unfold convert;rw[e1,e2];rfl
theorem tS {o:Oper} (hc:cls tab o≠ .jf/\cls tab o≠ .alloc) (hp:eM tab ts h o= .ok (v,h')):h'=h:=by
 obtain⟨dst,op,type,pos,after,guard⟩:=o;unfold eM at hp
 cases op<;>simp only[cls]at hc<;>simp only at hp
 case slice t x lo hi mx=>
  obtain⟨a,ha,hp1⟩:=ai.1 hp;exact K3 hp1
 case call c=>
  cases hcc:c.callee with
  |builtin b=>
   rw[hcc]at hp hc;simp only at hp hc;obtain⟨l,hl,hp1⟩:=ai.1 hp
   cases b<;>first|exact tG (.inl rfl) hp1|exact tG (.inr (.inl rfl)) hp1|exact tG (.inr (.inr (.inl rfl))) hp1|exact tG (.inr (.inr (.inr rfl))) hp1|exact absurd rfl hc.1
  |value f=>rw[hcc]at hp;cases hp
  |invoke r m=>rw[hcc]at hp;cases hp
 case convert src dst x=>
  obtain⟨k,j,h1,h2⟩:=HU hc.1;obtain⟨_,_,hp1⟩:=ai.1 hp;obtain⟨_,_,_,_,rfl⟩:=HC h1 h2 hp1;rfl
 all_goals first
  |exact absurd rfl hc.1
  |exact absurd rfl hc.2
  | (repeat' (first
    |(cases hp;done)
    |(cases hp;rfl)
    |(obtain⟨_,_,hp⟩:=ai.1 hp)
    |split at hp))
end
end
section
variable [Inhabited aF]
def Kind (tab:aZ) (ops:Array Oper) (s:DS) (j:Nat) (o:Oper) (tj:T AV) (v:AV):Prop:=
  (wanted ops o tj= .ok false/\v= .bj []/\ ∀x∈s.ax,x.1≠j)\/
  (wanted ops o tj= .ok true/\
    (((∃h1,eM tab tj {t:= .e,next:=0} o= .ok (v,h1)/\h1.next=0)/\ ∀x∈s.ax,x.1≠j)\/
     (∃b h1 ob,((j,b)∈s.ax/\ ∀x∈s.ax,x.1=j->x.2=b)/\eM tab tj {t:= .e,next:=b} o= .ok (v,h1)/\h1.next=b+1/\h1.get b=some ob/\s.h.get b=some ob)\/
     (((j,tj,v)∈s.reads/\ ∀x∈s.ax,x.1≠j)/\cls tab o≠ .jf/\cls tab o≠ .alloc/\ ∃hr,eM tab tj hr o= .ok (v,hr)/\ ∀b ob,hr.get b=some ob->b<hr.next/\s.h.get b=some ob/\ ∀x∈s.ax,x.2≠b)))
def bO (ops:Array Oper) (ts0:T AV) (s:DS) (j:Nat) (o:Oper) (tj:T AV):Prop:=
 ∀t∈mA ops o,(∃i oi,ops[i]? =some oi/\oi.dst=some t/\i∈gL o/\(s.aE.get i).isSome/\tj.get t=s.ts.get t)\/
  (tj.get t=ts0.get t/\ ∀i oi a,ops[i]? =some oi->oi.dst=some t->s.aE.get i=some a->i=j\/j∈a)
def wC (tab:aZ) (ops:Array Oper) (nt:Nat) (ts0:T AV) (s:DS) (j:Nat):Prop:=
 ∃o tj v,ops[j]? =some o/\(∀d,o.dst=some d->d<nt->s.ts.get d=some v)/\bO ops ts0 s j o tj/\Kind tab ops s j o tj v
structure cU (tab:aZ) (ops:Array Oper) (nt:Nat) (ts0:T AV) (lo:Nat) (s:DS) (X:Nat->Prop):Prop where
 cx:∀j,X j->(s.aE.get j).isSome
 pf:∀j a,X j->s.aE.get j=some a->∀i∈a,X i
 op:∀j,(s.aE.get j).isSome->∃o,ops[j]? =some o
 shape:∀j a o,s.aE.get j=some a->ops[j]? =some o->(∀i∈gL o,i∈a/\(s.aE.get i).isSome)/\ ∀i∈a,i∈gL o\/ ∃p∈gL o,∃ap,s.aE.get p=some ap/\i∈ap
 uniq:∀i j oi oj d,(s.aE.get i).isSome->ops[i]? =some oi->ops[j]? =some oj->oi.dst=some d->oj.dst=some d->i=j
 od:∀t,(∀j o,(s.aE.get j).isSome->ops[j]? =some o->o.dst≠some t)->s.ts.get t=ts0.get t
 ke:∀j,(s.aE.get j).isSome->¬X j->wC tab ops nt ts0 s j
 al:∀x∈s.ax,x.2<s.h.next/\(s.aE.get x.1).isSome/\lo<=x.2
 nx:lo<=s.h.next
 qZ:∀t,nt<=t->s.ts.get t=none
 nK:∀x∈s.ax,∀y∈s.ax,x.2=y.2->x=y
 hd:∀i o,s.h.get i=some o->i<s.h.next
theorem cQ {i:Nat} {l:List Nat}:cq i l=true↔i∈l:=by
 unfold cq;rw[DR];constructor
 . rintro⟨x,hx,hb⟩;rw[Af hb];exact hx
 . intro h;exact⟨i,h,BS i⟩
theorem KL {aE:T (List Nat)} {t:Tmp} {pre:List Nat}:∀(l:List Oper) (k:Nat),uz aE t pre k l=true->∀j o,l[j]? =some o->o.dst=some t->(aE.get (k+j)).isSome->k+j∈pre:=by
 intro l;induction l with
 |nil=>intro k _ j o hj;simp at hj
 | cons x l ih=>
  intro k h j o hj hd hc;simp only[uz,Ab]at h
  cases j with
  |zero=>
   simp only[AA,AL]at hj;subst hj;have h1:=h.1;rw[hd]at h1;simp only[Bk]at hc⊢;have:Nat.beq t t=true:=BS t;simp only[this,hc,Ez,A8]at h1;exact cQ.1 h1
  |succ j=>
   have:=ih (k+1) h.2 j o (by simpa using hj) hd (by rw[show k+1+j=k+(j+1)from by omega];exact hc);rw[show k+1+j=k+(j+1)from by omega]at this;exact this
theorem L7 {aE:T (List Nat)} {ops:Array Oper} {i:Nat} {a:Tmp} {an:List Nat}:∀(l:List Oper) (k:Nat),u7 aE ops i a an k l=true->∀j o,l[j]? =some o->
  (o.dst=some a->i=k+j)/\((aE.get (k+j)).isSome->a∈mA ops o->k+j∈an):=by
 intro l;induction l with
 |nil=>intro k _ j o hj;simp at hj
 | cons x l ih=>
  intro k h j o hj;simp only[u7,Ab]at h;obtain⟨⟨h1,h2⟩,h3⟩:=h
  cases j with
  |zero=>
   simp only[AA,AL]at hj;subst hj;simp only[Bk];constructor
   . intro hd;rw[hd]at h1;have:Nat.beq a a=true:=BS a;simp only[this,A8]at h1;exact Af h1
   . intro hc hl;simp only[hc,A8,BL,AI]at h2;rcases h2 with h2|h2
     . exact cQ.1 h2
     . rw[cQ.2 hl]at h2;cases h2
  |succ j=>
   have:=ih (k+1) h3 j o (by simpa using hj);rw[show k+1+j=k+(j+1)from by omega]at this;exact this
theorem vl {aE:T (List Nat)} {ops:Array Oper} {i:Nat} {o:Oper} (h:iE aE ops i o=true):
   (∀t∈mA ops o,∀j oj,ops[j]? =some oj->oj.dst=some t->(aE.get j).isSome->j∈gL o)/\
   (∀d,o.dst=some d->∀j oj,ops[j]? =some oj->(oj.dst=some d->i=j)/\((aE.get j).isSome->d∈mA ops oj->j∈dS aE o)):=by
 unfold iE at h;simp only[Ab,AE]at h;constructor
 . intro t ht j oj hj hd hc;have:=KL ops.toList 0 (h.1 t ht) j oj (by simpa using hj) hd (by simpa using hc);simpa using this
 . intro d hd j oj hj;have h2:=h.2;rw[hd]at h2;have:=L7 ops.toList 0 h2 j oj (by simpa using hj);simpa using this
theorem nL {aE:T (List Nat)} {i:Nat} {o:Oper} (h:gv aE i o=true):aE.get i=none/\ ∀j∈gL o,(aE.get j).isSome:=by
 unfold gv at h;simp only[Ab,AE]at h;exact⟨by simpa using h.1,h.2⟩
end
section
variable [Inhabited aF]
theorem jQ (nt:Nat) (ts:T AV) (o:Oper) (v:AV) (t:Nat):(fX nt ts o v).get t=if o.dst=some t/\t<nt then some v else ts.get t:=by
 unfold fX
 cases hd:o.dst with
 |none=>simp
 |some d=>
  have:=yl ts nt d v t;unfold fU at this;simp only[this,AL];by_cases h1:t=d
  . subst h1;simp
  . have h2:¬d=t:=fun e=>h1 e.symm
    simp[h1,h2]
theorem lk {i:Nat} {l:List Nat}:cq i l=true↔i∈l:=by
 unfold cq;rw[DR];constructor
 . rintro⟨x,hx,h⟩;rw[Af h];exact hx
 . intro h;exact⟨i,h,BS i⟩
theorem GN {i j:Nat} {l:List Nat}:i∈mG j l↔i=j\/i∈l:=by
 unfold mG
 cases hb:cq j l
 . simp
 . simp only[A8];constructor
   . exact .inr
   . rintro(rfl|h)
     . exact lk.1 hb
     . exact h
theorem M6 {i:Nat}:∀{m l:List Nat},i∈sP m l↔i∈m\/i∈l:=by
 intro m;induction m with
 |nil=>intro l;simp[sP]
 |cons j m ih=>
  intro l;simp only[sP,ih,GN,Aj];constructor
  . rintro(h|rfl|h)
    . exact .inl (.inr h)
    . exact .inl (.inl rfl)
    . exact .inr h
  . rintro((rfl|h)|h)
    . exact .inr (.inl rfl)
    . exact .inl h
    . exact .inr (.inr h)
theorem ec {aE:T (List Nat)} {o:Oper} {i:Nat}:i∈dS aE o↔i∈gL o\/ ∃p∈gL o,∃ap,aE.get p=some ap/\i∈ap:=by
 unfold dS;induction gL o with
 |nil=>simp[vy]
 |cons j l ih=>
  simp only[vy,GN,M6,ih,Aj];constructor
  . rintro(rfl|h|h|⟨p,hp,ap,h1,h2⟩)
    . exact .inl (.inl rfl)
    . cases ha:aE.get j with
      |none=>rw[ha]at h;cases h
      |some ap=>rw[ha]at h;exact .inr ⟨j, .inl rfl,ap,ha,h⟩
    . exact .inl (.inr h)
    . exact .inr ⟨p, .inr hp,ap,h1,h2⟩
  . rintro((rfl|h)|⟨p,rfl|hp,ap,h1,h2⟩)
    . exact .inl rfl
    . exact .inr (.inr (.inl h))
    . exact .inr (.inl (by rw[h1];exact h2))
    . exact .inr (.inr (.inr ⟨p,hp,ap,h1,h2⟩))
section
variable {tab:aZ} {ops:Array Oper} {nt lo:Nat} {ts0:T AV} {s s':DS} {X:Nat->Prop} {i:Nat} {o:Oper} {v:AV}
theorem cU.float (H:cU tab ops nt ts0 lo s X) (hi:ops[i]? =some o) (hr:gv s.aE i o=true) (hok:iE s.aE ops i o=true)
   (e1:s'.ts=fX nt s.ts o v) (e2:s'.aE=s.aE.set i (some (dS s.aE o))) (eh:∀b ob,s.h.get b=some ob->s'.h.get b=some ob) (en:s.h.next<=s'.h.next)
   (ea:s'.ax=s.ax\/(s'.ax=(i,s.h.next)::s.ax/\s'.h.next=s.h.next+1)) (er:∀x∈s.reads,x∈s'.reads) (hd':∀b ob,s'.h.get b=some ob->b<s'.h.next)
   (hk:Kind tab ops s' i o s.ts v):cU tab ops nt ts0 lo s' X:=by
 obtain⟨hnone,hpre⟩:=nL hr;obtain⟨hok1,hok2⟩:=vl hok;have hanc:∀j,s'.aE.get j=if j=i then some (dS s.aE o)else s.aE.get j:=by
   intro j;rw[e2,T.aS]
 have hold:∀j,(s.aE.get j).isSome->j≠i/\s'.aE.get j=s.aE.get j:=by
   intro j hj;have hne:j≠i:=by intro e;subst e;rw[hnone]at hj;cases hj
   exact⟨hne,by rw[hanc,if_neg hne]⟩
 have hnd:∀j oj d,(s.aE.get j).isSome->ops[j]? =some oj->oj.dst=some d->o.dst≠some d:=by
   intro j oj d hj hoj hd hod;have:=H.uniq j i oj o d hj hoj hi hd hod;exact(hold j hj).1 this
 have hts:∀t,o.dst≠some t->s'.ts.get t=s.ts.get t:=by
   intro t ht;rw[e1,jQ,if_neg];rintro⟨h,_⟩;exact ht h
 refine⟨?_,?_,?_,?_,?_,?_,?_,?_,Aq H.nx en,?_,?_,hd'⟩
 . intro j hj;rw[(hold j (H.cx j hj)).2];exact H.cx j hj
 . intro j a hj ha;rw[(hold j (H.cx j hj)).2]at ha;exact H.pf j a hj ha
 . intro j hj;rw[hanc]at hj;by_cases h1:j=i
   . subst h1;exact⟨o,hi⟩
   . rw[if_neg h1]at hj;exact H.op j hj
 . intro j a oj ha hoj;rw[hanc]at ha;by_cases h1:j=i
   . subst h1;rw[if_pos rfl]at ha;rw[hi]at hoj
     cases ha;cases hoj;refine⟨fun p hp=>⟨ec.2 (.inl hp),?_⟩,fun x hx=>?_⟩
     . rw[(hold p (hpre p hp)).2];exact hpre p hp
     . rcases ec.1 hx with h|⟨p,hp,ap,h1,h2⟩
       . exact .inl h
       . exact .inr ⟨p,hp,ap,by rw[(hold p (by rw[h1];rfl)).2];exact h1,h2⟩
   . rw[if_neg h1]at ha;obtain⟨g1,g2⟩:=H.shape j a oj ha hoj;refine⟨fun p hp=>⟨(g1 p hp).1,?_⟩,fun x hx=>?_⟩
     . rw[(hold p (g1 p hp).2).2];exact(g1 p hp).2
     . rcases g2 x hx with h|⟨p,hp,ap,h1,h2⟩
       . exact .inl h
       . exact .inr ⟨p,hp,ap,by rw[(hold p (by rw[h1];rfl)).2];exact h1,h2⟩
 . intro a b oa ob d ha hoa hob hda hdb;rw[hanc]at ha;by_cases h1:a=i
   . subst h1;rw[hi]at hoa;cases hoa;exact(hok2 d hda b ob hob).1 hdb
   . rw[if_neg h1]at ha;exact H.uniq a b oa ob d ha hoa hob hda hdb
 . intro t ht;have h1:o.dst≠some t:=ht i o (by rw[hanc,if_pos rfl];rfl) hi;rw[hts t h1];exact H.od t (fun j oj hj hoj=>ht j oj (by rw[(hold j hj).2];exact hj) hoj)
 . intro j hj hx;by_cases h1:j=i
   . subst h1;refine⟨o,s.ts,v,hi,?_,?_,hk⟩
     . intro d hd hlt;rw[e1,jQ,if_pos ⟨hd,hlt⟩]
     . intro t ht;by_cases hw:∃jj oj,ops[jj]? =some oj/\oj.dst=some t/\(s.aE.get jj).isSome
       . obtain⟨jj,oj,g1,g2,g3⟩:=hw;refine .inl ⟨jj,oj,g1,g2,hok1 t ht jj oj g1 g2 g3,by rw[(hold jj g3).2];exact g3,?_⟩;exact(hts t (hnd jj oj t g3 g1 g2)).symm
       . refine .inr ⟨H.od t (fun jj oj g3 g1 g2=>hw ⟨jj,oj,g1,g2,g3⟩),?_⟩;intro i' oi a g1 g2 g3;by_cases h2:i'=j
         . exact .inl h2
         . rw[hanc,if_neg h2]at g3;exact absurd ⟨i',oi,g1,g2,by rw[g3];rfl⟩ hw
   . have hj':(s.aE.get j).isSome:=by rw[hanc,if_neg h1]at hj;exact hj
     obtain⟨oj,tj,vj,g1,g2,g3,g4⟩:=H.ke j hj' hx;refine⟨oj,tj,vj,g1,?_,?_,?_⟩
     . intro d hd hlt;rw[hts d (hnd j oj d hj' g1 hd)];exact g2 d hd hlt
     . intro t ht;rcases g3 t ht with⟨i1,oi1,k1,k2,k3,k4,k5⟩|⟨k1,k2⟩
       . refine .inl ⟨i1,oi1,k1,k2,k3,by rw[(hold i1 k4).2];exact k4,?_⟩;rw[k5,hts t (hnd i1 oi1 t k4 k1 k2)]
       . refine .inr ⟨k1,?_⟩;intro i' oi a q1 q2 q3;rw[hanc]at q3;by_cases h2:i'=i
         . subst h2;rw[if_pos rfl]at q3;rw[hi]at q1
           cases q1;cases q3;exact .inr ((hok2 t q2 j oj g1).2 hj' ht)
         . rw[if_neg h2]at q3;exact k2 i' oi a q1 q2 q3
     . have hnoA:(∀x∈s.ax,x.1≠j)->∀x∈s'.ax,x.1≠j:=by
         intro hx x hm;rcases ea with ea|⟨ea,_⟩<;>rw[ea]at hm
         . exact hx x hm
         . rcases Aj.1 hm with rfl|hm
           . exact fun e=>h1 e.symm
           . exact hx x hm
       rcases g4 with⟨k1,k2,k3⟩|⟨k1,k2⟩
       . exact .inl ⟨k1,k2,hnoA k3⟩
       . refine .inr ⟨k1,?_⟩;rcases k2 with k2|⟨b,h1',ob,m1,m2,m3,m4,m5⟩|⟨m1,m2,m3,hr',m4,m5⟩
         . exact .inl ⟨k2.1,hnoA k2.2⟩
         . refine .inr (.inl ⟨b,h1',ob,?_,m2,m3,m4,eh _ _ m5⟩);rcases ea with ea|⟨ea,_⟩<;>rw[ea]
           . exact m1
           . refine⟨An _ m1.1,fun x hm e=>?_⟩;rcases Aj.1 hm with rfl|hm
             . exact absurd e.symm h1
             . exact m1.2 x hm e
         . refine .inr (.inr ⟨⟨er _ m1.1,hnoA m1.2⟩,m2,m3,hr',m4,?_⟩);intro b ob hb;obtain⟨n1,n2,n3⟩:=m5 b ob hb;refine⟨n1,eh _ _ n2,?_⟩;intro x hx';rcases ea with ea|⟨ea,_⟩<;>rw[ea]at hx'
           . exact n3 x hx'
           . rcases Aj.1 hx' with rfl|hx'
             . have:=H.hd b ob n2;simp only;omega
             . exact n3 x hx'
 . intro x hx;rcases ea with ea|⟨ea,hnx⟩<;>rw[ea]at hx
   . have:=H.al x hx;exact⟨by omega,by rw[(hold _ this.2.1).2];exact this.2.1,this.2.2⟩
   . rcases Aj.1 hx with rfl|hx
     . exact⟨by simp only;omega,by rw[hanc,if_pos rfl];rfl,H.nx⟩
     . have:=H.al x hx;exact⟨by omega,by rw[(hold _ this.2.1).2];exact this.2.1,this.2.2⟩
 . intro t ht;rw[e1,jQ,if_neg (fun h=>absurd h.2 (EV.2 ht))];exact H.qZ t ht
 . intro x hx y hy e;rcases ea with ea|⟨ea,hnx⟩<;>rw[ea]at hx hy
   . exact H.nK x hx y hy e
   . rcases Aj.1 hx with rfl|hx<;>rcases Aj.1 hy with rfl|hy
     . rfl
     . have:=(H.al y hy).1;simp only at e;omega
     . have:=(H.al x hx).1;simp only at e;omega
     . exact H.nK x hx y hy e
end
end
section
variable [Inhabited aF]
section
variable {tab:aZ} {ops:Array Oper} {nt lo:Nat} {ts0:T AV} {s s':DS} {X:Nat->Prop} {i:Nat} {o:Oper} {v:AV}
theorem zY (hf:oJ tab ops nt i o s= .ok (some s')) (hi:ops[i]? =some o) (hr:gv s.aE i o=true) (H:cU tab ops nt ts0 lo s X):cU tab ops nt ts0 lo s' X:=by
 unfold oJ at hf;obtain⟨_,hck,hf1⟩:=ai.1 hf;have hok:=dK.1 hck;obtain⟨b,hb,hf2⟩:=ai.1 hf1;clear hf hf1;have hnoA:∀x∈s.ax,x.1≠i:=by
  intro x hx e;have:=(H.al x hx).2.1;rw[e,(nL hr).1]at this
  cases this
 cases b with
 |false=>
  simp only[Df,if_true]at hf2
  cases hf2;exact H.float hi hr hok rfl rfl (fun _ _ h=>h) (Ah _) (.inl rfl) (fun _ h=>h) H.hd (.inl ⟨hb,rfl,hnoA⟩)
 | true =>
  simp only[BH,Ak,Aw]at hf2;split at hf2
  . cases hf2
  ·
    obtain⟨⟨u,h1⟩,hp,hf3⟩:=ai.1 hf2;obtain⟨_,hn,hf4⟩:=ai.1 hf3;obtain⟨ob,hob,hf5⟩:=ai.1 hf4
    cases hf5;have hn:=Af (dK.1 hn);have hob:=cE.1 hob;refine H.float (v:=u) hi hr hok rfl rfl ?_ (by simp) (.inr ⟨rfl,rfl⟩) (fun _ h=>h) ?_ (.inr ⟨hb, .inr (.inl ⟨s.h.next,h1,ob,⟨Ao,?_⟩,hp,hn,hob,?_⟩)⟩)
    . intro b ob' hg;have:=H.hd b ob' hg;simp only;rw[AH.aL,if_neg (by omega)];exact hg
    . intro b ob' hg;simp only at hg⊢;rw[AH.aL]at hg;split at hg
      . simp only[AH.cR];omega
      . have:=H.hd b ob' hg;simp only[AH.cR];omega
    . intro x hx e;rcases Aj.1 hx with rfl|hx
      . rfl
      . exact absurd e (hnoA x hx)
    . simp only;rw[AH.aL,if_pos rfl]
  ·
    rename_i hne hna;split at hf2
    . rename_i u h1 hm;obtain⟨_,hn,hf3⟩:=ai.1 hf2
      cases hf3;have hn:=Af (dK.1 hn);have hp:eM tab s.ts {t:= .e,next:=0} o= .ok (u,h1):=by
        split at hm
        . exact hm
        . cases hm
      exact H.float (v:=u) hi hr hok rfl rfl (fun _ _ h=>h) (Ah _) (.inl rfl) (fun _ h=>h) H.hd (.inr ⟨hb, .inl ⟨⟨h1,hp,hn⟩,hnoA⟩⟩)
    . split at hf2
      . rename_i u h1 hp
        cases hf2;have hsame:=tS (tab:=tab) (o:=o) ⟨fun e=>hne (by rw[e]),fun e=>hna (by rw[e])⟩ hp;subst hsame;refine H.float (v:=u) hi hr hok rfl rfl (fun _ _ h=>h) (Ah _) (.inl rfl) (fun _ h=>An _ h) H.hd
          (.inr ⟨hb, .inr (.inr ⟨⟨Ao,hnoA⟩,fun e=>hne (by rw[e]),fun e=>hna (by rw[e]),_,hp,?_⟩)⟩)
        intro b ob hg;rw[gR]at hg;split at hg
        . cases hg
        . rename_i hnx;refine⟨by rw[iH];exact H.hd b ob hg,hg,fun x hx e=>hnx ⟨x,hx,e⟩⟩
      . cases hf2
theorem tQ:∀(l:List Oper) (k:Nat) (s s':DS),(∀j o,l[j]? =some o->ops[k+j]? =some o)->jT tab ops nt k l s= .ok s'->cU tab ops nt ts0 lo s X->cU tab ops nt ts0 lo s' X:=by
 intro l;induction l with
 |nil=>intro k s s' _ h H;simp only[jT]at h;cases h;exact H
 |cons o l ih=>
  intro k s s' hl h H;have hl':∀j o',l[j]? =some o'->ops[k+1+j]? =some o':=by
    intro j o' hj;have:=hl (j+1) o' (by simpa using hj);rw[show k+1+j=k+(j+1)from by omega];exact this
  simp only[jT]at h;by_cases hr:gv s.aE k o=true
  . simp only[hr,A8]at h;obtain⟨x,hx,h1⟩:=ai.1 h
    cases x with
    |none=>exact ih (k+1) s s' hl' h1 H
    |some s1=>exact ih (k+1) s1 s' hl' h1 (zY hx (by simpa using hl 0 o rfl) hr H)
  . have:gv s.aE k o=false:=by simpa using hr
    simp only[this,AJ]at h;exact ih (k+1) s s' hl' h H
theorem GF:∀(l:List Oper) (k:Nat) (aE:T (List Nat)) (j:Nat) (o:Oper),l[j]? =some o->gv aE (k+j) o=true->(k+j,o)∈iL aE k l:=by
 intro l;induction l with
 |nil=>intro k aE j o h;simp at h
 | cons x l ih=>
  intro k aE j o hj hr;simp only[iL]
  cases j with
  |zero=>
   simp only[AA,AL]at hj;subst hj;simp only[Bk]at hr⊢;simp[hr]
  |succ j=>
   have h1:=ih (k+1) aE j o (by simpa using hj) (by rw[show k+1+j=k+(j+1)from by omega];exact hr);rw[show k+1+j=k+(j+1)from by omega]at h1
   cases gv aE k x
   . exact h1
   . exact An _ h1
theorem Cp:∀(l:List Oper) (k:Nat) (aE:T (List Nat)) (j:Nat) (o:Oper),(j,o)∈iL aE k l->∃j',j=k+j'/\l[j']? =some o/\gv aE j o=true:=by
 intro l;induction l with
 |nil=>intro k aE j o h;simp[iL]at h
 | cons x l ih=>
  intro k aE j o h;simp only[iL]at h
  cases hr:gv aE k x with
  |true=>
   rw[hr]at h;simp only[A8]at h;rcases Aj.1 h with e|h
   . cases e;exact⟨0,rfl,rfl,hr⟩
   . obtain⟨j',h1,h2,h3⟩:=ih (k+1) aE j o h;exact⟨j'+1,by omega,by simpa using h2,h3⟩
  |false=>
   rw[hr]at h;simp only[AJ]at h;obtain⟨j',h1,h2,h3⟩:=ih (k+1) aE j o h;exact⟨j'+1,by omega,by simpa using h2,h3⟩
end
end
section
variable [Inhabited aF]
structure eA (ops:Array Oper) (fr0:af) (cs:List af) (k:List bm) (base:List Frame) (s:DS) (X:Nat->Prop) (D:Nat->Prop) (E:Env) (K:KS)
  (tsR:T AV) (hR:AH) (l:List Nat) (frC:Frame) (csC:List Frame) (w:World):Prop where
 rel:Rel D E K {fr:={fr0 with tmps:=tsR,todo:= .inRegion ops l::k},cs,h:=hR} base frC csC w
 hr:∀i ob,hR.get i=some ob↔s.h.get i=some ob/\ ∀x∈s.ax,x.2=i->X x.1
 hn:hR.next=s.h.next
 nC:∀j o t,X j->ops[j]? =some o->o.dst=some t->tsR.get t=s.ts.get t
 nA:∀t,(∀j o,X j->ops[j]? =some o->o.dst≠some t)->tsR.get t=fr0.tmps.get t
 dp:∀x∈s.ax,¬X x.1->¬D x.2
section
variable {P:Program} {tab:aZ} (ok:bw P tab)
variable {D:Nat->Prop} {E:Env} {K:KS} {base:List Frame} {frC:Frame} {csC:List Frame} {w:World}
variable {ops:Array Oper} {fr0:af} {cs:List af} {k:List bm} {lo:Nat} {s:DS} {X:Nat->Prop} {tsR:T AV} {hR:AH} {j:Nat} {l:List Nat} {o:Oper} {v:AV}
theorem MS {fr fr':af} {h:AH} {i:Nat} {rest:List Nat} {k:List bm} (hR:Rel D E K {fr,cs,h} base frC csC w) (hm:fr.mode= .run) (ht:fr.todo= .inRegion ops (i::rest)::k) (ho:ops[i]? =some o) (hw:wanted ops o fr.tmps= .ok false)
  (hf:fr.finish (.bj [])= .ok fr'):sN P (lone frC csC w) D (fun _=>False) E K {fr:=fr',cs,h} base w:=by
 have hfc:=jR hf;refine hR.oE (m':={fr:=fr',cs,h}) _ _ (fun _=>(0,0)) (fun _ h=>h.elim) (fun i hi=>hi.elim (hR.eo i) False.elim) ⟨(hfc E).2.1 hR.wf.1,hR.wf.2⟩ ?_;intro E' he H e1 e2 _;refine⟨w,step_lone_go ?_,H,Kept.refl K w⟩;have hw':=xd hR.wf.1 hw E';rw[<-(hfc E').1,<-e1,<-e2];have h1:(bc E' fr).todo= .inRegion ops (i::rest)::k.map (dL E'):=by simp[bc,ht,dL]
 have h2:(bc E' fr).mode= .run:=by simp[bc,hm,fe]
 have h3:Region.wanted o (yielded ops (bc E' fr).tmps)=false:=hw';simp only;generalize bc E' fr=g at*
 unfold stepG stepG.exec;simp[h1,h2,ho,h3];rfl
theorem M4 (H:cU tab ops fr0.nt fr0.tmps lo s X) (R:eA ops fr0 cs k base s X D E K tsR hR l frC csC w) {tj:T AV} (hl:bO ops fr0.tmps s j o tj) (hx:¬X j) (hready:∀p∈gL o,X p):
   ∀t∈mA ops o,tsR.get t=tj.get t:=by
 intro t ht;rcases hl t ht with⟨i,oi,h1,h2,h3,_,h5⟩|⟨h1,h2⟩
 . rw[h5,R.nC i oi t (hready i h3) h1 h2]
 . rw[h1];refine R.nA t (fun i oi hi hoi hd=>?_);have hc:=H.cx i hi
   cases ha:s.aE.get i with
   |none=>rw[ha]at hc;cases hc
   |some a=>
    rcases h2 i oi a hoi hd ha with e|hm
    . exact hx (e▸hi)
    . exact hx (H.pf i a hi ha j hm)
theorem cU.rj (H:cU tab ops fr0.nt fr0.tmps lo s X) (hC:(s.aE.get j).isSome) (ho:ops[j]? =some o) (hready:∀p∈gL o,X p):cU tab ops fr0.nt fr0.tmps lo s (fun i=>X i\/i=j):=by
 refine⟨?_,?_,H.op,H.shape,H.uniq,H.od,fun i hi hx=>H.ke i hi (fun h=>hx (.inl h)),H.al,H.nx,H.qZ,H.nK,H.hd⟩
 . rintro i (hi|rfl)
   . exact H.cx i hi
   . exact hC
 . rintro i a (hi|rfl) ha x hx
   . exact .inl (H.pf i a hi ha x hx)
   . obtain⟨g1,g2⟩:=H.shape i a o ha ho;rcases g2 x hx with hp|⟨p,hp,ap,h1,h2⟩
     . exact .inl (hready x hp)
     . exact .inl (H.pf p ap (hready p hp) h1 x h2)
theorem QX (H:cU tab ops fr0.nt fr0.tmps lo s X) (R:eA ops fr0 cs k base s X D E K tsR hR l frC csC w) (hC:(s.aE.get j).isSome) (ho:ops[j]? =some o) (hdst:∀d,o.dst=some d->d<fr0.nt->s.ts.get d=some v):
   (∀i oi t,(X i\/i=j)->ops[i]? =some oi->oi.dst=some t->(fX fr0.nt tsR o v).get t=s.ts.get t)/\
   (∀t,(∀i oi,(X i\/i=j)->ops[i]? =some oi->oi.dst≠some t)->(fX fr0.nt tsR o v).get t=fr0.tmps.get t):=by
 constructor
 . intro i oi t hi hoi hd;rw[jQ];by_cases h1:o.dst=some t/\t<fr0.nt
   . rw[if_pos h1,hdst t h1.1 h1.2]
   . rw[if_neg h1];rcases hi with hi|rfl
     . exact R.nC i oi t hi hoi hd
     . rw[ho]at hoi
       cases hoi;have hge:fr0.nt<=t:=DQ (fun hlt=>h1 ⟨hd,hlt⟩);rw[H.qZ t hge];exact R.rel.wf.1 t hge
 . intro t ht;rw[jQ,if_neg (fun h=>ht j o (.inr rfl) ho h.1)];exact R.nA t (fun i oi hi hoi=>ht i oi (.inl hi) hoi)
theorem xg (ho:ops[j]? =some o) (v:AV):af.finish {fr0 with tmps:=tsR,todo:= .inRegion ops (j::l)::k} v= .ok {fr0 with tmps:=fX fr0.nt tsR o v,todo:= .inRegion ops l::k}:=by
 unfold af.finish;simp only[ho,BO];congr 1
end
end
section
variable [Inhabited aF]
section
variable {P:Program} {tab:aZ} (ok:bw P tab) {sub:FuncId->List AV->AH->R (List (AV×AH))} (hsub:jY P tab sub) (hext:jX P tab)
variable {D:Nat->Prop} {E:Env} {K:KS} {base:List Frame} {frC:Frame} {csC:List Frame} {w:World}
variable {ops:Array Oper} {fr0:af} {cs:List af} {k:List bm} {lo:Nat} {s:DS} {X:Nat->Prop} {tsR:T AV} {hR:AH} {j:Nat} {l:List Nat} {o:Oper} {v:AV}
def qG (P:Program) (ops:Array Oper) (fr0:af) (cs:List af) (k:List bm) (base:List Frame) (s:DS) (X:Nat->Prop) (D:Nat->Prop) (E:Env) (K:KS) (lo:Nat) (l:List Nat) (frC:Frame) (csC:List Frame) (w:World):Prop:=
 ∃tsR' hR' frC' csC' w' D' E',Steps P (lone frC csC w) (lone frC' csC' w')/\eA ops fr0 cs k base s X D' E' K tsR' hR' l frC' csC' w'/\ak D E E'/\(∀i,D i->D' i)/\Kept K w w'/\(∀i,D' i->D i\/lo<=i)
include ok in
theorem FN (H:cU tab ops fr0.nt fr0.tmps lo s X) (R:eA ops fr0 cs k base s X D E K tsR hR (j::l) frC csC w) (hm:fr0.mode= .run) (ho:ops[j]? =some o) (hC:(s.aE.get j).isSome) (hx:¬X j)
   (hready:∀p∈gL o,X p):qG P ops fr0 cs k base s (fun i=>X i\/i=j) D E K lo l frC csC w:=by
 obtain⟨o',tj,v,ho',hdst,hlook,hkind⟩:=H.ke j hC hx;rw[ho]at ho'
 cases ho';have hl:=M4 H R hlook hx hready;obtain⟨hops,hwant⟩:=xl hl;obtain⟨htr1,htr0⟩:=QX H R hC ho hdst;have hfin:=xg (fr0:=fr0) (tsR:=tsR) (l:=l) (k:=k) ho v;have hdomR:=(R.rel.all E (ak.refl _ _)).1.eo;have wrap:∀(N:Nat->Prop) (hR2:AH),sN P (lone frC csC w) D N E K {fr:={fr0 with tmps:=fX fr0.nt tsR o v,todo:= .inRegion ops l::k},cs,h:=hR2} base w->
     (∀i ob,hR2.get i=some ob↔s.h.get i=some ob/\ ∀x∈s.ax,x.2=i->X x.1\/x.1=j)->hR2.next=s.h.next->(∀i,N i->(j,i)∈s.ax)->
     qG P ops fr0 cs k base s (fun i=>X i\/i=j) D E K lo l frC csC w:=by
   intro N hR2 hg hchar hnx hN;obtain⟨frC',csC',w',E1,s1,s2,s3,s4⟩:=hg;refine⟨_,hR2,frC',csC',w',_,E1,s1,⟨s2,hchar,hnx,htr1,htr0,?_⟩,s3,fun i hi=> .inl hi,s4,fun i hi=>hi.elim .inl (fun h=> .inr ((H.al _ (hN i h)).2.2))⟩;rintro x hxm hnx' (hd|hn)
   . exact R.dp x hxm (fun h=>hnx' (.inl h)) hd
   . have:=H.nK x hxm _ (hN _ hn) rfl;exact hnx' (.inr (by rw[this]))
 have hcharA:(∀x∈s.ax,x.1≠j)->∀i ob,hR.get i=some ob↔s.h.get i=some ob/\ ∀x∈s.ax,x.2=i->X x.1\/x.1=j:=by
   intro hno i ob;rw[R.hr i ob];constructor
   . rintro⟨h1,h2⟩;exact⟨h1,fun x hx e=> .inl (h2 x hx e)⟩
   . rintro⟨h1,h2⟩;exact⟨h1,fun x hx e=>(h2 x hx e).resolve_right (hno x hx)⟩
 rcases hkind with⟨hw,rfl,hno⟩|⟨hw,hk⟩
 . exact wrap _ hR (MS R.rel hm rfl ho (by rw[hwant];exact hw) hfin) (hcharA hno) R.hn (fun _ h=>h.elim)
 . have a:=kX R.rel hm rfl ho (by rw[hwant];exact hw);rcases hk with⟨⟨h1,hp,hn1⟩,hno⟩|⟨b,h1,ob,⟨hb1,hb2⟩,hp,hn1,hob,hsb⟩|⟨⟨_,hno⟩,_,_,hr,hp,hrr⟩
   . refine wrap _ hR (rS ok R.rel a (h0:={t:= .e,next:=0}) (h1:=h1) (h2:=hR) (by rw[rJ o hops];exact hp) hfin ?_ ?_ ?_ (fun i o h=> .inl (hdomR i o h)) (fun _=>False) ?_ (fun _ h=>h.elim) (fun i hi=>hi.elim (R.rel.eo i) False.elim)) (hcharA hno) R.hn (fun _ h=>h.elim)
     . intro i o' h;cases h
     . intro i o' h;cases h
     . intro i o' h;exact .inr ⟨h,rfl⟩
     . intro h;simp only at h;omega
   . have hbn:=(H.al _ hb1).1;have hget:∀i,(hR.set b ob).get i=if i=b then some ob else hR.get i:=fun i=>AH.aS _ _ _ _
     refine wrap (fun i=>i=b) (hR.set b ob) (rS ok R.rel a (h0:={t:= .e,next:=b}) (h1:=h1) (h2:=hR.set b ob) (by rw[rJ o hops];exact hp) hfin ?_ ?_ ?_ ?_ (fun i=>i=b) ?_ ?_ ?_) ?_ R.hn ?_
     . intro i o' h;cases h
     . intro i o' h;cases h
     . intro i o' h;rw[hget]at h;by_cases e:i=b
       . subst e;rw[if_pos rfl]at h;exact .inl (hob.trans h)
       . rw[if_neg e]at h;exact .inr ⟨h,rfl⟩
     . intro i o' h;rw[hget]at h;simp only[AH.eu];left;by_cases e:i=b
       . rw[e,R.hn];exact hbn
       . rw[if_neg e]at h;exact hdomR i o' h
     . intro _;rfl
     . rintro i rfl;exact⟨rfl,R.dp _ hb1 hx⟩
     . rintro i (hi|rfl)
       . exact R.rel.eo i hi
       . simp only[AH.eu];rw[R.hn];exact hbn
     . intro i ob';rw[hget];by_cases e:i=b
       . subst e;rw[if_pos rfl,hsb];constructor
         . intro h;refine⟨h,fun x hx e=> .inr ?_⟩;rw[H.nK x hx _ hb1 e]
         . exact fun h=>h.1
       . rw[if_neg e,R.hr i ob'];constructor
         . rintro⟨h1,h2⟩;exact⟨h1,fun x hx e=> .inl (h2 x hx e)⟩
         . rintro⟨h1,h2⟩;refine⟨h1,fun x hx e'=>(h2 x hx e').resolve_right (fun ej=>e ?_)⟩;rw[<-e',hb2 x hx ej]
     . rintro i rfl;exact hb1
   . refine wrap _ hR (rS ok R.rel a (h0:=hr) (h1:=hr) (h2:=hR) (by rw[rJ o hops];exact hp) hfin ?_ ?_ ?_ (fun i o h=> .inl (hdomR i o h)) (fun _=>False) ?_ (fun _ h=>h.elim) (fun i hi=>hi.elim (R.rel.eo i) False.elim)) (hcharA hno) R.hn (fun _ h=>h.elim)
     . intro i o' h;obtain⟨g1,g2,g3⟩:=hrr i o' h;exact(R.hr i o').2 ⟨g2,fun x hx e=>absurd e (g3 x hx)⟩
     . intro i o' h;exact(hrr i o' h).1
     . intro i o' h
       cases hg:hr.get i with
       |none=>exact .inr ⟨h,rfl⟩
       | some ob'=>
         left;have:=(hrr i ob' hg).2.1;rw[((R.hr i o').1 h).1]at this;exact this.symm
     . intro h;omega
end
end
end Go.Am
