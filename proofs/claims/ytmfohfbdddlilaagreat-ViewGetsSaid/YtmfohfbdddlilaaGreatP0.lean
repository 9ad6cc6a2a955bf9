/- An evaluator over symbolic values, proved sound over the model's machine, and its use at this seat; no condition. Part 0. -/
import GoSem.Step
import Derived.WalkKit
import Derived.Laws.MakeOwn
import Derived.Laws.Sem
import Derived.Calls
import Derived.Orders
set_option linter.unusedSimpArgs false
set_option linter.unusedVariables false
set_option linter.unusedSectionVars false
set_option linter.deprecated false
namespace Go.Am
inductive R (α : Type) where
 | ok (a : α)
 | no (why : String)
namespace R
def bind {α β : Type} : R α -> (α -> R β) -> R β
 | .ok a, f => f a
 | .no w, _ => .no w
instance : Monad R where
 pure := R.ok
 bind := R.bind
def of {α : Type} (why : String) : Option α -> R α
 | some a => .ok a
 | none => .no why
def check (why : String) : Bool -> R Unit
 | true => .ok ()
 | false => .no why
end R
inductive T (α : Type) where
 | e
 | n (v : Option α) (l r : T α)
namespace T
def get {α : Type} : T α -> Nat -> Option α
 | .e, _ => none
 | .n v l r, k => bif Nat.beq k 0 then v else bif Nat.beq (Nat.mod k 2) 1 then l.get (Nat.div k 2) else r.get (Nat.pred (Nat.div k 2))
def setF {α : Type} : Nat -> T α -> Nat -> Option α -> T α
 | 0, t, _, _ => t
 | f + 1, .e, k, x =>
  bif Nat.beq k 0 then .n x .e .e else bif Nat.beq (Nat.mod k 2) 1 then .n none (setF f .e (Nat.div k 2) x) .e else .n none .e (setF f .e (Nat.pred (Nat.div k 2)) x)
 | f + 1, .n v l r, k, x =>
  bif Nat.beq k 0 then .n x l r else bif Nat.beq (Nat.mod k 2) 1 then .n v (setF f l (Nat.div k 2) x) r else .n v l (setF f r (Nat.pred (Nat.div k 2)) x)
def set {α : Type} (t : T α) (k : Nat) (x : Option α) : T α := setF (k + 1) t k x
def ofListF {α : Type} : List α -> Nat -> T α -> T α
 | [], _, t => t
 | x :: l, k, t => ofListF l (k + 1) (t.set k (some x))
def ofList {α : Type} (l : List α) : T α := ofListF l 0 .e
end T
inductive Cap where
 | lit (n : Nat)
 | tail (k : Nat)
deriving DecidableEq
inductive AV where
 | bool (b : Bool)
 | int (k : IntKind) (n : Int)
 | str (s : List UInt8)
 | nilp
 | ptr (b off : Nat)
 | nils
 | sl (b off len : Nat) (cap : Cap)
 | emp (b off l n k : Nat)
 | nilm
 | map (b : Nat)
 | nilf
 | fn (f : Fn) (first captured : List AV)
 | yld (l : Nat)
 | nili
 | iface (t : TypeId) (v : AV)
 | agg (cs : List AV)
 | tup (vs : List AV)
 | raw (v : Value)
inductive BK where
 | rw | mark | any | ro | cold
deriving DecidableEq
def BK.grown : BK -> BK
 | .rw => .rw
 | _ => .any
inductive AT where
 | fn (f : Fn) (captured : List AV)
 | yld (l : Nat)
 | collected (r : Nat)
structure AD where
 target : AT
 args : List AV
inductive AO where
 | cells (cs : List AV) (elem : TypeId) (sz : Nat) (ext : Bool) (bk : BK)
 | mp (es : List (AV × AV × Nat)) (clock : Nat)
 | miter (m : Option Nat) (since : Nat) (seen : List Nat) (stepped : Nat)
 | siter (s : List UInt8) (pos : Nat)
 | loop (st : LoopState) (pending : Option Code) (fn : FuncId) (tmps : T AV) (nt : Nat) (params : Array Tmp) (assign body : Code) (defers : Nat)
 | dfr (calls : Option (List AD))
structure AH where
 t : T AO
 next : Nat
namespace AH
def get (h : AH) (b : Nat) : Option AO := h.t.get b
def set (h : AH) (b : Nat) (o : AO) : AH := { h with t := h.t.set b (some o) }
def new (h : AH) (o : AO) : AH := { t := h.t.set h.next (some o), next := h.next + 1 }
def kill (h : AH) (b : Nat) : AH := { h with t := h.t.set b none }
end AH
inductive AItem where
 | code (c : Code)
 | inBlock (id : Nat)
 | inLoop (body : Code)
 | inScope (body : Code)
 | inRegion (ops : Array Oper) (l : List Nat)
 | inRange (l : Nat)
 | endRange (l : Nat)
 | beginRound
structure APE where
 v : AV
 recovered : Bool
inductive AMode where
 | run
 | returning
 | panicking (chain : List APE)
structure AFrame where
 fn : FuncId
 nt : Nat
 tmps : T AV
 todo : List AItem
 defers : List AD
 mode : AMode
 kind : CallKind
 round : Option Nat
structure AM where
 fr : AFrame
 cs : List AFrame
 h : AH
structure Tab where
 und : T TypeDesc
 siz : T Nat
 byt : T Nat
 zer : T AV
 agg : T Bool
 cmp : T Bool
 held : T Bool
 grd : T Bool
 fns : T Func
 ext : T Nat
 merge : FuncId -> Bool
def qe2 : Value -> AV
 | .bool b => .bool b
 | .int k n => .int k n
 | .string s => .str s.data.toList
 | .pointer none => .nilp
 | .slice none 0 0 => .nils
 | .map none => .nilm
 | .nilFunc => .nilf
 | .nilIface => .nili
 | v => .raw v
def qep : Value -> AV
 | .agg cs => .agg (cs.toList.map qe2)
 | .tuple vs => .tup (vs.toList.map qe2)
 | v => qe2 v
def ev (ts : T AV) : Operand -> R AV
 | .tmp t => .ok ((ts.get t).getD (.tup []))
 | .const v => .ok (qep v)
 | .func f => .ok (.fn (.func f) [] [])
 | .global _ => .no "global"
def evs (ts : T AV) : List Operand -> R (List AV)
 | [] => .ok []
 | x :: l => do
  let v <- ev ts x
  let vs <- evs ts l
  .ok (v :: vs)
def AV.cells : AV -> R (List AV)
 | .agg cs => .ok cs
 | .raw (.agg _) => .no "cells of a raw value"
 | .raw (.tuple _) => .no "cells of a raw value"
 | .raw v => .ok [.raw v]
 | v => .ok [v]
mutual
def AV.beq : AV -> AV -> Bool
 | .bool a, .bool b => a == b
 | .int k a, .int j b => k == j && a == b
 | .str a, .str b => a == b
 | .nilp, .nilp => true
 | .ptr a i, .ptr b j => Nat.beq a b && Nat.beq i j
 | .nils, .nils => true
 | .sl a i n c, .sl b j m d => Nat.beq a b && Nat.beq i j && Nat.beq n m && c == d
 | .emp a i n c e, .emp b j m d f => Nat.beq a b && Nat.beq i j && Nat.beq n m && Nat.beq c d && Nat.beq e f
 | .nilm, .nilm => true
 | .map a, .map b => Nat.beq a b
 | .nilf, .nilf => true
 | .fn f a b, .fn g c d => f == g && zz35 a c && zz35 b d
 | .yld a, .yld b => Nat.beq a b
 | .nili, .nili => true
 | .iface t v, .iface u w => Nat.beq t u && AV.beq v w
 | .agg a, .agg b => zz35 a b
 | .tup a, .tup b => zz35 a b
 | .raw (.slice a n c), .raw (.slice b m d) => decide (a = b) && Nat.beq n m && Nat.beq c d
 | .raw (.pointer (some a)), .raw (.pointer (some b)) => decide (a = b)
 | _, _ => false
def zz35 : List AV -> List AV -> Bool
 | [], [] => true
 | a :: l, b :: m => AV.beq a b && zz35 l m
 | _, _ => false
end
section
variable (tab : Tab)
def und (t : TypeId) : R TypeDesc := R.of "und" (tab.und.get t)
def siz (t : TypeId) : R Nat := R.of "siz" (tab.siz.get t)
def zero (t : TypeId) : R AV := R.of "zero" (tab.zer.get t)
def isAgg (t : TypeId) : R Bool := R.of "isAgg" (tab.agg.get t)
def part (t : TypeId) (cs : List AV) (off : Nat) : R AV := do
 if <- isAgg tab t then
  let n <- siz tab t
  .ok (.agg ((cs.drop off).take n))
 else R.of "part" cs[off]?
def qbk (h : AH) (b : Nat) : R (List AV × TypeId × Nat × Bool × BK) :=
 match h.get b with
 | some (.cells cs e sz ext bk) => .ok (cs, e, sz, ext, bk)
 | _ => .no "cells"
def readN (h : AH) (b off n : Nat) : R (List AV) := do
 let (cs, _) <- qbk h b
 R.check "readN" (Nat.ble (off + n) cs.length)
 .ok ((cs.drop off).take n)
def qcQ (cs : List AV) (off : Nat) (vs : List AV) : List AV := cs.take off ++ (vs ++ cs.drop (off + vs.length))
def qcf : AV -> Bool
 | .raw (.slice _ _ _) => true
 | .raw (.int _ _) => true
 | .raw (.string _) => true
 | .raw (.bool _) => true
 | .raw (.pointer (some _)) => true
 | .agg _ | .tup _ | .raw _ => false
 | _ => true
def writeN (h : AH) (b off : Nat) (vs : List AV) : R AH :=
 match vs with
 | [] => .ok h
 | _ => do
  let (cs, e, sz, ext, bk) <- qbk h b
  R.check "writeN: ro" (bk != .ro && bk != .cold)
  R.check "writeN: range" (Nat.ble (off + vs.length) cs.length)
  R.check "writeN: cell" (vs.all qcf)
  .ok (h.set b (.cells (qcQ cs off vs) e sz ext bk))
def loadVar (h : AH) (t : TypeId) (b off : Nat) : R AV := do
 if <- isAgg tab t then
  let n <- siz tab t
  let cs <- readN h b off n
  .ok (.agg cs)
 else
  let (cs, _) <- qbk h b
  R.of "load" cs[off]?
def storeVar (h : AH) (t : TypeId) (b off : Nat) (v : AV) : R AH := do
 let n <- siz tab t
 let l <- v.cells
 R.check "store: size" (Nat.beq l.length n)
 writeN h b off l
def newRow (h : AH) (elem : TypeId) (cs : List AV) (ext : Bool := false) (bk : BK := .rw) : R (AH × Nat) := do
 let n <- siz tab elem
 .ok (h.new (.cells cs elem n ext bk), h.next)
def asInt : AV -> R (IntKind × Int)
 | .int k n => .ok (k, n)
 | _ => .no "asInt"
def asNat (v : AV) : R Nat := do
 let (_, n) <- asInt v
 match n with
 | .ofNat k => .ok k
 | .negSucc _ => .no "asNat"
def goInt (n : Nat) : AV := .int .i64 (.ofNat n)
def intOp (op : BinOp) (k : IntKind) (x y : Int) : R AV :=
 match op with
 | .add => .ok (.int k (k.wrap (x + y)))
 | .sub => .ok (.int k (k.wrap (x - y)))
 | .mul => .ok (.int k (k.wrap (x * y)))
 | .quo => if y = 0 then .no "div" else .ok (.int k (k.wrap (x.tdiv y)))
 | .rem => if y = 0 then .no "div" else .ok (.int k (x.tmod y))
 | .and => .ok (.int k (k.wrap (BitVec.ofInt k.bits x &&& BitVec.ofInt k.bits y).toNat))
 | .or => .ok (.int k (k.wrap (BitVec.ofInt k.bits x ||| BitVec.ofInt k.bits y).toNat))
 | .xor => .ok (.int k (k.wrap (BitVec.ofInt k.bits x ^^^ BitVec.ofInt k.bits y).toNat))
 | .andNot => .ok (.int k (k.wrap (BitVec.ofInt k.bits x &&& ~~~ BitVec.ofInt k.bits y).toNat))
 | .eql => .ok (.bool (x == y))
 | .neq => .ok (.bool (x != y))
 | .lss => .ok (.bool (decide (x < y)))
 | .leq => .ok (.bool (decide (x <= y)))
 | .gtr => .ok (.bool (decide (x > y)))
 | .geq => .ok (.bool (decide (x >= y)))
 | _ => .no "intOp"
def shiftOp (op : BinOp) (k : IntKind) (x y : Int) : R AV :=
 if y < 0 then .no "shift" else
 match op with
 | .shl => .ok (.int k (k.wrap (x * 2 ^ (min y.toNat k.bits))))
 | .shr => .ok (.int k (x.fdiv (2 ^ (min y.toNat k.bits))))
 | _ => .no "shiftOp"
def strOp (op : BinOp) (x y : List UInt8) : R AV :=
 match op with
 | .add => if x.length + y.length <= 1048576 then .ok (.str (x ++ y)) else .no "string too long"
 | .eql => .ok (.bool (x == y))
 | .neq => .ok (.bool (!(x == y)))
 | .lss => .ok (.bool (Op.bytesLess x y))
 | .leq => .ok (.bool (Op.bytesLess x y || x == y))
 | .gtr => .ok (.bool (!(Op.bytesLess x y || x == y)))
 | .geq => .ok (.bool (!Op.bytesLess x y))
 | _ => .no "strOp"
def eqFields (eq : TypeId -> AV -> AV -> R Bool) (xs ys : List AV) : List Field -> R Bool
 | [] => .ok true
 | f :: fs =>
  if f.name ≠ "_" then do
   let a <- part tab f.type xs f.offset
   let b <- part tab f.type ys f.offset
   if <- eq f.type a b then eqFields eq xs ys fs else .ok false
  else eqFields eq xs ys fs
def eqT : Nat -> TypeId -> AV -> AV -> R Bool
 | 0, _, _, _ => .no "eqT"
 | d + 1, t, x, y => do
  match <- und tab t, x, y with
  | .bool, .bool a, .bool b => .ok (a == b)
  | .int _, .int k a, .int j b => if k = j then .ok (a == b) else .no "eqT kinds"
  | .string, .str a, .str b => .ok (a == b)
  | .pointer _, .nilp, .nilp => .ok true
  | .pointer _, .nilp, .ptr _ _ => .ok false
  | .pointer _, .ptr _ _, .nilp => .ok false
  | .pointer _, .raw (.pointer (some _)), .nilp => .ok false
  | .pointer _, .nilp, .raw (.pointer (some _)) => .ok false
  | .slice _, .nils, .nils => .ok true
  | .slice _, .nils, .sl .. => .ok false
  | .slice _, .sl .., .nils => .ok false
  | .slice _, .nils, .emp .. => .ok false
  | .slice _, .emp .., .nils => .ok false
  | .map _ _, .nilm, .nilm => .ok true
  | .map _ _, .nilm, .map _ => .ok false
  | .map _ _, .map _, .nilm => .ok false
  | .func _ _ _, .nilf, .nilf => .ok true
  | .func _ _ _, .nilf, .fn .. => .ok false
  | .func _ _ _, .fn .., .nilf => .ok false
  | .interface _, .nili, .iface _ _ => .ok false
  | .interface _, .iface _ _, .nili => .ok false
  | .struct fs, .agg xs, .agg ys => do
   match tab.held.get t with
   | some false => eqFields tab (eqT d) xs ys fs.toList
   | _ => .no "eqT held"
  | _, _, _ => .no "eqT"
def eqOp (h : AH) (t : TypeId) (x y : AV) : R Bool := do
 match x, y with
 | .ptr a i, .ptr b j =>
  match <- und tab t with
  | .pointer e => do
   let n <- siz tab e
   R.check "eqOp: size 0" (!(Nat.beq n 0))
   if Nat.beq a b then .ok (Nat.beq i j) else
    match h.get a, h.get b with
    | some (.cells _ _ _ _ .rw), some (.cells _ _ _ _ .rw) => .ok false
    | _, _ => .no "eqOp: blocks"
  | _ => .no "eqOp"
 | .agg _, .agg _ =>
  match tab.grd.get t with
  | some false => eqT tab 8 t x y
  | _ => .no "eqOp: guard"
 | .nili, .nili => .no "eqOp: nil, nil"
 | _, _ => eqT tab 8 t x y
def binOp (h : AH) (op : BinOp) (t : TypeId) (x y : AV) : R AV :=
 match op, x, y with
 | .shl, .int k a, .int _ b => shiftOp .shl k a b
 | .shr, .int k a, .int _ b => shiftOp .shr k a b
 | _, .int k a, .int j b => if k = j then intOp op k a b else .no "binOp kinds"
 | _, .str a, .str b => strOp op a b
 | .eql, x, y => do .ok (.bool (<- eqOp tab h t x y))
 | .neq, x, y => do .ok (.bool (!(<- eqOp tab h t x y)))
 | _, _, _ => .no "binOp"
def unOp (op : UnOp) (x : AV) : R AV :=
 match op, x with
 | .neg, .int k n => .ok (.int k (k.wrap (0 - n)))
 | .xor, .int k n => .ok (.int k (k.wrap (BitVec.ofInt k.bits (if k.signed then -1 else k.max) ^^^ BitVec.ofInt k.bits n).toNat))
 | .not, .bool b => .ok (.bool (!b))
 | _, _ => .no "unOp"
def bytesOf : List AV -> R (List UInt8)
 | [] => .ok []
 | .int .u8 (.ofNat n) :: l => do
  let r <- bytesOf l
  .ok (UInt8.ofNat n :: r)
 | _ => .no "bytesOf"
def qce (s : List UInt8) : List AV := s.map fun b => .int .u8 (.ofNat b.toNat)
def convert (h : AH) (src dst : TypeId) (x : AV) : R (AV × AH) := do
 match <- und tab src, <- und tab dst, x with
 | _, .int k, .int _ n => .ok (.int k (k.wrap n), h)
 | _, .string, .str s => .ok (.str s, h)
 | _, .slice e, .str s => do
  match <- und tab e with
  | .int .u8 => do
   let n <- siz tab e
   R.check "convert: size" (Nat.beq n 1)
   let (h', b) <- newRow tab h e (qce s) true .mark
   .ok (.sl b 0 s.length (.tail 0), h')
  | _ => .no "convert to a slice"
 | .slice e, .string, x => do
  match <- und tab e, x with
  | .int .u8, .nils => .ok (.str [], h)
  | .int .u8, .sl b off n _ => do
   let s <- bytesOf (<- readN h b off n)
   .ok (.str s, h)
  | .int .u8, .emp .. => .ok (.str [], h)
  | .int .u8, .raw (.slice _ 0 _) => .ok (.str [], h)
  | _, _ => .no "convert of a slice"
 | .slice _, .slice e, .sl b off n c => do
  match Nat.beq src dst, <- und tab e with
  | true, .int .u8 => do
   let (cs, e', sz, ext, bk) <- qbk h b
   R.check "convert: ro" (bk != .ro && bk != .cold)
   .ok (.sl b off n c, h.set b (.cells cs e' sz ext .mark))
  | _, _ => .no "convert slices"
 | _, _, _ => .no "convert"
def qgC (h : AH) (t : TypeId) (x : AV) : R (AV × AH) := do
 match x with
 | .nilp => .ok (.nilp, h)
 | .ptr b off => do
  let (cs, _, _, _, _) <- qbk h b
  let n <- siz tab t
  R.check "convert to unsafe.Pointer" (!(Nat.beq n 0) && Nat.blt off cs.length)
  .ok (.ptr b off, h)
 | _ => .no "convert to unsafe.Pointer"
def qef (h : AH) (u : TypeId) (x : AV) : R (AV × AH) := do
 match x with
 | .nilp => .ok (.nilp, h)
 | .ptr b off => do
  let (cs, e, _, _, _) <- qbk h b
  let sz <- siz tab u
  R.check "convert from unsafe.Pointer" (Nat.beq e u && !(Nat.beq sz 0) && Nat.beq off 0 && Nat.ble sz cs.length)
  .ok (.ptr b off, h)
 | _ => .no "convert from unsafe.Pointer"
def qbh (h : AH) (src dst : TypeId) (x : AV) : R (AV × AH) := do
 match <- und tab dst with
 | .unsafePointer => do
  match <- und tab src with
  | .pointer t => qgC tab h t x
  | _ => .no "convert to unsafe.Pointer"
 | .pointer u => do
  match <- und tab src with
  | .unsafePointer => qef tab h u x
  | _ => .no "convert to a pointer"
 | _ => convert tab h src dst x
def fill (cs : List AV) : List (Nat × Nat × AV) -> R (List AV)
 | [] => .ok cs
 | (off, n, v) :: rest => do
  let l <- v.cells
  R.check "fill" (Nat.beq l.length n && Nat.ble (off + n) cs.length)
  fill (qcQ cs off l) rest
def qbF (fs : Array Field) : List (Nat × AV) -> R (List (Nat × Nat × AV))
 | [] => .ok []
 | (i, v) :: rest => do
  let f <- R.of "field" fs[i]?
  let n <- siz tab f.type
  let r <- qbF fs rest
  .ok ((f.offset, n, v) :: r)
def build (t : TypeId) (parts : List (Nat × AV)) : R AV := do
 let z <- zero tab t
 let zc <- z.cells
 match <- und tab t with
 | .struct fs => do
  R.check "build: sizes" (fs.toList.all fun f => (tab.siz.get f.type).isSome)
  let ps <- qbF tab fs parts
  let cs <- fill zc ps
  .ok (.agg cs)
 | .array _ e => do
  let n <- siz tab e
  let cs <- fill zc (parts.map fun (i, v) => (i * n, n, v))
  .ok (.agg cs)
 | _ => .no "build"
def rep (n : Nat) (l : List AV) : List AV :=
 match n with
 | 0 => []
 | n + 1 => l ++ rep n l
def buildSlice (h : AH) (t : TypeId) (len : Nat) (parts : List (Nat × AV)) : R (AV × AH) := do
 match <- und tab t with
 | .slice e => do
  let n <- siz tab e
  R.check "buildSlice" (Nat.ble (len * n) 16777216)
  let z <- zero tab e
  let zc <- z.cells
  R.check "buildSlice: zero" (Nat.beq zc.length n)
  let cs <- fill (rep len zc) (parts.map fun (i, v) => (i * n, n, v))
  let (h', b) <- newRow tab h e cs
  .ok (.sl b 0 len (.lit len), h')
 | _ => .no "buildSlice"
def qcd (ts : T AV) : List (Nat × Operand) -> R (List (Nat × AV))
 | [] => .ok []
 | (i, x) :: l => do
  let v <- ev ts x
  let r <- qcd ts l
  .ok ((i, v) :: r)
def makeSlice (h : AH) (t : TypeId) (len cap : AV) : R (AV × AH) := do
 match <- und tab t with
 | .slice e => do
  let l <- asNat len
  let c <- asNat cap
  let by_ <- R.of "byt" (tab.byt.get e)
  R.check "makeSlice" (Nat.ble l c && Nat.ble c 4194304 && Nat.ble (by_ * c) 16777216)
  let n <- siz tab e
  let z <- zero tab e
  let zc <- z.cells
  R.check "makeSlice: zero" (Nat.beq zc.length n && !(Nat.beq n 0))
  let (h', b) <- newRow tab h e (rep c zc)
  .ok (.sl b 0 l (.lit c), h')
 | _ => .no "makeSlice"
def capLow (h : AH) (b : Nat) : Cap -> R Nat
 | .lit n => .ok n
 | .tail k => do
  let (cs, _, sz, ext, _) <- qbk h b
  R.check "capLow" (ext && !(Nat.beq sz 0))
  .ok (Nat.div cs.length sz - k)
def qaS (ts : T AV) (d : R Nat) : Option Operand -> R Nat
 | none => d
 | some x => do asNat (<- ev ts x)
def qbm (ts : T AV) (h : AH) (t : TypeId) (x : AV) (lo hi mx : Option Operand) : R (AV × AH) := do
 match <- und tab t, x with
 | .string, .str s => do
  R.check "slice: max" mx.isNone
  let l <- qaS ts (.ok 0) lo
  let u <- qaS ts (.ok s.length) hi
  R.check "slice: bounds" (Nat.ble l u && Nat.ble u s.length)
  .ok (.str ((s.drop l).take (u - l)), h)
 | .slice e, .nils => do
  let _ <- siz tab e
  let l <- qaS ts (.ok 0) lo
  let u <- qaS ts (.ok 0) hi
  let m <- qaS ts (.ok 0) mx
  R.check "slice: nil" (Nat.beq l 0 && Nat.beq u 0 && Nat.beq m 0 && (mx.isNone || hi.isSome))
  .ok (.nils, h)
 | .slice e, .sl b off len cap => do
  let c <- capLow h b cap
  let n <- siz tab e
  let l <- qaS ts (.ok 0) lo
  let u <- qaS ts (.ok len) hi
  match mx with
  | some _ => do
   let m <- qaS ts (.ok 0) mx
   R.check "slice: bounds" (Nat.ble l u && Nat.ble u m && Nat.ble m c && hi.isSome)
   .ok (.sl b (bif Nat.beq m l then off else off + l * n) (u - l) (.lit (m - l)), h)
  | none =>
   match cap with
   | .lit m => do
    R.check "slice: bounds" (Nat.ble l u && Nat.ble u m)
    .ok (.sl b (bif Nat.beq m l then off else off + l * n) (u - l) (.lit (m - l)), h)
   | .tail k => do
    R.check "slice: bounds" (Nat.ble l u && Nat.ble u c)
    bif Nat.beq l 0 then .ok (.sl b off u (.tail k), h)
    else bif Nat.blt l c then .ok (.sl b (off + l * n) (u - l) (.tail (k + l)), h)
    else .ok (.emp b off l n k, h)
 | .slice e, .raw (.slice a 0 c) => do
  let _ <- siz tab e
  let l <- qaS ts (.ok 0) lo
  let u <- qaS ts (.ok 0) hi
  R.check "slice: raw" (Nat.beq l 0 && Nat.beq u 0 && mx.isNone)
  .ok (.raw (.slice a 0 c), h)
 | .slice e, .emp b off l0 n0 k => do
  let _ <- siz tab e
  let l <- qaS ts (.ok 0) lo
  let u <- qaS ts (.ok 0) hi
  R.check "slice: emp" (Nat.beq l 0 && Nat.beq u 0 && mx.isNone)
  .ok (.emp b off l0 n0 k, h)
 | _, _ => .no "slice"
def qdv (e : TypeId) (n : Nat) : R Unit := do
 let z <- zero tab e
 let zc <- z.cells
 R.check "append: zero" (Nat.beq zc.length n)
def appendOp (h : AH) (e : TypeId) (n by_ : Nat) (x : AV) (m : Nat) (news : List AV) : R (AV × AH) := do
 match x with
 | .nils =>
  bif Nat.beq m 0 then .ok (.nils, h)
  else do
   R.check "append: size" (Nat.ble (m * by_) 16777216 && Nat.ble m 16777216)
   qdv tab e n
   let (h', b) <- newRow tab h e news true
   .ok (.sl b 0 m (.tail 0), h')
 | .sl b off len cap => do
  let c <- capLow h b cap
  let (cs, e', sz, ext, bk) <- qbk h b
  R.check "append: type" (Nat.beq e e' && Nat.beq sz n)
  let need := len + m
  R.check "append: size" (Nat.ble (need * by_) 16777216 && Nat.ble need 16777216)
  bif Nat.ble need c then do
   let h' <- writeN h b (off + len * n) news
   .ok (.sl b off need cap, h')
  else
   R.check "append: old" (Nat.ble (off + len * n) cs.length) >>= fun _ =>
   qdv tab e n >>= fun _ =>
   match cap with
   | .lit _ => do
    let (h', b') <- newRow tab h e ((cs.drop off).take (len * n) ++ news) true
    .ok (.sl b' 0 need (.tail 0), h')
   | .tail k => do
    R.check "append: tail" (Nat.beq k 0 && Nat.beq off 0 && ext && bk != .ro && bk != .cold && news.all qcf)
    let (h', b') <- newRow tab (h.kill b) e (cs.take (len * n) ++ news) true bk.grown
    .ok (.sl b' 0 need (.tail 0), h')
 | _ => .no "append"
def source (h : AH) (n : Nat) : AV -> R (Nat × List AV)
 | .nils => .ok (0, [])
 | .emp .. => .ok (0, [])
 | .sl b off len _ => do
  let cs <- readN h b off (len * n)
  .ok (len, cs)
 | .str s => do
  R.check "source: size" (Nat.beq n 1)
  .ok (s.length, qce s)
 | .raw (.slice _ 0 _) => .ok (0, [])
 | _ => .no "source"
def qeG (ck : TypeId -> AV -> R Unit) (cs : List AV) : List Field -> R Unit
 | [] => .ok ()
 | f :: fs =>
  if f.name ≠ "_" then do
   let x <- part tab f.type cs f.offset
   ck f.type x
   qeG ck cs fs
  else qeG ck cs fs
def qhB : Nat -> TypeId -> AV -> R Unit
 | 0, _, _ => .no "ckKey"
 | d + 1, t, v => do
  match <- und tab t, v with
  | .interface _, _ => .no "ckKey"
  | .array _ _, _ => .no "ckKey"
  | .struct fs, .agg cs => qeG tab (qhB d) cs fs.toList
  | .struct _, _ => .no "ckKey"
  | _, _ => .ok ()
def ckKey (t : TypeId) (v : AV) (d : Nat) : R Unit := qhB tab d t v
def findKey (t : TypeId) (k : AV) : List (AV × AV × Nat) -> Nat -> R (Option (Nat × AV × AV × Nat))
 | [], _ => .ok none
 | (a, v, n) :: es, i => do
  if <- eqT tab 8 t k a then .ok (some (i, a, v, n)) else findKey t k es (i + 1)
def qm1 (h : AH) (b : Nat) : R (List (AV × AV × Nat) × Nat) :=
 match h.get b with
 | some (.mp es c) => .ok (es, c)
 | _ => .no "map"
def lookup (h : AH) (t : TypeId) (m k : AV) (ok : Bool) : R AV := (fun (_ : Tab) => .no "lookup") tab
def mapUpdate (h : AH) (t : TypeId) (m k x : AV) : R AH := (fun (_ : Tab) => .no "mapUpdate") tab
def mapEntry (h : AH) (t : TypeId) (m k : AV) : R (AV × AH) := (fun (_ : Tab) => .no "mapEntry") tab
def entryStore (h : AH) (m s x : AV) : R AH := .no "entryStore"
def delete (h : AH) (t : TypeId) (m k : AV) : R AH := do
 match <- und tab t, m with
 | .map kt _, .nilm => do
  ckKey tab kt k 8
  .ok h
 | .map kt _, .map b => do
  let (es, c) <- qm1 h b
  ckKey tab kt k 8
  match <- findKey tab kt k es 0 with
  | some (i, _) => .ok (h.set b (.mp (es.take i ++ es.drop (i + 1)) c))
  | none => .ok h
 | _, _ => .no "delete"
def rangeOp (h : AH) (t : TypeId) (x : AV) : R (AV × AH) := (fun (_ : Tab) => .no "rangeOp") tab
def nextOp (h : AH) (it : AV) (isString : Bool) : R (List (AV × AH)) := .no "nextOp"
def entryOp (h : AH) (it : AV) : R AV := .no "entryOp"
def qfs (t : TypeId) (f : Nat) : R Field := do
 match <- und tab t with
 | .struct fs => R.of "field" fs[f]?
 | _ => .no "struct"
def qgT (k : IntKind) : Int -> List AV -> R AV
 | x, [] => .ok (.int k x)
 | x, .int _ y :: l => qgT k (if y < x then y else x) l
 | _, _ => .no "min"
def qgS (k : IntKind) : Int -> List AV -> R AV
 | x, [] => .ok (.int k x)
 | x, .int _ y :: l => qgS k (if y > x then y else x) l
 | _, _ => .no "max"
def lenOf (h : AH) : TypeDesc -> AV -> R Nat
 | .string, .str s => .ok s.length
 | .slice _, .nils => .ok 0
 | .slice _, .emp .. => .ok 0
 | .slice _, .sl _ _ n _ => .ok n
 | .slice _, .raw (.slice _ n _) => .ok n
 | .map _ _, .nilm => .ok 0
 | .map _ _, .map b => do
  let (es, _) <- qm1 h b
  .ok es.length
 | .array n _, _ => .ok n
 | _, _ => .no "len"
def qhw (h : AH) (e : TypeId) (x y : AV) : R (AV × AH) := do
 let n <- siz tab e
 let by_ <- R.of "byt" (tab.byt.get e)
 R.check "append: cells" (!(Nat.beq n 0))
 let m <- asNat y
 R.check "append of make: size" (Nat.ble m 1048576 && Nat.ble (m * by_) 16777216)
 let z <- zero tab e
 let zc <- z.cells
 R.check "append of make: zero" (Nat.beq zc.length n)
 appendOp tab h e n by_ x m (rep m zc)
def qg7 (h : AH) (x : AV) : R (AV × AH) :=
 match x with
 | .nils => .ok (.nilp, h)
 | .sl b off _ cap => do
  let c <- capLow h b cap
  R.check "unsafe.SliceData" (!(Nat.beq c 0))
  .ok (.ptr b off, h)
 | _ => .no "unsafe.SliceData"
def unsafeString (h : AH) (t : TypeId) (x y : AV) : R (AV × AH) := (fun (_ : Tab) => .no "unsafeString") tab
def builtin (b : Builtin) (argTypes : Array TypeId) (args : List AV) (h : AH) : R (AV × AH) := do
 match b, args with
 | .len, [x] => do
  let t <- R.of "len" argTypes[0]?
  let u <- und tab t
  match u with
  | .pointer e => do
   match <- und tab e with
   | .array n _ => .ok (goInt n, h)
   | _ => .no "len"
  | u => do
   let n <- lenOf h u x
   .ok (goInt n, h)
 | .cap, [x] => do
  let t <- R.of "cap" argTypes[0]?
  match <- und tab t, x with
  | .slice _, .nils => .ok (goInt 0, h)
  | .slice _, .sl _ _ _ (.lit n) => .ok (goInt n, h)
  | _, _ => .no "cap"
 | .append, [x, y] => do
  let t <- R.of "append" argTypes[0]?
  let u <- R.of "append" argTypes[1]?
  match <- und tab u with
  | .int _ => do
   match <- und tab t with
   | .slice e => qhw tab h e x y
   | _ => .no "append"
  | _ => do
   match <- und tab t with
   | .slice e => do
    let n <- siz tab e
    let by_ <- R.of "byt" (tab.byt.get e)
    R.check "append: cells" (!(Nat.beq n 0))
    let (m, news) <- source h n y
    appendOp tab h e n by_ x m news
   | _ => .no "append"
 | .copy, [x, y] => do
  let t <- R.of "copy" argTypes[0]?
  match <- und tab t with
  | .slice e => do
   let n <- siz tab e
   let (m, cs) <- source h n y
   match x with
   | .nils => .ok (goInt 0, h)
   | .emp .. => .ok (goInt 0, h)
   | .sl b off len _ => do
    let k := Nat.min m len
    let h' <- writeN h b off (cs.take (k * n))
    .ok (goInt k, h')
   | _ => .no "copy"
  | _ => .no "copy"
 | .clear, [x] => do
  let t <- R.of "clear" argTypes[0]?
  match <- und tab t, x with
  | _, .nilm => .ok (.tup [], h)
  | _, .nils => .ok (.tup [], h)
  | _, .emp .. => .ok (.tup [], h)
  | _, .map b => do
   let (_, c) <- qm1 h b
   .ok (.tup [], h.set b (.mp [] c))
  | .slice e, .sl b off len _ => do
   let z <- zero tab e
   let zc <- z.cells
   let h' <- writeN h b off (rep len zc)
   .ok (.tup [], h')
  | _, _ => .no "clear"
 | .delete, [m, k] => do
  let t <- R.of "delete" argTypes[0]?
  let h' <- delete tab h t m k
  .ok (.tup [], h')
 | .unsafeSliceData, [x] => qg7 h x
 | .unsafeString, [x, y] => do
  let t <- R.of "unsafe.String" argTypes[0]?
  unsafeString tab h t x y
 | .min, .int k x :: l => do
  let v <- qgT k x l
  .ok (v, h)
 | .max, .int k x :: l => do
  let v <- qgS k x l
  .ok (v, h)
 | _, _ => .no "builtin"
def qaH (ts : T AV) (h : AH) (o : Oper) : R (AV × AH) := do
 match o.op with
 | .move x => do .ok (<- ev ts x, h)
 | .assign x => do .ok (<- ev ts x, h)
 | .pick c a b => do
  match <- ev ts c with
  | .bool true => do .ok (<- ev ts a, h)
  | .bool false => do .ok (<- ev ts b, h)
  | _ => .no "pick"
 | .alloc e => do
  let z <- zero tab e
  let zc <- z.cells
  let (h', b) <- newRow tab h e zc
  .ok (.ptr b 0, h')
 | .box e x => do
  let v <- ev ts x
  let vc <- v.cells
  let (h', b) <- newRow tab h e vc
  .ok (.ptr b 0, h')
 | .build t ps => do
  let l <- qcd ts ps.toList
  .ok (<- build tab t l, h)
 | .buildSlice t n ps => do
  let l <- qcd ts ps.toList
  buildSlice tab h t n l
 | .load t a => do
  match <- ev ts a with
  | .ptr b off => do .ok (<- loadVar tab h t b off, h)
  | _ => .no "load"
 | .store t a x => do
  match <- ev ts a with
  | .ptr b off => do
   let h' <- storeVar tab h t b off (<- ev ts x)
   .ok (.tup [], h')
  | _ => .no "store"
 | .nilCheck x => do
  match <- ev ts x with
  | .ptr b off => .ok (.ptr b off, h)
  | .fn (.func f) a b => .ok (.fn (.func f) a b, h)
  | _ => .no "nilCheck"
 | .binOp op t x y _ => do .ok (<- binOp tab h op t (<- ev ts x) (<- ev ts y), h)
 | .unOp op _ x => do .ok (<- unOp op (<- ev ts x), h)
 | .convert s d x => do qbh tab h s d (<- ev ts x)
 | .makeInterface t x => do
  match <- und tab t with
  | .interface _ => .no "makeInterface"
  | _ => do .ok (.iface t (<- ev ts x), h)
 | .makeFunc fn first captured => do
  match fn with
  | .func _ => do .ok (.fn fn (<- evs ts first.toList) (<- evs ts captured.toList), h)
  | _ => .no "makeFunc"
 | .makeMap _ none => .ok (.map h.next, h.new (.mp [] 0))
 | .makeSlice t l c => do makeSlice tab h t (<- ev ts l) (<- ev ts c)
 | .slice t x lo hi mx => do qbm tab ts h t (<- ev ts x) lo hi mx
 | .fieldAddr s x f => do
  let fd <- qfs tab s f
  let n <- siz tab fd.type
  R.check "fieldAddr: size 0" (!(Nat.beq n 0))
  match <- ev ts x with
  | .ptr b off => .ok (.ptr b (off + fd.offset), h)
  | _ => .no "fieldAddr"
 | .field t x f => do
  let fd <- qfs tab t f
  match <- ev ts x with
  | .agg cs => do .ok (<- part tab fd.type cs fd.offset, h)
  | _ => .no "field"
 | .indexAddr t x ix => do
  let i <- asNat (<- ev ts ix)
  match <- und tab t, <- ev ts x with
  | .array len e, .ptr b off => do
   R.check "indexAddr" (Nat.blt i len)
   let n <- siz tab e
   .ok (.ptr b (off + i * n), h)
  | .slice e, .sl b off len _ => do
   R.check "indexAddr" (Nat.blt i len)
   let n <- siz tab e
   .ok (.ptr b (off + i * n), h)
  | _, _ => .no "indexAddr"
 | .index t x ix => do
  let i <- asNat (<- ev ts ix)
  match <- und tab t, <- ev ts x with
  | .array len e, .agg cs => do
   R.check "index" (Nat.blt i len)
   let n <- siz tab e
   .ok (<- part tab e cs (i * n), h)
  | .string, .str s => do
   let b <- R.of "index" s[i]?
   .ok (.int .u8 (.ofNat b.toNat), h)
  | _, _ => .no "index"
 | .lookup t m k ok => do .ok (<- lookup tab h t (<- ev ts m) (<- ev ts k) ok, h)
 | .mapUpdate t m k x | .insert t m k x => do
  let h' <- mapUpdate tab h t (<- ev ts m) (<- ev ts k) (<- ev ts x)
  .ok (.tup [], h')
 | .mapEntry t m k => do mapEntry tab h t (<- ev ts m) (<- ev ts k)
 | .entryStore _ m s x => do
  let h' <- entryStore h (<- ev ts m) (<- ev ts s) (<- ev ts x)
  .ok (.tup [], h')
 | .range t x => do rangeOp tab h t (<- ev ts x)
 | .entry it => do .ok (<- entryOp h (<- ev ts it), h)
 | .typeAssert x xt t ok => do
  let _ := xt
  match <- und tab t, <- ev ts x with
  | .interface _, _ => .no "typeAssert"
  | _, .iface u v => if u = t then .ok ((if ok then .tup [v, .bool true] else v), h) else do
    R.check "typeAssert" ok
    let z <- zero tab t
    .ok (.tup [z, .bool false], h)
  | _, .nili => do
    R.check "typeAssert" ok
    let z <- zero tab t
    .ok (.tup [z, .bool false], h)
  | _, _ => .no "typeAssert"
 | .extract t i => do
  match <- ev ts t with
  | .tup vs => do .ok (<- R.of "extract" vs[i]?, h)
  | _ => .no "extract"
 | .call c => do
  match c.callee with
  | .builtin b => do
   let l <- evs ts c.args.toList
   builtin tab b c.argTypes l h
  | _ => .no "call"
 | _ => .no "op"
end
end Go.Am
namespace Go.Am
open Go.RowKit
theorem zz0 {α β : Type} {x : R α} {f : α -> R β} {b : β} : (x >>= f) = .ok b ↔ ∃ a, x = .ok a /\ f a = .ok b := by
 cases x with
 | ok a => exact ⟨fun h => ⟨a, rfl, h⟩, fun ⟨_, h1, h2⟩ => by cases h1; exact h2⟩
 | no w => exact ⟨fun h => (nomatch h), fun ⟨_, h1, _⟩ => (nomatch h1)⟩
theorem zz4 {α : Type} {s : String} {x : Option α} {a : α} : R.of s x = .ok a ↔ x = some a := by
 cases x <;> simp [R.of]
theorem zz3 {s : String} {b : Bool} {u : Unit} : R.check s b = .ok u ↔ b = true := by
 cases b <;> simp [R.check]
theorem zz66 {α : Type} (k : Nat) : (T.e : T α).get k = none := rfl
theorem zz85 {α : Type} (v : Option α) (l r : T α) (k : Nat) :
  (T.n v l r).get k = if k = 0 then v else if k % 2 = 1 then l.get (k / 2) else r.get (k / 2 - 1) := by
 have h1 : (Nat.beq k 0) = decide (k = 0) := by
  by_cases h : k = 0 <;> simp [h, Nat.beq_eq]
  cases k <;> simp_all [Nat.beq]
 have h2 : (Nat.beq (Nat.mod k 2) 1) = decide (k % 2 = 1) := by
  by_cases h : k % 2 = 1
  · simp [h]; exact h
  · simp only [h, decide_false]; exact Bool.eq_false_iff.2 fun e => h (Nat.eq_of_beq_eq_true e)
 conv => lhs; unfold T.get
 rw [h1, h2]; simp only [cond_eq_ite, decide_eq_true_eq]; rfl
theorem qwJ {α : Type} (f : Nat) : ∀ (t : T α) (k j : Nat) (x : Option α), k < f -> (T.setF f t k x).get j = if j = k then x else t.get j := by
 induction f with
 | zero => intro t k j x h; omega
 | succ f ih =>
  intro t k j x h; have h1 : (Nat.beq k 0) = decide (k = 0) := by
   by_cases h : k = 0 <;> simp [h]
   cases k <;> simp_all [Nat.beq]
  have h2 : (Nat.beq (Nat.mod k 2) 1) = decide (k % 2 = 1) := by
   by_cases h : k % 2 = 1
   · simp [h]; exact h
   · simp only [h, decide_false]; exact Bool.eq_false_iff.2 fun e => h (Nat.eq_of_beq_eq_true e)
  have e1 : Nat.div k 2 = k / 2 := rfl
  cases t with
  | e =>
   unfold T.setF; rw [h1, h2, e1, Nat.pred_eq_sub_one]; simp only [cond_eq_ite, decide_eq_true_eq]; by_cases k0 : k = 0
   · simp only [if_pos k0, zz85, zz66]; subst k0; split <;> simp
   · by_cases k1 : k % 2 = 1
     · simp only [if_neg k0, if_pos k1, zz85, zz66]; rw [ih _ _ _ _ (by omega)]; simp only [zz66]; by_cases j0 : j = 0
       · simp [j0]; intro e; omega
       · by_cases j1 : j % 2 = 1
         · simp only [if_neg j0, if_pos j1]; by_cases e : j = k
           · subst e; simp
           · rw [if_neg (by omega), if_neg e]
         · simp only [if_neg j0, if_neg j1]; rw [if_neg (by intro e; subst e; exact j1 k1)]
     · simp only [if_neg k0, if_neg k1, zz85, zz66]; rw [ih _ _ _ _ (by omega)]; simp only [zz66]; by_cases j0 : j = 0
       · simp [j0]; intro e; omega
       · by_cases j1 : j % 2 = 1
         · simp only [if_neg j0, if_pos j1]; rw [if_neg (by intro e; subst e; exact k1 j1)]
         · simp only [if_neg j0, if_neg j1]; by_cases e : j = k
           · subst e; simp
           · rw [if_neg (by omega), if_neg e]
  | n v l r =>
   unfold T.setF; rw [h1, h2, e1, Nat.pred_eq_sub_one]; simp only [cond_eq_ite, decide_eq_true_eq]; by_cases k0 : k = 0
   · simp only [if_pos k0, zz85]; subst k0; split <;> simp_all
   · by_cases k1 : k % 2 = 1
     · simp only [if_neg k0, if_pos k1, zz85]; rw [ih _ _ _ _ (by omega)]; by_cases j0 : j = 0
       · simp only [if_pos j0]; rw [if_neg (by omega)]
       · by_cases j1 : j % 2 = 1
         · simp only [if_neg j0, if_pos j1]; by_cases e : j = k
           · subst e; simp
           · rw [if_neg (by omega), if_neg e]
         · simp only [if_neg j0, if_neg j1]; rw [if_neg (by intro e; subst e; exact j1 k1)]
     · simp only [if_neg k0, if_neg k1, zz85]; rw [ih _ _ _ _ (by omega)]; by_cases j0 : j = 0
       · simp only [if_pos j0]; rw [if_neg (by omega)]
       · by_cases j1 : j % 2 = 1
         · simp only [if_neg j0, if_pos j1]; rw [if_neg (by intro e; subst e; exact k1 j1)]
         · simp only [if_neg j0, if_neg j1]; by_cases e : j = k
           · subst e; simp
           · rw [if_neg (by omega), if_neg e]
theorem T.get_set {α : Type} (t : T α) (k j : Nat) (x : Option α) : (t.set k x).get j = if j = k then x else t.get j :=
 qwJ (k + 1) t k j x (Nat.lt_succ_self k)
structure Env where
 blk : Nat -> Nat
 cap : Nat -> Nat
def Cap.val (c : Cap) (n : Nat) : Nat :=
 match c with
 | .lit m => m
 | .tail k => n - k
mutual
def conc (E : Env) : AV -> Value
 | .bool b => .bool b
 | .int k n => .int k n
 | .str s => .string ⟨s.toArray⟩
 | .nilp => .pointer none
 | .ptr b off => .pointer (some ⟨E.blk b, off, none⟩)
 | .nils => .slice none 0 0
 | .sl b off len cap => .slice (some ⟨E.blk b, off, none⟩) len (cap.val (E.cap b))
 | .emp b off l n k => .slice (some ⟨E.blk b, if E.cap b - k = l then off else off + l * n, none⟩) 0 (E.cap b - k - l)
 | .nilm => .map none
 | .map b => .map (some (E.blk b))
 | .nilf => .nilFunc
 | .fn f xs ys => .func f (qai E xs).toArray (qai E ys).toArray
 | .yld l => .func (.yield (E.blk l)) #[] #[]
 | .nili => .nilIface
 | .iface t v => .iface t (conc E v)
 | .agg cs => .agg (qai E cs).toArray
 | .tup vs => .tuple (qai E vs).toArray
 | .raw v => v
def qai (E : Env) : List AV -> List Value
 | [] => []
 | v :: l => conc E v :: qai E l
end
theorem qcF (E : Env) (l : List AV) : qai E l = l.map (conc E) := by
 induction l with
 | nil => rfl
 | cons v l ih => simp [qai, ih]
@[simp] theorem concL_nil (E : Env) : qai E [] = [] := rfl
@[simp] theorem concL_cons (E : Env) (v : AV) (l : List AV) : qai E (v :: l) = conc E v :: qai E l := rfl
@[simp] theorem concL_append (E : Env) (l m : List AV) : qai E (l ++ m) = qai E l ++ qai E m := by simp [qcF]
@[simp] theorem concL_length (E : Env) (l : List AV) : (qai E l).length = l.length := by simp [qcF]
theorem qcU (E : Env) (l : List AV) (n : Nat) : qai E (l.take n) = (qai E l).take n := by simp [qcF, List.map_take]
theorem qfp (E : Env) (l : List AV) (n : Nat) : qai E (l.drop n) = (qai E l).drop n := by simp [qcF, List.map_drop]
theorem qa1 (E : Env) (l : List AV) (i : Nat) : (qai E l)[i]? = (l[i]?).map (conc E) := by simp [qcF]
theorem qgA (E : Env) (v : Value) : conc E (qe2 v) = v := by
 unfold qe2; split <;> simp [conc]
theorem qfL (E : Env) (l : List Value) : qai E (l.map qe2) = l := by
 induction l with
 | nil => rfl
 | cons v l ih => simp [qgA, ih]
theorem qfM (E : Env) (v : Value) : conc E (qep v) = v := by
 unfold qep; split
 · simp [conc, qfL]
 · simp [conc, qfL]
 · exact qgA E v
theorem qb3 {E : Env} {v : AV} {l : List AV} (h : v.cells = .ok l) : (conc E v).cells = (qai E l).toArray := by
 cases v
 case raw u => cases u <;> simp only [AV.cells] at h <;> (try cases h) <;> simp [conc, Value.cells]
 all_goals simp only [AV.cells] at h <;> (try cases h) <;> simp [conc, Value.cells]
theorem qfS {E : Env} {v : AV} (h : qcf v = true) : (conc E v).oneCell' = true := by
 cases v
 case raw u => cases u <;> simp_all [qcf, conc, Value.oneCell']
 all_goals simp_all [qcf, conc, Value.oneCell']
mutual
theorem AV.beq_eq : ∀ (a b : AV), AV.beq a b = true -> a = b
 | .bool a, b, h => by cases b <;> simp_all [AV.beq]
 | .int k a, b, h => by cases b <;> simp_all [AV.beq]
 | .str a, b, h => by cases b <;> simp_all [AV.beq]
 | .nilp, b, h => by cases b <;> simp_all [AV.beq]
 | .ptr x i, b, h => by
  cases b <;> simp only [AV.beq, Bool.and_eq_true] at h <;> (try cases h)
  rename_i h1 h2; rw [Nat.eq_of_beq_eq_true h1, Nat.eq_of_beq_eq_true h2]
 | .nils, b, h => by cases b <;> simp_all [AV.beq]
 | .sl x i n c, b, h => by
  cases b <;> simp only [AV.beq, Bool.and_eq_true] at h <;> (try cases h)
  rename_i h1 h2; obtain ⟨⟨h3, h4⟩, h5⟩ := h1; rw [Nat.eq_of_beq_eq_true h3, Nat.eq_of_beq_eq_true h4, Nat.eq_of_beq_eq_true h5, eq_of_beq h2]
 | .emp x i n c e, b, h => by
  cases b <;> simp only [AV.beq, Bool.and_eq_true] at h <;> (try cases h)
  rename_i h1 h2; obtain ⟨⟨⟨h3, h4⟩, h5⟩, h6⟩ := h1; rw [Nat.eq_of_beq_eq_true h3, Nat.eq_of_beq_eq_true h4, Nat.eq_of_beq_eq_true h5, Nat.eq_of_beq_eq_true h6, Nat.eq_of_beq_eq_true h2]
 | .nilm, b, h => by cases b <;> simp_all [AV.beq]
 | .map x, b, h => by
  cases b <;> simp only [AV.beq] at h <;> (try cases h)
  rw [Nat.eq_of_beq_eq_true h]
 | .nilf, b, h => by cases b <;> simp_all [AV.beq]
 | .fn f x y, b, h => by
  cases b <;> simp only [AV.beq, Bool.and_eq_true] at h <;> (try cases h)
  rename_i h1 h2; rw [eq_of_beq h1.1, zz53 _ _ h1.2, zz53 _ _ h2]
 | .yld x, b, h => by
  cases b <;> simp only [AV.beq] at h <;> (try cases h)
  rw [Nat.eq_of_beq_eq_true h]
 | .nili, b, h => by cases b <;> simp_all [AV.beq]
 | .iface t v, b, h => by
  cases b <;> simp only [AV.beq, Bool.and_eq_true] at h <;> (try cases h)
  rename_i h1 h2; rw [Nat.eq_of_beq_eq_true h1, AV.beq_eq _ _ h2]
 | .agg x, b, h => by
  cases b <;> simp only [AV.beq] at h <;> (try cases h)
  rw [zz53 _ _ h]
 | .tup x, b, h => by
  cases b <;> simp only [AV.beq] at h <;> (try cases h)
  rw [zz53 _ _ h]
 | .raw v, b, h => by
  cases b
  case raw u =>
   unfold AV.beq at h; split at h <;> first | (cases h; done) | skip
   all_goals (rename_i e1 e2; cases e1 <;> cases e2)
   · simp only [Bool.and_eq_true, decide_eq_true_eq] at h; obtain ⟨⟨h3, h4⟩, h2⟩ := h; rw [h3, Nat.eq_of_beq_eq_true h4, Nat.eq_of_beq_eq_true h2]
   · rw [of_decide_eq_true h]
  all_goals (exfalso; revert h; simp [AV.beq])
theorem zz53 : ∀ (a b : List AV), zz35 a b = true -> a = b
 | [], b, h => by cases b <;> simp_all [zz35]
 | x :: l, b, h => by
  cases b with
  | nil => simp [zz35] at h
  | cons y m =>
   simp only [zz35, Bool.and_eq_true] at h; rw [AV.beq_eq _ _ h.1, zz53 _ _ h.2]
end
def qrU : TypeDesc -> Bool
 | .struct _ | .array _ _ => true
 | _ => false
structure TabOK (P : Program) (tab : Tab) : Prop where
 und : ∀ t d, tab.und.get t = some d -> P.underlying t = some d
 siz : ∀ t n, tab.siz.get t = some n -> ∃ i, P.info? t = some i /\ i.size = n
 byt : ∀ t n, tab.byt.get t = some n -> ∃ i, P.info? t = some i /\ i.bytes = n
 zer : ∀ t z, tab.zer.get t = some z -> ∃ i, P.info? t = some i /\ ∀ E, i.zero = some (conc E z)
 agg : ∀ t b, tab.agg.get t = some b -> ∃ d, P.underlying t = some d /\ qrU d = b
 held : ∀ t b, tab.held.get t = some b -> P.stoodInHeld t = b
 grd : ∀ t b, tab.grd.get t = some b -> P.eqGuardType P.depth t = b
 fns : ∀ f fn, tab.fns.get f = some fn -> P.funcs[f]? = some fn
 nng : ∀ f fn, tab.fns.get f = some fn -> (fn.name == "runtime.NumGoroutine") = false
section
variable {P : Program} {tab : Tab} (ok : TabOK P tab)
include ok
theorem qbD {t : TypeId} {n : Nat} (h : siz tab t = .ok n) (w : World) : (sizeOf t).run P w = .ok n w := by
 obtain ⟨i, hi, rfl⟩ := ok.siz t n (zz4.1 h); simp [sizeOf, typeInfo, hi]
theorem qfj {t : TypeId} {z : AV} (h : zero tab t = .ok z) (E : Env) (w : World) : (zeroValue t).run P w = .ok (conc E z) w := by
 obtain ⟨i, hi, hz⟩ := ok.zer t z (zz4.1 h); simp [zeroValue, typeInfo, hi, hz E]
theorem qjw {t : TypeId} {b : Bool} (h : isAgg tab t = .ok b) (w : World) : (Go.isAgg t).run P w = .ok b w := by
 obtain ⟨d, hd, rfl⟩ := ok.agg t b (zz4.1 h); simp only [Go.isAgg, underlying, Sem.run_bind, run_program, Result.andThen_ok, hd, Sem.run_pure]
 cases d <;> rfl
theorem qe6 {t : TypeId} {cs : List AV} {off : Nat} {v : AV} (h : part tab t cs off = .ok v) (E : Env) (w : World) :
  (Go.part t (qai E cs).toArray off).run P w = .ok (conc E v) w := by
 unfold part at h; obtain ⟨b, hb, h⟩ := zz0.1 h; unfold Go.part; rw [Sem.run_bind, qjw ok hb, Result.andThen_ok]
 cases b with
 | true =>
  simp only [if_true] at h ⊢; obtain ⟨n, hn, h⟩ := zz0.1 h
  cases h; rw [Sem.run_bind, qbD ok hn]; simp [conc, qcU, qfp, List.extract_eq_take_drop]
 | false =>
  simp only [Bool.false_eq_true, if_false] at h ⊢; have h := zz4.1 h; simp [qa1, h]
end
end Go.Am
namespace Go.Am
open Go.RowKit
structure DrP where
 dr : Prop
 old : Array Obj
variable [Inhabited DrP]
def AO.ro : AO -> Prop
 | .cells _ _ _ _ .ro => True
 | _ => False
structure KS where
 p : Nat -> Prop
 b : Nat
instance : CoeFun KS (fun _ => Nat -> Prop) := ⟨KS.p⟩
abbrev KS.old (n : Nat) : KS := ⟨fun b => b < n, n⟩
def qhk (E : Env) : AT -> Target
 | .fn f captured => .fn f (qai E captured).toArray
 | .yld l => .fn (.yield (E.blk l)) #[]
 | .collected r => .collected (E.blk r)
def qa8 (E : Env) (d : AD) : Deferred := { target := qhk E d.target, args := (qai E d.args).toArray }
def qpb (E : Env) (ts : T AV) (i : Nat) : Value := conc E ((ts.get i).getD (.tup []))
def qaG (E : Env) (ts : T AV) (nt : Nat) : Array Value := ((List.range nt).map (qpb E ts)).toArray
def qfX (E : Env) (x : AV × AV × Nat) : MapEntry := { key := conc E x.1, val := conc E x.2.1, born := x.2.2 }
def qfx : BK -> (Nat × Nat) -> Nat -> Prop
 | .rw, fz, _ => fz = (0, 0)
 | .mark, fz, n => fz = (n, n + 1)
 | .any, fz, n => fz = (0, 0) \/ fz = (n, n + 1)
 | .ro, _, _ => True
 | .cold, _, _ => True
def OOK (E : Env) (i : Nat) : AO -> Obj -> Prop
 | .cells cs e sz ext bk, o => ∃ arr fz, o = .cells arr e fz /\ (∃ rest, arr.toList = qai E cs ++ rest) /\
  (if ext then arr.size = E.cap i * sz else arr.size = cs.length) /\ qfx bk fz arr.size
 | .mp es c, o => o = .map (es.map (qfX E)).toArray c
 | .miter m since seen st, o => o = .mapIter (m.map E.blk) since seen.toArray st
 | .siter s pos, o => o = .stringIter ⟨s.toArray⟩ pos
 | .loop st pending fn ts nt ps a b d, o => o = .loop { state := st, pending, fn, tmps := qaG E ts nt, params := ps, assign := a, body := b, defers := E.blk d } /\ ∀ t, nt <= t -> ts.get t = none
 | .dfr calls, o => o = .deferred (calls.map (List.map (qa8 E)))
structure HOK (E : Env) (h : AH) (K : KS) (w : World) : Prop where
 obj : ∀ i o, h.get i = some o -> ∃ c, w.heap[E.blk i]? = some c /\ OOK E i o c
 nk : ∀ i o, h.get i = some o -> ¬ o.ro -> ¬ K (E.blk i)
 inj : ∀ i j oi oj, h.get i = some oi -> h.get j = some oj -> ¬ oi.ro -> E.blk i = E.blk j -> i = j
 dom : ∀ i o, h.get i = some o -> i < h.next
 kb : ∀ b, K b -> b < w.heap.size
 im : ∀ i o, h.get i = some o -> o.ro -> E.blk i < K.b
 k0 : ∀ b, b < K.b -> K b
structure Kept (K : KS) (w w' : World) : Prop where
 os : w'.os = w.os
 tape : w'.tape = w.tape
 output : w'.output = w.output
 size : w.heap.size <= w'.heap.size
 block : ∀ b, K b -> w'.heap[b]? = w.heap[b]?
 drawn : (default : DrP).dr -> w.drawn <= w'.drawn
theorem Kept.refl (K : KS) (w : World) : Kept K w w := ⟨rfl, rfl, rfl, Nat.le_refl _, fun _ _ => rfl, fun _ => Nat.le_refl _⟩
theorem Kept.trans {K : KS} {a b c : World} (h : Kept K a b) (k : Kept K b c) : Kept K a c :=
 ⟨k.os.trans h.os, k.tape.trans h.tape, k.output.trans h.output, Nat.le_trans h.size k.size, fun i hi => (k.block i hi).trans (h.block i hi), fun hd => Nat.le_trans (h.drawn hd) (k.drawn hd)⟩
def Based (K : KS) (w : World) : Prop := ∀ b, b < (default : DrP).old.size -> K b /\ w.heap[b]? = (default : DrP).old[b]?
theorem Based.kept {K : KS} {w w' : World} (h : Based K w) (k : Kept K w w') : Based K w' := fun b hb => ⟨(h b hb).1, (k.block b (h b hb).1).trans (h b hb).2⟩
theorem AH.get_set (h : AH) (b i : Nat) (o : AO) : (h.set b o).get i = if i = b then some o else h.get i := T.get_set _ _ _ _
theorem AH.get_new (h : AH) (i : Nat) (o : AO) : (h.new o).get i = if i = h.next then some o else h.get i := T.get_set _ _ _ _
theorem zz39 (h : AH) (b i : Nat) : (h.kill b).get i = if i = b then none else h.get i := T.get_set _ _ _ _
@[simp] theorem AH.next_set (h : AH) (b : Nat) (o : AO) : (h.set b o).next = h.next := rfl
@[simp] theorem AH.next_new (h : AH) (o : AO) : (h.new o).next = h.next + 1 := rfl
@[simp] theorem AH.next_kill (h : AH) (b : Nat) : (h.kill b).next = h.next := rfl
theorem qiU (w : World) (o : Obj) {i : Nat} (h : i < w.heap.size) : (w.alloc o).heap[i]? = w.heap[i]? := by
 unfold World.alloc; rw [Array.getElem?_push, if_neg (by omega)]
def _root_.Go.World.put (w : World) (g : Nat) (o : Obj) : World := { w with heap := w.heap.setIfInBounds g o }
theorem qdZ (w : World) (g i : Nat) (o : Obj) : (w.put g o).heap[i]? = if i = g then (if g < w.heap.size then some o else none) else w.heap[i]? := by
 unfold World.put; rw [Array.getElem?_setIfInBounds]; by_cases h : g = i
 · subst h; simp
 · rw [if_neg h, if_neg (Ne.symm h)]
section
variable {E : Env} {h : AH} {K : KS} {w : World}
theorem HOK.lt (H : HOK E h K w) {i : Nat} {o : AO} (hi : h.get i = some o) : E.blk i < w.heap.size := by
 obtain ⟨c, hc, _⟩ := H.obj i o hi; exact (Array.getElem?_eq_some_iff.1 hc).1
theorem HOK.drew (H : HOK E h K w) : HOK E h K w.drew := ⟨H.obj, H.nk, H.inj, H.dom, H.kb, H.im, H.k0⟩
theorem Kept.drew (K : KS) (w : World) : Kept K w w.drew := ⟨rfl, rfl, rfl, Nat.le_refl _, fun _ _ => rfl, fun _ => Nat.le_succ _⟩
theorem HOK.new (H : HOK E h K w) {o : AO} {c : Obj} (hE : E.blk h.next = w.heap.size) (ho : OOK E h.next o c) (hno : ¬ o.ro := by simp [AO.ro]) : HOK E (h.new o) K (w.alloc c) := by
 have hnew : ∀ i o', (h.new o).get i = some o' -> i ≠ h.next -> h.get i = some o' := by
   intro i o' hi hne; rw [AH.get_new, if_neg hne] at hi; exact hi
 have hne : ∀ i o', h.get i = some o' -> E.blk i ≠ E.blk h.next := by
   intro i o' hi e; have := H.lt hi; omega
 refine ⟨?_, ?_, ?_, ?_, ?_, ?_, H.k0⟩
 · intro i o' hi; by_cases e : i = h.next
   · subst e; rw [AH.get_new, if_pos rfl] at hi
     cases hi; exact ⟨c, by rw [hE]; exact heap_alloc_new w c, ho⟩
   · obtain ⟨c', hc', hk⟩ := H.obj i o' (hnew i o' hi e); exact ⟨c', (qiU w c (H.lt (hnew i o' hi e))).trans hc', hk⟩
 · intro i o' hi hr hK; by_cases e : i = h.next
   · subst e; have := H.kb _ hK; omega
   · exact H.nk i o' (hnew i o' hi e) hr hK
 · intro i j oi oj hi hj hr e; by_cases ei : i = h.next
   · by_cases ej : j = h.next
     · rw [ei, ej]
     · exact absurd (ei ▸ e.symm) (hne j oj (hnew j oj hj ej))
   · by_cases ej : j = h.next
     · exact absurd (ej ▸ e) (hne i oi (hnew i oi hi ei))
     · exact H.inj i j oi oj (hnew i oi hi ei) (hnew j oj hj ej) hr e
 · intro i o' hi; by_cases e : i = h.next
   · subst e; simp
   · have := H.dom i o' (hnew i o' hi e); simp; omega
 · intro b hb; have := H.kb b hb; simp; omega
 · intro i o' hi hr; by_cases e : i = h.next
   · subst e; rw [AH.get_new, if_pos rfl] at hi
     cases hi; exact absurd hr hno
   · exact H.im i o' (hnew i o' hi e) hr
theorem Kept.alloc (hkb : ∀ b, K b -> b < w.heap.size) (c : Obj) : Kept K w (w.alloc c) :=
 ⟨rfl, rfl, rfl, by simp, fun b hb => qiU w c (hkb b hb), fun _ => Nat.le_refl _⟩
theorem HOK.put (H : HOK E h K w) {b : Nat} {o o' : AO} {c : Obj} (hb : h.get b = some o) (hr : ¬ o.ro) (ho : OOK E b o' c) (hno : ¬ o'.ro := by simp [AO.ro]) : HOK E (h.set b o') K (w.put (E.blk b) c) := by
 have hold : ∀ i o1, (h.set b o').get i = some o1 -> i ≠ b -> h.get i = some o1 := by
   intro i o1 hi hne; rw [AH.get_set, if_neg hne] at hi; exact hi
 refine ⟨?_, ?_, ?_, ?_, ?_, ?_, H.k0⟩
 · intro i o1 hi; by_cases e : i = b
   · subst e; rw [AH.get_set, if_pos rfl] at hi
     cases hi; exact ⟨c, by rw [qdZ, if_pos rfl, if_pos (H.lt hb)], ho⟩
   · obtain ⟨c', hc', hk⟩ := H.obj i o1 (hold i o1 hi e); refine ⟨c', ?_, hk⟩; rw [qdZ, if_neg (fun e' => e (H.inj b i o o1 hb (hold i o1 hi e) hr e'.symm).symm)]; exact hc'
 · intro i o1 hi hr1; by_cases e : i = b
   · subst e; exact H.nk i o hb hr
   · exact H.nk i o1 (hold i o1 hi e) hr1
 · intro i j oi oj hi hj hri e; by_cases ei : i = b
   · subst ei; by_cases ej : j = i
     · exact ej.symm
     · exact H.inj i j o oj hb (hold j oj hj ej) hr e
   · by_cases ej : j = b
     · subst ej; exact H.inj i j oi o (hold i oi hi ei) hb hri e
     · exact H.inj i j oi oj (hold i oi hi ei) (hold j oj hj ej) hri e
 · intro i o1 hi; by_cases e : i = b
   · subst e; exact H.dom i o hb
   · exact H.dom i o1 (hold i o1 hi e)
 · intro g hg; have := H.kb g hg; simp only [World.put, Array.size_setIfInBounds]; exact this
 · intro i o1 hi hr1; by_cases e : i = b
   · subst e; rw [AH.get_set, if_pos rfl] at hi
     cases hi; exact absurd hr1 hno
   · exact H.im i o1 (hold i o1 hi e) hr1
theorem HOK.kept_put (H : HOK E h K w) {b : Nat} {o : AO} (hb : h.get b = some o) (hr : ¬ o.ro) (c : Obj) : Kept K w (w.put (E.blk b) c) :=
 ⟨rfl, rfl, rfl, by simp [World.put], fun g hg => by rw [qdZ]; exact if_neg (fun e => H.nk b o hb hr (by rw [<- e]; exact hg)), fun _ => Nat.le_refl _⟩
theorem HOK.kill (H : HOK E h K w) (b : Nat) : HOK E (h.kill b) K w := by
 have hold : ∀ i o1, (h.kill b).get i = some o1 -> h.get i = some o1 := by
  intro i o1 hi; rw [zz39] at hi; split at hi
  · cases hi
  · exact hi
 exact ⟨fun i o hi => H.obj i o (hold i o hi), fun i o hi => H.nk i o (hold i o hi), fun i j oi oj hi hj => H.inj i j oi oj (hold i oi hi) (hold j oj hj),
  fun i o hi => H.dom i o (hold i o hi), H.kb, fun i o hi => H.im i o (hold i o hi), H.k0⟩
theorem HOK.rename (H : HOK E h K w) {b : Nat} {o o' : AO} {c : Obj} (hb : h.get b = some o) (hr : ¬ o.ro) (hE : E.blk h.next = E.blk b) (ho : OOK E h.next o' c) (hno : ¬ o'.ro := by simp [AO.ro]) :
   HOK E ((h.kill b).new o') K (w.put (E.blk b) c) := by
 have hold : ∀ i o1, ((h.kill b).new o').get i = some o1 -> i ≠ h.next -> i ≠ b /\ h.get i = some o1 := by
   intro i o1 hi hne; rw [AH.get_new, AH.next_kill, if_neg hne, zz39] at hi; split at hi
   · cases hi
   · exact ⟨‹_›, hi⟩
 have hnx : ∀ o1, ((h.kill b).new o').get h.next = some o1 -> o1 = o' := by
   intro o1 hi; rw [AH.get_new, AH.next_kill, if_pos rfl] at hi
   cases hi; rfl
 have hne : ∀ i o1, h.get i = some o1 -> i ≠ b -> E.blk i ≠ E.blk b := fun i o1 hi hib e => hib (H.inj b i o o1 hb hi hr e.symm).symm
 refine ⟨?_, ?_, ?_, ?_, ?_, ?_, H.k0⟩
 · intro i o1 hi; by_cases e : i = h.next
   · subst e; rw [hnx o1 hi]; exact ⟨c, by rw [qdZ, if_pos hE, if_pos (H.lt hb)], ho⟩
   · obtain ⟨h1, h2⟩ := hold i o1 hi e; obtain ⟨c', hc', hk⟩ := H.obj i o1 h2; exact ⟨c', by rw [qdZ, if_neg (hne i o1 h2 h1)]; exact hc', hk⟩
 · intro i o1 hi hr1; by_cases e : i = h.next
   · subst e; rw [hE]; exact H.nk b o hb hr
   · exact H.nk i o1 (hold i o1 hi e).2 hr1
 · intro i j oi oj hi hj hri e; by_cases ei : i = h.next
   · by_cases ej : j = h.next
     · rw [ei, ej]
     · obtain ⟨h1, h2⟩ := hold j oj hj ej; rw [ei, hE] at e; exact absurd e.symm (hne j oj h2 h1)
   · obtain ⟨h1, h2⟩ := hold i oi hi ei; by_cases ej : j = h.next
     · rw [ej, hE] at e; exact absurd e (hne i oi h2 h1)
     · exact H.inj i j oi oj h2 (hold j oj hj ej).2 hri e
 · intro i o1 hi; by_cases e : i = h.next
   · subst e; simp
   · have := H.dom i o1 (hold i o1 hi e).2; simp; omega
 · intro g hg; have := H.kb g hg; simp only [World.put, Array.size_setIfInBounds]; exact this
 · intro i o1 hi hr1; by_cases e : i = h.next
   · subst e; rw [hnx o1 hi] at hr1; exact absurd hr1 hno
   · exact H.im i o1 (hold i o1 hi e).2 hr1
theorem qau {b : Nat} {cs : List AV} {e : TypeId} {sz : Nat} {ext : Bool} {bk : BK} (hc : qbk h b = .ok (cs, e, sz, ext, bk)) : h.get b = some (.cells cs e sz ext bk) := by
 unfold qbk at hc; split at hc
 · rename_i heq; cases hc; exact heq
 · cases hc
theorem HOK.cells (H : HOK E h K w) {b : Nat} {cs : List AV} {e : TypeId} {sz : Nat} {ext : Bool} {bk : BK} (hc : h.get b = some (.cells cs e sz ext bk)) :
  ∃ arr fz, w.heap[E.blk b]? = some (.cells arr e fz) /\ (∃ rest, arr.toList = qai E cs ++ rest) /\ (if ext then arr.size = E.cap b * sz else arr.size = cs.length) /\ qfx bk fz arr.size := by
 obtain ⟨c, h1, arr, fz, rfl, h2⟩ := H.obj b _ hc; exact ⟨arr, fz, h1, h2⟩
theorem HOK.cell (H : HOK E h K w) {b : Nat} {cs : List AV} {e : TypeId} {sz : Nat} {ext : Bool} {bk : BK} (hc : h.get b = some (.cells cs e sz ext bk)) {i : Nat} {v : AV} (hv : cs[i]? = some v) :
  w.cell? ⟨E.blk b, i, none⟩ = some (conc E v) := by
 obtain ⟨arr, fz, h1, ⟨rest, h2⟩, _⟩ := H.cells hc; rw [cell_of_row w _ i arr e fz h1]; rw [<- Array.getElem?_toList, h2, List.getElem?_append_left (by rw [concL_length]; exact (List.getElem?_eq_some_iff.1 hv).1), qa1, hv]; rfl
theorem add_lit (b o j : Nat) : (⟨b, o, none⟩ : Addr).add j = ⟨b, o + j, none⟩ := by
 unfold Addr.add; split <;> simp_all
theorem qme {b off n : Nat} {cs : List AV} (hr : readN h b off n = .ok cs) :
  ∃ cs0 e sz ext bk, h.get b = some (.cells cs0 e sz ext bk) /\ off + n <= cs0.length /\ cs = (cs0.drop off).take n := by
 unfold readN at hr; obtain ⟨⟨cs0, e, sz, ext, bk⟩, h1, hr⟩ := zz0.1 hr; obtain ⟨_, h2, hr⟩ := zz0.1 hr
 cases hr; exact ⟨cs0, e, sz, ext, bk, qau h1, Nat.le_of_ble_eq_true (zz3.1 h2), rfl⟩
theorem HOK.readN_cells (H : HOK E h K w) {b off n : Nat} {cs : List AV} (hr : readN h b off n = .ok cs) :
   (qai E cs).length = n /\ ∀ j v, (qai E cs)[j]? = some v -> w.cell? ((⟨E.blk b, off, none⟩ : Addr).add j) = some v := by
 obtain ⟨cs0, e, sz, ext, bk, hc, hl, rfl⟩ := qme hr; refine ⟨by simp; omega, fun j v hv => ?_⟩; rw [qa1, List.getElem?_take] at hv; split at hv
 · rw [List.getElem?_drop] at hv
   cases hx : cs0[off + j]? with
   | none => rw [hx] at hv; cases hv
   | some u =>
    rw [hx] at hv
    cases hv; rw [add_lit]; exact H.cell hc hx
 · cases hv
theorem HOK.run_readN (H : HOK E h K w) {P : Program} {b off n : Nat} {cs : List AV} (hr : readN h b off n = .ok cs) :
  (loadCells ⟨E.blk b, off, none⟩ n).run P w = .ok (qai E cs).toArray w := by
 obtain ⟨hl, hc⟩ := H.readN_cells hr; have := run_loadCells_list (P := P) w ⟨E.blk b, off, none⟩ (qai E cs) hc; rw [hl] at this; exact this
theorem qbY {P : Program} (g o : Nat) (t : TypeId) (fz : Nat × Nat) : ∀ (vs : List Value) (i : Nat) (cur : Array Value) (w : World), w.heap[g]? = some (.cells cur t fz) ->
  (∀ j, j < cur.size -> ¬ (fz.1 <= j /\ j < fz.2)) -> o + i + vs.length <= cur.size -> (∀ v ∈ vs, v.oneCell' = true) ->
  (storeCells ⟨g, o, none⟩ vs i).run P w = .ok () (w.put g (.cells (cur.toList.take (o + i) ++ vs ++ cur.toList.drop (o + i + vs.length)).toArray t fz))
 | [], i, cur, w, hg, _, _, _ => by
  simp only [storeCells, List.append_nil, List.length_nil, Nat.add_zero, List.take_append_drop, Array.toArray_toList]; have : w.put g (.cells cur t fz) = w := by
   unfold World.put; have hlt := (Array.getElem?_eq_some_iff.1 hg).1; have he := (Array.getElem?_eq_some_iff.1 hg).2; have : w.heap.setIfInBounds g (.cells cur t fz) = w.heap := by
     apply Array.ext
     · simp
     · intro i h1 h2; rw [Array.getElem_setIfInBounds (by simpa using h2)]; split
       · rename_i e; subst e; exact he.symm
       · rfl
   rw [this]
  rw [this]; rfl
 | v :: rest, i, cur, w, hg, hf, hl, h1 => by
  have hi : o + i < cur.size := by simp at hl; omega
  have hlt := (Array.getElem?_eq_some_iff.1 hg).1; have hcell : w.cell? ⟨g, o + i, none⟩ = some cur[o + i] := by simp [World.cell?, hg, hi]
  have hfro : w.frozen? ⟨g, o + i, none⟩ = false := by
   have := hf (o + i) hi; obtain ⟨lo, hi'⟩ := fz; simp only [World.frozen?, hg]; simpa using this
  have hset : w.setCell ⟨g, o + i, none⟩ v = w.put g (.cells (cur.setIfInBounds (o + i) v) t fz) := by
   unfold World.setCell World.put; congr 1
   apply Array.ext
   · simp
   · intro j h1 h2; rw [Array.getElem_modify, Array.getElem_setIfInBounds (by simpa using h2)]; have he : w.heap[g] = .cells cur t fz := (Array.getElem?_eq_some_iff.1 hg).2; by_cases e : g = j
     · subst e; simp [he]
     · simp [e]
  have hst : (store ((⟨g, o, none⟩ : Addr).add i) v).run P w = .ok () (w.put g (.cells (cur.setIfInBounds (o + i) v) t fz)) := by
   rw [add_lit, run_store P w _ v _ (h1 v (by simp)), hcell]; simp [hfro, hset]
  have hg' : (w.put g (.cells (cur.setIfInBounds (o + i) v) t fz)).heap[g]? = some (.cells (cur.setIfInBounds (o + i) v) t fz) := by
   rw [qdZ, if_pos rfl, if_pos hlt]
  simp only [storeCells, Sem.run_bind]; rw [hst, Result.andThen_ok, qbY g o t fz rest (i + 1) _ _ hg' (by simpa using hf) (by simp at hl ⊢; omega) (fun v hv => h1 v (by simp [hv]))]; have hL : (cur.setIfInBounds (o + i) v).toList.take (o + (i + 1)) ++ rest ++ (cur.setIfInBounds (o + i) v).toList.drop (o + (i + 1) + rest.length) = cur.toList.take (o + i) ++ (v :: rest) ++ cur.toList.drop (o + i + (v :: rest).length) := by
   have := list_seg_step cur.toList (o + i) v rest (by simp at hl ⊢; omega); simp only [Array.toList_setIfInBounds, List.length_cons]; rw [show o + (i + 1) = o + i + 1 from by omega]; exact this
  rw [hL]; unfold World.put; simp only [Array.setIfInBounds_setIfInBounds]
end
end Go.Am
namespace Go.Am
open Go.RowKit
variable [Inhabited DrP]
def qno (r : Next) (x : Value) : Prop := r = .value x \/ (r = .skip /\ x = undef)
section
variable {P : Program} {tab : Tab} (ok : TabOK P tab) {E : Env} {h : AH} {K : KS} {w : World}
include ok
theorem qgO (H : HOK E h K w) {t : TypeId} {b off : Nat} {v : AV} (hl : loadVar tab h t b off = .ok v) :
  (Go.loadVar t ⟨E.blk b, off, none⟩).run P w = .ok (conc E v) w := by
 unfold loadVar at hl; obtain ⟨g, hg, hl⟩ := zz0.1 hl; unfold Go.loadVar; rw [Sem.run_bind, qjw ok hg, Result.andThen_ok]
 cases g with
 | true =>
  simp only [if_true] at hl ⊢; obtain ⟨n, hn, hl⟩ := zz0.1 hl; obtain ⟨cs, hc, hl⟩ := zz0.1 hl
  cases hl; rw [Sem.run_bind, qbD ok hn, Result.andThen_ok, Sem.run_bind, H.run_readN hc]; simp [conc]
 | false =>
  simp only [Bool.false_eq_true, if_false] at hl ⊢; obtain ⟨⟨cs, e, sz, ext, bk⟩, hc, hl⟩ := zz0.1 hl; have hl := zz4.1 hl; rw [run_load, H.cell (qau hc) hl]
omit ok in
theorem qdo {b off : Nat} {vs : List AV} {h' : AH} (hw : writeN h b off vs = .ok h') : h'.next = h.next := by
 unfold writeN at hw; split at hw
 · cases hw; rfl
 · obtain ⟨⟨cs, e, sz, ext, bk⟩, hc, hw⟩ := zz0.1 hw; obtain ⟨_, _, hw⟩ := zz0.1 hw; obtain ⟨_, _, hw⟩ := zz0.1 hw; obtain ⟨_, _, hw⟩ := zz0.1 hw
   cases hw; rfl
omit ok in
theorem qhM {bk : BK} {fz : Nat × Nat} {n : Nat} (hm : qfx bk fz n) (hr : bk ≠ .ro /\ bk ≠ .cold) : ∀ j, j < n -> ¬ (fz.1 <= j /\ j < fz.2) := by
 intro j hj
 cases bk with
 | rw => simp only [qfx] at hm; subst hm; simp
 | mark => simp only [qfx] at hm; subst hm; simp; omega
 | any =>
  simp only [qfx] at hm; rcases hm with hm | hm
  · subst hm; simp
  · subst hm; simp; omega
 | ro => exact absurd rfl hr.1
 | cold => exact absurd rfl hr.2
omit ok in
theorem qd8 (H : HOK E h K w) {b off : Nat} {vs : List AV} {h' : AH} (hw : writeN h b off vs = .ok h') :
   ∃ w', (storeCells ⟨E.blk b, off, none⟩ (qai E vs)).run P w = .ok () w' /\ HOK E h' K w' /\ Kept K w w' := by
 unfold writeN at hw; split at hw
 · cases hw; exact ⟨w, rfl, H, Kept.refl K w⟩
 · obtain ⟨⟨cs, e, sz, ext, bk⟩, hc, hw⟩ := zz0.1 hw; obtain ⟨_, h1, hw⟩ := zz0.1 hw; obtain ⟨_, h2, hw⟩ := zz0.1 hw; obtain ⟨_, h3, hw⟩ := zz0.1 hw
   cases hw; have hc := qau hc; have hro : bk ≠ .ro /\ bk ≠ .cold := by simpa using zz3.1 h1
   have hlen : off + vs.length <= cs.length := Nat.le_of_ble_eq_true (zz3.1 h2); have hone := zz3.1 h3; obtain ⟨arr, fz, hh, ⟨rest, harr⟩, hsz, hm⟩ := H.cells hc; have hasz : cs.length <= arr.size := by
     have := congrArg List.length harr; simp at this; omega
   have hrun := qbY (P := P) (E.blk b) off e fz (qai E vs) 0 arr w hh (qhM hm hro) (by simp; omega)
     (by
      intro v hv; rw [qcF] at hv; obtain ⟨u, hu, rfl⟩ := List.mem_map.1 hv; exact qfS (List.all_eq_true.1 hone u hu))
   refine ⟨_, hrun, H.put hc (by cases bk <;> simp_all [AO.ro]) ?_ (by cases bk <;> simp_all [AO.ro]), H.kept_put hc (by cases bk <;> simp_all [AO.ro]) _⟩; refine ⟨_, fz, rfl, ⟨rest, ?_⟩, ?_, ?_⟩
   · simp only [qcQ, Nat.add_zero, concL_append, qcU, qfp, concL_length, harr]; rw [List.take_append_of_le_length (by simp; omega), List.drop_append_of_le_length (by simp; omega)]; simp
   · have e1 : (arr.toList.take (off + 0) ++ qai E vs ++ arr.toList.drop (off + 0 + (qai E vs).length)).length = arr.size := by
      simp; omega
     cases ext with
     | true => simp only [if_true] at hsz ⊢; rw [List.size_toArray, e1]; exact hsz
     | false =>
      simp only [Bool.false_eq_true, if_false] at hsz ⊢; rw [List.size_toArray, e1, hsz]; simp [qcQ]; omega
   · have e1 : (arr.toList.take (off + 0) ++ qai E vs ++ arr.toList.drop (off + 0 + (qai E vs).length)).length = arr.size := by
      simp; omega
     rw [List.size_toArray, e1]; exact hm
theorem qj6 (H : HOK E h K w) {t : TypeId} {b off : Nat} {v : AV} {h' : AH} (hs : storeVar tab h t b off v = .ok h') :
  ∃ w', (Go.storeVar t ⟨E.blk b, off, none⟩ (conc E v)).run P w = .ok () w' /\ HOK E h' K w' /\ Kept K w w' := by
 unfold storeVar at hs; obtain ⟨n, hn, hs⟩ := zz0.1 hs; obtain ⟨l, hl, hs⟩ := zz0.1 hs; obtain ⟨_, hc, hs⟩ := zz0.1 hs; have hc := Nat.eq_of_beq_eq_true (zz3.1 hc); obtain ⟨w', hw, H', hk⟩ := qd8 (P := P) H hs; refine ⟨w', ?_, H', hk⟩; unfold Go.storeVar; rw [Sem.run_bind, qbD ok hn, Result.andThen_ok, qb3 hl]; simp only [List.size_toArray, concL_length, hc, ne_eq, not_true, if_false]; exact hw
omit ok in
theorem qiO {t : TypeId} {b off : Nat} {v : AV} {h' : AH} (hs : storeVar tab h t b off v = .ok h') : h'.next = h.next := by
 unfold storeVar at hs; obtain ⟨n, hn, hs⟩ := zz0.1 hs; obtain ⟨l, hl, hs⟩ := zz0.1 hs; obtain ⟨_, hc, hs⟩ := zz0.1 hs; exact qdo hs
omit ok in
theorem qaC {e : TypeId} {cs : List AV} {ext : Bool} {bk : BK} {h' : AH} {b : Nat} (hn : newRow tab h e cs ext bk = .ok (h', b)) :
  ∃ n, siz tab e = .ok n /\ h' = h.new (.cells cs e n ext bk) /\ b = h.next := by
 unfold newRow at hn; obtain ⟨n, h1, hn⟩ := zz0.1 hn
 cases hn; exact ⟨n, h1, rfl, rfl⟩
omit ok in
theorem qgW (H : HOK E h K w) (hE : E.blk h.next = w.heap.size) (cs : List AV) (e : TypeId) (n : Nat) :
  HOK E (h.new (.cells cs e n false .rw)) K (w.alloc (.cells (qai E cs).toArray e)) /\ Kept K w (w.alloc (.cells (qai E cs).toArray e)) :=
 ⟨H.new hE ⟨_, _, rfl, ⟨[], by simp⟩, by simp, rfl⟩, Kept.alloc H.kb _⟩
omit ok in
theorem qbX (e : TypeId) (cs : Array Value) : (Go.newRow e cs).run P w = .ok ⟨w.heap.size, 0, none⟩ (w.alloc (.cells cs e)) := by
 simp only [Go.newRow, Sem.run_bind, run_newObj, Result.andThen_ok, Sem.run_pure]; rfl
omit ok in
theorem qpt {v : AV} {k : IntKind} {n : Int} (ha : asInt v = .ok (k, n)) : v = .int k n := by
 cases v <;> simp only [asInt] at ha <;> cases ha
 rfl
omit ok in
theorem qc0 {v : AV} {n : Nat} (ha : asNat v = .ok n) : ∃ k, v = .int k (n : Int) := by
 unfold asNat at ha; obtain ⟨⟨k, m⟩, h1, ha⟩ := zz0.1 ha
 cases m with
 | ofNat m => cases ha; exact ⟨k, qpt h1⟩
 | negSucc m => cases ha
omit ok in
theorem qhc (l : List UInt8) : (⟨l.toArray⟩ : ByteArray).toList = l := by
 simp
omit ok in
theorem qfC (l : List UInt8) : (⟨l.toArray⟩ : ByteArray).size = l.length := rfl
omit ok in
theorem qoC (l m : List UInt8) : (⟨l.toArray⟩ : ByteArray) ++ ⟨m.toArray⟩ = ⟨(l ++ m).toArray⟩ := by
 apply ByteArray.ext; simp
omit ok in
theorem qoj {op : BinOp} {k : IntKind} {x y : Int} {v : AV} (hi : intOp op k x y = .ok v) (t : TypeId) (hs : op ≠ .shl /\ op ≠ .shr) :
  (Go.binOp op t (.int k x) (.int k y)).run P w = .ok (conc E v) w := by
 cases op <;> simp only [intOp] at hi <;> (try (split at hi <;> try cases hi)) <;> (try cases hi) <;>
  simp_all [Go.binOp, Op.intArith, Op.intDiv, Op.intBits, Op.intCmp, conc]
omit ok in
theorem qg6 {op : BinOp} {k yk : IntKind} {x y : Int} {v : AV} (hi : shiftOp op k x y = .ok v) :
   (Op.shift op k x yk y).run P w = .ok (conc E v) w := by
 unfold shiftOp at hi; split at hi
 · cases hi
 · rename_i hy
   cases op <;> simp only at hi <;> cases hi <;> simp [Op.shift, hy, conc]
omit ok in
theorem qo9 {op : BinOp} {x y : List UInt8} {v : AV} (hi : strOp op x y = .ok v) :
   (Op.stringOp op ⟨x.toArray⟩ ⟨y.toArray⟩).run P w = .ok (conc E v) w := by
 cases op <;> simp only [strOp] at hi <;> (try cases hi) <;> (try simp only [Op.stringOp, qhc, Sem.run_pure, conc])
 split at hi
 · cases hi; rename_i hl; have : ¬ ((((⟨x.toArray⟩ : ByteArray).size + (⟨y.toArray⟩ : ByteArray).size : Nat) : Int) > IntKind.i64.max) := by
    rw [qfC, qfC]; have : IntKind.i64.max = 9223372036854775807 := by decide
    rw [this]; omega
   simp only [if_neg this, Sem.run_pure, qoC, conc]
 · cases hi
omit ok in
theorem qrb {op : UnOp} {x v : AV} (hu : unOp op x = .ok v) : (Op.unary op (conc E x)).run P w = .ok (conc E v) w := by
 cases op <;> cases x <;> simp only [unOp] at hu <;> cases hu <;> simp [Op.unary, conc, Op.intArith, Op.intBits]
end
end Go.Am
namespace Go.Am
open Go.RowKit
variable [Inhabited DrP]
section
variable {P : Program} {tab : Tab} (ok : TabOK P tab) {E : Env} {h : AH} {K : KS} {w : World}
include ok
theorem qjj (d : Nat) (eq : TypeId -> AV -> AV -> R Bool)
  (heq : ∀ t x y b, eq t x y = .ok b -> ∀ w, (Op.equalIn d t (conc E x) (conc E y)).run P w = .ok b w) (xs ys : List AV) :
  ∀ (fs : List Field) (b : Bool), eqFields tab eq xs ys fs = .ok b -> ∀ w, (Op.eqFields d (qai E xs).toArray (qai E ys).toArray fs).run P w = .ok b w := by
 intro fs; induction fs with
 | nil => intro b hb w; simp only [eqFields] at hb; cases hb; rfl
 | cons f fs ih =>
  intro b hb w; simp only [eqFields] at hb; by_cases hn : f.name ≠ "_"
  · rw [if_pos hn] at hb; obtain ⟨a, ha, hb⟩ := zz0.1 hb; obtain ⟨c, hc, hb⟩ := zz0.1 hb; obtain ⟨r, hr, hb⟩ := zz0.1 hb; simp only [Op.eqFields, if_pos hn, Sem.run_bind, qe6 ok ha, qe6 ok hc, heq _ _ _ _ hr, Result.andThen_ok]
    cases r with
    | true => simp only [if_true] at hb; simpa using ih b hb w
    | false => simp only [Bool.false_eq_true, if_false] at hb; cases hb; simp
  · rw [if_neg hn] at hb; simp only [Op.eqFields, if_neg hn]; exact ih b hb w
theorem qeh : ∀ (d : Nat) (t : TypeId) (x y : AV) (b : Bool), eqT tab d t x y = .ok b -> ∀ (k : Nat) (w : World),
    (Op.equalIn (d + k) t (conc E x) (conc E y)).run P w = .ok b w := by
  intro d; induction d with
  | zero => intro t x y b hb; cases hb
  | succ d ih =>
    intro t x y b hb k w; simp only [eqT] at hb; obtain ⟨u, hu, hb⟩ := zz0.1 hb; have hP := ok.und t u (zz4.1 hu); rw [show d + 1 + k = (d + k) + 1 from by omega]; have hagg : ∀ xs ys fs, x = .agg xs -> y = .agg ys -> u = .struct fs -> tab.held.get t = some false -> eqFields tab (eqT tab d) xs ys fs.toList = .ok b ->
        (Op.equalIn (d + k + 1) t (conc E x) (conc E y)).run P w = .ok b w := by
      intro xs ys fs hx hy hu' hheld hb2; subst hx hy hu'; have hf : P.fieldsOf t = fs := by simp [Program.fieldsOf, hP]
      simp only [conc]; rw [run_equalIn_struct w (d + k) t _ _ (by rw [hf]; exact hP) (ok.held t false hheld), hf]; exact qjj ok (d + k) (eqT tab d) (fun t x y b h w => ih t x y b h k w) xs ys fs.toList b hb2 w
    split at hb
    case h_22 =>
      split at hb
      · exact hagg _ _ _ rfl rfl rfl (by assumption) hb
      · cases hb
    all_goals
      clear hagg ih; simp only [Op.equalIn, underlying, Sem.run_bind, run_program, Result.andThen_ok, hP, Sem.run_pure, conc]
    all_goals
      first
      | (cases hb; done)
      | (cases hb; rfl)
      | (split at hb
         · cases hb; rename_i e; subst e; rw [if_pos rfl]
           try rfl
         · cases hb)
      | (cases hb
         rw [beq_toListBytes, qhc, qhc])
omit ok in
theorem qlM {d : Nat} (t : TypeId) (v : Value) (y : AV) (b : Bool) (hb : eqT tab (d + 1) t (.raw v) y = .ok b) : (∃ a, v = .pointer (some a)) /\ y = .nilp := by
 simp only [eqT] at hb; obtain ⟨u, hu, hb⟩ := zz0.1 hb; split at hb <;> first | (cases hb; done) | simp_all
omit ok in
theorem qlN {d : Nat} (t : TypeId) (v : Value) (x : AV) (b : Bool) (hb : eqT tab (d + 1) t x (.raw v) = .ok b) : (∃ a, v = .pointer (some a)) /\ x = .nilp := by
 simp only [eqT] at hb; obtain ⟨u, hu, hb⟩ := zz0.1 hb; split at hb <;> first | (cases hb; done) | simp_all
omit ok in
theorem qfb (H : HOK E h K w) {b : Nat} {cs : List AV} {e : TypeId} {sz : Nat} {ext : Bool} (hc : h.get b = some (.cells cs e sz ext .rw)) (i : Nat) :
  w.frozen? ⟨E.blk b, i, none⟩ = false := by
 obtain ⟨arr, fz, h1, _, _, hm⟩ := H.cells hc; simp only [qfx] at hm; subst hm; simp [World.frozen?, h1]
omit ok in
theorem qgh (H : HOK E h K w) {b : Nat} {cs : List AV} {e : TypeId} {sz : Nat} {ext : Bool} {bk : BK} (hc : h.get b = some (.cells cs e sz ext bk)) :
  ∃ n, w.shape? (E.blk b) = some (e, n) := by
 obtain ⟨arr, fz, h1, _⟩ := H.cells hc; exact ⟨arr.size, by simp [World.shape?, h1]⟩
omit ok in
theorem qd1 (H : HOK E h K w) {b : Nat} {cs : List AV} {e : TypeId} {sz : Nat} {ext : Bool} {bk : BK} (hc : h.get b = some (.cells cs e sz ext bk)) (i : Nat) :
  (noView ⟨E.blk b, i, none⟩).run P w = .ok () w := by
 obtain ⟨n, hn⟩ := qgh H hc; simp [noView, viewAt, hn]
omit ok in
theorem qfh (H : HOK E h K w) {b : Nat} {cs : List AV} {e : TypeId} {sz : Nat} {ext : Bool} (hc : h.get b = some (.cells cs e sz ext .rw)) (i : Nat) :
  (stringish ⟨E.blk b, i, none⟩).run P w = .ok false w := by
 obtain ⟨n, hn⟩ := qgh H hc; simp [stringish, hn, qfb H hc]
omit ok in
theorem qfR (H : HOK E h K w) {b b' : Nat} {cs cs' : List AV} {e e' : TypeId} {sz sz' : Nat} {ext ext' : Bool}
  (hc : h.get b = some (.cells cs e sz ext .rw)) (hc' : h.get b' = some (.cells cs' e' sz' ext' .rw)) (i i' : Nat) :
  (mayBeOne ⟨E.blk b, i, none⟩ ⟨E.blk b', i', none⟩).run P w = .ok false w := by
 obtain ⟨n, hn⟩ := qgh H hc; obtain ⟨n', hn'⟩ := qgh H hc'; simp [mayBeOne, qfh H hc, qfh H hc', hn']
theorem qlL (H : HOK E h K w) {t : TypeId} {x y : AV} {b : Bool} (hb : eqOp tab h t x y = .ok b) :
   (Op.equal t (conc E x) (conc E y)).run P w = .ok b w /\
   (∀ op ox oy, (op = .eql \/ op = .neq) -> (eqGuard op t ox oy (conc E x) (conc E y)).run P w = .ok () w) := by
 unfold eqOp at hb; split at hb
 · rename_i a i c j; obtain ⟨u, hu, hb⟩ := zz0.1 hb; have hP := ok.und t u (zz4.1 hu); split at hb
   · rename_i e; obtain ⟨n, hn, hb⟩ := zz0.1 hb; obtain ⟨_, hz, hb⟩ := zz0.1 hb; have hz := zz3.1 hz; have hn0 : n ≠ 0 := by
       rintro rfl; simp at hz
     refine ⟨?_, fun op ox oy ho => by rcases ho with rfl | rfl <;> simp [eqGuard, conc]⟩; have hstep : (Op.equal t (conc E (.ptr a i)) (conc E (.ptr c j))).run P w = (sameAddr ⟨E.blk a, i, none⟩ ⟨E.blk c, j, none⟩).run P w := by
       have key : ∀ n, (Op.equalIn (n + 1) t (conc E (.ptr a i)) (conc E (.ptr c j))).run P w = (sameAddr ⟨E.blk a, i, none⟩ ⟨E.blk c, j, none⟩).run P w := by
         intro n; simp only [Op.equalIn, underlying, Sem.run_bind, run_program, Result.andThen_ok, hP, Sem.run_pure, conc, qbD ok hn, ne_eq, hn0, not_false_eq_true, if_true]
       exact key 9999
     rw [hstep]; by_cases hac : Nat.beq a c = true
     · rw [if_pos hac] at hb
       cases hb; have := Nat.eq_of_beq_eq_true hac; subst this; simp only [sameAddr, beq_self_eq_true, if_true, Sem.run_pure]; congr 1
       rw [Bool.eq_iff_iff]; simp [Nat.beq_eq]
     · rw [if_neg hac] at hb; split at hb
       · rename_i h1 h2
         cases hb; have hne : E.blk a ≠ E.blk c := fun e' => hac (by rw [H.inj a c _ _ h1 h2 (by simp [AO.ro]) e']; exact Nat.beq_refl c)
         simp [sameAddr, hne, qfb H h1, qd1 H h1, qd1 H h2, qfR H h1 h2]
       · cases hb
   · cases hb
 · rename_i xs ys; split at hb
   · rename_i hg; refine ⟨?_, fun op ox oy ho => ?_⟩
     · have := qeh ok (E := E) 8 t _ _ b hb 9992 w; exact this
     · simp only [conc]; exact run_eqGuard_agg w op t ox oy _ _ (ok.grd t false hg)
   · cases hb
 · cases hb
 · rename_i h1 h2 h3; refine ⟨qeh ok (E := E) 8 t _ _ b hb 9992 w, fun op ox oy ho => ?_⟩; have hrx : ∀ v, x = .raw v -> ∃ a, v = .pointer (some a) := by
     rintro v rfl; exact (qlM t v y b hb).1
   have hry : ∀ v, y = .raw v -> ∃ a, v = .pointer (some a) := by
     rintro v rfl; exact (qlN t v x b hb).1
   have hne : ∀ cs, conc E x = .agg cs -> ∀ ds, conc E y = .agg ds -> False := by
     intro cs hx ds hy
     cases x <;> simp only [conc] at hx <;> (try cases hx)
     · cases y <;> simp only [conc] at hy <;> (try cases hy)
       · exact h2 _ _ rfl rfl
       · obtain ⟨_, e⟩ := hry _ rfl; cases e
     · obtain ⟨_, e⟩ := hrx _ rfl; cases e
   have hni : conc E x = .nilIface -> conc E y = .nilIface -> False := by
     intro hx hy
     cases x <;> simp only [conc] at hx <;> (try cases hx)
     · cases y <;> simp only [conc] at hy <;> (try cases hy)
       · exact h3 rfl rfl
       · obtain ⟨_, e⟩ := hry _ rfl; cases e
     · obtain ⟨_, e⟩ := hrx _ rfl; cases e
   generalize conc E x = a at hne hni
   generalize conc E y = b at hne hni
   rcases ho with rfl | rfl <;> (unfold eqGuard; split)
   all_goals first
     | (exact absurd rfl (by simp))
     | skip
   all_goals simp_all
omit ok in
theorem qgL (op : BinOp) (t : TypeId) (ox oy : Operand) (k j : IntKind) (a b : Int) : (eqGuard op t ox oy (.int k a) (.int j b)).run P w = .ok () w := by
 cases op <;> simp [eqGuard]
omit ok in
theorem qog (op : BinOp) (t : TypeId) (ox oy : Operand) (a b : ByteArray) : (eqGuard op t ox oy (.string a) (.string b)).run P w = .ok () w := by
 cases op <;> simp [eqGuard]
omit ok in
theorem qf6 {t : TypeId} {x y : AV} {b : Bool} (hb : eqOp tab h t x y = .ok b) : (∀ v, x = .raw v -> ∃ a, v = .pointer (some a)) /\ (∀ v, y = .raw v -> ∃ a, v = .pointer (some a)) := by
 constructor
 · rintro v rfl; unfold eqOp at hb; exact (qlM t v y b hb).1
 · rintro v rfl; unfold eqOp at hb
   cases x <;> exact (qlN t v _ b hb).1
omit ok in
theorem qhD {x : AV} (hx : ∀ v, x = .raw v -> ∃ a, v = .pointer (some a)) : (∀ k b, conc E x ≠ .float k b) /\ (∀ k a b, conc E x ≠ .complex k a b) /\
  (∀ k a, conc E x = .int k a -> x = .int k a) /\ (∀ s, conc E x = .string s -> ∃ l, x = .str l) := by
 cases x
 case raw v => obtain ⟨a, rfl⟩ := hx v rfl; simp [conc]
 all_goals simp_all [conc]
omit ok in
theorem qgp (t : TypeId) (x y : AV) (hi : ∀ k j a b, x = .int k a -> y = .int j b -> False) (hs : ∀ a b, x = .str a -> y = .str b -> False)
   (hx : ∀ v, x = .raw v -> ∃ a, v = .pointer (some a)) (hy : ∀ v, y = .raw v -> ∃ a, v = .pointer (some a)) :
   Go.binOp .eql t (conc E x) (conc E y) = (do pure (.bool (<- Op.equal t (conc E x) (conc E y)))) /\
   Go.binOp .neq t (conc E x) (conc E y) = (do pure (.bool (!(<- Op.equal t (conc E x) (conc E y))))) := by
 obtain ⟨x1, x2, x3, x4⟩ := qhD (E := E) hx; obtain ⟨y1, y2, y3, y4⟩ := qhD (E := E) hy; generalize conc E x = X at *
 generalize conc E y = Y at *
 constructor
 · unfold Go.binOp; split <;> simp_all
   · exact (hi _ _ _ _ rfl rfl rfl rfl).elim
   · obtain ⟨l, rfl⟩ := x4; obtain ⟨m, rfl⟩ := y4; exact (hs _ _ rfl rfl).elim
 · unfold Go.binOp; split <;> simp_all
   · exact (hi _ _ _ _ rfl rfl rfl rfl).elim
   · obtain ⟨l, rfl⟩ := x4; obtain ⟨m, rfl⟩ := y4; exact (hs _ _ rfl rfl).elim
theorem qnv (H : HOK E h K w) {op : BinOp} {t : TypeId} {x y v : AV} (hb : binOp tab h op t x y = .ok v) (ox oy : Operand) :
   (do eqGuard op t ox oy (conc E x) (conc E y); Go.binOp op t (conc E x) (conc E y)).run P w = .ok (conc E v) w := by
 unfold binOp at hb; split at hb
 · simp only [conc]; rw [Sem.run_bind, qgL]; exact qg6 (yk := .i64) hb
 · simp only [conc]; rw [Sem.run_bind, qgL]; exact qg6 (yk := .i64) hb
 · rename_i hs1 hs2; split at hb
   · rename_i e; subst e; simp only [conc]; rw [Sem.run_bind, qgL]; exact qoj hb t ⟨fun e => hs1 e, fun e => hs2 e⟩
   · cases hb
 · simp only [conc]; rw [Sem.run_bind, qog]
   cases op <;> exact qo9 (P := P) hb
 · obtain ⟨b, hb', hb⟩ := zz0.1 hb
   cases hb; obtain ⟨h1, h2⟩ := qlL ok H hb'; rw [Sem.run_bind, h2 .eql ox oy (.inl rfl), Result.andThen_ok]; rw [(qgp (E := E) t x y (fun k j a b e1 e2 => by subst e1 e2; simp_all; exact ‹∀ (k_1 : IntKind) (a_1 : Int) (j_1 : IntKind) (b_1 : Int), k = k_1 -> a = a_1 -> j = j_1 -> ¬ b = b_1› _ _ _ _ rfl rfl rfl rfl) (fun a b e1 e2 => by subst e1 e2; simp_all) (qf6 hb').1 (qf6 hb').2).1, Sem.run_bind, h1]; simp [conc]
 · obtain ⟨b, hb', hb⟩ := zz0.1 hb
   cases hb; obtain ⟨h1, h2⟩ := qlL ok H hb'; rw [Sem.run_bind, h2 .neq ox oy (.inr rfl), Result.andThen_ok]; rw [(qgp (E := E) t x y (fun k j a b e1 e2 => by subst e1 e2; simp_all; exact ‹∀ (k_1 : IntKind) (a_1 : Int) (j_1 : IntKind) (b_1 : Int), k = k_1 -> a = a_1 -> j = j_1 -> ¬ b = b_1› _ _ _ _ rfl rfl rfl rfl) (fun a b e1 e2 => by subst e1 e2; simp_all) (qf6 hb').1 (qf6 hb').2).2, Sem.run_bind, h1]; simp [conc]
 · cases hb
end
end Go.Am
namespace Go.Am
open Go.RowKit
variable [Inhabited DrP]
def repV (n : Nat) (l : List Value) : List Value :=
 match n with
 | 0 => []
 | n + 1 => l ++ repV n l
theorem qdC (E : Env) (n : Nat) (l : List AV) : qai E (rep n l) = repV n (qai E l) := by
 induction n with
 | zero => rfl
 | succ n ih => simp [rep, repV, ih]
theorem qer (n : Nat) (l : List Value) : (repV n l).length = n * l.length := by
 induction n with
 | zero => simp [repV]
 | succ n ih => simp [repV, ih, Nat.add_mul]; omega
theorem qoQ (c : Nat) (l : List Value) (k : Nat) (hk : l.length = k) (h0 : 0 < k) :
  (List.range (c * k)).map (fun i => l.toArray[i % k]!) = repV c l := by
 induction c with
 | zero => simp [repV]
 | succ c ih =>
  rw [show (c + 1) * k = k + c * k from by rw [Nat.add_mul]; omega, List.range_add, List.map_append, List.map_map]; unfold repV; congr 1
  · apply List.ext_getElem
    · simp [hk]
    · intro i h1 h2; simp only [List.length_map, List.length_range] at h1; simp [Nat.mod_eq_of_lt h1, h2]
  · rw [<- ih]; apply List.map_congr_left; intro i _; simp
theorem qfU (n : Nat) (l : List Value) (h0 : 0 < l.length) : Builtin.zeroCells l.toArray n = (repV n l).toArray := by
 unfold Builtin.zeroCells; apply Array.ext'; rw [Array.toList_map, Array.toList_range]; exact qoQ n l l.length rfl h0
theorem qfQ (n : Nat) (l : List Value) (h0 : 0 < l.length) : madeCells l.toArray (n * l.length) = (repV n l).toArray := by
 unfold madeCells; apply Array.ext'; rw [Array.toList_map, Array.toList_range]; exact qoQ n l l.length rfl h0
def qe5 (cs : List Value) (off : Nat) (vs : List Value) : List Value := cs.take off ++ (vs ++ cs.drop (off + vs.length))
theorem qim (E : Env) (cs : List AV) (off : Nat) (vs : List AV) : qai E (qcQ cs off vs) = qe5 (qai E cs) off (qai E vs) := by
 simp [qcQ, qe5, qcU, qfp]
theorem qqi (off : Nat) : ∀ (vs : List Value) (j : Nat) (cs : Array Value), off + j + vs.length <= cs.size ->
  ((vs.zipIdx j).foldl (fun cs (x : Value × Nat) => cs.setIfInBounds (off + x.2) x.1) cs) = (qe5 cs.toList (off + j) vs).toArray := by
 intro vs; induction vs with
 | nil => intro j cs h; simp [qe5]
 | cons v vs ih =>
  intro j cs h; simp only [List.zipIdx_cons, List.foldl_cons]; rw [ih (j + 1) _ (by simp at h ⊢; omega)]; congr 1
  have := list_seg_step cs.toList (off + j) v vs (by simp at h ⊢; omega); simp only [qe5, Array.toList_setIfInBounds, List.length_cons]; rw [show off + (j + 1) = off + j + 1 from by omega]; rw [<- List.append_assoc, this]; simp
section
variable {P : Program} {tab : Tab} (ok : TabOK P tab) {E : Env} {h : AH} {K : KS} {w : World}
theorem qit {place : Nat -> Option (Nat × Nat)} : ∀ (ps : List (Nat × AV)) (qs : List (Nat × Nat × AV)) (cs out : List AV),
  (ps.length = qs.length /\ ∀ i, i < ps.length -> ∀ p q, ps[i]? = some p -> qs[i]? = some q -> place p.1 = some (q.1, q.2.1) /\ p.2 = q.2.2) ->
  fill cs qs = .ok out -> Instr.fill place (qai E cs).toArray (ps.map fun p => (p.1, conc E p.2)) = some (qai E out).toArray := by
 intro ps; induction ps with
 | nil =>
  intro qs cs out hq hf; have : qs = [] := List.eq_nil_of_length_eq_zero hq.1.symm; subst this; simp only [fill] at hf
  cases hf; rfl
 | cons p ps ih =>
  intro qs cs out hq hf
  cases qs with
  | nil => simp at hq
  | cons q qs =>
   obtain ⟨off, n, v⟩ := q; simp only [fill] at hf; obtain ⟨l, hl, hf⟩ := zz0.1 hf; obtain ⟨_, hc, hf⟩ := zz0.1 hf; have hc := zz3.1 hc; rw [Bool.and_eq_true] at hc; have hc1 := Nat.eq_of_beq_eq_true hc.1; have hc2 := Nat.le_of_ble_eq_true hc.2; obtain ⟨h1, h2⟩ := hq.2 0 (by simp) p (off, n, v) rfl rfl; simp only at h1 h2; simp only [List.map_cons, Instr.fill, h1, h2, qb3 hl]; rw [if_neg (by simp [hc1]; omega)]; have hz : (qai E l).toArray.zipIdx.foldl (fun cs (x : Value × Nat) => cs.setIfInBounds (off + x.2) x.1) (qai E cs).toArray = (qai E (qcQ cs off l)).toArray := by
    have := qqi off (qai E l) 0 (qai E cs).toArray (by simp; omega); rw [qim, <- Array.foldl_toList]; simpa using this
   rw [hz]; refine ih qs _ out ⟨by simpa using hq.1, fun i hi p' q' hp' hq' => ?_⟩ hf; exact hq.2 (i + 1) (by simpa using hi) p' q' (by simpa using hp') (by simpa using hq')
include ok
theorem qho {fs : Array Field} : ∀ (ps : List (Nat × AV)) (qs : List (Nat × Nat × AV)), qbF tab fs ps = .ok qs ->
  (ps.length = qs.length /\ ∀ i, i < ps.length -> ∀ p q, ps[i]? = some p -> qs[i]? = some q ->
   (∃ f i, fs[p.1]? = some f /\ P.info? f.type = some i /\ q.1 = f.offset /\ q.2.1 = i.size) /\ p.2 = q.2.2) := by
 intro ps; induction ps with
 | nil => intro qs hq; simp only [qbF] at hq; cases hq; simp
 | cons p ps ih =>
  intro qs hq; obtain ⟨i, v⟩ := p; simp only [qbF] at hq; obtain ⟨f, hf, hq⟩ := zz0.1 hq; obtain ⟨n, hn, hq⟩ := zz0.1 hq; obtain ⟨r, hr, hq⟩ := zz0.1 hq
  cases hq; obtain ⟨h1, h2⟩ := ih r hr; refine ⟨by simp [h1], fun j hj p q hp hq => ?_⟩
  cases j with
  | zero =>
   simp only [List.getElem?_cons_zero, Option.some.injEq] at hp hq; subst hp hq; obtain ⟨x, hx, rfl⟩ := ok.siz _ _ (zz4.1 hn); exact ⟨⟨f, x, zz4.1 hf, hx, rfl, rfl⟩, rfl⟩
  | succ j => exact h2 j (by simpa using hj) p q (by simpa using hp) (by simpa using hq)
theorem qkS : ∀ (l : List Field), (∀ f ∈ l, (tab.siz.get f.type).isSome = true) ->
  ∃ ps : List (Nat × Nat), l.mapM (fun (f : Field) => (P.info? f.type).map fun i => (f.offset, i.size)) = some ps /\
    ∀ (i : Nat) (f : Field) (x : TypeInfo), l[i]? = some f -> P.info? f.type = some x -> ps[i]? = some (f.offset, x.size) := by
 intro l; induction l with
 | nil => intro _; exact ⟨[], by simp, by simp⟩
 | cons f l ih =>
  intro hl; obtain ⟨ps, h1, h2⟩ := ih (fun f hf => hl f (by simp [hf])); obtain ⟨n, hn⟩ := Option.isSome_iff_exists.1 (hl f (by simp)); obtain ⟨x, hx, rfl⟩ := ok.siz _ _ hn; refine ⟨(f.offset, x.size) :: ps, ?_, ?_⟩
  · simp [List.mapM_cons, hx, h1]
  · intro j g y hj hy
    cases j with
    | zero =>
     simp only [List.getElem?_cons_zero, Option.some.injEq] at hj; subst hj; rw [hx] at hy
     cases hy; rfl
    | succ j => simpa using h2 j g y (by simpa using hj) hy
theorem qnx {t : TypeId} {ps : List (Nat × AV)} {v : AV} (hb : build tab t ps = .ok v) :
   (Instr.build t (ps.map fun p => (p.1, conc E p.2)).toArray).run P w = .ok (conc E v) w := by
 unfold build at hb; obtain ⟨z, hz, hb⟩ := zz0.1 hb; obtain ⟨zc, hzc, hb⟩ := zz0.1 hb; obtain ⟨u, hu, hb⟩ := zz0.1 hb; have hP := ok.und t u (zz4.1 hu); obtain ⟨it, hit, hiz⟩ := ok.zer t z (zz4.1 hz); split at hb
 · rename_i fs; obtain ⟨_, hs, hb⟩ := zz0.1 hb; obtain ⟨qs, hq, hb⟩ := zz0.1 hb; obtain ⟨cs, hc, hb⟩ := zz0.1 hb
   cases hb; have hs := zz3.1 hs; obtain ⟨pl, hp1, hp2⟩ := qkS ok fs.toList (fun f hf => List.all_eq_true.1 hs f hf); obtain ⟨hl, hq⟩ := qho ok ps qs hq; have hfill := qit (E := E) (place := fun i => pl[i]?) ps qs zc cs ⟨hl, fun i hi p q hp hq' => by
    obtain ⟨⟨f, x, h1, h2, h3, h4⟩, h5⟩ := hq i hi p q hp hq'; refine ⟨?_, h5⟩; rw [h3, h4]; exact hp2 p.1 f x (by simpa using h1) h2⟩ hc
   have hbuilt : P.built t (ps.map fun p => (p.1, conc E p.2)) = some (qai E cs).toArray := by
    unfold Program.built; simp only [hit, hP, hiz E, hp1, qb3 hzc]; simpa using hfill
   exact run_build w t _ _ (by simpa using hbuilt)
 · rename_i len e; obtain ⟨n, hn, hb⟩ := zz0.1 hb; obtain ⟨cs, hc, hb⟩ := zz0.1 hb
   cases hb; obtain ⟨ie, hie, rfl⟩ := ok.siz _ _ (zz4.1 hn); have hfill := qit (E := E) (place := fun i => some (i * ie.size, ie.size)) ps _ zc cs ⟨by simp, fun i hi p q hp hq => by
    rw [List.getElem?_map, hp] at hq
    cases hq; exact ⟨rfl, rfl⟩⟩ hc
   have hbuilt : P.built t (ps.map fun p => (p.1, conc E p.2)) = some (qai E cs).toArray := by
    unfold Program.built; simp only [hit, hP, hiz E, hie, qb3 hzc]; exact hfill
   exact run_build w t _ _ (by simpa using hbuilt)
 · cases hb
theorem qhh (H : HOK E h K w) {t : TypeId} {len : Nat} {ps : List (Nat × AV)} {v : AV} {h' : AH} (hb : buildSlice tab h t len ps = .ok (v, h'))
   (hE : E.blk h.next = w.heap.size) :
   h'.next = h.next + 1 /\ ∃ w', (Instr.buildSlice t len (ps.map fun p => (p.1, conc E p.2)).toArray).run P w = .ok (conc E v) w' /\ HOK E h' K w' /\ Kept K w w' := by
 unfold buildSlice at hb; obtain ⟨u, hu, hb⟩ := zz0.1 hb; have hP := ok.und t u (zz4.1 hu); split at hb
 · rename_i e; obtain ⟨n, hn, hb⟩ := zz0.1 hb; obtain ⟨_, hc, hb⟩ := zz0.1 hb; obtain ⟨z, hz, hb⟩ := zz0.1 hb; obtain ⟨zc, hzc, hb⟩ := zz0.1 hb; obtain ⟨_, hzl, hb⟩ := zz0.1 hb; obtain ⟨cs, hf, hb⟩ := zz0.1 hb; obtain ⟨⟨h1, b⟩, hr, hb⟩ := zz0.1 hb
   cases hb; have hc := Nat.le_of_ble_eq_true (zz3.1 hc); have hzl := Nat.eq_of_beq_eq_true (zz3.1 hzl); obtain ⟨n', _, rfl, rfl⟩ := qaC hr; have hfill := qit (E := E) (place := fun i => some (i * n, n)) ps _ (rep len zc) cs ⟨by simp, fun i hi p q hp hq => by
     rw [List.getElem?_map, hp] at hq
     cases hq; exact ⟨rfl, rfl⟩⟩ hf
   have hmade : ((Array.range (len * n)).map fun i => (if len * n = 0 then #[] else (qai E zc).toArray)[i % (if len * n = 0 then #[] else (qai E zc).toArray).size]!) = (qai E (rep len zc)).toArray := by
     rw [qdC]; by_cases h0 : len * n = 0
     · rw [h0]; have : repV len (qai E zc) = [] := List.eq_nil_of_length_eq_zero (by rw [qer, concL_length, hzl]; exact h0); simp [this]
     · simp only [if_neg h0]; have hn0 : 0 < n := Nat.pos_of_ne_zero (fun e => h0 (by rw [e]; simp)); have := qfQ len (qai E zc) (by rw [concL_length, hzl]; exact hn0); rw [concL_length, hzl] at this; exact this
   obtain ⟨H', hk⟩ := qgW H hE cs e n'; refine ⟨rfl, _, ?_, H', hk⟩; unfold Instr.buildSlice; simp only [Sem.run_bind, underlying, run_program, Result.andThen_ok, hP, Sem.run_pure, qbD ok hn]; rw [if_neg (by omega)]; by_cases h0 : len * n = 0
   · simp only [if_pos h0] at hmade ⊢; simp only [Sem.run_bind, Sem.run_pure, Result.andThen_ok]; rw [hmade, hfill]; simp only [Sem.run_bind, qbX, Result.andThen_ok, Sem.run_pure, conc, Cap.val, hE]
   · simp only [if_neg h0] at hmade ⊢; simp only [Sem.run_bind, qfj ok hz E, Sem.run_pure, Result.andThen_ok, qb3 hzc]; rw [hmade, hfill]; simp only [Sem.run_bind, qbX, Result.andThen_ok, Sem.run_pure, conc, Cap.val, hE]
 · cases hb
theorem qiB (H : HOK E h K w) {t : TypeId} {len cap v : AV} {h' : AH} (hb : makeSlice tab h t len cap = .ok (v, h')) (hE : E.blk h.next = w.heap.size) :
   h'.next = h.next + 1 /\ ∃ w', (Instr.makeSlice t (conc E len) (conc E cap)).run P w = .ok (conc E v) w' /\ HOK E h' K w' /\ Kept K w w' := by
 unfold makeSlice at hb; obtain ⟨u, hu, hb⟩ := zz0.1 hb; have hP := ok.und t u (zz4.1 hu); split at hb
 · rename_i e; obtain ⟨l, hl, hb⟩ := zz0.1 hb; obtain ⟨c, hc, hb⟩ := zz0.1 hb; obtain ⟨by_, hby, hb⟩ := zz0.1 hb; obtain ⟨_, hlim, hb⟩ := zz0.1 hb; obtain ⟨n, hn, hb⟩ := zz0.1 hb; obtain ⟨z, hz, hb⟩ := zz0.1 hb; obtain ⟨zc, hzc, hb⟩ := zz0.1 hb; obtain ⟨_, hzl, hb⟩ := zz0.1 hb; obtain ⟨⟨h1, b⟩, hr, hb⟩ := zz0.1 hb
   cases hb; have hlim := zz3.1 hlim; simp only [Bool.and_eq_true] at hlim; have hl1 := Nat.le_of_ble_eq_true hlim.1.1; have hl2 := Nat.le_of_ble_eq_true hlim.1.2; have hl3 := Nat.le_of_ble_eq_true hlim.2; have hzl := zz3.1 hzl; simp only [Bool.and_eq_true] at hzl; have hzl1 := Nat.eq_of_beq_eq_true hzl.1; have hn0 : 0 < n := Nat.pos_of_ne_zero (by rintro rfl; simp at hzl); obtain ⟨n', _, rfl, rfl⟩ := qaC hr; obtain ⟨kl, rfl⟩ := qc0 hl; obtain ⟨kc, rfl⟩ := qc0 hc; obtain ⟨i, hi, rfl⟩ := ok.siz _ _ (zz4.1 hn); obtain ⟨i', hi', hz'⟩ := ok.zer _ _ (zz4.1 hz); rw [hi] at hi'; cases hi'; obtain ⟨i', hi', hby'⟩ := ok.byt _ _ (zz4.1 hby); rw [hi] at hi'; cases hi'; obtain ⟨H', hk⟩ := qgW H hE (rep c zc) e n'; refine ⟨rfl, _, ?_, H', hk⟩; have hbc : (i.bytes : Int) * (c : Int) <= 281474976710656 := by
    rw [hby']; have h3 : ((by_ * c : Nat) : Int) <= ((16777216 : Nat) : Int) := Int.ofNat_le.2 hl3; rw [Int.natCast_mul] at h3; omega
   have hrun := run_make (P := P) w t e i (conc E z) hP hi (hz' E) kl kc l c (by omega) (by omega) hbc (by omega); simp only [conc]; rw [hrun]; simp only [Int.toNat_natCast, qb3 hzc, Cap.val, hE, qdC]; have := qfQ c (qai E zc) (by rw [concL_length, hzl1]; exact hn0); rw [concL_length, hzl1] at this; rw [this]
 · cases hb
end
end Go.Am
namespace Go.Am
open Go.RowKit
variable [Inhabited DrP]
section
variable {P : Program} {tab : Tab} (ok : TabOK P tab) {E : Env} {h : AH} {K : KS} {w : World}
def OptV (o : Option Value) (d n : Nat) : Prop :=
 match o with
 | none => n = d
 | some v => ∃ k, v = .int k (n : Int)
theorem qaT (k : IntKind) (n y : Nat) (code : BoundsCode) (hn : n <= y) : (Instr.sliceBound (.int k (n : Int)) y code).run P w = .ok n w := by
 have := run_sliceBound (P := P) w k (n : Int) y code (by omega) (by omega); simpa using this
theorem qbz {isSlice : Bool} {len cap l u m : Nat} {lo hi mx : Option Value} (hl : OptV lo 0 l) (hu : OptV hi len u) (hm : OptV mx cap m)
  (hs : mx = none \/ ∃ v, hi = some v) (h1 : l <= u) (h2 : u <= m) (h3 : m <= cap) : (Instr.sliceBounds isSlice len cap lo hi mx).run P w = .ok (l, u, m) w := by
 unfold Instr.sliceBounds
 cases mx with
 | none =>
  simp only [OptV] at hm; subst hm
  cases hi with
  | none =>
   simp only [OptV] at hu; subst hu
   cases lo with
   | none => simp only [OptV] at hl; subst hl; simp
   | some v => obtain ⟨k, rfl⟩ := hl; simp [qaT k l u _ h1]
  | some v =>
   obtain ⟨k, rfl⟩ := hu
   cases lo with
   | none => simp only [OptV] at hl; subst hl; simp [qaT k u m _ h2]
   | some v => obtain ⟨k', rfl⟩ := hl; simp [qaT k u m _ h2, qaT k' l u _ h1]
 | some v =>
  obtain ⟨km, rfl⟩ := hm; obtain ⟨v', rfl⟩ := hs.resolve_left (by simp); obtain ⟨k, rfl⟩ := hu
  cases lo with
  | none => simp only [OptV] at hl; subst hl; simp [qaT km m cap _ h3, qaT k u m _ h2]
  | some v => obtain ⟨k', rfl⟩ := hl; simp [qaT km m cap _ h3, qaT k u m _ h2, qaT k' l u _ h1]
theorem qbg {ts : T AV} {ρ : Operand -> Value} (hρ : ∀ x v, ev ts x = .ok v -> ρ x = conc E v) {d : R Nat} {dn : Nat} (hd : d = .ok dn) {o : Option Operand} {n : Nat}
  (hn : qaS ts d o = .ok n) : OptV (o.map ρ) dn n := by
 cases o with
 | none => simp only [qaS] at hn; rw [hd] at hn; cases hn; exact rfl
 | some x =>
  simp only [qaS] at hn; obtain ⟨v, hv, hn⟩ := zz0.1 hn; obtain ⟨k, rfl⟩ := qc0 hn; exact ⟨k, by rw [hρ x _ hv]; rfl⟩
theorem qhF (s : List UInt8) (l u : Nat) : (⟨s.toArray⟩ : ByteArray).extract l u = ⟨((s.drop l).take (u - l)).toArray⟩ := by
 apply ByteArray.ext; simp [ByteArray.data_extract, List.extract_eq_take_drop]
theorem qgv (H : HOK E h K w) {b c : Nat} {cap : Cap} (hc : capLow h b cap = .ok c) : c <= cap.val (E.cap b) := by
 cases cap with
 | lit n => simp only [capLow] at hc; cases hc; exact Nat.le_refl _
 | tail k =>
  simp only [capLow] at hc; obtain ⟨⟨cs, e, sz, ext, bk⟩, h1, hc⟩ := zz0.1 hc; obtain ⟨_, h2, hc⟩ := zz0.1 hc
  cases hc; have h2 := zz3.1 h2; simp only [Bool.and_eq_true] at h2; obtain ⟨hx, hz⟩ := h2; have hz0 : 0 < sz := Nat.pos_of_ne_zero (by rintro rfl; simp at hz); obtain ⟨arr, fz, _, ⟨rest, harr⟩, hsz, _⟩ := H.cells (qau h1); rw [if_pos hx] at hsz; have hl := congrArg List.length harr; simp at hl; have : cs.length / sz <= E.cap b := by
   rw [Nat.div_le_iff_le_mul_add_pred hz0]; have : cs.length <= E.cap b * sz := by omega
   rw [Nat.mul_comm] at this; omega
  show cs.length / sz - k <= E.cap b - k
  omega
include ok
theorem qk2 (H : HOK E h K w) {ts : T AV} {ρ : Operand -> Value} (hρ : ∀ x v, ev ts x = .ok v -> ρ x = conc E v) {t : TypeId} {x v : AV} {h' : AH} {lo hi mx : Option Operand}
   (hs : qbm tab ts h t x lo hi mx = .ok (v, h')) :
   h' = h /\ (Instr.sliceAt t (conc E x) (lo.map ρ) (hi.map ρ) (mx.map ρ)).run P w = .ok (conc E v) w := by
 unfold qbm at hs; obtain ⟨d, hd, hs⟩ := zz0.1 hs; have hP := ok.und t d (zz4.1 hd); split at hs
 · rename_i s _; obtain ⟨_, hm, hs⟩ := zz0.1 hs; obtain ⟨l, hl, hs⟩ := zz0.1 hs; obtain ⟨u, hu, hs⟩ := zz0.1 hs; obtain ⟨_, hb, hs⟩ := zz0.1 hs
   cases hs; have hm := zz3.1 hm
   cases mx with
   | some x => simp at hm
   | none =>
     have hb := zz3.1 hb; rw [Bool.and_eq_true] at hb; have hb1 := Nat.le_of_ble_eq_true hb.1; have hb2 := Nat.le_of_ble_eq_true hb.2; refine ⟨rfl, ?_⟩; rw [run_sliceAt_string (P := P) w t _ _ _ _ hP]; unfold Instr.slice; simp only [Sem.run_bind, underlying, run_program, Result.andThen_ok, hP, Sem.run_pure, conc, Option.map_none, Option.isSome_none, Bool.false_eq_true, if_false, qfC]; rw [qbz (qbg hρ rfl hl) (qbg hρ rfl hu) (show OptV none s.length s.length from rfl) (.inl rfl) hb1 hb2 (Nat.le_refl _)]; simp [qhF]
 · rename_i e _; have hel : P.elem t = e := by simp [Program.elem, hP]
   obtain ⟨n, hn, hs⟩ := zz0.1 hs; obtain ⟨l, hl, hs⟩ := zz0.1 hs; obtain ⟨u, hu, hs⟩ := zz0.1 hs; obtain ⟨m, hm, hs⟩ := zz0.1 hs; obtain ⟨_, hb, hs⟩ := zz0.1 hs
   cases hs; have hb := zz3.1 hb; simp only [Bool.and_eq_true, Bool.or_eq_true] at hb; have hb1 := Nat.eq_of_beq_eq_true hb.1.1.1; have hb2 := Nat.eq_of_beq_eq_true hb.1.1.2; have hb3 := Nat.eq_of_beq_eq_true hb.1.2; subst hb1 hb2 hb3; refine ⟨rfl, ?_⟩; have hmx : mx.map ρ = none \/ ∃ v, hi.map ρ = some v := by
     rcases hb.2 with h | h
     · left; cases mx <;> simp_all
     · right; cases hi <;> simp_all
   rw [run_sliceAt_slice (P := P) w t _ _ _ _ (by rw [hel]; exact hP)]; simp only [conc]; rw [run_slice_any (P := P) w t none 0 0 (by rw [hel]; exact hP), hel,
     qbz (qbg hρ rfl hl) (qbg hρ rfl hu) (qbg hρ rfl hm) hmx (Nat.le_refl _) (Nat.le_refl _) (Nat.le_refl _), Result.andThen_ok, qbD ok hn]
   simp [sliced]
 · rename_i e b off len cap _; have hel : P.elem t = e := by simp [Program.elem, hP]
   obtain ⟨c, hc, hs⟩ := zz0.1 hs; obtain ⟨n, hn, hs⟩ := zz0.1 hs; obtain ⟨l, hl, hs⟩ := zz0.1 hs; obtain ⟨u, hu, hs⟩ := zz0.1 hs; have hcap := qgv H hc; have hgo : ∀ m, OptV (mx.map ρ) (cap.val (E.cap b)) m -> (mx.map ρ = none \/ ∃ v, hi.map ρ = some v) -> l <= u -> u <= m -> m <= cap.val (E.cap b) ->
       (Instr.sliceAt t (conc E (.sl b off len cap)) (lo.map ρ) (hi.map ρ) (mx.map ρ)).run P w =
         .ok (.slice (some ⟨E.blk b, if m = l then off else off + l * n, none⟩) (u - l) (m - l)) w := by
     intro m hm hmx h1 h2 h3; rw [run_sliceAt_slice (P := P) w t _ _ _ _ (by rw [hel]; exact hP)]; simp only [conc]; rw [run_slice_any (P := P) w t _ _ _ (by rw [hel]; exact hP), hel,
       qbz (qbg hρ rfl hl) (qbg hρ rfl hu) hm hmx h1 h2 h3, Result.andThen_ok, qbD ok hn, Result.andThen_ok]
     simp only [sliced]; by_cases e : m = l
     · simp [e]
     · simp [e, add_lit]
   split at hs
   · obtain ⟨m, hm, hs⟩ := zz0.1 hs; obtain ⟨_, hb, hs⟩ := zz0.1 hs
     cases hs; have hb := zz3.1 hb; simp only [Bool.and_eq_true] at hb; have hb1 := Nat.le_of_ble_eq_true hb.1.1.1; have hb2 := Nat.le_of_ble_eq_true hb.1.1.2; have hb3 := Nat.le_of_ble_eq_true hb.1.2; refine ⟨rfl, ?_⟩; have hm' : OptV (Option.map ρ (some ‹Operand›)) (cap.val (E.cap b)) m := by
       have := qbg hρ rfl hm; exact this
     rw [hgo m hm' (.inr (by cases hi <;> simp_all)) hb1 hb2 (by omega)]; simp only [conc, Cap.val]; by_cases e : m = l
     · simp [e]
     · have : Nat.beq m l = false := Bool.eq_false_iff.2 (fun h => e (Nat.eq_of_beq_eq_true h)); simp [e, this]
   · cases cap with
     | lit m =>
       obtain ⟨_, hb, hs⟩ := zz0.1 hs
       cases hs; have hb := zz3.1 hb; simp only [Bool.and_eq_true] at hb; have hb1 := Nat.le_of_ble_eq_true hb.1; have hb2 := Nat.le_of_ble_eq_true hb.2; refine ⟨rfl, ?_⟩; rw [hgo m rfl (.inl rfl) hb1 hb2 (Nat.le_refl _)]; simp only [conc, Cap.val]; by_cases e : m = l
       · simp [e]
       · have : Nat.beq m l = false := Bool.eq_false_iff.2 (fun h => e (Nat.eq_of_beq_eq_true h)); simp [e, this]
     | tail k =>
       obtain ⟨_, hb, hs⟩ := zz0.1 hs; have hb := zz3.1 hb; simp only [Bool.and_eq_true] at hb; have hb1 := Nat.le_of_ble_eq_true hb.1; have hb2 := Nat.le_of_ble_eq_true hb.2; have hcap' : c <= E.cap b - k := hcap; have hgo' := hgo (E.cap b - k) rfl (.inl rfl) hb1 (by omega) (Nat.le_refl _); by_cases h0 : Nat.beq l 0 = true
       · rw [h0] at hs
         cases hs; have := Nat.eq_of_beq_eq_true h0; subst this; refine ⟨rfl, ?_⟩; rw [hgo']; simp [conc, Cap.val]
       · have h0' : Nat.beq l 0 = false := Bool.eq_false_iff.2 h0; rw [h0'] at hs; by_cases h1 : Nat.blt l c = true
         · simp only [cond_false, h1, cond_true] at hs
           cases hs; have hlt : l < c := Nat.le_of_ble_eq_true h1; refine ⟨rfl, ?_⟩; rw [hgo']; simp only [conc, Cap.val]; rw [if_neg (by omega)]; congr 2
           omega
         · have h1' : Nat.blt l c = false := Bool.eq_false_iff.2 h1; simp only [cond_false, h1'] at hs
           cases hs; have hge : ¬ l < c := fun h => h1 (Nat.ble_eq_true_of_le h)
           refine ⟨rfl, ?_⟩; rw [hgo']; simp only [conc]; congr 2
           omega
 · rename_i e a c _; have hel : P.elem t = e := by simp [Program.elem, hP]
   obtain ⟨n, hn, hs⟩ := zz0.1 hs; obtain ⟨l, hl, hs⟩ := zz0.1 hs; obtain ⟨u, hu, hs⟩ := zz0.1 hs; obtain ⟨_, hb, hs⟩ := zz0.1 hs
   cases hs; have hb := zz3.1 hb; simp only [Bool.and_eq_true] at hb; have hb1 := Nat.eq_of_beq_eq_true hb.1.1; have hb2 := Nat.eq_of_beq_eq_true hb.1.2; subst hb1 hb2; have hm : mx = none := by cases mx <;> simp_all
   subst hm; refine ⟨rfl, ?_⟩; rw [run_sliceAt_slice (P := P) w t _ _ _ _ (by rw [hel]; exact hP)]; simp only [conc]; rw [run_slice_any (P := P) w t _ _ _ (by rw [hel]; exact hP), hel,
     qbz (qbg hρ rfl hl) (qbg hρ rfl hu) (show OptV (Option.map ρ (none : Option Operand)) c c from rfl) (.inl rfl) (Nat.le_refl _) (Nat.zero_le _) (Nat.le_refl _), Result.andThen_ok, qbD ok hn]
   cases a <;> simp [sliced, Addr.add]
 · rename_i e b off l0 n0 k _; have hel : P.elem t = e := by simp [Program.elem, hP]
   obtain ⟨n, hn, hs⟩ := zz0.1 hs; obtain ⟨l, hl, hs⟩ := zz0.1 hs; obtain ⟨u, hu, hs⟩ := zz0.1 hs; obtain ⟨_, hb, hs⟩ := zz0.1 hs
   cases hs; have hb := zz3.1 hb; simp only [Bool.and_eq_true] at hb; have hb1 := Nat.eq_of_beq_eq_true hb.1.1; have hb2 := Nat.eq_of_beq_eq_true hb.1.2; subst hb1 hb2; have hm : mx = none := by cases mx <;> simp_all
   subst hm; refine ⟨rfl, ?_⟩; rw [run_sliceAt_slice (P := P) w t _ _ _ _ (by rw [hel]; exact hP)]; simp only [conc]; rw [run_slice_any (P := P) w t _ _ _ (by rw [hel]; exact hP), hel,
     qbz (qbg hρ rfl hl) (qbg hρ rfl hu) (show OptV (Option.map ρ (none : Option Operand)) (E.cap b - k - l0) (E.cap b - k - l0) from rfl) (.inl rfl) (Nat.le_refl _) (Nat.zero_le _) (Nat.le_refl _), Result.andThen_ok, qbD ok hn]
   simp [sliced, Addr.add]
 · cases hs
end
end Go.Am
namespace Go.Am
open Go.RowKit
variable [Inhabited DrP]
section
variable {P : Program} {tab : Tab} (ok : TabOK P tab) {E : Env} {h : AH} {K : KS} {w : World}
theorem qeL (E : Env) (s : List UInt8) : qai E (qce s) = s.map fun b => Value.int .u8 b.toNat := by
 simp only [qce, qcF, List.map_map]; rfl
theorem qcS {cs : List AV} {s : List UInt8} (hb : bytesOf cs = .ok s) :
  ∃ ns : List Int, qai E cs = ns.map (Value.int .u8) /\ ns.map (fun n => UInt8.ofNat n.toNat) = s := by
 induction cs generalizing s with
 | nil => simp only [bytesOf] at hb; cases hb; exact ⟨[], rfl, rfl⟩
 | cons c cs ih =>
  unfold bytesOf at hb; split at hb
  · rename_i e; cases e
  · rename_i n l e
    cases e; obtain ⟨r, hr, hb⟩ := zz0.1 hb
    cases hb; obtain ⟨ns, h1, h2⟩ := ih hr; exact ⟨(n : Int) :: ns, by simp [h1, conc], by simp [h2]⟩
  · cases hb
def qmj : AV -> Nat
 | .str s => s.length
 | _ => 0
theorem qmP (ns : List Int) : ∀ (r : List UInt8), ns.foldl (fun (r : ByteArray) n => r.push (UInt8.ofNat n.toNat)) ⟨r.toArray⟩ = ⟨(r ++ ns.map fun n => UInt8.ofNat n.toNat).toArray⟩ := by
 induction ns with
 | nil => intro r; simp
 | cons n ns ih =>
  intro r; simp only [List.foldl_cons]; have : (⟨r.toArray⟩ : ByteArray).push (UInt8.ofNat n.toNat) = ⟨(r ++ [UInt8.ofNat n.toNat]).toArray⟩ := by
   apply ByteArray.ext; simp [ByteArray.push]
  rw [this, ih]; simp
theorem qk1 (w : World) (arr : Array Value) (e : TypeId) (fz : Nat × Nat) : (w.alloc (.cells arr e fz)).shape? w.heap.size = some (e, arr.size) := by
 unfold World.shape?
 rw [heap_alloc_new]
theorem qjs (w : World) (arr : Array Value) (e : TypeId) (n : Nat) :
   (w.alloc (.cells arr e)).freeze { block := w.heap.size, off := n } 1 = w.alloc (.cells arr e (n, n + 1)) := by
 unfold World.freeze World.alloc; simp only [Nat.one_ne_zero, if_false]; congr 1
 apply Array.ext
 · simp
 · intro i h1 h2; rw [Array.getElem_modify, Array.getElem_push, Array.getElem_push]; by_cases h : i < w.heap.size
   · simp [h]; omega
   · have : i = w.heap.size := by simp at h2; omega
     simp [this]
include ok
theorem qkt (H : HOK E h K w) {src dst : TypeId} {x v : AV} {h' : AH} (hc : convert tab h src dst x = .ok (v, h'))
   (hE : h.next < h'.next -> E.blk h.next = w.heap.size /\ E.cap h.next = grownCap w (qmj x) 0 (P.elem dst)) :
   (h.next <= h'.next /\ h'.next <= h.next + 1) /\ ∃ w', (Go.convert src dst (conc E x)).run P w = .ok (conc E v) w' /\ HOK E h' K w' /\ Kept K w w' := by
 unfold convert at hc; obtain ⟨a, ha, hc⟩ := zz0.1 hc; obtain ⟨b, hb, hc⟩ := zz0.1 hc; have hPa := ok.und src a (zz4.1 ha); have hPb := ok.und dst b (zz4.1 hb); split at hc
 · cases hc; refine ⟨by omega, w, ?_, H, Kept.refl K w⟩; simp only [conc]; unfold Go.convert; simp [underlying, hPa, hPb, Conv.intToInt]
 · cases hc; refine ⟨by omega, w, ?_, H, Kept.refl K w⟩; simp only [conc]; unfold Go.convert; simp [underlying, hPa, hPb]
 · rename_i e s _ _; obtain ⟨d, hd, hc⟩ := zz0.1 hc; have hPe := ok.und e d (zz4.1 hd); split at hc
   · obtain ⟨n, hn, hc⟩ := zz0.1 hc; obtain ⟨_, h1, hc⟩ := zz0.1 hc; obtain ⟨⟨h2, b2⟩, hr, hc⟩ := zz0.1 hc
     cases hc; obtain ⟨n', hn', rfl, rfl⟩ := qaC hr; rw [hn] at hn'; cases hn'; have h1 := Nat.eq_of_beq_eq_true (zz3.1 h1); subst h1; have hel : P.elem dst = e := by simp [Program.elem, hPb]
     obtain ⟨hE1, hE2⟩ := hE (by simp); rw [hel] at hE2; simp only [qmj] at hE2; have hge := grownCap_ge w s.length 0 e; have hrun : (Go.convert src dst (conc E (.str s))).run P w = .ok (.slice (some ⟨w.heap.size, 0, none⟩) s.length (grownCap w s.length 0 e))
         (w.drew.alloc (.cells ((s.map fun b => Value.int .u8 b.toNat).toArray ++ Array.replicate (grownCap w s.length 0 e - s.length) (.int .u8 0)) e (grownCap w s.length 0 e, grownCap w s.length 0 e + 1))) := by
       simp only [conc]; unfold Go.convert; have hq : (Question.appendCap s.length 0 e).cut (w.tape w.drawn (.appendCap s.length 0 e)) = grownCap w s.length 0 e := rfl; simp only [Sem.run_bind, underlying, run_program, Result.andThen_ok, hPa, hPb, hPe, Sem.run_pure, Conv.stringToBytes, run_choose, Question.forced, Bool.false_eq_true, if_false, qbX, markStringish, run_shape, qfC, hq, World.drew_eq, World.size_drew]; generalize grownCap w s.length 0 e = cp at *
       have harr : (Array.map (fun b => Value.int .u8 b.toNat) s.toArray ++ Array.replicate (cp - s.length) (Value.int .u8 0)).size = cp := by
         simp; omega
       have harr2 : Array.map (fun b => Value.int .u8 b.toNat) s.toArray = (s.map fun b => Value.int .u8 b.toNat).toArray := by simp
       rw [<- harr2]; generalize Array.map (fun b => Value.int .u8 b.toNat) s.toArray ++ Array.replicate (cp - s.length) (Value.int .u8 0) = arr at *
       have e1 := qk1 w.drew arr e (0, 0); rw [World.size_drew] at e1; rw [e1]; simp only [harr, run_freeze, Result.andThen_ok]; have e2 := qjs w.drew arr e cp; rw [World.size_drew] at e2; rw [e2]
     have hv : conc E (.sl h.next 0 s.length (.tail 0)) = .slice (some ⟨w.heap.size, 0, none⟩) s.length (grownCap w s.length 0 e) := by
       simp [conc, Cap.val, hE1, hE2]
     rw [<- hv] at hrun; refine ⟨by simp, _, hrun, H.drew.new (by simpa using hE1) ?_, (Kept.drew K w).trans (Kept.alloc (by simpa using H.kb) _)⟩
     · refine ⟨_, _, rfl, ⟨_, by rw [Array.toList_append, List.toList_toArray, qeL]⟩, ?_, ?_⟩
       · simp [hE2]; omega
       · simp only [qfx, Array.size_append, List.size_toArray, List.length_map, Array.size_replicate]; congr 1 <;> omega
   · cases hc
 · rename_i e _ hns; obtain ⟨d, hd, hc⟩ := zz0.1 hc; have hPe := ok.und e d (zz4.1 hd); split at hc
   · cases hc; refine ⟨by omega, w, ?_, H, Kept.refl K w⟩; simp only [conc]; rw [run_convert_bytes_string w src dst e _ _ _ hPa hPe hPb]; simp [Conv.bytesToString]; rfl
   · obtain ⟨cs, hcs, hc⟩ := zz0.1 hc; obtain ⟨s, hs, hc⟩ := zz0.1 hc
     cases hc; refine ⟨by omega, w, ?_, H, Kept.refl K w⟩; obtain ⟨ns, h1, h2⟩ := qcS (E := E) hs; simp only [conc]; rw [run_convert_bytes_string w src dst e _ _ _ hPa hPe hPb, run_bytesToString w _ _ _ ns (by rw [<- h1]; exact H.run_readN hcs)]; have := qmP ns []; rw [show (⟨([] : List UInt8).toArray⟩ : ByteArray) = ByteArray.empty from rfl] at this; rw [this, h2]; rfl
   · cases hc; refine ⟨by omega, w, ?_, H, Kept.refl K w⟩; simp only [conc]; rw [run_convert_bytes_string w src dst e _ _ _ hPa hPe hPb]; simp [Conv.bytesToString, loadCells, loadCellsFrom]; rfl
   · cases hc; refine ⟨by omega, w, ?_, H, Kept.refl K w⟩; rename_i a _ _ _; simp only [conc]; rw [run_convert_bytes_string w src dst e _ _ _ hPa hPe hPb]
     cases a <;> simp [Conv.bytesToString, loadCells, loadCellsFrom] <;> rfl
   · cases hc
 · rename_i e b off n c _ _; obtain ⟨d, hd, hc⟩ := zz0.1 hc; have hPe := ok.und e d (zz4.1 hd); split at hc
   · rename_i heq; obtain ⟨⟨cs, e', sz, ext, bk⟩, hcs, hc⟩ := zz0.1 hc; obtain ⟨_, hro, hc⟩ := zz0.1 hc
     cases hc; have hro : bk ≠ .ro /\ bk ≠ .cold := by simpa using zz3.1 hro
     have hcs := qau hcs; have heq := Nat.eq_of_beq_eq_true heq; subst heq
     cases hPa.symm.trans hPb; obtain ⟨arr, fz, hh, hpre, hsz, hm⟩ := H.cells hcs; have hnr : ¬ (AO.cells cs e' sz ext bk).ro := by cases bk <;> simp_all [AO.ro]
     have hfz : w.freeze { block := E.blk b, off := arr.size } 1 = w.put (E.blk b) (.cells arr e' (arr.size, arr.size + 1)) := by
       unfold World.freeze World.put; simp only [Nat.one_ne_zero, if_false]; congr 1
       have he := (Array.getElem?_eq_some_iff.1 hh).2; apply Array.ext
       · simp
       · intro j h1 h2; rw [Array.getElem_modify, Array.getElem_setIfInBounds (by simpa using h2)]; by_cases ej : E.blk b = j
         · subst ej; simp only [if_true, he]
           cases bk with
           | rw => simp only [qfx] at hm; subst hm; simp
           | mark => simp only [qfx] at hm; subst hm; simp
           | any => simp only [qfx] at hm; rcases hm with hm | hm <;> subst hm <;> simp
           | ro => exact absurd rfl hro.1
           | cold => exact absurd rfl hro.2
         · simp [ej]
     refine ⟨by simp, _, ?_, H.put hcs hnr ⟨arr, (arr.size, arr.size + 1), rfl, hpre, hsz, rfl⟩, H.kept_put hcs hnr _⟩; simp only [conc]; unfold Go.convert; have hshape : w.shape? (E.blk b) = some (e', arr.size) := by simp [World.shape?, hh]
     simp only [Sem.run_bind, underlying, run_program, Result.andThen_ok, hPa, hPe, Sem.run_pure, beq_self_eq_true, markStringish, run_shape, hshape, run_freeze, hfz]
   · cases hc
 · cases hc
end
end Go.Am
namespace Go.Am
open Go.RowKit
variable [Inhabited DrP]
section
variable {P : Program} {tab : Tab} (ok : TabOK P tab) {E : Env} {h : AH} {K : KS} {w : World}
theorem qh1 {n m : Nat} {y : AV} {news : List AV} (hs : source h n y = .ok (m, news)) :
  news.length = m * n /\ (∀ w : World, (Builtin.lenOf (conc E y)).run P w = .ok m w) /\
  ∀ w : World, HOK E h K w -> ∀ k, k <= m -> (Builtin.firstCells n k (conc E y)).run P w = .ok (qai E (news.take (k * n))).toArray w := by
 cases y <;> simp only [source] at hs <;> (try cases hs)
 case str s =>
  obtain ⟨_, h1, hsz⟩ := zz0.1 hs; clear hs; have hs := hsz; clear hsz
  cases hs; have h1 := Nat.eq_of_beq_eq_true (zz3.1 h1); subst h1; refine ⟨by simp [qce], fun w => by simp [conc, Builtin.lenOf, qfC], fun w _ k hk => ?_⟩; simp only [conc, Builtin.firstCells, qhF, Sem.run_pure, Nat.mul_one, List.drop_zero, Nat.sub_zero, qcU, qeL]; simp [List.map_take]
 case nils =>
  refine ⟨by simp, fun w => by simp [conc, Builtin.lenOf], fun w _ k hk => by simp [conc, Builtin.firstCells]⟩
 case sl b off len cap =>
  obtain ⟨cs, hcs, hsz⟩ := zz0.1 hs; clear hs; have hs := hsz; clear hsz
  cases hs; obtain ⟨cs0, e, sz, ext, bk, hc, hl, rfl⟩ := qme hcs; refine ⟨by simp; omega, fun w => by simp [conc, Builtin.lenOf], fun w H k hk => ?_⟩; simp only [conc, Builtin.firstCells]; have hk' : k * n <= m * n := Nat.mul_le_mul_right _ hk; have hr : readN h b off (k * n) = .ok ((cs0.drop off).take (k * n)) := by
   unfold readN qbk; rw [hc]; simp only [zz0]; exact ⟨_, rfl, (), by rw [zz3]; exact Nat.ble_eq_true_of_le (show off + k * n <= cs0.length by omega), rfl⟩
  rw [H.run_readN hr]; congr 2
  rw [List.take_take]; congr 1
  rw [Nat.min_eq_left hk']
 case emp b off l n' k' =>
  refine ⟨by simp, fun w => by simp [conc, Builtin.lenOf], fun w _ k hk => ?_⟩; have : k = 0 := by omega
  subst this; simp [conc, Builtin.firstCells, loadCells, loadCellsFrom]
 case raw v =>
  have key : ∃ a c, v = .slice a 0 c /\ m = 0 /\ news = [] := by
   split at hs
   all_goals first
    | (rename_i hv; cases hv; cases hs; exact ⟨_, _, rfl, rfl, rfl⟩)
    | (rename_i hv; cases hv; done)
    | (cases hs; done)
  obtain ⟨a, c, rfl, rfl, rfl⟩ := key; refine ⟨by simp, fun w => by simp [conc, Builtin.lenOf], fun w _ k hk => ?_⟩; have : k = 0 := by omega
  subst this
  cases a <;> simp [conc, Builtin.firstCells, loadCells, loadCellsFrom]
theorem qkh {argTypes : Array TypeId} {t u ty e : TypeId} {du : TypeDesc} {i : TypeInfo} (h0 : argTypes[0]? = some t) (h1 : argTypes[1]? = some u)
  (ht : P.underlying t = some (.slice e)) (hu : P.underlying u = some du) (hnz : ∀ k, du ≠ .int k) (hi : P.info? e = some i)
  {base : Option Addr} {sLen sCap m : Nat} {Y : Value} {news : Array Value} (hlen : (Builtin.lenOf Y).run P w = .ok m w)
  (hf : (Builtin.firstCells i.size m Y).run P w = .ok news w) (hroom : sLen + m <= sCap) :
  (Builtin.append_ argTypes ty #[.slice base sLen sCap, Y]).run P w =
   (match base with
    | none => (Result.ok () w : Result Unit)
    | some a => (storeCells (a.add (sLen * i.size)) news.toList).run P w).andThen fun _ w' => .ok (.slice base (sLen + m) sCap) w' := by
 unfold Builtin.append_; simp only [h0, h1, List.getElem?_toArray, List.getElem?_cons_zero, List.getElem?_cons_succ]; simp only [Sem.run_bind, underlying, run_program, Result.andThen_ok, ht, hu, Sem.run_pure, sizeOf, typeInfo, hi, Bool.false_eq_true, if_false, hlen, Bool.not_false, if_true, if_pos hroom, hf]
 cases base <;> simp [Result.andThen]
theorem qkg {argTypes : Array TypeId} {t u ty e : TypeId} {du : TypeDesc} {i : TypeInfo} {z : Value} (h0 : argTypes[0]? = some t) (h1 : argTypes[1]? = some u)
  (ht : P.underlying t = some (.slice e)) (hu : P.underlying u = some du) (hnz : ∀ k, du ≠ .int k) (hi : P.info? e = some i) (hzero : i.zero = some z)
  {base : Option Addr} {sLen sCap m : Nat} {Y : Value} {olds news : Array Value} (hlen : (Builtin.lenOf Y).run P w = .ok m w)
  (hf : (Builtin.firstCells i.size m Y).run P w.drew = .ok news w.drew) (ho : (Builtin.firstCells i.size sLen (.slice base sLen sCap)).run P w.drew = .ok olds w.drew)
  (hroom : ¬ sLen + m <= sCap) (h63 : sLen + m <= 16777216) (hb : (sLen + m) * i.bytes <= 16777216) :
  (Builtin.append_ argTypes ty #[.slice base sLen sCap, Y]).run P w =
   .ok (.slice (some ⟨w.heap.size, 0, none⟩) (sLen + m) (grownCap w (sLen + m) sCap e))
    (w.drew.alloc (.cells (olds ++ news ++ Builtin.zeroCells z.cells (grownCap w (sLen + m) sCap e - (sLen + m))) e)) := by
 have hfit := growslice_fits (need := sLen + m) (old := sCap) (bytes := i.bytes) (by omega) (by omega); have h63' : ¬ (((sLen + m : Nat) : Int) > IntKind.i64.max /\ (False \/ i.bytes = 0)) := by
  have : IntKind.i64.max = 9223372036854775807 := by decide
  rw [this]; omega
 have hfit' : ¬ (Builtin.nextslicecap (sLen + m) sCap * i.bytes > 2 ^ 48) := by
  have : (2 : Nat) ^ 48 = 281474976710656 := by decide
  rw [this]; omega
 have hq : (Question.appendCap (sLen + m) sCap e).cut (w.tape w.drawn (.appendCap (sLen + m) sCap e)) = grownCap w (sLen + m) sCap e := rfl; unfold Builtin.append_; simp only [h0, h1, List.getElem?_toArray, List.getElem?_cons_zero, List.getElem?_cons_succ]; simp only [Sem.run_bind, underlying, run_program, Result.andThen_ok, ht, hu, Sem.run_pure, sizeOf, typeInfo, hi, Bool.false_eq_true, if_false, hlen, Bool.not_false, if_true, if_neg hroom]; rw [if_neg (by simpa using h63')]; simp only [Sem.run_bind, run_program, Result.andThen_ok, hi, Sem.run_pure]; rw [if_neg hfit']; simp only [Sem.run_bind, run_choose, Question.forced, Bool.false_eq_true, if_false, Result.andThen_ok, hq, World.drew_eq, run_askRoom, ho, hf, zeroValue, typeInfo, run_program, hi, hzero, Sem.run_pure, qbX, World.size_drew]
theorem qkd (ok : TabOK P tab) {e : TypeId} {n : Nat} {u : Unit} (hz : qdv tab e n = .ok u) :
   ∃ z, (∀ E, ∀ i, P.info? e = some i -> i.zero = some (conc E z)) /\ ∀ E, (conc E z).cells.size = n := by
 unfold qdv at hz; obtain ⟨z, h1, hzz⟩ := zz0.1 hz; clear hz; have hz := hzz; clear hzz; obtain ⟨zc, h2, hzz⟩ := zz0.1 hz; clear hz; have hz := hzz; clear hzz; have h3 := Nat.eq_of_beq_eq_true (zz3.1 hz); obtain ⟨i, hi, hzz⟩ := ok.zer _ _ (zz4.1 h1); refine ⟨z, fun E i' hi' => ?_, fun E => ?_⟩
 · rw [hi] at hi'; cases hi'; exact hzz E
 · rw [qb3 h2]; simpa using h3
theorem qoD (H : HOK E h K w) (hE : E.blk h.next = w.heap.size) (cs : List AV) (e : TypeId) (n c : Nat) {zs : Array Value} (hc : E.cap h.next = c)
  (hs : cs.length + zs.size = c * n) :
  HOK E (h.new (.cells cs e n true .rw)) K (w.alloc (.cells ((qai E cs).toArray ++ zs) e)) /\ Kept K w (w.alloc (.cells ((qai E cs).toArray ++ zs) e)) :=
 ⟨H.new hE ⟨_, _, rfl, ⟨zs.toList, by simp⟩, by simp [hc]; exact hs, rfl⟩, Kept.alloc H.kb _⟩
theorem qqC (H : HOK E h K w) (hE : E.blk h.next = w.heap.size) (cs : List AV) (e : TypeId) (n c : Nat) (bk : BK) (hno : bk ≠ .ro) (hbk : ∀ n, qfx bk (0, 0) n) {zs : Array Value} (hc : E.cap h.next = c)
  (hs : cs.length + zs.size = c * n) :
  HOK E (h.new (.cells cs e n true bk)) K (w.alloc (.cells ((qai E cs).toArray ++ zs) e)) /\ Kept K w (w.alloc (.cells ((qai E cs).toArray ++ zs) e)) :=
 ⟨H.new hE ⟨_, _, rfl, ⟨zs.toList, by simp⟩, by simp [hc]; exact hs, hbk _⟩ (by cases bk <;> simp_all [AO.ro]), Kept.alloc H.kb _⟩
def qea (w : World) (X : Value) (m : Nat) (e : TypeId) : Nat × Nat :=
 match X with
 | .slice base n c => if n + m <= c then ((base.map (·.block)).getD 0, c) else (w.heap.size, grownCap w (n + m) c e)
 | _ => (0, 0)
structure AppSrc (P : Program) (E : Env) (h : AH) (K : KS) (argTypes : Array TypeId) (ty e : TypeId) (i : TypeInfo) (Y : Value) (m : Nat) (news : List AV) : Prop where
 len : news.length = m * i.size
 room : ∀ (w : World), HOK E h K w -> ∀ (base : Option Addr) (sLen sCap : Nat), sLen + m <= sCap ->
  (Builtin.append_ argTypes ty #[.slice base sLen sCap, Y]).run P w =
   (match base with
    | none => (Result.ok () w : Result Unit)
    | some a => (storeCells (a.add (sLen * i.size)) (qai E news)).run P w).andThen fun _ w' => .ok (.slice base (sLen + m) sCap) w'
 grow : ∀ (w : World), HOK E h K w -> ∀ (base : Option Addr) (sLen sCap : Nat) (olds : Array Value) (z : Value), i.zero = some z ->
  (Builtin.firstCells i.size sLen (.slice base sLen sCap)).run P w.drew = .ok olds w.drew ->
  ¬ sLen + m <= sCap -> sLen + m <= 16777216 -> (sLen + m) * i.bytes <= 16777216 ->
  (Builtin.append_ argTypes ty #[.slice base sLen sCap, Y]).run P w =
   .ok (.slice (some ⟨w.heap.size, 0, none⟩) (sLen + m) (grownCap w (sLen + m) sCap e))
    (w.drew.alloc (.cells (olds ++ (qai E news).toArray ++ Builtin.zeroCells z.cells (grownCap w (sLen + m) sCap e - (sLen + m))) e))
theorem qvZ {argTypes : Array TypeId} {t u ty e : TypeId} {du : TypeDesc} {i : TypeInfo} (h0 : argTypes[0]? = some t) (h1 : argTypes[1]? = some u)
   (ht : P.underlying t = some (.slice e)) (hu : P.underlying u = some du) (hnz : ∀ k, du ≠ .int k) (hi : P.info? e = some i) {n m : Nat} (hin : i.size = n)
   {y : AV} {news : List AV} (hs : source h n y = .ok (m, news)) : AppSrc P E h K argTypes ty e i (conc E y) m news := by
 obtain ⟨hnl, hlen, hf⟩ := qh1 (P := P) (E := E) (K := K) hs; have hfm : ∀ w : World, HOK E h K w -> (Builtin.firstCells i.size m (conc E y)).run P w = .ok (qai E news).toArray w := by
   intro w H; have := hf w H m (Nat.le_refl _); rw [List.take_of_length_le (by omega)] at this; rw [hin]; exact this
 refine ⟨by rw [hin]; exact hnl, ?_, ?_⟩
 · intro w H base sLen sCap hr; rw [qkh h0 h1 ht hu hnz hi (hlen w) (hfm w H) hr]
 · intro w H base sLen sCap olds z hz ho hr h63 hb; exact qkg h0 h1 ht hu hnz hi hz (hlen w) (hfm w.drew H.drew) ho hr h63 hb
theorem qv2 {argTypes : Array TypeId} {t u ty e : TypeId} {k : IntKind} {i : TypeInfo} (h0 : argTypes[0]? = some t) (h1 : argTypes[1]? = some u)
   (ht : P.underlying t = some (.slice e)) (hu : P.underlying u = some (.int k)) (hi : P.info? e = some i) {z : AV} (hz : i.zero = some (conc E z)) {zc : List AV} (hzc : z.cells = .ok zc)
   (hzl : zc.length = i.size) (hi0 : i.size ≠ 0) {y : AV} {m : Nat} (hy : asNat y = .ok m) (hm : m <= 1048576) (hmb : m * i.bytes <= 16777216) : AppSrc P E h K argTypes ty e i (conc E y) m (rep m zc) := by
 obtain ⟨ky, rfl⟩ := qc0 hy; have hzz : Builtin.zeroCells (conc E z).cells m = (qai E (rep m zc)).toArray := by
   rw [qb3 hzc, qdC]; exact qfU m _ (by simp; omega)
 have hrl : (rep m zc).length = m * i.size := by
   have := congrArg List.length (qdC E m zc); rw [concL_length, qer, concL_length, hzl] at this; exact this
 have hwrap : IntKind.i64.wrap (m : Int) = m := by rw [IntKind.wrap_i64]; omega
 have hb48 : ¬ ((m : Int) * (i.bytes : Int) > 2 ^ 48) := by
   have h3 : ((m * i.bytes : Nat) : Int) <= ((16777216 : Nat) : Int) := Int.ofNat_le.2 hmb; rw [Int.natCast_mul] at h3; omega
 have happ : ∀ w : World, (if m * i.size = 0 then pure #[] else do pure (Builtin.zeroCells (<- zeroValue e).cells m) : Sem (Array Value)).run P w = .ok (qai E (rep m zc)).toArray w := by
   intro w; by_cases h00 : m * i.size = 0
   · rw [if_pos h00]; have : rep m zc = [] := List.eq_nil_of_length_eq_zero (by rw [hrl, h00]); rw [this]; rfl
   · rw [if_neg h00]; simp only [Sem.run_bind, zeroValue, typeInfo, run_program, Result.andThen_ok, hi, hz, Sem.run_pure, hzz]
 refine ⟨hrl, ?_, ?_⟩
 · intro w H base sLen sCap hr; unfold Builtin.append_; simp only [h0, h1, List.getElem?_toArray, List.getElem?_cons_zero, List.getElem?_cons_succ]; simp only [Sem.run_bind, underlying, run_program, Result.andThen_ok, ht, hu, Sem.run_pure, sizeOf, typeInfo, hi, if_true, conc, Go.asInt, Go.asIntOf, hwrap]; rw [if_neg (by omega)]; simp only [Sem.run_bind, run_program, Result.andThen_ok, hi, Sem.run_pure]; rw [if_neg hb48]; simp only [Sem.run_bind, Sem.run_pure, Result.andThen_ok, Int.toNat_natCast, if_pos hr, Bool.not_true, Bool.false_eq_true, if_false]; have := happ w; simp only [zeroValue, typeInfo] at this; simp only [zeroValue, typeInfo]; rw [this]
   cases base <;> simp [Result.andThen]
 · intro w H base sLen sCap olds z' hz' ho hr h63 hb; rw [hz] at hz'
   cases hz'; have hfit := growslice_fits (need := sLen + m) (old := sCap) (bytes := i.bytes) (by omega) (by omega); have h63' : ¬ (((sLen + m : Nat) : Int) > IntKind.i64.max /\ (True \/ i.bytes = 0)) := by
     have : IntKind.i64.max = 9223372036854775807 := by decide
     rw [this]; omega
   have hfit' : ¬ (Builtin.nextslicecap (sLen + m) sCap * i.bytes > 2 ^ 48) := by
     have : (2 : Nat) ^ 48 = 281474976710656 := by decide
     rw [this]; omega
   have hq : (Question.appendCap (sLen + m) sCap e).cut (w.tape w.drawn (.appendCap (sLen + m) sCap e)) = grownCap w (sLen + m) sCap e := rfl; unfold Builtin.append_; simp only [h0, h1, List.getElem?_toArray, List.getElem?_cons_zero, List.getElem?_cons_succ]; simp only [Sem.run_bind, underlying, run_program, Result.andThen_ok, ht, hu, Sem.run_pure, sizeOf, typeInfo, hi, if_true, conc, Go.asInt, Go.asIntOf, hwrap]; rw [if_neg (by omega)]; simp only [Sem.run_bind, run_program, Result.andThen_ok, hi, Sem.run_pure]; rw [if_neg hb48]; simp only [Sem.run_bind, Sem.run_pure, Result.andThen_ok, Int.toNat_natCast, if_neg hr, Bool.not_true, Bool.false_eq_true, if_false, run_program, hi]; rw [if_neg h63']; simp only [Sem.run_bind, run_program, Result.andThen_ok, hi, Sem.run_pure]; rw [if_neg hfit']; simp only [Sem.run_bind, run_choose, Question.forced, Bool.false_eq_true, if_false, Result.andThen_ok, hq, World.drew_eq, run_program, hi, Sem.run_pure, run_askRoom, ho]; have := happ w.drew; simp only [zeroValue, typeInfo] at this; simp only [zeroValue, typeInfo]; rw [this]; simp only [Sem.run_bind, Result.andThen_ok, run_program, hi, hz, Sem.run_pure, qbX, World.size_drew]
include ok
theorem qfJ (H : HOK E h K w) {argTypes : Array TypeId} {ty e : TypeId}
   {n by_ m : Nat} (hn : siz tab e = .ok n) (hn0 : n ≠ 0) (hby : tab.byt.get e = some by_)
   {x v : AV} {Y : Value} {news : List AV} {h' : AH} (hsrc : ∀ i, P.info? e = some i -> AppSrc P E h K argTypes ty e i Y m news) (ha : appendOp tab h e n by_ x m news = .ok (v, h'))
   (hE : h.next < h'.next -> E.blk h.next = (qea w (conc E x) m e).1 /\ E.cap h.next = (qea w (conc E x) m e).2) :
   (h.next <= h'.next /\ h'.next <= h.next + 1) /\ ∃ w', (Builtin.append_ argTypes ty #[conc E x, Y]).run P w = .ok (conc E v) w' /\ HOK E h' K w' /\ Kept K w w' := by
 obtain ⟨i, hi, hin⟩ := ok.siz _ _ (zz4.1 hn); obtain ⟨i', hi', hiby⟩ := ok.byt _ _ hby; rw [hi] at hi'; cases hi'; have hS := hsrc i hi; have hnl : news.length = m * n := by rw [<- hin]; exact hS.len
 unfold appendOp at ha; split at ha
 ·
   by_cases hm : Nat.beq m 0 = true
   · rw [hm] at ha
     cases ha; have := Nat.eq_of_beq_eq_true hm; subst this; refine ⟨by omega, w, ?_, H, Kept.refl K w⟩; simp only [conc]; rw [hS.room w H _ _ _ (by omega)]; rfl
   · have hm' : Nat.beq m 0 = false := Bool.eq_false_iff.2 hm; rw [hm'] at ha; simp only [cond_false] at ha; obtain ⟨_, hc, haz⟩ := zz0.1 ha; clear ha; have ha := haz; clear haz; obtain ⟨_, hzo, haz⟩ := zz0.1 ha; clear ha; have ha := haz; clear haz; obtain ⟨⟨h2, b2⟩, hr, haz⟩ := zz0.1 ha; clear ha; have ha := haz; clear haz
     cases ha; obtain ⟨n', hn', rfl, rfl⟩ := qaC hr; rw [hn] at hn'; cases hn'; have hc := zz3.1 hc; rw [Bool.and_eq_true] at hc; have hc1 := Nat.le_of_ble_eq_true hc.1; have hc2 := Nat.le_of_ble_eq_true hc.2; have hm0 : ¬ m <= 0 := fun h => hm (by rw [Nat.le_zero.1 h]; rfl)
     obtain ⟨z, hz, hzl⟩ := qkd ok hzo; have hzi := hz E i hi; obtain ⟨hE1, hE2⟩ := hE (by simp); simp only [conc, qea, Nat.zero_add, if_neg hm0] at hE1 hE2; have hrun := hS.grow w H none 0 0 #[] _ hzi
      (by simp [Builtin.firstCells]) (by omega) (by omega) (by rw [hiby]; simpa using hc1)
     simp only [Nat.zero_add, Array.empty_append] at hrun; obtain ⟨H', hk⟩ := qoD (w := w.drew) H.drew (by simpa using hE1) news e n (grownCap w m 0 e) (zs := Builtin.zeroCells (conc E z).cells (grownCap w m 0 e - m))
      (by rw [hE2]) (by
        have := grownCap_ge w m 0 e; rw [size_zeroCells, hzl E, hnl, <- Nat.add_mul]; congr 1
        omega)
     refine ⟨by simp, _, ?_, H', (Kept.drew K w).trans hk⟩; simp only [conc, Cap.val, hE1, hE2, Nat.sub_zero]; exact hrun
 · rename_i b off len cap; obtain ⟨c, hc, haz⟩ := zz0.1 ha; clear ha; have ha := haz; clear haz; obtain ⟨⟨cs, e', sz, ext, bk⟩, hcs, haz⟩ := zz0.1 ha; clear ha; have ha := haz; clear haz; obtain ⟨_, hty, haz⟩ := zz0.1 ha; clear ha; have ha := haz; clear haz; obtain ⟨_, hsz, haz⟩ := zz0.1 ha; clear ha; have ha := haz; clear haz; have hcap := qgv H hc; have hcs := qau hcs; have hty := zz3.1 hty; rw [Bool.and_eq_true] at hty; have hty1 := Nat.eq_of_beq_eq_true hty.1; have hty2 := Nat.eq_of_beq_eq_true hty.2; subst hty1 hty2; have hsz := zz3.1 hsz; rw [Bool.and_eq_true] at hsz; have hsz1 := Nat.le_of_ble_eq_true hsz.1; have hsz2 := Nat.le_of_ble_eq_true hsz.2; by_cases hroom : Nat.ble (len + m) c = true
   ·
     rw [hroom] at ha; simp only [cond_true] at ha; obtain ⟨h2, hw, haz⟩ := zz0.1 ha; clear ha; have ha := haz; clear haz
     cases ha; have hle := Nat.le_of_ble_eq_true hroom; obtain ⟨w', hst, H', hk⟩ := qd8 (P := P) H hw; refine ⟨by rw [qdo hw]; omega, w', ?_, H', hk⟩; simp only [conc]; rw [hS.room w H _ _ _ (by omega)]; simp only [add_lit, hin]; rw [hst]; rfl
   · have hroom' : Nat.ble (len + m) c = false := Bool.eq_false_iff.2 hroom; rw [hroom'] at ha; simp only [cond_false] at ha; obtain ⟨_, hold, haz⟩ := zz0.1 ha; clear ha; have ha := haz; clear haz; obtain ⟨_, hzo, haz⟩ := zz0.1 ha; clear ha; have ha := haz; clear haz; have hold := Nat.le_of_ble_eq_true (zz3.1 hold); obtain ⟨z, hz, hzl⟩ := qkd ok hzo; have hzi := hz E i hi; have hnr : ¬ len + m <= c := fun h => hroom (Nat.ble_eq_true_of_le h)
     have hro : ∀ w : World, HOK E h K w -> (Builtin.firstCells i.size len (.slice (some ⟨E.blk b, off, none⟩) len (cap.val (E.cap b)))).run P w = .ok (qai E ((cs.drop off).take (len * sz))).toArray w := by
      intro w H; rw [hin]; have hr : readN h b off (len * sz) = .ok ((cs.drop off).take (len * sz)) := by
        unfold readN qbk; rw [hcs]; simp only [zz0]; exact ⟨_, rfl, (), by rw [zz3]; exact Nat.ble_eq_true_of_le (show off + len * sz <= cs.length by omega), rfl⟩
      exact H.run_readN hr
     have hol : ((cs.drop off).take (len * sz)).length = len * sz := by simp; omega
     cases cap with
     | lit cn =>
      simp only at ha; obtain ⟨⟨h2, b2⟩, hr, haz⟩ := zz0.1 ha; clear ha; have ha := haz; clear haz
      cases ha; obtain ⟨n', hn', rfl, rfl⟩ := qaC hr; rw [hn] at hn'; cases hn'; have hcn : c = cn := by simp only [capLow] at hc; cases hc; rfl
      subst hcn; obtain ⟨hE1, hE2⟩ := hE (by simp); simp only [conc, qea, Cap.val, if_neg hnr] at hE1 hE2; have hrun := hS.grow w H (some ⟨E.blk b, off, none⟩) len c _ _ hzi
        (hro w.drew H.drew) hnr hsz2 (by rw [hiby]; exact hsz1)
      obtain ⟨H', hk⟩ := qoD (w := w.drew) H.drew (by simpa using hE1) ((cs.drop off).take (len * sz) ++ news) e sz (grownCap w (len + m) c e) (zs := Builtin.zeroCells (conc E z).cells (grownCap w (len + m) c e - (len + m)))
        (by rw [hE2]) (by
          have := grownCap_ge w (len + m) c e; rw [size_zeroCells, hzl E, List.length_append, hol, hnl, <- Nat.add_mul, <- Nat.add_mul]; congr 1
          omega)
      refine ⟨by simp, _, ?_, H', (Kept.drew K w).trans hk⟩; simp only [conc, Cap.val, hE1, hE2, Nat.sub_zero]; rw [hrun]; simp
     | tail k =>
      simp only at ha; obtain ⟨_, htl, haz⟩ := zz0.1 ha; clear ha; have ha := haz; clear haz; obtain ⟨⟨h2, b2⟩, hr, haz⟩ := zz0.1 ha; clear ha; have ha := haz; clear haz
      cases ha; obtain ⟨n', hn', rfl, rfl⟩ := qaC hr; rw [hn] at hn'; cases hn'; have htl := zz3.1 htl; simp only [Bool.and_eq_true] at htl; obtain ⟨⟨⟨⟨⟨htl1, htl2⟩, hext⟩, hbk⟩, hbk2⟩, hone⟩ := htl; have htl1 := Nat.eq_of_beq_eq_true htl1; have htl2 := Nat.eq_of_beq_eq_true htl2; subst htl1 htl2; have hbk : bk ≠ .ro /\ bk ≠ .cold := ⟨by simpa using hbk, by simpa using hbk2⟩; have hnro : ¬ (AO.cells cs e sz ext bk).ro := by cases bk <;> simp_all [AO.ro]
      obtain ⟨arr, fz, hh, ⟨rest, harr⟩, hasz, hm⟩ := H.cells hcs; rw [if_pos hext] at hasz; have hcl : cs.length <= arr.size := by
        have := congrArg List.length harr; simp at this; omega
      obtain ⟨hE1, hE2⟩ := hE (by simp); simp only [conc, qea, Cap.val, Nat.sub_zero] at hE1 hE2; by_cases hfit : len + m <= E.cap b
      · rw [if_pos hfit] at hE1 hE2; simp only [Option.map_some, Option.getD_some] at hE1 hE2; have hbound : (len + m) * sz <= arr.size := by rw [hasz]; exact Nat.mul_le_mul_right _ hfit
        rw [Nat.add_mul] at hbound; have hst := qbY (P := P) (E.blk b) (len * sz) e fz (qai E news) 0 arr w hh (qhM hm hbk) (by simp; omega)
          (by
            intro v hv; rw [qcF] at hv; obtain ⟨u, hu, rfl⟩ := List.mem_map.1 hv; exact qfS (List.all_eq_true.1 hone u hu))
        have e1 : (arr.toList.take (len * sz + 0) ++ qai E news ++ arr.toList.drop (len * sz + 0 + (qai E news).length)).length = arr.size := by
          simp; omega
        refine ⟨by simp, _, ?_, H.rename (c := .cells (arr.toList.take (len * sz + 0) ++ qai E news ++ arr.toList.drop (len * sz + 0 + (qai E news).length)).toArray e fz) hcs hnro hE1 ?_ (fun hx => by cases bk <;> exact hx), H.kept_put hcs hnro _⟩
        · simp only [conc, Cap.val, Nat.sub_zero]; rw [hS.room w H _ _ _ (by omega)]; simp only [add_lit, hin, Nat.zero_add]; rw [hst, AH.next_kill, hE1, hE2]; rfl
        · refine ⟨_, fz, rfl, ⟨arr.toList.drop (len * sz + 0 + (qai E news).length), ?_⟩, ?_, ?_⟩
          · simp only [Nat.add_zero, concL_append, qcU, harr]; rw [List.take_append_of_le_length (by simp; omega)]
          · rw [if_pos rfl, List.size_toArray, e1, hE2]; exact hasz
          · rw [List.size_toArray, e1]
            cases bk with
            | rw => exact hm
            | mark => exact .inr hm
            | any => exact hm
            | ro => exact absurd rfl hbk.1
            | cold => exact absurd rfl hbk.2
      · rw [if_neg hfit] at hE1 hE2; have hrun := hS.grow w H (some ⟨E.blk b, 0, none⟩) len (E.cap b) _ _ hzi
          (by have := hro w.drew H.drew; simpa [Cap.val] using this) hfit hsz2 (by rw [hiby]; exact hsz1)
        obtain ⟨H', hk⟩ := qqC (w := w.drew) (h := h.kill b) (H.drew.kill b) (by simpa using hE1) (cs.take (len * sz) ++ news) e sz (grownCap w (len + m) (E.cap b) e)
          bk.grown (by cases bk <;> simp [BK.grown]) (by cases bk <;> simp_all [qfx, BK.grown])
          (zs := Builtin.zeroCells (conc E z).cells (grownCap w (len + m) (E.cap b) e - (len + m)))
          (by simpa using hE2) (by
            have := grownCap_ge w (len + m) (E.cap b) e; rw [size_zeroCells, hzl E, List.length_append, hnl, List.length_take, Nat.min_eq_left (by omega), <- Nat.add_mul, <- Nat.add_mul]; congr 1
            omega)
        refine ⟨by simp, _, ?_, H', (Kept.drew K w).trans hk⟩; simp only [conc, Cap.val, AH.next_kill, hE1, hE2, Nat.sub_zero]; rw [hrun]; simp
 · cases ha
end
end Go.Am
namespace Go.Am
open Go.RowKit
variable [Inhabited DrP]
theorem qq0 {w : World} {g : Nat} {o : Obj} (hg : w.heap[g]? = some o) : w.put g o = w := by
 unfold World.put; have hlt := (Array.getElem?_eq_some_iff.1 hg).1; have he := (Array.getElem?_eq_some_iff.1 hg).2; have : w.heap.setIfInBounds g o = w.heap := by
  apply Array.ext
  · simp
  · intro i h1 h2; rw [Array.getElem_setIfInBounds (by simpa using h2)]; split
    · rename_i e; subst e; exact he.symm
    · rfl
 rw [this]
section
variable {P : Program} {tab : Tab} (ok : TabOK P tab) {E : Env} {h : AH} {K : KS} {w : World}
theorem qiC {b : Nat} {es : List (AV × AV × Nat)} {c : Nat} (hm : qm1 h b = .ok (es, c)) : h.get b = some (.mp es c) := by
 unfold qm1 at hm; split at hm
 · rename_i heq; cases hm; exact heq
 · cases hm
theorem HOK.map (H : HOK E h K w) {b : Nat} {es : List (AV × AV × Nat)} {c : Nat} (hm : h.get b = some (.mp es c)) :
  w.heap[E.blk b]? = some (.map (es.map (qfX E)).toArray c) := by
 obtain ⟨o, h1, h2⟩ := H.obj b _ hm; rw [h1, h2]
theorem qd6 {b c : Nat} {es : Array MapEntry} (hb : w.heap[b]? = some (.map es c)) : (getObj b).run P w = .ok (.map es c) w := by
 simp [getObj, Sem.run, hb]
theorem qfB {b c : Nat} {es : Array MapEntry} (hb : w.heap[b]? = some (.map es c)) (o : Obj) : (setObj b o).run P w = .ok () (w.put b o) := by
 simp [setObj, Sem.run, hb, World.put]
include ok
theorem qi7 (d : Nat) (empty : Bool) (ck : TypeId -> AV -> R Unit)
  (hck : ∀ t v u, ck t v = .ok u -> ∀ w, (Instr.checkKey empty d t (conc E v)).run P w = .ok () w) (cs : List AV) :
  ∀ (fs : List Field) (u : Unit), qeG tab ck cs fs = .ok u -> ∀ w,
    (forIn fs PUnit.unit (fun (f : Field) (_ : PUnit) => (do
     if f.name ≠ "_" then
      Instr.checkKey empty d f.type (<- Go.part f.type (qai E cs).toArray f.offset)
      pure (ForInStep.yield PUnit.unit)
     else pure (ForInStep.yield PUnit.unit) : Sem (ForInStep PUnit)))).run P w = .ok PUnit.unit w := by
 intro fs; induction fs with
 | nil => intro u hu w; rfl
 | cons f fs ih =>
  intro u hu w; simp only [qeG] at hu; simp only [List.forIn_cons]; by_cases hn : f.name ≠ "_"
  · rw [if_pos hn] at hu; obtain ⟨x, hx, hu⟩ := zz0.1 hu; obtain ⟨_, hc, hu⟩ := zz0.1 hu; simp only [if_pos hn, Sem.run_bind, qe6 ok hx, Result.andThen_ok, hck _ _ _ hc, Sem.run_pure]; exact ih u hu w
  · rw [if_neg hn] at hu; simp only [if_neg hn, Sem.run_bind, Sem.run_pure, Result.andThen_ok]; exact ih u hu w
theorem qmz (empty : Bool) : ∀ (d : Nat) (t : TypeId) (v : AV) (u : Unit), qhB tab d t v = .ok u -> ∀ (k : Nat) (w : World),
  (Instr.checkKey empty (d + k) t (conc E v)).run P w = .ok () w := by
 intro d; induction d with
 | zero => intro t v u hu; cases hu
 | succ d ih =>
  intro t v u hu k w; simp only [qhB] at hu; obtain ⟨x, hx, hu⟩ := zz0.1 hu; have hP := ok.und t x (zz4.1 hx); rw [show d + 1 + k = (d + k) + 1 from by omega]; split at hu
  · cases hu
  · cases hu
  · rename_i fs cs _; unfold Instr.checkKey; simp only [Sem.run_bind, underlying, run_program, Result.andThen_ok, hP, Sem.run_pure, conc]; rw [<- Array.forIn_toList]; have := qi7 ok (d + k) empty (qhB tab d) (fun t v u hu w => ih t v u hu k w) cs fs.toList u hu w; rw [this]; rfl
  · cases hu
  · rename_i h1 h2 h3 h4; unfold Instr.checkKey; simp only [Sem.run_bind, underlying, run_program, Result.andThen_ok, hP, Sem.run_pure]; clear hx hP
    cases x <;> first | rfl | exact (h1 _ rfl).elim | exact (h2 _ _ rfl).elim | exact (h4 _ rfl).elim | exact (h3 _ rfl).elim
theorem qi8 {t : TypeId} {v : AV} {u : Unit} (hc : ckKey tab t v 8 = .ok u) (empty : Bool) (w : World) : (Instr.checkKey empty 10000 t (conc E v)).run P w = .ok () w :=
 qmz ok empty 8 t v u hc 9992 w
theorem qhp {t : TypeId} {k : AV} : ∀ (es : List (AV × AV × Nat)) (i : Nat) (r : Option (Nat × AV × AV × Nat)), findKey tab t k es i = .ok r -> ∀ w,
  (Instr.findAsking t (conc E k) (es.map (qfX E)) i).run P w = .ok (r.map fun x => (x.1, conc E x.2.2.1)) w := by
 intro es; induction es with
 | nil => intro i r hr w; simp only [findKey] at hr; cases hr; rfl
 | cons e es ih =>
  intro i r hr w; obtain ⟨a, v, n⟩ := e; simp only [findKey] at hr; obtain ⟨b, hb, hr⟩ := zz0.1 hr; have he := qeh ok (E := E) 8 t _ _ b hb 9992 w; simp only [List.map_cons, Instr.findAsking, Sem.run_bind]; have he' : (Op.equal t (conc E k) (qfX E (a, v, n)).key).run P w = .ok b w := he; rw [he', Result.andThen_ok]
  cases b with
  | true => simp only [if_true] at hr ⊢; cases hr; rfl
  | false => simp only [Bool.false_eq_true, if_false] at hr ⊢; exact ih (i + 1) r hr w
theorem qne {t : TypeId} {d : TypeDesc} (hd : P.underlying t = some d) {k a : AV} {b : Bool} (hb : eqT tab 8 t k a = .ok b) {b' : Bool}
   (hs : Instr.sameNow d (conc E k) (conc E a) = some b') : b' = b := by
 have h1 := qeh ok (E := E) 8 t k a b hb 0 default; obtain ⟨n, hn⟩ : ∃ n, 8 + 0 = n + 1 := ⟨7, rfl⟩; rw [hn] at h1; generalize conc E k = X at *
 generalize conc E a = Y at *
 unfold Instr.sameNow at hs; split at hs
 · split at hs
   · cases hs; rename_i e; subst e; simp only [Op.equalIn, Sem.run_bind, underlying, run_program, Result.andThen_ok, hd, Sem.run_pure, if_true] at h1
     cases h1; rfl
   · cases hs
 · cases hs; simp only [Op.equalIn, Sem.run_bind, underlying, run_program, Result.andThen_ok, hd, Sem.run_pure] at h1
   cases h1; rfl
 · cases hs; simp only [Op.equalIn, Sem.run_bind, underlying, run_program, Result.andThen_ok, hd, Sem.run_pure] at h1
   cases h1; rfl
 · cases hs
theorem qmL {t : TypeId} {d : TypeDesc} (hd : P.underlying t = some d) {k : AV} : ∀ (es : List (AV × AV × Nat)) (i : Nat) (r : Option (Nat × AV × AV × Nat)), findKey tab t k es i = .ok r -> ∀ r',
  Instr.findNow d (conc E k) (es.map (qfX E)) i = some r' -> r' = r.map fun x => (x.1, conc E x.2.2.1) := by
 intro es; induction es with
 | nil => intro i r hr r' hr'; simp only [findKey] at hr; cases hr; simp only [List.map_nil, Instr.findNow] at hr'; cases hr'; rfl
 | cons e es ih =>
  intro i r hr r' hr'; obtain ⟨a, v, n⟩ := e; simp only [findKey] at hr; obtain ⟨b, hb, hr⟩ := zz0.1 hr; simp only [List.map_cons, Instr.findNow] at hr'
  cases hsn : Instr.sameNow d (conc E k) (qfX E (a, v, n)).key with
  | none => rw [hsn] at hr'; cases hr'
  | some b' =>
   have := qne ok (E := E) hd hb hsn; subst this; rw [hsn] at hr'
   cases b' with
   | true => simp only [if_true] at hr hr'; cases hr; cases hr'; rfl
   | false => simp only [Bool.false_eq_true, if_false] at hr hr'; exact ih (i + 1) r hr r' hr'
theorem qbU {t : TypeId} {d : TypeDesc} (hd : P.underlying t = some d) {k : AV} {es : List (AV × AV × Nat)} {r : Option (Nat × AV × AV × Nat)} (hr : findKey tab t k es 0 = .ok r) (w : World) :
  (Instr.findKey t (conc E k) (es.map (qfX E))).run P w = .ok (r.map fun x => (x.1, conc E x.2.2.1)) w := by
 unfold Instr.findKey; simp only [Sem.run_bind, underlying, run_program, Result.andThen_ok, hd, Sem.run_pure]
 cases hn : Instr.findNow d (conc E k) (es.map (qfX E)) 0 with
 | none => exact qhp ok es 0 r hr w
 | some r' => rw [qmL ok hd es 0 r hr r' hn]; rfl
omit ok in
theorem qmK {t : TypeId} {k : AV} : ∀ (es : List (AV × AV × Nat)) (i : Nat) (j : Nat) (a v : AV) (n : Nat), findKey tab t k es i = .ok (some (j, a, v, n)) -> i <= j /\ es[j - i]? = some (a, v, n) := by
 intro es; induction es with
 | nil => intro i j a v n h; simp only [findKey] at h; cases h
 | cons e es ih =>
  intro i j a v n h; obtain ⟨a', v', n'⟩ := e; simp only [findKey] at h; obtain ⟨b, hb, h⟩ := zz0.1 h
  cases b with
  | true => simp only [if_true] at h; cases h; simp
  | false =>
   simp only [Bool.false_eq_true, if_false] at h; obtain ⟨h1, h2⟩ := ih (i + 1) j a v n h; refine ⟨by omega, ?_⟩; rw [show j - i = (j - (i + 1)) + 1 from by omega]; simpa using h2
theorem qm0 (H : HOK E h K w) {t : TypeId} {m k v : AV} {c : Bool} (hl : lookup tab h t m k c = .ok v) :
  (Instr.lookup t (conc E m) (conc E k) c).run P w = .ok (conc E v) w := by
 simp [lookup] at hl
theorem qeZ (H : HOK E h K w) {t : TypeId} {m k x : AV} {h' : AH} (hl : mapUpdate tab h t m k x = .ok h') :
  h'.next = h.next /\ ∃ w', (Instr.mapUpdate t (conc E m) (conc E k) (conc E x)).run P w = .ok () w' /\ HOK E h' K w' /\ Kept K w w' := by
 simp [mapUpdate] at hl
theorem qjF (H : HOK E h K w) {t : TypeId} {m k v : AV} {h' : AH} (hl : mapEntry tab h t m k = .ok (v, h')) :
  h'.next = h.next /\ ∃ w', (Instr.mapEntry t (conc E m) (conc E k)).run P w = .ok (conc E v) w' /\ HOK E h' K w' /\ Kept K w w' := by
 simp [mapEntry] at hl
theorem qhm (H : HOK E h K w) {t : TypeId} {m s x : AV} {h' : AH} (hl : entryStore h m s x = .ok h') :
  h'.next = h.next /\ ∃ w', (Instr.entryStore t (conc E m) (conc E s) (conc E x)).run P w = .ok () w' /\ HOK E h' K w' /\ Kept K w w' := by
 simp [entryStore] at hl
theorem qmE (H : HOK E h K w) {argTypes : Array TypeId} {t ty : TypeId} (h0 : argTypes[0]? = some t) {m k : AV} {h' : AH} (hl : delete tab h t m k = .ok h') :
   h'.next = h.next /\ ∃ w', (Builtin.delete_ argTypes ty #[conc E m, conc E k]).run P w = .ok (.tuple #[]) w' /\ HOK E h' K w' /\ Kept K w w' := by
 unfold delete at hl; obtain ⟨d, hd, hl⟩ := zz0.1 hl; have hP := ok.und t d (zz4.1 hd); split at hl
 · obtain ⟨_, hck, hl⟩ := zz0.1 hl
   cases hl; refine ⟨rfl, w, ?_, H, Kept.refl K w⟩; have hck' := qi8 ok (E := E) hck true w; unfold Builtin.delete_; simp only [h0, List.getElem?_toArray, List.getElem?_cons_zero, List.getElem?_cons_succ, Sem.run_bind, underlying, run_program, Result.andThen_ok, hP, Sem.run_pure, conc, hck']
 · rename_i kt et b _; obtain ⟨⟨es, c⟩, hm, hl⟩ := zz0.1 hl; obtain ⟨_, hck, hl⟩ := zz0.1 hl; obtain ⟨r, hr, hl⟩ := zz0.1 hl; have hm := qiC hm; have hw := H.map hm; have hnr : ¬ (AO.mp es c).ro := fun h => h
   obtain ⟨kd, hkd⟩ : ∃ kd, P.underlying kt = some kd := by
    unfold ckKey at hck; simp only [qhB] at hck; obtain ⟨x, hx, _⟩ := zz0.1 hck; exact ⟨x, ok.und _ _ (zz4.1 hx)⟩
   have hfind := qbU ok (E := E) hkd hr w; have hck' := qi8 ok (E := E) hck (es.map (qfX E)).toArray.isEmpty w
   cases r with
   | some y =>
    obtain ⟨i, a, v', n⟩ := y; simp only at hl
    cases hl; refine ⟨rfl, _, ?_, H.put hm hnr (c := .map ((es.take i ++ es.drop (i + 1)).map (qfX E)).toArray c) rfl, H.kept_put hm hnr _⟩; obtain ⟨_, hat⟩ := qmK es 0 i a v' n hr; simp only [Nat.sub_zero] at hat
    have hlt : i < es.length := (List.getElem?_eq_some_iff.1 hat).1; have her : (es.map (qfX E)).toArray.eraseIdxIfInBounds i = ((es.take i ++ es.drop (i + 1)).map (qfX E)).toArray := by
     apply Array.ext'; simp [Array.eraseIdxIfInBounds, hlt, List.eraseIdx_eq_take_drop_succ, List.map_take, List.map_drop]
    unfold Builtin.delete_; simp only [h0, List.getElem?_toArray, List.getElem?_cons_zero, List.getElem?_cons_succ, Sem.run_bind, underlying, run_program, Result.andThen_ok, hP, Sem.run_pure, conc, hck', qd6 hw, List.toList_toArray, hfind, Option.map_some, qfB hw, her]
   | none =>
    simp only at hl
    cases hl; refine ⟨rfl, w, ?_, H, Kept.refl K w⟩; unfold Builtin.delete_; simp only [h0, List.getElem?_toArray, List.getElem?_cons_zero, List.getElem?_cons_succ, Sem.run_bind, underlying, run_program, Result.andThen_ok, hP, Sem.run_pure, conc, hck', qd6 hw, List.toList_toArray, hfind, Option.map_none, qfB hw, qq0 hw]
 · cases hl
theorem qkU (H : HOK E h K w) {t : TypeId} {x v : AV} {h' : AH} (hl : rangeOp tab h t x = .ok (v, h')) (hE : E.blk h.next = w.heap.size) :
  h'.next = h.next + 1 /\ ∃ w', (Instr.range t (conc E x)).run P w = .ok (conc E v) w' /\ HOK E h' K w' /\ Kept K w w' := by
 simp [rangeOp] at hl
end
end Go.Am
namespace Go.Am
open Go.RowKit
variable [Inhabited DrP]
section
variable {P : Program} {tab : Tab} (ok : TabOK P tab) {E : Env} {h : AH} {K : KS} {w : World}
theorem qek {ts : T AV} {ρ : Operand -> Value} (hρ : ∀ x v, ev ts x = .ok v -> ρ x = conc E v) : ∀ (l : List Operand) (vs : List AV), evs ts l = .ok vs -> l.map ρ = qai E vs := by
 intro l; induction l with
 | nil => intro vs h; simp only [evs] at h; cases h; rfl
 | cons x l ih =>
  intro vs h; simp only [evs] at h; obtain ⟨v, hv, h⟩ := zz0.1 h; obtain ⟨vs', hvs, h⟩ := zz0.1 h
  cases h; simp [hρ x v hv, ih vs' hvs]
theorem qgG {ts : T AV} {ρ : Operand -> Value} (hρ : ∀ x v, ev ts x = .ok v -> ρ x = conc E v) : ∀ (l : List (Nat × Operand)) (vs : List (Nat × AV)), qcd ts l = .ok vs ->
  l.map (fun p => (p.1, ρ p.2)) = vs.map fun p => (p.1, conc E p.2) := by
 intro l; induction l with
 | nil => intro vs h; simp only [qcd] at h; cases h; rfl
 | cons x l ih =>
  intro vs h; obtain ⟨i, x⟩ := x; simp only [qcd] at h; obtain ⟨v, hv, h⟩ := zz0.1 h; obtain ⟨vs', hvs, h⟩ := zz0.1 h
  cases h; simp [hρ x v hv, ih vs' hvs]
theorem qkA (H : HOK E h K w) {it v : AV} (he : entryOp h it = .ok v) : (Instr.entry (conc E it)).run P w = .ok (conc E v) w := by
 simp [entryOp] at he
theorem qm3 {k : IntKind} : ∀ (l : List AV) (x : Int) (v : AV), qgT k x l = .ok v -> ((qai E l).foldlM Builtin.min2 (.int k x)).run P w = .ok (conc E v) w := by
 intro l; induction l with
 | nil => intro x v h; simp only [qgT] at h; cases h; rfl
 | cons a l ih =>
  intro x v h
  cases a <;> simp only [qgT] at h <;> (try cases h)
  simp only [concL_cons, List.foldlM_cons, Sem.run_bind, conc, Builtin.min2, Sem.run_pure, Result.andThen_ok]; exact ih _ v h
theorem qm2 {k : IntKind} : ∀ (l : List AV) (x : Int) (v : AV), qgS k x l = .ok v -> ((qai E l).foldlM Builtin.max2 (.int k x)).run P w = .ok (conc E v) w := by
 intro l; induction l with
 | nil => intro x v h; simp only [qgS] at h; cases h; rfl
 | cons a l ih =>
  intro x v h
  cases a <;> simp only [qgS] at h <;> (try cases h)
  simp only [concL_cons, List.foldlM_cons, Sem.run_bind, conc, Builtin.max2, Sem.run_pure, Result.andThen_ok]; exact ih _ v h
theorem qiM (H : HOK E h K w) {argTypes : Array TypeId} {type : TypeId} {x v : AV} {h' : AH} (hs : qg7 h x = .ok (v, h')) :
   h' = h /\ (Builtin.unsafeSliceData_ argTypes type #[conc E x]).run P w = .ok (conc E v) w := by
 unfold qg7 at hs; split at hs
 · cases hs; exact ⟨rfl, rfl⟩
 · rename_i b off n cap; obtain ⟨c, hc, hs⟩ := zz0.1 hs; obtain ⟨_, h0, hs⟩ := zz0.1 hs
   cases hs; refine ⟨rfl, ?_⟩; have hcap := qgv H hc; have h0 := zz3.1 h0; have : cap.val (E.cap b) ≠ 0 := by
    intro e; rw [e] at hcap; have : c = 0 := by omega
    subst this; simp at h0
   obtain ⟨k, hk⟩ : ∃ k, cap.val (E.cap b) = k + 1 := ⟨cap.val (E.cap b) - 1, by omega⟩; simp only [conc]; rw [hk]; rfl
 · cases hs
theorem qnS (P : Program) : ∃ d, P.depth = d + 1 := ⟨2 * (P.types.size + Made.depth) + 1, rfl⟩
include ok in
theorem qfY (H : HOK E h K w) {argTypes : Array TypeId} {t ty : TypeId} (h0 : argTypes[0]? = some t) {x y v : AV} {h' : AH} (hs : unsafeString tab h t x y = .ok (v, h')) :
  h'.next = h.next /\ ∃ w', (Builtin.unsafeString_ argTypes ty #[conc E x, conc E y]).run P w = .ok (conc E v) w' /\ HOK E h' K w' /\ Kept K w w' := by
 simp [unsafeString] at hs
def bnew (P : Program) (w : World) (b : Builtin) (argTypes : Array TypeId) (X : Value) (m : Nat) : Nat × Nat :=
 match b with
 | .append => qea w X m (P.elem (argTypes.getD 0 0))
 | _ => (w.heap.size, 0)
def qj4 : List AV -> Nat
 | [_, .str s] => s.length
 | [_, .sl _ _ n _] => n
 | [_, .int _ (.ofNat n)] => n
 | _ => 0
include ok
theorem qkq (H : HOK E h K w) {b : Builtin} {argTypes : Array TypeId} {args : List AV} {v : AV} {h' : AH} (hb : builtin tab b argTypes args h = .ok (v, h'))
   (hE : h.next < h'.next -> E.blk h.next = (bnew P w b argTypes (((qai E args)[0]?).getD undef) (qj4 args)).1 /\ E.cap h.next = (bnew P w b argTypes (((qai E args)[0]?).getD undef) (qj4 args)).2)
   (ty : TypeId) (consts : Array Bool) :
   (h.next <= h'.next /\ h'.next <= h.next + 1) /\ ∃ w', (Go.builtin b argTypes ty consts (qai E args).toArray).run P w = .ok (.value (conc E v)) w' /\ HOK E h' K w' /\ Kept K w w' := by
 unfold builtin at hb; split at hb
 ·
   rename_i x; obtain ⟨t, ht, hb⟩ := zz0.1 hb; obtain ⟨u, hu, hb⟩ := zz0.1 hb; have ht := zz4.1 ht; have hP := ok.und t u (zz4.1 hu); have hgo : ∀ (n : Nat), (Builtin.len_ argTypes ty (qai E [x]).toArray).run P w = .ok (Go.goInt n) w ->
       (Go.builtin .len argTypes ty consts (qai E [x]).toArray).run P w = .ok (.value (conc E (goInt n))) w := by
     intro n hn; simp only [Go.builtin, Sem.run_bind, hn, Result.andThen_ok, Sem.run_pure]; rfl
   split at hb
   · rename_i e; obtain ⟨d, hd, hb⟩ := zz0.1 hb; have hPe := ok.und e d (zz4.1 hd); split at hb
     · cases hb; refine ⟨by omega, w, hgo _ ?_, H, Kept.refl K w⟩; unfold Builtin.len_; simp [ht, underlying, hP, hPe]
     · cases hb
   · obtain ⟨n, hn, hb⟩ := zz0.1 hb
     cases hb; refine ⟨by omega, w, hgo _ ?_, H, Kept.refl K w⟩; unfold Builtin.len_; unfold lenOf at hn; split at hn <;> (try cases hn)
     case h_7 =>
       obtain ⟨⟨es, c⟩, hm, hn⟩ := zz0.1 hn
       cases hn; have hw := H.map (qiC hm); simp [ht, underlying, hP, conc, qd6 hw]
     all_goals simp [ht, underlying, hP, conc, qfC]
 ·
   rename_i x; obtain ⟨t, ht, hb⟩ := zz0.1 hb; obtain ⟨u, hu, hb⟩ := zz0.1 hb; have ht := zz4.1 ht; have hP := ok.und t u (zz4.1 hu); split at hb
   · cases hb; refine ⟨by omega, w, ?_, H, Kept.refl K w⟩; simp [Go.builtin, Builtin.cap_, ht, underlying, hP, conc, goInt, Go.goInt]
   · cases hb; refine ⟨by omega, w, ?_, H, Kept.refl K w⟩; simp [Go.builtin, Builtin.cap_, ht, underlying, hP, conc, goInt, Go.goInt, Cap.val]
   · cases hb
 ·
   rename_i x y; obtain ⟨t, ht, hb⟩ := zz0.1 hb; obtain ⟨u, hu, hb⟩ := zz0.1 hb; have ht := zz4.1 ht; have hu := zz4.1 hu; obtain ⟨du, hdu, hb⟩ := zz0.1 hb; have hPu := ok.und u du (zz4.1 hdu); split at hb
   · rename_i ki _; obtain ⟨dt, hdt, hb⟩ := zz0.1 hb; have hPt := ok.und t dt (zz4.1 hdt); split at hb
     · rename_i e; unfold qhw at hb; obtain ⟨n, hn, hb⟩ := zz0.1 hb; obtain ⟨by_, hby, hb⟩ := zz0.1 hb; obtain ⟨_, hnz, hb⟩ := zz0.1 hb; obtain ⟨m, hm, hb⟩ := zz0.1 hb; obtain ⟨_, hlim, hb⟩ := zz0.1 hb; obtain ⟨z, hz, hb⟩ := zz0.1 hb; obtain ⟨zc, hzc, hb⟩ := zz0.1 hb; obtain ⟨_, hzl, hb⟩ := zz0.1 hb; have hnz : n ≠ 0 := by
         have := zz3.1 hnz; rintro rfl; simp at this
       have hlim := zz3.1 hlim; rw [Bool.and_eq_true] at hlim; have hl1 := Nat.le_of_ble_eq_true hlim.1; have hl2 := Nat.le_of_ble_eq_true hlim.2; have hzl := Nat.eq_of_beq_eq_true (zz3.1 hzl); obtain ⟨i, hi, hin⟩ := ok.siz _ _ (zz4.1 hn); obtain ⟨i', hi', hiby⟩ := ok.byt _ _ (zz4.1 hby); rw [hi] at hi'; cases hi'; obtain ⟨i', hi', hzi⟩ := ok.zer _ _ (zz4.1 hz); rw [hi] at hi'; cases hi'; have hsl : qj4 [x, y] = m := by
         obtain ⟨k, rfl⟩ := qc0 hm; rfl
       have hel : P.elem (argTypes.getD 0 0) = e := by
         have : argTypes.getD 0 0 = t := by
           rw [Array.getD_eq_getD_getElem?, ht]; rfl
         rw [this]; simp [Program.elem, hPt]
       have hE' : h.next < h'.next -> E.blk h.next = (qea w (conc E x) m e).1 /\ E.cap h.next = (qea w (conc E x) m e).2 := by
         intro hlt; have := hE hlt; simp only [bnew, hsl, hel, concL_cons, List.getElem?_cons_zero, Option.getD_some] at this; exact this
       obtain ⟨h1, w', h2, h3, h4⟩ := qfJ ok H (ty := ty) (argTypes := argTypes) (Y := conc E y) hn hnz (zz4.1 hby)
         (fun i' hi' => by
           rw [hi] at hi'; cases hi'; exact qv2 ht hu hPt hPu hi (hzi E) hzc (by rw [hzl, hin]) (by rw [hin]; exact hnz) hm hl1 (by rw [hiby]; exact hl2)) hb hE'
       refine ⟨h1, w', ?_, h3, h4⟩; simp only [Go.builtin, Sem.run_bind]; have : (qai E [x, y]).toArray = #[conc E x, conc E y] := rfl; rw [this, h2]; rfl
     · cases hb
   · rename_i hni; obtain ⟨dt, hdt, hb⟩ := zz0.1 hb; have hPt := ok.und t dt (zz4.1 hdt); split at hb
     · rename_i e; obtain ⟨n, hn, hb⟩ := zz0.1 hb; obtain ⟨by_, hby, hb⟩ := zz0.1 hb; obtain ⟨_, hnz, hb⟩ := zz0.1 hb; obtain ⟨⟨m, news⟩, hs, hb⟩ := zz0.1 hb; have hnz : n ≠ 0 := by
         have := zz3.1 hnz; rintro rfl; simp at this
       have hm : qj4 [x, y] = m := by
         cases y <;> simp only [source] at hs <;> (try cases hs) <;> (try rfl)
         · obtain ⟨_, _, hs⟩ := zz0.1 hs
           cases hs; rfl
         · obtain ⟨_, _, hs⟩ := zz0.1 hs
           cases hs; rfl
         · split at hs <;> first | (rename_i hv; cases hv; cases hs; rfl) | (rename_i hv; cases hv; done) | (cases hs; rfl) | (cases hs; done)
       have hel : P.elem (argTypes.getD 0 0) = e := by
         have : argTypes.getD 0 0 = t := by
           rw [Array.getD_eq_getD_getElem?, ht]; rfl
         rw [this]; simp [Program.elem, hPt]
       have hE' : h.next < h'.next -> E.blk h.next = (qea w (conc E x) m e).1 /\ E.cap h.next = (qea w (conc E x) m e).2 := by
         intro hlt; have := hE hlt; simp only [bnew, hm, hel, concL_cons, List.getElem?_cons_zero, Option.getD_some] at this; exact this
       obtain ⟨h1, w', h2, h3, h4⟩ := qfJ ok H (ty := ty) (argTypes := argTypes) (Y := conc E y) hn hnz (zz4.1 hby)
         (fun i hi => by
           obtain ⟨i', hi', hin⟩ := ok.siz _ _ (zz4.1 hn); rw [hi] at hi'; cases hi'; exact qvZ ht hu hPt hPu (fun k e => hni k e) hi hin hs) hb hE'
       refine ⟨h1, w', ?_, h3, h4⟩; simp only [Go.builtin, Sem.run_bind]; have : (qai E [x, y]).toArray = #[conc E x, conc E y] := rfl; rw [this, h2]; rfl
     · cases hb
 ·
   rename_i x y; obtain ⟨t, ht, hb⟩ := zz0.1 hb; obtain ⟨u, hu, hb⟩ := zz0.1 hb; have ht := zz4.1 ht; have hP := ok.und t u (zz4.1 hu); split at hb
   · rename_i e; obtain ⟨n, hn, hb⟩ := zz0.1 hb; obtain ⟨⟨m, cs⟩, hs, hb⟩ := zz0.1 hb; obtain ⟨hnl, hlen, hf⟩ := qh1 (P := P) (E := E) (K := K) hs; have hgo : ∀ (base : Option Addr) (dLen c : Nat), conc E x = .slice base dLen c -> (Builtin.copy_ argTypes ty (qai E [x, y]).toArray).run P w =
         ((match base with
           | none => (Result.ok () w : Result Unit)
           | some a => (storeCells a (qai E (cs.take (Nat.min m dLen * n)))).run P w).andThen fun _ w' => .ok (Go.goInt (Nat.min m dLen)) w') := by
       intro base dLen c hx; unfold Builtin.copy_; have h2 : (qai E [x, y]).toArray = #[conc E x, conc E y] := rfl; rw [h2]; simp only [ht, List.getElem?_toArray, List.getElem?_cons_zero, List.getElem?_cons_succ, Sem.run_bind, underlying, run_program, Result.andThen_ok, hP, Sem.run_pure, hx, hlen, qbD ok hn,
         hf w H (Nat.min m dLen) (Nat.min_le_left _ _)]
       cases base <;> simp [Result.andThen]
     cases x with
     | nils =>
       simp only at hb
       cases hb; refine ⟨by omega, w, ?_, H, Kept.refl K w⟩; simp only [Go.builtin, Sem.run_bind]; rw [hgo none 0 0 rfl]; simp [Result.andThen, goInt, conc, Go.goInt]
     | emp b off l n' k =>
       simp only at hb
       cases hb; refine ⟨by omega, w, ?_, H, Kept.refl K w⟩; simp only [Go.builtin, Sem.run_bind]; rw [hgo _ 0 _ rfl]; simp [Result.andThen, goInt, conc, Go.goInt, storeCells]
     | sl b off len cap =>
       simp only at hb; obtain ⟨h2, hw, hb⟩ := zz0.1 hb
       cases hb; obtain ⟨w', hst, H', hk⟩ := qd8 (P := P) H hw; refine ⟨by rw [qdo hw]; omega, w', ?_, H', hk⟩; simp only [Go.builtin, Sem.run_bind]; rw [hgo _ len _ rfl]; simp only [hst, Result.andThen_ok]; rfl
     | _ => cases hb
   · cases hb
 ·
   rename_i x; obtain ⟨t, ht, hb⟩ := zz0.1 hb; obtain ⟨u, hu, hb⟩ := zz0.1 hb; have ht := zz4.1 ht; have hP := ok.und t u (zz4.1 hu); have h2 : (qai E [x]).toArray = #[conc E x] := rfl; split at hb
   · cases hb; refine ⟨by omega, w, ?_, H, Kept.refl K w⟩; simp [Go.builtin, Builtin.clear_, ht, underlying, hP, conc]
   · cases hb; refine ⟨by omega, w, ?_, H, Kept.refl K w⟩; simp [Go.builtin, Builtin.clear_, ht, underlying, hP, conc]
   · cases hb; refine ⟨by omega, w, ?_, H, Kept.refl K w⟩; simp [Go.builtin, Builtin.clear_, ht, underlying, hP, conc]
   · obtain ⟨⟨es, c⟩, hm, hb⟩ := zz0.1 hb
     cases hb; have hm := qiC hm; have hw := H.map hm; have hnr : ¬ (AO.mp es c).ro := fun h => h
     refine ⟨by simp, _, ?_, H.put hm hnr (c := .map #[] c) rfl, H.kept_put hm hnr _⟩; simp only [Go.builtin, Builtin.clear_, h2, ht, List.getElem?_toArray, List.getElem?_cons_zero, Sem.run_bind, underlying, run_program, Result.andThen_ok, hP, Sem.run_pure, conc, qd6 hw, qfB hw]; rfl
   · rename_i e b off len cap _ _; obtain ⟨z, hz, hb⟩ := zz0.1 hb; obtain ⟨zc, hzc, hb⟩ := zz0.1 hb; obtain ⟨h2', hw, hb⟩ := zz0.1 hb
     cases hb; obtain ⟨w', hst, H', hk⟩ := qd8 (P := P) H hw; refine ⟨by rw [qdo hw]; omega, w', ?_, H', hk⟩; have hzz : Builtin.zeroCells (conc E z).cells len = (qai E (rep len zc)).toArray := by
       rw [qb3 hzc, qdC]; by_cases h0 : 0 < zc.length
       · exact qfU len _ (by simpa using h0)
       · have : zc = [] := List.eq_nil_of_length_eq_zero (by omega); subst this; have : repV len [] = [] := List.eq_nil_of_length_eq_zero (by simp [qer]); simp [Builtin.zeroCells, this]
     simp only [Go.builtin, Builtin.clear_, h2, ht, List.getElem?_toArray, List.getElem?_cons_zero, Sem.run_bind, underlying, run_program, Result.andThen_ok, hP, Sem.run_pure, conc]
     cases len with
     | zero =>
       simp only [rep, concL_nil, storeCells] at hst
       cases hst; rfl
     | succ len =>
       simp only [Sem.run_bind, qfj ok hz E, Result.andThen_ok, hzz, List.toList_toArray, hst, Sem.run_pure]; rfl
   · cases hb
 ·
   rename_i m k; obtain ⟨t, ht, hb⟩ := zz0.1 hb; obtain ⟨h2, hd, hb⟩ := zz0.1 hb
   cases hb; obtain ⟨h3, w', h4, h5, h6⟩ := qmE ok H (ty := ty) (zz4.1 ht) hd; refine ⟨by omega, w', ?_, h5, h6⟩; have : (qai E [m, k]).toArray = #[conc E m, conc E k] := rfl; simp only [Go.builtin, Sem.run_bind, this, h4, Result.andThen_ok, Sem.run_pure]; rfl
 ·
   obtain ⟨h1, h2⟩ := qiM (P := P) H (type := ty) (argTypes := argTypes) hb; subst h1; refine ⟨by omega, w, ?_, H, Kept.refl K w⟩; simp only [Go.builtin, Sem.run_bind]; rw [show ∀ x : AV, (qai E [x]).toArray = #[conc E x] from fun _ => rfl, h2]; rfl
 ·
   obtain ⟨t, ht, hb⟩ := zz0.1 hb; obtain ⟨h1, w', h2, h3, h4⟩ := qfY ok H (ty := ty) (zz4.1 ht) hb; refine ⟨by omega, w', ?_, h3, h4⟩; simp only [Go.builtin, Sem.run_bind]; rw [show ∀ x y : AV, (qai E [x, y]).toArray = #[conc E x, conc E y] from fun _ _ => rfl, h2]; rfl
 ·
   obtain ⟨v', hv, hb⟩ := zz0.1 hb
   cases hb; refine ⟨by omega, w, ?_, H, Kept.refl K w⟩; simp only [Go.builtin, Sem.run_bind, Builtin.min_, List.toList_toArray, concL_cons, conc]; rw [qm3 _ _ _ hv]; rfl
 · obtain ⟨v', hv, hb⟩ := zz0.1 hb
   cases hb; refine ⟨by omega, w, ?_, H, Kept.refl K w⟩; simp only [Go.builtin, Sem.run_bind, Builtin.max_, List.toList_toArray, concL_cons, conc]; rw [qm2 _ _ _ hv]; rfl
 · cases hb
end
end Go.Am
namespace Go.Am
open Go.RowKit
variable [Inhabited DrP]
section
variable {P : Program} {tab : Tab} (ok : TabOK P tab) {E : Env} {h : AH} {K : KS} {w : World}
theorem qkK {e count s : Nat} (hs : P.cellsOf e = s) (h0 : s ≠ 0) (hl : 1 <= count) : liesAt P P.depth e count 0 e 1 = true := by
 obtain ⟨d, hd⟩ := qnS P; have h1 : sameLayout P P.depth e e = true := by
  rw [hd]; simp [sameLayout]
 have h2 : rowAt P (sameLayout P P.depth · e) P.depth e count 0 1 = true := by
  conv => lhs; arg 3; rw [hd]
  unfold rowAt; simp [hs, h0, h1, hl]
 conv => lhs; arg 2; rw [hd]
 unfold liesAt; simp only [Bool.or_eq_true]; exact Or.inl h2
include ok
theorem qin (H : HOK E h K w) {src dst t : TypeId} (hs : P.underlying src = some (.pointer t)) (hd : P.underlying dst = some .unsafePointer) {x v : AV} {h' : AH}
   (hc : qgC tab h t x = .ok (v, h')) : h' = h /\ (Go.convert src dst (conc E x)).run P w = .ok (conc E v) w := by
 unfold qgC at hc; split at hc
 · cases hc; refine ⟨rfl, ?_⟩; simp [Go.convert, Conv.unsafePointer, underlying, hs, hd, conc]
 · rename_i b off; obtain ⟨⟨cs, e, sz, ext, bk⟩, hca, hc1⟩ := zz0.1 hc; obtain ⟨n, hn, hc2⟩ := zz0.1 hc1; obtain ⟨_, hck, hc3⟩ := zz0.1 hc2; clear hc hc1 hc2
   cases hc3; refine ⟨rfl, ?_⟩; have hck := zz3.1 hck; simp only [Bool.and_eq_true, Bool.not_eq_true', Nat.blt_eq] at hck; have hn0 : n ≠ 0 := by
    intro e; subst e; simp at hck
   have hlt : off < cs.length := by simpa using hck.2
   obtain ⟨arr, fz, hw, ⟨rest, hrest⟩, hext, hmk⟩ := H.cells (qau hca); have hsz : cs.length <= arr.size := by
    have := congrArg List.length hrest; simp at this; omega
   obtain ⟨i, hi, hin⟩ := ok.siz t n (zz4.1 hn); have : ¬ (arr.size <= off) := by omega
   simp [Go.convert, Conv.unsafePointer, Conv.seenAt, viewAt, cellsIn, World.shape?, hw, underlying, hs, hd, conc, sizeOf, typeInfo, hi, hin, hn0, this]
 · cases hc
theorem qgB (H : HOK E h K w) {src dst u : TypeId} (hs : P.underlying src = some .unsafePointer) (hd : P.underlying dst = some (.pointer u)) {x v : AV} {h' : AH}
   (hc : qef tab h u x = .ok (v, h')) : h' = h /\ (Go.convert src dst (conc E x)).run P w = .ok (conc E v) w := by
 unfold qef at hc; split at hc
 · cases hc; refine ⟨rfl, ?_⟩; simp [Go.convert, Conv.unsafePointer, underlying, hs, hd, conc]
 · rename_i b off; obtain ⟨⟨cs, e, sz, ext, bk⟩, hca, hc1⟩ := zz0.1 hc; obtain ⟨n, hn, hc2⟩ := zz0.1 hc1; obtain ⟨_, hck, hc3⟩ := zz0.1 hc2; clear hc hc1 hc2
   cases hc3; refine ⟨rfl, ?_⟩; have hck := zz3.1 hck; simp only [Bool.and_eq_true, Bool.not_eq_true'] at hck; obtain ⟨⟨⟨he, hn1⟩, ho⟩, hle⟩ := hck; have hn0 : n ≠ 0 := by
    intro e; subst e; simp at hn1
   have he := Nat.eq_of_beq_eq_true he; have ho := Nat.eq_of_beq_eq_true ho; have hle := Nat.le_of_ble_eq_true hle
   try simp only at he hle
   subst he ho; obtain ⟨arr, fz, hw, ⟨rest, hrest⟩, hext, hmk⟩ := H.cells (qau hca); have hsz : cs.length <= arr.size := by
    have := congrArg List.length hrest; simp at this; omega
   obtain ⟨i, hi, hin⟩ := ok.siz e n (zz4.1 hn); have hcells : P.cellsOf e = n := by simp [Program.cellsOf, hi, hin]
   have h1 : 1 <= arr.size / n := by
    rw [Nat.le_div_iff_mul_le (by omega)]; omega
   have hl := qkK (P := P) hcells hn0 h1; simp [Go.convert, Conv.unsafePointer, Conv.seenAt, viewAt, World.shape?, hw, underlying, hs, hd, conc, sizeOf, typeInfo, hi, hin, hn0, variablesAt, hcells, hl]
 · cases hc
theorem qhl (H : HOK E h K w) {src dst : TypeId} {x v : AV} {h' : AH} (hc : qbh tab h src dst x = .ok (v, h'))
   (hE : h.next < h'.next -> E.blk h.next = w.heap.size /\ E.cap h.next = grownCap w (qmj x) 0 (P.elem dst)) :
   (h.next <= h'.next /\ h'.next <= h.next + 1) /\ ∃ w', (Go.convert src dst (conc E x)).run P w = .ok (conc E v) w' /\ HOK E h' K w' /\ Kept K w w' := by
 unfold qbh at hc; obtain ⟨d, hd, hc1⟩ := zz0.1 hc; have hPd := ok.und dst d (zz4.1 hd); split at hc1
 · obtain ⟨s, hs, hc2⟩ := zz0.1 hc1; have hPs := ok.und src s (zz4.1 hs); split at hc2
   · obtain ⟨h1, h2⟩ := qin ok H hPs hPd hc2; subst h1; exact ⟨by omega, w, h2, H, Kept.refl K w⟩
   · cases hc2
 · obtain ⟨s, hs, hc2⟩ := zz0.1 hc1; have hPs := ok.und src s (zz4.1 hs); split at hc2
   · obtain ⟨h1, h2⟩ := qgB ok H hPs hPd hc2; subst h1; exact ⟨by omega, w, h2, H, Kept.refl K w⟩
   · cases hc2
 · exact qkt ok H hc1 hE
end
end Go.Am
namespace Go.Am
open Go.RowKit
variable [Inhabited DrP]
section
variable {P : Program} {tab : Tab} (ok : TabOK P tab) {E : Env} {h : AH} {K : KS} {w : World}
theorem ofV {ρ : Operand -> Value} {o : Oper} {s : Sem Value} {a : Value} {w w' : World} (hx : execOp ρ o = (do pure (.value (<- s)))) (hs : s.run P w = .ok a w') :
  (execOp ρ o).run P w = .ok (.value a) w' := by
 rw [hx]; simp [hs]
theorem ofU {ρ : Operand -> Value} {o : Oper} {s : Sem Unit} {w w' : World} (hx : execOp ρ o = (do s; pure .skip)) (hs : s.run P w = .ok () w') :
  (execOp ρ o).run P w = .ok .skip w' := by
 rw [hx]; simp [hs]
def Does (P : Program) (s : Sem Next) (E : Env) (K : KS) (w : World) (v : AV) (h' : AH) : Prop :=
 ∃ r w', s.run P w = .ok r w' /\ qno r (conc E v) /\ HOK E h' K w' /\ Kept K w w'
theorem Does.value {s : Sem Next} {v : AV} {h' : AH} {w' : World} (hs : s.run P w = .ok (.value (conc E v)) w') (H : HOK E h' K w') (hk : Kept K w w') : Does P s E K w v h' :=
 ⟨_, w', hs, .inl rfl, H, hk⟩
theorem Does.same {s : Sem Next} {v : AV} (H : HOK E h K w) (hs : s.run P w = .ok (.value (conc E v)) w) : Does P s E K w v h :=
 ⟨_, w, hs, .inl rfl, H, Kept.refl K w⟩
theorem Does.unit {s : Sem Next} {h' : AH} {w' : World} (hs : s.run P w = .ok .skip w') (H : HOK E h' K w') (hk : Kept K w w') : Does P s E K w (.tup []) h' :=
 ⟨_, w', hs, .inr ⟨rfl, rfl⟩, H, hk⟩
theorem qhG (ok : TabOK P tab) {t : TypeId} {f : Nat} {fd : Field} (hf : qfs tab t f = .ok fd) : ∃ fs, P.underlying t = some (.struct fs) /\ fs[f]? = some fd := by
 unfold qfs at hf; obtain ⟨d, hd, hf⟩ := zz0.1 hf; have hP := ok.und t d (zz4.1 hd); split at hf
 · exact ⟨_, hP, zz4.1 hf⟩
 · cases hf
theorem qtM {s : List UInt8} {i : Nat} {b : UInt8} (h : s[i]? = some b) : (⟨s.toArray⟩ : ByteArray)[i]? = some b := by
 obtain ⟨hlt, rfl⟩ := List.getElem?_eq_some_iff.1 h; exact getElem?_pos (⟨s.toArray⟩ : ByteArray) i (show i < (⟨s.toArray⟩ : ByteArray).size from hlt)
def Good (P : Program) (o : Oper) (ts : T AV) (h : AH) (v : AV) (h' : AH) (w : World) (ρ : Operand -> Value) : Prop :=
 ∃ f : Nat × Nat, ∀ E K, HOK E h K w -> (∀ x u, ev ts x = .ok u -> ρ x = conc E u) ->
  (h.next < h'.next -> E.blk h.next = f.1 /\ E.cap h.next = f.2) -> (h.next <= h'.next /\ h'.next <= h.next + 1) /\ Does P (execOp ρ o) E K w v h'
theorem qe1 {e : TypeId} {cs : List AV} {ext : Bool} {bk : BK} {h' : AH} {b : Nat} (hn : newRow tab h e cs ext bk = .ok (h', b)) : h.next < h'.next := by
 obtain ⟨n, hs, rfl, rfl⟩ := qaC hn; simp
theorem qh7 {t : TypeId} {len : Nat} {ps : List (Nat × AV)} {v : AV} {h' : AH} (hb : buildSlice tab h t len ps = .ok (v, h')) : h.next < h'.next := by
 unfold buildSlice at hb; obtain ⟨u, hu, hb1⟩ := zz0.1 hb; split at hb1
 · obtain ⟨n, _, hb2⟩ := zz0.1 hb1; obtain ⟨_, _, hb3⟩ := zz0.1 hb2; obtain ⟨_, _, hb4⟩ := zz0.1 hb3; obtain ⟨_, _, hb5⟩ := zz0.1 hb4; obtain ⟨_, _, hb6⟩ := zz0.1 hb5; obtain ⟨_, _, hb7⟩ := zz0.1 hb6; obtain ⟨⟨h1, b⟩, hn, hb8⟩ := zz0.1 hb7
   cases hb8; exact qe1 hn
 · cases hb1
theorem qjE {t : TypeId} {l c v : AV} {h' : AH} (hb : makeSlice tab h t l c = .ok (v, h')) : h.next < h'.next := by
 unfold makeSlice at hb; obtain ⟨u, hu, hb1⟩ := zz0.1 hb; split at hb1
 · obtain ⟨n, _, hb2⟩ := zz0.1 hb1; obtain ⟨_, _, hb3⟩ := zz0.1 hb2; obtain ⟨_, _, hb4⟩ := zz0.1 hb3; obtain ⟨_, _, hb5⟩ := zz0.1 hb4; obtain ⟨_, _, hb6⟩ := zz0.1 hb5; obtain ⟨_, _, hb7⟩ := zz0.1 hb6; obtain ⟨_, _, hb8⟩ := zz0.1 hb7; obtain ⟨_, _, hb9⟩ := zz0.1 hb8; obtain ⟨⟨h1, b⟩, hn, hb10⟩ := zz0.1 hb9
   cases hb10; exact qe1 hn
 · cases hb1
theorem qnd {t : TypeId} {x v : AV} {h' : AH} (hb : rangeOp tab h t x = .ok (v, h')) : h.next < h'.next := by
 simp [rangeOp] at hb
theorem qgV (ok : TabOK P tab) {e : TypeId} {z : AV} {zc : List AV} (hzc : z.cells = .ok zc) {h1 : AH} {b : Nat} (hn : newRow tab h e zc = .ok (h1, b)) (H : HOK E h K w) (hE : E.blk h.next = w.heap.size) :
  b = h.next /\ h1.next = h.next + 1 /\ (Go.newVar e (conc E z)).run P w = .ok ⟨E.blk h.next, 0, none⟩ (w.alloc (.cells (qai E zc).toArray e)) /\ HOK E h1 K (w.alloc (.cells (qai E zc).toArray e)) /\ Kept K w (w.alloc (.cells (qai E zc).toArray e)) := by
 obtain ⟨n, hs, rfl, rfl⟩ := qaC hn; refine ⟨rfl, rfl, ?_, (qgW H hE zc e n).1, Kept.alloc H.kb _⟩; rw [Go.newVar, qbX, qb3 hzc, hE]
set_option maxHeartbeats 1000000 in
include ok in
theorem qfT {ts : T AV} {o : Oper} {v : AV} {h' : AH} (hp : qaH tab ts h o = .ok (v, h')) (w : World) (ρ : Operand -> Value) : Good P o ts h v h' w ρ := by
 unfold qaH at hp
 cases hop : o.op <;> rw [hop] at hp <;> dsimp only at hp
 case move x =>
  obtain ⟨u, hu, hp1⟩ := zz0.1 hp
  cases hp1; exact ⟨(0, 0), fun E K H hρ _ => ⟨by omega, Does.same H (by simp [execOp, hop, hρ _ _ hu])⟩⟩
 case assign x =>
  obtain ⟨u, hu, hp1⟩ := zz0.1 hp
  cases hp1; exact ⟨(0, 0), fun E K H hρ _ => ⟨by omega, Does.same H (by simp [execOp, hop, hρ _ _ hu])⟩⟩
 case pick c a b =>
  obtain ⟨u, hu, hp1⟩ := zz0.1 hp; refine ⟨(0, 0), fun E K H hρ _ => ?_⟩; have hc := hρ _ _ hu; split at hp1
  · obtain ⟨x, hx, hp2⟩ := zz0.1 hp1
    cases hp2; exact ⟨by omega, Does.same H (by simp [execOp, hop, hρ _ _ hx, hc, conc, asBool])⟩
  · obtain ⟨x, hx, hp2⟩ := zz0.1 hp1
    cases hp2; exact ⟨by omega, Does.same H (by simp [execOp, hop, hρ _ _ hx, hc, conc, asBool])⟩
  · cases hp1
 case alloc e =>
  obtain ⟨z, hz, hp1⟩ := zz0.1 hp; obtain ⟨zc, hzc, hp2⟩ := zz0.1 hp1; obtain ⟨⟨h1, b⟩, hn, hp3⟩ := zz0.1 hp2
  cases hp3; refine ⟨(w.heap.size, 0), fun E K H hρ hE => ?_⟩; have hE1 : E.blk h.next = w.heap.size := (hE (qe1 hn)).1; obtain ⟨rfl, h2, h3, h4, h5⟩ := qgV ok hzc hn H hE1; exact ⟨by simp only; omega, Does.value (ofV (s := Instr.alloc e true (.tuple #[])) (by simp [execOp, hop]) (by simp [Instr.alloc, qfj ok hz E, h3, conc])) h4 h5⟩
 case box e x =>
  obtain ⟨z, hz, hp1⟩ := zz0.1 hp; obtain ⟨zc, hzc, hp2⟩ := zz0.1 hp1; obtain ⟨⟨h1, b⟩, hn, hp3⟩ := zz0.1 hp2
  cases hp3; refine ⟨(w.heap.size, 0), fun E K H hρ hE => ?_⟩; have hE1 : E.blk h.next = w.heap.size := (hE (qe1 hn)).1; obtain ⟨rfl, h2, h3, h4, h5⟩ := qgV ok hzc hn H hE1; exact ⟨by simp only; omega, Does.value (ofV (s := Instr.box e (ρ x)) (by simp [execOp, hop]) (by simp [Instr.box, hρ _ _ hz, h3, conc])) h4 h5⟩
 case build t ps =>
  obtain ⟨l, hl, hp1⟩ := zz0.1 hp; obtain ⟨u, hu, hp2⟩ := zz0.1 hp1
  cases hp2; refine ⟨(0, 0), fun E K H hρ _ => ⟨by omega, Does.same H ?_⟩⟩; refine ofV (s := Instr.build t (ps.map fun (i, x) => (i, ρ x))) (by simp [execOp, hop]) ?_; have := qnx ok (E := E) (w := w) hu; rw [<- qgG hρ _ _ hl] at this; rw [<- this]; congr 2
  simp [<- Array.toList_inj]
 case buildSlice t n ps =>
  obtain ⟨l, hl, hp1⟩ := zz0.1 hp; refine ⟨(w.heap.size, 0), fun E K H hρ hE => ?_⟩; obtain ⟨h1, w', h2, h3, h4⟩ := qhh ok H hp1 (hE (qh7 hp1)).1; rw [<- qgG hρ _ _ hl] at h2; refine ⟨by omega, Does.value (ofV (s := Instr.buildSlice t n (ps.map fun (i, x) => (i, ρ x))) (by simp [execOp, hop]) ?_) h3 h4⟩; rw [<- h2]; congr 2
  simp [<- Array.toList_inj]
 case load t a =>
  obtain ⟨x, hx, hp1⟩ := zz0.1 hp; split at hp1
  · obtain ⟨u, hu, hp2⟩ := zz0.1 hp1
    cases hp2; refine ⟨(0, 0), fun E K H hρ _ => ⟨by omega, Does.same H ?_⟩⟩; refine ofV (s := Instr.loadAt t (ρ a)) (by simp [execOp, hop]) ?_; simp [Instr.loadAt, hρ _ _ hx, conc, Instr.sureAddr, qgO ok H hu]
  · cases hp1
 case store t a x =>
  obtain ⟨y, hy, hp1⟩ := zz0.1 hp; split at hp1
  · obtain ⟨u, hu, hp2⟩ := zz0.1 hp1; obtain ⟨h1, hh, hp3⟩ := zz0.1 hp2
    cases hp3; refine ⟨(0, 0), fun E K H hρ _ => ?_⟩; obtain ⟨w', h2, h3, h4⟩ := qj6 ok H hh; refine ⟨by have := qiO (tab := tab) hh; omega, Does.unit (ofU (s := Instr.storeAt t (ρ a) (ρ x)) (by simp [execOp, hop]) ?_) h3 h4⟩; simp [Instr.storeAt, hρ _ _ hy, hρ _ _ hu, conc, Instr.sureAddr, h2]
  · cases hp1
 case nilCheck x =>
  obtain ⟨y, hy, hp1⟩ := zz0.1 hp; split at hp1
  · cases hp1; exact ⟨(0, 0), fun E K H hρ _ => ⟨by omega, Does.same H (by simp [execOp, hop, hρ _ _ hy, conc])⟩⟩
  · cases hp1; exact ⟨(0, 0), fun E K H hρ _ => ⟨by omega, Does.same H (by simp [execOp, hop, hρ _ _ hy, conc])⟩⟩
  · cases hp1
 case binOp op t x y yt =>
  obtain ⟨a, ha, hp1⟩ := zz0.1 hp; obtain ⟨b, hb, hp2⟩ := zz0.1 hp1; obtain ⟨c, hc, hp3⟩ := zz0.1 hp2
  cases hp3; refine ⟨(0, 0), fun E K H hρ _ => ⟨by omega, Does.same H ?_⟩⟩; have := qnv ok H hc x y; refine ofV (s := do eqGuard op t x y (ρ x) (ρ y); Go.binOp op t (ρ x) (ρ y)) (by simp [execOp, hop]) ?_; rw [hρ _ _ ha, hρ _ _ hb]; exact this
 case unOp op t x =>
  obtain ⟨a, ha, hp1⟩ := zz0.1 hp; obtain ⟨c, hc, hp3⟩ := zz0.1 hp1
  cases hp3; refine ⟨(0, 0), fun E K H hρ _ => ⟨by omega, Does.same H ?_⟩⟩; refine ofV (s := Op.unary op (ρ x)) (by simp [execOp, hop]) ?_; rw [hρ _ _ ha]; exact qrb hc
 case convert s d x =>
  obtain ⟨a, ha, hp1⟩ := zz0.1 hp; refine ⟨(w.heap.size, grownCap w (qmj a) 0 (P.elem d)), fun E K H hρ hE => ?_⟩; obtain ⟨h1, w', h2, h3, h4⟩ := qhl ok H hp1 hE; refine ⟨h1, Does.value (ofV (s := Go.convert s d (ρ x)) (by simp [execOp, hop]) ?_) h3 h4⟩; rw [hρ _ _ ha]; exact h2
 case makeInterface t x =>
  obtain ⟨d, hd, hp1⟩ := zz0.1 hp; have hP := ok.und t d (zz4.1 hd); split at hp1
  · cases hp1
  · rename_i hni; obtain ⟨a, ha, hp2⟩ := zz0.1 hp1
    cases hp2; refine ⟨(0, 0), fun E K H hρ _ => ⟨by omega, Does.same H ?_⟩⟩; refine ofV (s := Instr.makeInterface t (ρ x)) (by simp [execOp, hop]) ?_; unfold Instr.makeInterface; simp only [Sem.run_bind, underlying, run_program, Result.andThen_ok, hP, Sem.run_pure]
    cases d <;> first | exact absurd rfl (hni _) | (rw [hρ _ _ ha]; simp [conc])
 case makeFunc fn fst cap =>
  split at hp
  · rename_i f; obtain ⟨a, ha, hp1⟩ := zz0.1 hp; obtain ⟨b, hb, hp2⟩ := zz0.1 hp1
    cases hp2; refine ⟨(0, 0), fun E K H hρ _ => ⟨by omega, Does.same H ?_⟩⟩; refine ofV (s := Instr.makeFunc (.func f) (fst.map ρ) (cap.map ρ)) (by simp [execOp, hop]) ?_; have h1 := qek hρ _ _ ha; have h2 := qek hρ _ _ hb; simp only [Instr.makeFunc, Sem.run_pure, conc, <- h1, <- h2]; congr 3 <;> simp [<- Array.toList_inj]
  · cases hp
 case makeMap t r =>
  cases r with
  | some x => cases hp
  | none =>
    cases hp; refine ⟨(w.heap.size, 0), fun E K H hρ hE => ⟨by simp, ?_⟩⟩; refine Does.value (w' := w.alloc (.map #[] 0)) (ofV (s := Instr.makeMap t none) (by simp [execOp, hop]) ?_) (H.new (hE (by simp)).1 (by simp [OOK])) (Kept.alloc H.kb _); simp [Instr.makeMap, conc, (hE (by simp)).1]
 case makeSlice t l c =>
  obtain ⟨a, ha, hp1⟩ := zz0.1 hp; obtain ⟨b, hb, hp2⟩ := zz0.1 hp1; refine ⟨(w.heap.size, 0), fun E K H hρ hE => ?_⟩; obtain ⟨h1, w', h2, h3, h4⟩ := qiB ok H hp2 (hE (qjE hp2)).1; refine ⟨by omega, Does.value (ofV (s := Instr.makeSlice t (ρ l) (ρ c)) (by simp [execOp, hop]) ?_) h3 h4⟩; rw [hρ _ _ ha, hρ _ _ hb]; exact h2
 case slice t x lo hi mx =>
  obtain ⟨a, ha, hp1⟩ := zz0.1 hp; refine ⟨(0, 0), fun E K H hρ hE => ?_⟩; obtain ⟨rfl, h2⟩ := qk2 ok H hρ hp1; refine ⟨by omega, Does.same H (ofV (s := Instr.sliceAt t (ρ x) (lo.map ρ) (hi.map ρ) (mx.map ρ)) (by simp [execOp, hop]) ?_)⟩; rw [hρ _ _ ha]; exact h2
 case fieldAddr st x f =>
  obtain ⟨fd, hf, hp1⟩ := zz0.1 hp; obtain ⟨n, hn, hp2⟩ := zz0.1 hp1; obtain ⟨_, hck, hp3⟩ := zz0.1 hp2; obtain ⟨a, ha, hp4⟩ := zz0.1 hp3; obtain ⟨fs, hP, hfd⟩ := qhG ok hf; have hn0 : n ≠ 0 := by
    intro e; subst e; simp [R.check] at hck
  split at hp4
  · cases hp4; refine ⟨(0, 0), fun E K H hρ _ => ⟨by omega, Does.same H ?_⟩⟩; refine ofV (s := Instr.fieldAt st (ρ x) f) (by simp [execOp, hop]) ?_; unfold Instr.fieldAt; simp [underlying, hP, hfd, hρ _ _ ha, conc, Instr.sureAddr, fieldPlace, qbD ok hn, hn0, add_lit]
  · cases hp4
 case field t x f =>
  obtain ⟨fd, hf, hp1⟩ := zz0.1 hp; obtain ⟨a, ha, hp2⟩ := zz0.1 hp1; obtain ⟨fs, hP, hfd⟩ := qhG ok hf; split at hp2
  · obtain ⟨u, hu, hp3⟩ := zz0.1 hp2
    cases hp3; refine ⟨(0, 0), fun E K H hρ _ => ⟨by omega, Does.same H ?_⟩⟩; refine ofV (s := Instr.field t (ρ x) f) (by simp [execOp, hop]) ?_; unfold Instr.field; simp [underlying, hP, hfd, hρ _ _ ha, conc, asAgg, qe6 ok hu E w]
  · cases hp2
 case indexAddr t x ix =>
  obtain ⟨y, hy, hp0⟩ := zz0.1 hp; obtain ⟨i, hi, hp1⟩ := zz0.1 hp0; obtain ⟨d, hd, hp2⟩ := zz0.1 hp1; obtain ⟨a, ha, hp3⟩ := zz0.1 hp2; have hP := ok.und t d (zz4.1 hd); obtain ⟨k, rfl⟩ := qc0 hi; split at hp3
  · obtain ⟨_, hck, hp4⟩ := zz0.1 hp3; obtain ⟨n, hn, hp5⟩ := zz0.1 hp4
    cases hp5; have hlt := zz3.1 hck; simp only [Nat.blt_eq] at hlt; refine ⟨(0, 0), fun E K H hρ _ => ⟨by omega, Does.same H ?_⟩⟩; refine ofV (s := Instr.indexAt t (ρ x) (ρ ix)) (by simp [execOp, hop]) ?_; unfold Instr.indexAt; simp [underlying, hP, hρ _ _ ha, hρ _ _ hy, conc, Go.asIntOf, Instr.sureAddr, qbD ok hn, hlt, add_lit]
  · obtain ⟨_, hck, hp4⟩ := zz0.1 hp3; obtain ⟨n, hn, hp5⟩ := zz0.1 hp4
    cases hp5; have hlt := zz3.1 hck; simp only [Nat.blt_eq] at hlt; refine ⟨(0, 0), fun E K H hρ _ => ⟨by omega, Does.same H ?_⟩⟩; refine ofV (s := Instr.indexAt t (ρ x) (ρ ix)) (by simp [execOp, hop]) ?_; unfold Instr.indexAt; simp [underlying, hP, hρ _ _ ha, hρ _ _ hy, conc, Go.asIntOf, qbD ok hn, hlt, add_lit]
  · cases hp3
 case index t x ix =>
  obtain ⟨y, hy, hp0⟩ := zz0.1 hp; obtain ⟨i, hi, hp1⟩ := zz0.1 hp0; obtain ⟨d, hd, hp2⟩ := zz0.1 hp1; obtain ⟨a, ha, hp3⟩ := zz0.1 hp2; have hP := ok.und t d (zz4.1 hd); obtain ⟨k, rfl⟩ := qc0 hi; split at hp3
  · obtain ⟨_, hck, hp4⟩ := zz0.1 hp3; obtain ⟨n, hn, hp5⟩ := zz0.1 hp4; obtain ⟨u, hu, hp6⟩ := zz0.1 hp5
    cases hp6; have hlt := zz3.1 hck; simp only [Nat.blt_eq] at hlt; refine ⟨(0, 0), fun E K H hρ _ => ⟨by omega, Does.same H ?_⟩⟩; refine ofV (s := Instr.index t (ρ x) (ρ ix)) (by simp [execOp, hop]) ?_; unfold Instr.index; simp [underlying, hP, hρ _ _ ha, hρ _ _ hy, conc, Go.asIntOf, qbD ok hn, hlt, qe6 ok hu E w]
  · obtain ⟨b, hb, hp4⟩ := zz0.1 hp3
    cases hp4; have hb := zz4.1 hb; refine ⟨(0, 0), fun E K H hρ _ => ⟨by omega, Does.same H ?_⟩⟩; refine ofV (s := Instr.index t (ρ x) (ρ ix)) (by simp [execOp, hop]) ?_; unfold Instr.index; simp [underlying, hP, hρ _ _ ha, hρ _ _ hy, conc, Go.asIntOf]; rw [qtM hb]; rfl
  · cases hp3
 case lookup t m k c =>
  obtain ⟨a, ha, hp1⟩ := zz0.1 hp; obtain ⟨b, hb, hp2⟩ := zz0.1 hp1; obtain ⟨u, hu, hp3⟩ := zz0.1 hp2
  cases hp3; refine ⟨(0, 0), fun E K H hρ _ => ⟨by omega, Does.same H ?_⟩⟩; refine ofV (s := Instr.lookup t (ρ m) (ρ k) c) (by simp [execOp, hop]) ?_; rw [hρ _ _ ha, hρ _ _ hb]; exact qm0 ok H hu
 case mapUpdate t m k x =>
  obtain ⟨a, ha, hp1⟩ := zz0.1 hp; obtain ⟨b, hb, hp2⟩ := zz0.1 hp1; obtain ⟨c, hc, hp3⟩ := zz0.1 hp2; obtain ⟨h1, hh, hp4⟩ := zz0.1 hp3
  cases hp4; refine ⟨(0, 0), fun E K H hρ _ => ?_⟩; obtain ⟨h2, w', h3, h4, h5⟩ := qeZ ok H hh; refine ⟨by omega, Does.unit (ofU (s := Instr.mapUpdate t (ρ m) (ρ k) (ρ x)) (by simp [execOp, hop]) ?_) h4 h5⟩; rw [hρ _ _ ha, hρ _ _ hb, hρ _ _ hc]; exact h3
 case insert t m k x =>
  obtain ⟨a, ha, hp1⟩ := zz0.1 hp; obtain ⟨b, hb, hp2⟩ := zz0.1 hp1; obtain ⟨c, hc, hp3⟩ := zz0.1 hp2; obtain ⟨h1, hh, hp4⟩ := zz0.1 hp3
  cases hp4; refine ⟨(0, 0), fun E K H hρ _ => ?_⟩; obtain ⟨h2, w', h3, h4, h5⟩ := qeZ ok H hh; refine ⟨by omega, Does.unit (ofU (s := Instr.mapUpdate t (ρ m) (ρ k) (ρ x)) (by simp [execOp, hop]) ?_) h4 h5⟩; rw [hρ _ _ ha, hρ _ _ hb, hρ _ _ hc]; exact h3
 case mapEntry t m k =>
  obtain ⟨a, ha, hp1⟩ := zz0.1 hp; obtain ⟨b, hb, hp2⟩ := zz0.1 hp1; refine ⟨(0, 0), fun E K H hρ _ => ?_⟩; obtain ⟨h2, w', h3, h4, h5⟩ := qjF ok H hp2; refine ⟨by omega, Does.value (ofV (s := Instr.mapEntry t (ρ m) (ρ k)) (by simp [execOp, hop]) ?_) h4 h5⟩; rw [hρ _ _ ha, hρ _ _ hb]; exact h3
 case entryStore t m s x =>
  obtain ⟨a, ha, hp1⟩ := zz0.1 hp; obtain ⟨b, hb, hp2⟩ := zz0.1 hp1; obtain ⟨c, hc, hp3⟩ := zz0.1 hp2; obtain ⟨h1, hh, hp4⟩ := zz0.1 hp3
  cases hp4; refine ⟨(0, 0), fun E K H hρ _ => ?_⟩; obtain ⟨h2, w', h3, h4, h5⟩ := qhm ok (t := t) H hh; refine ⟨by omega, Does.unit (ofU (s := Instr.entryStore t (ρ m) (ρ s) (ρ x)) (by simp [execOp, hop]) ?_) h4 h5⟩; rw [hρ _ _ ha, hρ _ _ hb, hρ _ _ hc]; exact h3
 case range t x =>
  obtain ⟨a, ha, hp1⟩ := zz0.1 hp; refine ⟨(w.heap.size, 0), fun E K H hρ hE => ?_⟩; obtain ⟨h2, w', h3, h4, h5⟩ := qkU ok H hp1 (hE (qnd hp1)).1; refine ⟨by omega, Does.value (ofV (s := Instr.range t (ρ x)) (by simp [execOp, hop]) ?_) h4 h5⟩; rw [hρ _ _ ha]; exact h3
 case entry it =>
  obtain ⟨a, ha, hp1⟩ := zz0.1 hp; obtain ⟨u, hu, hp2⟩ := zz0.1 hp1
  cases hp2; refine ⟨(0, 0), fun E K H hρ _ => ⟨by omega, Does.same H ?_⟩⟩; refine ofV (s := Instr.entry (ρ it)) (by simp [execOp, hop]) ?_; rw [hρ _ _ ha]; exact qkA H hu
 case typeAssert x xt t c =>
  obtain ⟨d, hd, hp1⟩ := zz0.1 hp; obtain ⟨a, ha, hp2⟩ := zz0.1 hp1; have hP := ok.und t d (zz4.1 hd); have hx : execOp ρ o = (do pure (.value (<- Instr.typeAssert (ρ x) xt t c))) := by simp [execOp, hop]
  split at hp2
  · cases hp2
  · rename_i u v' hni; split at hp2
    · rename_i hut; subst hut
      cases hp2; refine ⟨(0, 0), fun E K H hρ _ => ⟨by omega, Does.same H (ofV hx ?_)⟩⟩; unfold Instr.typeAssert; rw [hρ _ _ ha]; simp only [Sem.run_bind, underlying, run_program, Result.andThen_ok, hP, Sem.run_pure, conc]
      cases d <;> first | exact absurd rfl (hni _) | (cases c <;> simp [conc])
    · rename_i hut; obtain ⟨_, hck, hp3⟩ := zz0.1 hp2; obtain ⟨z, hz, hp4⟩ := zz0.1 hp3
      cases hp4; have hc : c = true := zz3.1 hck; subst hc; refine ⟨(0, 0), fun E K H hρ _ => ⟨by omega, Does.same H (ofV hx ?_)⟩⟩; unfold Instr.typeAssert; rw [hρ _ _ ha]; simp only [Sem.run_bind, underlying, run_program, Result.andThen_ok, hP, Sem.run_pure, conc]
      cases d <;> first | exact absurd rfl (hni _) | (simp [conc, hut, qfj ok hz E])
  · rename_i hni; obtain ⟨_, hck, hp3⟩ := zz0.1 hp2; obtain ⟨z, hz, hp4⟩ := zz0.1 hp3
    cases hp4; have hc : c = true := zz3.1 hck; subst hc; refine ⟨(0, 0), fun E K H hρ _ => ⟨by omega, Does.same H (ofV hx ?_)⟩⟩; unfold Instr.typeAssert; rw [hρ _ _ ha]; simp only [Sem.run_bind, underlying, run_program, Result.andThen_ok, hP, Sem.run_pure, conc]
    cases d <;> first | exact absurd rfl (hni _) | (simp [conc, qfj ok hz E])
  · cases hp2
 case extract t i =>
  obtain ⟨a, ha, hp1⟩ := zz0.1 hp; split at hp1
  · obtain ⟨u, hu, hp2⟩ := zz0.1 hp1
    cases hp2; have hu := zz4.1 hu; refine ⟨(0, 0), fun E K H hρ _ => ⟨by omega, Does.same H ?_⟩⟩; refine ofV (s := Instr.extract (ρ t) i) (by simp [execOp, hop]) ?_; rw [hρ _ _ ha]; simp [Instr.extract, conc, qa1, hu]
  · cases hp1
 case call c =>
  split at hp
  · rename_i b hb; obtain ⟨l, hl, hp1⟩ := zz0.1 hp; refine ⟨bnew P w b c.argTypes (((c.args.toList.map ρ)[0]?).getD undef) (qj4 l), fun E K H hρ hE => ?_⟩; have hmap := qek hρ _ _ hl; rw [hmap] at hE; obtain ⟨h1, w', h2, h3, h4⟩ := qkq ok H hp1 hE o.type (c.args.map fun | .const _ => true | _ => false); refine ⟨h1, _, w', ?_, .inl rfl, h3, h4⟩; rw [<- h2, <- hmap]; have : (c.args.toList.map ρ).toArray = c.args.map ρ := by simp [<- Array.toList_inj]
    rw [this]; simp [execOp, hop, resolve, hb, invoke]; rfl
  · cases hp
 all_goals cases hp
end
end Go.Am
namespace Go.Am
def AFrame.enter (fn : Func) (f : FuncId) (body : Code) (args : List AV) (kind : CallKind) : AFrame :=
 { fn := f, nt := Nat.max fn.ntmps args.length, tmps := T.ofList args, todo := [.code body], defers := [], mode := .run, kind, round := none }
def AFrame.put (fr : AFrame) (d : Option Tmp) (v : AV) : T AV :=
 match d with
 | some d => bif Nat.blt d fr.nt then fr.tmps.set d (some v) else fr.tmps
 | none => fr.tmps
def AFrame.finish (fr : AFrame) (v : AV) : R AFrame :=
 match fr.todo with
 | .inRegion ops (i :: rest) :: k => .ok { fr with tmps := fr.put ((ops[i]?).bind (·.dst)) v, todo := .inRegion ops rest :: k }
 | .inRange l :: k => .ok { fr with todo := .endRange l :: k }
 | .beginRound :: k => .ok { fr with todo := k }
 | _ => .no "finish"
def AFrame.raise (fr : AFrame) (c : List APE) : AFrame :=
 match fr.mode with
 | .panicking d => { fr with mode := .panicking (c ++ d) }
 | _ => { fr with mode := .panicking c }
def exitTo (id : Nat) : List AItem -> Option (List AItem)
 | .inBlock j :: k => bif Nat.beq j id then some k else exitTo id k
 | _ :: k => exitTo id k
 | [] => none
inductive AOut where
 | next (m : AM)
 | alts (l : List AM)
 | done (v : AV) (h : AH)
section
variable (tab : Tab) (sub : FuncId -> List AV -> AH -> R (List (AV × AH)))
def wanted (ops : Array Oper) (o : Oper) (ts : T AV) : R Bool :=
 match o.guard with
 | none => .ok true
 | some (j, w) =>
  match ((ops[j]?).bind (·.dst)).bind ts.get with
  | some (.bool b) => .ok (b == w)
  | some (.raw _) => .no "guard"
  | _ => .ok false
def doReturn (fr : AFrame) (cs : List AFrame) (v : AV) (h : AH) : R AOut :=
 match cs with
 | [] =>
  match fr.kind with
  | .normal => .ok (.done v h)
  | _ => .no "doReturn: end"
 | c :: rest =>
  match fr.kind with
  | .normal => do .ok (.next { fr := <- c.finish v, cs := rest, h })
  | .deferred =>
   match c.mode with
   | .panicking ({ recovered := true, .. } :: _) => .ok (.next { fr := { c with mode := .returning }, cs := rest, h })
   | _ => .ok (.next { fr := c, cs := rest, h })
  | _ => .no "doReturn: kind"
def leave (fr : AFrame) (cs : List AFrame) (h : AH) (jump : Option Code) : R AOut :=
 match fr.round with
 | none =>
  match jump with
  | none => .ok (.next { fr := { fr with mode := .returning }, cs, h })
  | some .ret => .ok (.next { fr := { fr with mode := .returning }, cs, h })
  | _ => .no "leave"
 | some l =>
  match h.get l, cs with
  | some (.loop _ _ fn ts nt ps a b d), _ :: _ =>
   doReturn fr cs (.bool jump.isNone) (h.set l (.loop (if jump.isNone then .ready else .done) jump fn ts nt ps a b d))
  | _, _ => .no "leave: loop"
def qoo (b : ByteArray) (c : UInt8) : Int :=
 match (List.range b.size).find? fun i => b[i]! == c with
 | some i => (i : Nat)
 | none => -1
def extern (tag : Nat) (fn : Func) (args : List AV) (h : AH) : R (AV × AH) :=
 match tag, args with
 | 1, [.str a, .str b] => .ok (.int .i64 (Extern.BytealgCompare.cmp ⟨a.toArray⟩ ⟨b.toArray⟩), h)
 | 2, [x] => .ok (x, h)
 | 3, [.int .i64 (.ofNat n)] => do
  let t <- R.of "MakeNoZero" fn.resultTypes[0]?
  match <- und tab t with
  | .slice e => do
   let sz <- siz tab e
   R.check "MakeNoZero" (Nat.ble n 1048576 && Nat.beq sz 1)
   let (h', b) <- newRow tab h e [] true
   .ok (.sl b 0 n (.tail 0), h')
  | _ => .no "MakeNoZero"
 | 4, [x, y] => do
  let t <- R.of "overlaps" fn.params[0]?
  match <- und tab t with
  | .slice e => do
   let sz <- siz tab e
   R.check "overlaps: size" (!(Nat.beq sz 0))
   match x, y with
   | .nils, .nils => .ok (.bool false, h)
   | .nils, .sl .. => .ok (.bool false, h)
   | .sl .., .nils => .ok (.bool false, h)
   | .sl a i n _, .sl b j m _ => do
    match h.get a, h.get b with
    | some (.cells _ _ _ _ .rw), some (.cells _ _ _ _ .rw) =>
     bif Nat.beq n 0 || Nat.beq m 0 then .ok (.bool false, h)
     else .ok (.bool (Nat.beq a b && Nat.blt i (j + m * sz) && Nat.blt j (i + n * sz)), h)
    | _, _ => .no "overlaps"
   | _, _ => .no "overlaps"
  | _ => .no "overlaps"
 | 5, [.str a, .int .u8 c] => .ok (.int .i64 (qoo ⟨a.toArray⟩ c.toNat.toUInt8), h)
 | _, _ => .no "extern"
def qf7 (f : FuncId) (fn : Func) (args : List AV) (h : AH) : R (AV × AH) :=
 match tab.ext.get f with
 | some tag => extern tab tag fn args h
 | none => .no "extern"
def callFn (fr : AFrame) (cs : List AFrame) (h : AH) (f : FuncId) (args : List AV) (kind : CallKind) : R AOut :=
 match tab.fns.get f with
 | some fn =>
  match fn.body with
  | some body =>
   bif tab.merge f && kind == .normal then do
    let outs <- sub f args h
    let ms <- outs.mapM fun (v, h') => do R.ok { fr := <- fr.finish v, cs, h := h' : AM }
    .ok (.alts ms)
   else .ok (.next { fr := AFrame.enter fn f body args kind, cs := fr :: cs, h })
  | none =>
   match kind with
   | .normal => do
    let (v, h') <- qf7 tab f fn args h
    .ok (.next { fr := <- fr.finish v, cs, h := h' })
   | _ => .no "callFn: no body"
 | none => .no "callFn: no function"
def callYield (fr : AFrame) (cs : List AFrame) (h : AH) (l : Nat) (args : List AV) (kind : CallKind) : R AOut := .no "callYield"
def callTarget (fr : AFrame) (cs : List AFrame) (h : AH) (d : AD) (kind : CallKind) : R AOut :=
 match d.target with
 | .fn (.func f) captured => callFn tab sub fr cs h f (d.args ++ captured) kind
 | .yld l => callYield fr cs h l d.args kind
 | _ => .no "callTarget"
def qd5 (f : AV) (args : List AV) : R AD :=
 match f with
 | .fn fn first captured => .ok { target := .fn fn captured, args := first ++ args }
 | .yld l => .ok { target := .yld l, args }
 | _ => .no "resolve"
def tryRecover (fr : AFrame) (cs : List AFrame) : R (Option (AV × List AFrame)) :=
 match fr.kind, cs with
 | .deferred, c :: rest =>
  match c.mode with
  | .panicking ({ v, recovered := false } :: older) => .ok (some (v, { c with mode := .panicking ({ v, recovered := true } :: older) } :: rest))
  | _ => .ok none
 | .normal, _ :: _ => .ok none
 | _, _ => .no "recover"
def oper (fr : AFrame) (cs : List AFrame) (h : AH) (o : Oper) : R AOut := do
 match o.op with
 | .call c => do
  match c.callee with
  | .value f => do
   let args <- evs fr.tmps c.args.toList
   let d <- qd5 (<- ev fr.tmps f) args
   callTarget tab sub fr cs h d .normal
  | .builtin .recover =>
   match fr.round with
   | none => do
    match <- tryRecover fr cs with
    | some (v, cs') => do .ok (.next { fr := <- fr.finish v, cs := cs', h })
    | none => do .ok (.next { fr := <- fr.finish .nili, cs, h })
   | some _ => .no "recover in a round"
  | _ => do
   let (v, h') <- qaH tab fr.tmps h o
   .ok (.next { fr := <- fr.finish v, cs, h := h' })
 | .defer c => do
  match c.callee, fr.round with
  | .value f, none => do
   let args <- evs fr.tmps c.args.toList
   let d <- qd5 (<- ev fr.tmps f) args
   .ok (.next { fr := <- AFrame.finish { fr with defers := d :: fr.defers } (.tup []), cs, h })
  | _, _ => .no "defer"
 | .panic x => do
  match <- ev fr.tmps x with
  | .iface t v => .ok (.next { fr := fr.raise [{ v := .iface t v, recovered := false }], cs, h })
  | _ => .no "panic"
 | .next it s => do
  let l <- nextOp h (<- ev fr.tmps it) s
  let ms <- l.mapM fun (v, h') => do R.ok { fr := <- fr.finish v, cs, h := h' : AM }
  match ms with
  | [m] => .ok (.next m)
  | ms => .ok (.alts ms)
 | _ => do
  let (v, h') <- qaH tab fr.tmps h o
  .ok (.next { fr := <- fr.finish v, cs, h := h' })
inductive Cls where
 | pure | read | alloc | eff
deriving DecidableEq
def cls (tab : Tab) (o : Oper) : Cls :=
 match o.op with
 | .move _ | .assign _ | .pick .. | .build .. | .unOp .. | .makeInterface .. | .makeFunc .. | .slice .. | .fieldAddr .. | .field .. | .indexAddr .. | .index .. | .extract .. | .nilCheck _ | .typeAssert .. => .pure
 | .load .. | .lookup .. | .entry _ | .binOp .. => .read
 | .convert a b _ => match tab.und.get a, tab.und.get b with
  | some (.int _), some (.int _) => .pure
  | _, _ => .eff
 | .alloc _ | .box .. | .buildSlice .. | .makeMap .. | .makeSlice .. => .alloc
 | .call c => match c.callee with
  | .builtin .len => .read
  | .builtin .cap | .builtin .min | .builtin .max => .pure
  | _ => .eff
 | _ => .eff
structure DS where
 ts : T AV
 h : AH
 anc : T (List Nat)
 reads : List (Nat × T AV × AV)
 allocs : List (Nat × Nat)
def qa5 (h : AH) : List (Nat × Nat) -> AH
 | [] => h
 | (_, b) :: l => qa5 (h.kill b) l
def qa9 (h h0 : AH) : List (Nat × Nat) -> AH
 | [] => h
 | (_, b) :: l => qa9 { h with t := h.t.set b (h0.get b) } h0 l
def memN (i : Nat) (l : List Nat) : Bool := l.any (Nat.beq i)
def qcz (o : Oper) : List Nat := (o.after.toList.filter (Region.binds .any)).map (·.on)
def addN (j : Nat) (l : List Nat) : List Nat := bif memN j l then l else j :: l
def qnt : List Nat -> List Nat -> List Nat
 | [], l => l
 | j :: m, l => qnt m (addN j l)
def qlh (anc : T (List Nat)) : List Nat -> List Nat
 | [] => []
 | j :: l => addN j (qnt ((anc.get j).getD []) (qlh anc l))
def qaW (anc : T (List Nat)) (o : Oper) : List Nat := qlh anc (qcz o)
def qa0 (anc : T (List Nat)) (i : Nat) (o : Oper) : Bool := (anc.get i).isNone && (qcz o).all fun j => (anc.get j).isSome
def qhr (ops : Array Oper) (o : Oper) : List Tmp :=
  (o.op.operands.toList.filterMap fun | .tmp t => some t | _ => none) ++
  (match o.guard with
   | some (g, _) => ((ops[g]?).bind (·.dst)).toList
   | none => [])
def qfi (anc : T (List Nat)) (t : Tmp) (pre : List Nat) : Nat -> List Oper -> Bool
 | _, [] => true
 | j, o :: l => (match o.dst with
  | some d => bif Nat.beq d t && (anc.get j).isSome then memN j pre else true
  | none => true) && qfi anc t pre (j + 1) l
def qiq (anc : T (List Nat)) (ops : Array Oper) (i : Nat) (a : Tmp) (an : List Nat) : Nat -> List Oper -> Bool
 | _, [] => true
 | j, o :: l => (match o.dst with
  | some d => bif Nat.beq d a then Nat.beq i j else true
  | none => true) && (bif (anc.get j).isSome then memN j an || !(memN a (qhr ops o)) else true) && qiq anc ops i a an (j + 1) l
def opOk (anc : T (List Nat)) (ops : Array Oper) (i : Nat) (o : Oper) : Bool :=
  (qhr ops o).all (fun t => qfi anc t (qcz o) 0 ops.toList) &&
  (match o.dst with
   | some d => qiq anc ops i d (qaW anc o) 0 ops.toList
   | none => true)
def qmI (ts : T AV) (h : AH) (o : Oper) : R (AV × AH) := do
 match o.op with
 | .call c => do
  match c.callee with
  | .value f => do
   let args <- evs ts c.args.toList
   let d <- qd5 (<- ev ts f) args
   match d.target with
   | .fn (.func f) captured => do
    match tab.fns.get f with
    | some fn =>
     match fn.body with
     | some _ => do
      match <- sub f (d.args ++ captured) h with
      | [(v, h')] => .ok (v, h')
      | _ => .no "draw: more than one end"
     | none => qf7 tab f fn (d.args ++ captured) h
    | none => .no "draw: function"
   | _ => .no "draw: target"
  | .builtin .recover => .no "draw: recover"
  | _ => qaH tab ts h o
 | .defer _ | .panic _ | .next .. | .go _ => .no "draw: effect"
 | _ => qaH tab ts h o
def qaU (nt : Nat) (ts : T AV) (o : Oper) (v : AV) : T AV :=
 match o.dst with
 | some d => bif Nat.blt d nt then ts.set d (some v) else ts
 | none => ts
def qcs (ops : Array Oper) (nt : Nat) (i : Nat) (o : Oper) (s : DS) : R (Option DS) := do
 R.check "draw: temporaries" (opOk s.anc ops i o)
 let anc := s.anc.set i (some (qaW s.anc o))
 if !(<- wanted ops o s.ts) then .ok (some { s with ts := qaU nt s.ts o (.tup []), anc })
 else
  match cls tab o with
  | .eff => .ok none
  | .alloc => do
   let (v, h1) <- qaH tab s.ts { t := .e, next := s.h.next } o
   R.check "draw: a block" (Nat.beq h1.next (s.h.next + 1))
   let obj <- R.of "draw: block" (h1.get s.h.next)
   .ok (some { s with ts := qaU nt s.ts o v, h := s.h.new obj, anc, allocs := (i, s.h.next) :: s.allocs })
  | c =>
   match (match c with | .pure => qaH tab s.ts { t := .e, next := 0 } o | _ => .no "read") with
   | .ok (v, h1) => do
    R.check "draw: no block" (Nat.beq h1.next 0)
    .ok (some { s with ts := qaU nt s.ts o v, anc })
   | .no _ =>
    match qaH tab s.ts (qa5 s.h s.allocs) o with
    | .ok (v, _) => .ok (some { s with ts := qaU nt s.ts o v, anc, reads := (i, s.ts, v) :: s.reads })
    | .no _ => .ok none
def qbp (ops : Array Oper) (nt : Nat) : Nat -> List Oper -> DS -> R DS
 | _, [], s => .ok s
 | i, o :: l, s =>
  bif qa0 s.anc i o then do
   match <- qcs tab ops nt i o s with
   | some s' => qbp ops nt (i + 1) l s'
   | none => qbp ops nt (i + 1) l s
  else qbp ops nt (i + 1) l s
def qc9 (anc : T (List Nat)) : Nat -> List Oper -> List (Nat × Oper)
 | _, [] => []
 | i, o :: l => bif qa0 anc i o then (i, o) :: qc9 anc (i + 1) l else qc9 anc (i + 1) l
def reread (ops : Array Oper) (h : AH) : List (Nat × T AV × AV) -> R Unit
 | [] => .ok ()
 | (i, ts, v) :: l => do
  let o <- R.of "reread" ops[i]?
  let (u, _) <- qaH tab ts h o
  R.check "draw: a read behind an effect" (AV.beq u v)
  reread ops h l
def qip (ops : Array Oper) (nt : Nat) (i : Nat) (o : Oper) (s : DS) : R DS := do
 R.check "draw: temporaries" (opOk s.anc ops i o)
 let b <- wanted ops o s.ts
 R.check "draw: not wanted" b
 let an := qaW s.anc o
 let hid := s.allocs.filter fun x => !(memN x.1 an)
 let (v, h1) <- qmI tab sub s.ts (qa5 s.h hid) o
 R.check "draw: next" (Nat.ble s.h.next h1.next)
 let h2 := qa9 h1 s.h hid
 let reads := s.reads.filter fun x => !(memN x.1 an)
 reread tab ops (qa5 h2 hid) reads
 .ok { ts := qaU nt s.ts o v, h := h2, anc := s.anc.set i (some an), reads, allocs := hid }
def qdW (ops : Array Oper) (nt : Nat) : Nat -> DS -> R DS
 | 0, _ => .no "draw: fuel"
 | n + 1, s => do
  let s1 <- qbp tab ops nt 0 ops.toList s
  match qc9 s1.anc 0 ops.toList with
  | [] => do
   R.check "draw: not all" ((List.range ops.size).all fun i => (s1.anc.get i).isSome)
   .ok s1
  | [(i, o)] => do
   let s2 <- qip tab sub ops nt i o s1
   qdW ops nt n s2
  | _ => .no "draw: two effects"
def qjP : Nat -> List Oper -> Bool
 | _, [] => true
 | i, o :: l => (qcz o).all (fun p => Nat.blt p i) && qjP (i + 1) l
def draw (ops : Array Oper) (nt : Nat) (ts : T AV) (h : AH) : R (T AV × AH) := do
 R.check "draw: order" (qjP 0 ops.toList)
 let s <- qdW tab sub ops nt (ops.size + 1) { ts, h, anc := .e, reads := [], allocs := [] }
 .ok (s.ts, s.h)
def results (h : AH) (ts : T AV) : List ResultVar -> R (List AV)
 | [] => .ok []
 | .tmp t :: l => do
  let vs <- results h ts l
  .ok ((ts.get t).getD (.tup []) :: vs)
 | .cell a t :: l => do
  match ts.get a with
  | some (.ptr b off) => do
   let v <- loadVar tab h t b off
   let vs <- results h ts l
   .ok (v :: vs)
  | _ => .no "results"
def result (vs : List AV) : AV :=
 match vs with
 | [v] => v
 | vs => .tup vs
def unwind (fr : AFrame) (cs : List AFrame) (h : AH) : R AOut :=
 match fr.defers with
 | { target := .collected b, .. } :: ds =>
  match h.get b with
  | some (.dfr (some calls)) => .ok (.next { fr := { fr with defers := calls ++ ds }, cs, h := h.set b (.dfr none) })
  | _ => .no "unwind: collected"
 | d :: ds => callTarget tab sub { fr with defers := ds } cs h d .deferred
 | [] =>
  match fr.mode with
  | .run => .no "unwind"
  | .panicking chain =>
   match cs with
   | c :: rest => .ok (.next { fr := c.raise chain, cs := rest, h })
   | [] => .no "a panic at the end"
  | .returning =>
   match tab.fns.get fr.fn with
   | none => .no "unwind: function"
   | some fn => do
    let vs <- results tab h fr.tmps fn.results.toList
    doReturn fr cs (result vs) h
def step (m : AM) : R AOut :=
 let fr := m.fr
 let cs := m.cs
 let h := m.h
 match fr.mode with
 | .run =>
  match fr.todo with
  | [] => leave fr cs h none
  | .code .ret :: _ => leave fr cs h (some .ret)
  | .code .skip :: k => .ok (.next { fr := { fr with todo := k }, cs, h })
  | .code (.label _) :: k => .ok (.next { fr := { fr with todo := k }, cs, h })
  | .inBlock _ :: k => .ok (.next { fr := { fr with todo := k }, cs, h })
  | .inScope _ :: k => .ok (.next { fr := { fr with todo := k }, cs, h })
  | .code (.seq a b) :: k => .ok (.next { fr := { fr with todo := .code a :: .code b :: k }, cs, h })
  | .code (.cond c a b) :: k => do
   match <- ev fr.tmps c with
   | .bool true => .ok (.next { fr := { fr with todo := .code a :: k }, cs, h })
   | .bool false => .ok (.next { fr := { fr with todo := .code b :: k }, cs, h })
   | _ => .no "cond"
  | .code (.block id b) :: k => .ok (.next { fr := { fr with todo := .code b :: .inBlock id :: k }, cs, h })
  | .code (.loop b) :: k => .ok (.next { fr := { fr with todo := .code b :: .inLoop b :: k }, cs, h })
  | .inLoop b :: k => .ok (.next { fr := { fr with todo := .code b :: .inLoop b :: k }, cs, h })
  | .code (.scope b) :: k => .ok (.next { fr := { fr with todo := .code b :: .inScope b :: k }, cs, h })
  | .code (.exit id) :: k =>
   match exitTo id k with
   | some k' => .ok (.next { fr := { fr with todo := k' }, cs, h })
   | none => leave fr cs h (some (.exit id))
  | .code (.rangeFunc _ _ _ _) :: _ => .no "rangeFunc"
  | .endRange l :: k =>
   match h.get l with
   | some (.loop st pending fn ts nt ps a b d) =>
    match st with
    | .busy => .no "endRange: busy"
    | _ => .ok (.next { fr := { fr with todo := (pending.map AItem.code).toList ++ k }, cs, h := h.set l (.loop .exhausted pending fn ts nt ps a b d) })
   | _ => .no "endRange"
  | .beginRound :: k =>
   match fr.round with
   | some l =>
    match h.get l with
    | some (.loop .ready pending fn ts nt ps a b d) => .ok (.next { fr := { fr with todo := k }, cs, h := h.set l (.loop .busy pending fn ts nt ps a b d) })
    | _ => .no "beginRound"
   | none => .no "beginRound"
  | .code (.region _ ops false) :: k => .ok (.next { fr := { fr with todo := .inRegion ops (List.range ops.size) :: k }, cs, h })
  | .code (.region _ ops true) :: k => do
   let (ts, h') <- draw tab sub ops fr.nt fr.tmps h
   .ok (.next { fr := { fr with tmps := ts, todo := k }, cs, h := h' })
  | .inRegion _ [] :: k => .ok (.next { fr := { fr with todo := k }, cs, h })
  | .inRegion ops (i :: _) :: _ =>
   match ops[i]? with
   | some o => do
    if <- wanted ops o fr.tmps then oper tab sub fr cs h o
    else do .ok (.next { fr := <- fr.finish (.tup []), cs, h })
   | none => .no "region"
  | _ => .no "item"
 | _ => unwind tab sub fr cs h
end
mutual
def runs (tab : Tab) : Nat -> List AM -> R (List (AV × AH))
 | 0, _ => .no "fuel"
 | _ + 1, [] => .ok []
 | n + 1, m :: l => do
  let a <- run tab n m
  let b <- runs tab n l
  .ok (a ++ b)
def run (tab : Tab) : Nat -> AM -> R (List (AV × AH))
 | 0, _ => .no "fuel"
 | n + 1, m =>
  match step tab (fun f args h => match tab.fns.get f with
   | some fn => match fn.body with
    | some body => run tab n { fr := AFrame.enter fn f body args .normal, cs := [], h }
    | none => .no "run: body"
   | none => .no "run: function") m with
  | .no w => .no w
  | .ok (.done v h) => .ok [(v, h)]
  | .ok (.next m') => run tab n m'
  | .ok (.alts l) => runs tab n l
end
end Go.Am
namespace Go.Am
open Go.RowKit
variable [Inhabited DrP]
def qaV (E : Env) : AItem -> Item
 | .code c => .code c
 | .inBlock id => .inBlock id
 | .inLoop b => .inLoop b
 | .inScope b => .inScope b
 | .inRegion ops l => .inRegion ops l
 | .inRange l => .inRangeFunc (E.blk l)
 | .endRange l => .endRangeFunc (E.blk l)
 | .beginRound => .beginRound
def qhj (E : Env) (x : APE) : PanicEntry := { v := conc E x.v, recovered := x.recovered }
def qbl (E : Env) : AMode -> FrameMode
 | .run => .run
 | .returning => .returning
 | .panicking c => .panicking (c.map (qhj E))
def qak (E : Env) (fr : AFrame) : Frame :=
 { fn := fr.fn, tmps := qaG E fr.tmps fr.nt, todo := fr.todo.map (qaV E), defers := fr.defers.map (qa8 E), mode := qbl E fr.mode, kind := fr.kind, roundOf := fr.round.map E.blk }
def AFrame.WF (fr : AFrame) : Prop := ∀ t, fr.nt <= t -> fr.tmps.get t = none
def Agree (D : Nat -> Prop) (E E' : Env) : Prop := ∀ i, D i -> E'.blk i = E.blk i /\ E'.cap i = E.cap i
theorem Agree.refl (D : Nat -> Prop) (E : Env) : Agree D E E := fun _ _ => ⟨rfl, rfl⟩
theorem Agree.trans {D D' : Nat -> Prop} {E E' E'' : Env} (h : Agree D E E') (h' : Agree D' E' E'') (hd : ∀ i, D i -> D' i) : Agree D E E'' :=
 fun i hi => ⟨(h' i (hd i hi)).1.trans (h i hi).1, (h' i (hd i hi)).2.trans (h i hi).2⟩
structure Rel (D : Nat -> Prop) (E : Env) (K : KS) (m : AM) (base : List Frame) (fr : Frame) (cs : List Frame) (w : World) : Prop where
 all : ∀ E', Agree D E E' -> HOK E' m.h K w /\ qak E' m.fr = fr /\ m.cs.map (qak E') ++ base = cs
 dom : ∀ i, D i -> i < m.h.next
 wf : m.fr.WF /\ ∀ f ∈ m.cs, f.WF
def Gets (P : Program) (lo : Nat) (M0 : Machine) (D : Nat -> Prop) (E : Env) (K : KS) (m' : AM) (base : List Frame) (w : World) : Prop :=
 ∃ fr' cs' w' E' D', Steps P M0 (lone fr' cs' w') /\ Rel D' E' K m' base fr' cs' w' /\ Agree D E E' /\ (∀ i, D i -> D' i) /\ Kept K w w' /\ lo <= m'.h.next /\ ∀ i, D' i -> D i \/ lo <= i
def Ends (P : Program) (lo : Nat) (M0 : Machine) (D : Nat -> Prop) (E : Env) (K : KS) (v : AV) (h : AH) (base : List Frame) (f : FuncId) (w : World) : Prop :=
 ∃ fr' w' v' E' D', Steps P M0 (lone fr' base w') /\ fr'.fn = f /\ fr'.leaving P w' (.returned v') /\ (∀ E'', Agree D' E' E'' -> HOK E'' h K w' /\ conc E'' v = v') /\
  Agree D E E' /\ (∀ i, D i -> D' i) /\ (∀ i, D' i -> i < h.next) /\ Kept K w w' /\ lo <= h.next /\ ∀ i, D' i -> D i \/ lo <= i
section
variable {P : Program} {D D1 : Nat -> Prop} {E E1 : Env} {K : KS} {m : AM} {base : List Frame} {M0 M1 : Machine} {w w1 : World} {v : AV} {h : AH} {f : FuncId}
theorem Gets.trans {lo lo1 : Nat} (hs : Steps P M0 M1) (ha : Agree D E E1) (hd : ∀ i, D i -> D1 i) (hk : Kept K w w1) (hlo : lo <= lo1) (hnew : ∀ i, D1 i -> D i \/ lo <= i) (hg : Gets P lo1 M1 D1 E1 K m base w1) : Gets P lo M0 D E K m base w := by
 obtain ⟨fr', cs', w', E', D', h1, h2, h3, h4, h5, h6, h7⟩ := hg; refine ⟨fr', cs', w', E', D', hs.trans h1, h2, ha.trans h3 hd, fun i hi => h4 i (hd i hi), hk.trans h5, Nat.le_trans hlo h6, fun i hi => ?_⟩; rcases h7 i hi with h | h
 · exact hnew i h
 · exact .inr (Nat.le_trans hlo h)
theorem Ends.trans {lo lo1 : Nat} (hs : Steps P M0 M1) (ha : Agree D E E1) (hd : ∀ i, D i -> D1 i) (hk : Kept K w w1) (hlo : lo <= lo1) (hnew : ∀ i, D1 i -> D i \/ lo <= i) (hg : Ends P lo1 M1 D1 E1 K v h base f w1) : Ends P lo M0 D E K v h base f w := by
 obtain ⟨fr', w', v', E', D', h1, h2, h3, h4, h5, h6, h7, h8, h9', h9⟩ := hg; refine ⟨fr', w', v', E', D', hs.trans h1, h2, h3, h4, ha.trans h5 hd, fun i hi => h6 i (hd i hi), h7, hk.trans h8, Nat.le_trans hlo h9', fun i hi => ?_⟩; rcases h9 i hi with h | h
 · exact hnew i h
 · exact .inr (Nat.le_trans hlo h)
end
theorem qdg {fr fr' : Frame} {cs cs' : List Frame} {w w' : World} (h : lone fr cs w = lone fr' cs' w') : fr = fr' /\ cs = cs' /\ w = w' := by
 simp only [lone, Machine.mk.injEq, Array.mk.injEq, List.cons.injEq, Goroutine.mk.injEq, and_true, true_and] at h; obtain ⟨h1, h2, h3⟩ := h; exact ⟨h2, h3, h1⟩
def One (P : Program) (M0 : Machine) (E : Env) (K : KS) (m' : AM) (base : List Frame) (w : World) : Prop :=
 ∃ w', Go.step P M0 = .next (lone (qak E m'.fr) (m'.cs.map (qak E) ++ base) w') /\ HOK E m'.h K w' /\ Kept K w w'
section
variable {P : Program} {D : Nat -> Prop} {E : Env} {K : KS} {m m' : AM} {base : List Frame} {fr : Frame} {cs : List Frame} {w : World}
theorem Rel.near (hR : Rel D E K m base fr cs w) (f : Nat -> Nat × Nat) : ∃ E1, Agree D E E1 /\ ∀ i, m.h.next <= i -> E1.blk i = (f i).1 /\ E1.cap i = (f i).2 := by
 refine ⟨⟨fun i => if i < m.h.next then E.blk i else (f i).1, fun i => if i < m.h.next then E.cap i else (f i).2⟩, fun i hi => ?_, fun i hi => ?_⟩
 · have := hR.dom i hi; simp [this]
 · have hlt : ¬ i < m.h.next := by omega
   simp [hlt]
theorem Rel.one (hR : Rel D E K m base fr cs w) (M0 : Machine)
   (f : Nat -> Nat × Nat) (hn : m.h.next <= m'.h.next) (hwf : m'.fr.WF /\ ∀ f ∈ m'.cs, f.WF)
   (h1 : ∀ E', Agree D E E' -> HOK E' m.h K w -> qak E' m.fr = fr -> m.cs.map (qak E') ++ base = cs -> (∀ i, m.h.next <= i -> i < m'.h.next -> E'.blk i = (f i).1 /\ E'.cap i = (f i).2) -> One P M0 E' K m' base w) :
   Gets P m.h.next M0 D E K m' base w := by
 obtain ⟨E1, ha, hE⟩ := hR.near f; let D1 : Nat -> Prop := fun i => D i \/ (m.h.next <= i /\ i < m'.h.next)
 have hE1 : ∀ E', Agree D1 E1 E' -> One P M0 E' K m' base w := by
   intro E' he; have hd : Agree D E E' := ha.trans he (fun i hi => .inl hi); obtain ⟨g1, g2, g3⟩ := hR.all E' hd; refine h1 E' hd g1 g2 g3 (fun i hi hj => ?_); have h2 := he i (.inr ⟨hi, hj⟩); have h3 := hE i hi; exact ⟨h2.1.trans h3.1, h2.2.trans h3.2⟩
 obtain ⟨w', s1, s2, s3⟩ := hE1 E1 (Agree.refl _ _); refine ⟨_, _, w', E1, D1, .one s1, ⟨?_, ?_, hwf⟩, ha, fun i hi => .inl hi, s3, hn, fun i hi => hi.elim .inl (fun h => .inr h.1)⟩
 · intro E' he; obtain ⟨w2, t1, t2, t3⟩ := hE1 E' he; rw [s1] at t1; obtain ⟨e1, e2, e3⟩ := qdg (by simpa using t1); subst e3; exact ⟨t2, e1.symm, e2.symm⟩
 · intro i hi; rcases hi with hi | hi
   · have := hR.dom i hi; omega
   · exact hi.2
end
end Go.Am
namespace Go.Am
open Go.RowKit
variable [Inhabited DrP]
theorem qhb (E : Env) (ts : T AV) (nt t : Nat) (hwf : ∀ t, nt <= t -> ts.get t = none) : (qaG E ts nt).getD t undef = conc E ((ts.get t).getD (.tup [])) := by
 unfold qaG; by_cases ht : t < nt
 · simp [Array.getD, ht, qpb]
 · simp [Array.getD, ht, hwf t (by omega)]; rfl
theorem tmps_get? (E : Env) (ts : T AV) (nt t : Nat) : (qaG E ts nt)[t]? = if t < nt then some (conc E ((ts.get t).getD (.tup []))) else none := by
 unfold qaG; by_cases ht : t < nt <;> simp [ht, qpb]
theorem qpc (E : Env) (ts : T AV) (nt : Nat) : (qaG E ts nt).size = nt := by simp [qaG]
def putT (ts : T AV) (nt : Nat) (d : Tmp) (v : AV) : T AV := bif Nat.blt d nt then ts.set d (some v) else ts
theorem qiI (ts : T AV) (nt : Nat) (d : Tmp) (v : AV) (t : Nat) : (putT ts nt d v).get t = if d < nt /\ t = d then some v else ts.get t := by
 unfold putT; by_cases h : d < nt
 · have : Nat.blt d nt = true := by simpa using h
   simp [h, this, T.get_set]
 · have : Nat.blt d nt = false := by
    cases hb : Nat.blt d nt
    · rfl
    · exact absurd (by simpa using hb) h
   simp [this, h]
theorem qra (E : Env) (ts : T AV) (nt : Nat) (d : Tmp) (v : AV) : (qaG E ts nt).setIfInBounds d (conc E v) = qaG E (putT ts nt d v) nt := by
 apply Array.ext_getElem?
 intro j; rw [Array.getElem?_setIfInBounds, tmps_get?, tmps_get?, qpc, qiI]; by_cases hj : d = j
 · subst hj; by_cases hd : d < nt <;> simp [hd]
 · have : ¬ j = d := fun e => hj e.symm
   simp [hj, this]
theorem qs7 {ts : T AV} {nt : Nat} (h : ∀ t, nt <= t -> ts.get t = none) (d : Tmp) (v : AV) : ∀ t, nt <= t -> (putT ts nt d v).get t = none := by
 intro t ht; rw [qiI]; split
 · rename_i hc; obtain ⟨h1, h2⟩ := hc; subst h2; exact absurd h1 (Nat.not_lt.2 ht)
 · exact h t ht
theorem qej {fr : AFrame} (hwf : fr.WF) (E : Env) {x : Operand} {u : AV} (h : ev fr.tmps x = .ok u) : (qak E fr).eval x = conc E u := by
 cases x <;> simp only [ev] at h <;> (try cases h)
 · exact qhb E fr.tmps fr.nt _ hwf
 · exact (qfM E _).symm
 · simp [Frame.eval, conc]
theorem putF (fr : AFrame) (d : Option Tmp) (v : AV) : fr.put d v = match d with | some d => putT fr.tmps fr.nt d v | none => fr.tmps := by
 cases d <;> rfl
theorem qaO {fr fr' : AFrame} {v : AV} (h : fr.finish v = .ok fr') (E : Env) : (qak E fr).finish (conc E v) = qak E fr' /\ (fr.WF -> fr'.WF) /\ fr'.fn = fr.fn := by
 obtain ⟨fn, nt, tmps, todo, defers, mode, kind, round⟩ := fr; unfold AFrame.finish at h; split at h
 · rename_i ops i rest k htodo
   cases h; simp only at htodo; subst htodo; refine ⟨?_, fun hwf => ?_, rfl⟩
   · rw [putF]
     cases hd : (ops[i]?).bind (·.dst) with
     | none => simp [Frame.finish, qak, qaV, hd]
     | some d => simp [Frame.finish, qak, qaV, hd, qra]
   · unfold AFrame.WF; simp only [putF]
     cases hd : (ops[i]?).bind (·.dst) with
     | none => exact hwf
     | some d => exact qs7 hwf d v
 · rename_i l k htodo
   cases h; simp only at htodo; subst htodo; exact ⟨by simp [Frame.finish, qak, qaV], fun hwf => hwf, rfl⟩
 · rename_i k htodo
   cases h; simp only at htodo; subst htodo; exact ⟨by simp [Frame.finish, qak, qaV], fun hwf => hwf, rfl⟩
 · cases h
def bot (fr : AFrame) : List AFrame -> FuncId
 | [] => fr.fn
 | c :: cs => bot c cs
theorem qbC {fr fr' : AFrame} (h : fr'.fn = fr.fn) (cs : List AFrame) : bot fr' cs = bot fr cs := by
 cases cs with
 | nil => exact h
 | cons c cs => rfl
theorem qgH (E : Env) (id : Nat) : ∀ (k : List AItem), Go.exitTo id (k.map (qaV E)) = (exitTo id k).map (List.map (qaV E)) := by
 intro k; induction k with
 | nil => rfl
 | cons x k ih =>
  cases x <;> simp only [List.map_cons, qaV, Go.exitTo, exitTo, ih]
  rename_i j; by_cases h : j = id
  · subst h; simp
  · have : Nat.beq j id = false := by
     cases hb : Nat.beq j id
     · rfl
     · exact absurd (Nat.eq_of_beq_eq_true hb) h
    simp [h, this, ih]
section
variable {P : Program} {D : Nat -> Prop} {E : Env} {K : KS} {m : AM} {base : List Frame} {fr : Frame} {cs : List Frame} {w : World}
theorem Rel.ctl (hR : Rel D E K m base fr cs w) (fr' : AFrame) (hwf : fr'.WF) (h : ∀ E' cs', Go.step P (lone (qak E' m.fr) cs' w) = .next (lone (qak E' fr') cs' w)) :
  Gets P m.h.next (lone fr cs w) D E K { fr := fr', cs := m.cs, h := m.h } base w :=
 hR.one (m' := { fr := fr', cs := m.cs, h := m.h }) _ (fun _ => (0, 0)) (Nat.le_refl _) ⟨hwf, hR.wf.2⟩
  (fun E' _ H e1 e2 _ => ⟨w, by rw [<- e1, <- e2]; exact h E' _, H, Kept.refl K w⟩)
theorem qgo {fr : Frame} {cs : List Frame} {s : Sem Next} {r : Next} {x : Value} {w w' : World} (hs : s.run P w = .ok r w') (hr : qno r x) :
  (stepG.apply P true fr cs none s w).bare = .go { frame := fr.finish x, callers := cs, status := .running, dying := none } w' := by
 rcases hr with rfl | ⟨rfl, rfl⟩ <;> simp [stepG.apply, hs]
theorem qtc {fr : Frame} {cs : List Frame} {ops : Array Oper} {i : Nat} {rest : List Nat} {k : List Item} {o : Oper} (hm : fr.mode = .run) (ht : fr.todo = .inRegion ops (i :: rest) :: k)
   (ho : ops[i]? = some o) (hw : Region.wanted o (yielded ops fr.tmps) = true) (hd : fr.roundOf = none \/ ∀ c, o.op ≠ .defer c) (w : World) :
   stepG P true { frame := fr, callers := cs, status := .running, dying := none } w = stepG.apply P true fr cs none (execOp fr.eval o) w := by
 have : stepG P true { frame := fr, callers := cs, status := .running, dying := none } w = stepG.oper P true fr cs none w := by
   simp [stepG, hm, stepG.exec, ht, ho, hw]
 rw [this]; unfold stepG.oper; simp only [Frame.oper?, ht, ho]; rcases hd with hd | hd
 · rw [hd]
 · cases fr.roundOf with
   | none => rfl
   | some l =>
    split
    · exact absurd (by assumption) (hd _)
    · rfl
end
end Go.Am
namespace Go.Am
open Go.RowKit
variable [Inhabited DrP]
theorem qv6 {α : Type} : ∀ (l : List α) (k : Nat) (t : T α) (j : Nat), (T.ofListF l k t).get j = if k <= j /\ j < k + l.length then l[j - k]? else t.get j := by
 intro l; induction l with
 | nil =>
  intro k t j; simp only [T.ofListF, List.length_nil, Nat.add_zero]; rw [if_neg (by omega)]
 | cons x l ih =>
  intro k t j; simp only [T.ofListF, ih, T.get_set, List.length_cons]; by_cases h1 : k + 1 <= j /\ j < k + 1 + l.length
  · rw [if_pos h1, if_pos (by omega)]; have : j - k = (j - (k + 1)) + 1 := by omega
    rw [this, List.getElem?_cons_succ]
  · rw [if_neg h1]; by_cases h2 : j = k
    · subst h2; simp
    · rw [if_neg h2, if_neg (by omega)]
theorem zz18 {α : Type} (l : List α) (j : Nat) : (T.ofList l).get j = l[j]? := by
 unfold T.ofList; rw [qv6]; by_cases h : j < l.length
 · rw [if_pos (by omega)]; simp
 · rw [if_neg (by omega), List.getElem?_eq_none (by omega)]; rfl
theorem qdY (fn : Func) (f : FuncId) (body : Code) (args : List AV) (kind : CallKind) : (AFrame.enter fn f body args kind).WF := by
 intro t ht; simp only [AFrame.enter] at ht ⊢; rw [zz18, List.getElem?_eq_none]; exact Nat.le_trans (Nat.le_max_right _ _) ht
theorem qbi {P : Program} {fn : Func} {f : FuncId} {body : Code} (hf : P.funcs[f]? = some fn) (hb : fn.body = some body) (E : Env) (args : List AV) (kind : CallKind) :
   Frame.enter P f (qai E args).toArray kind = qak E (AFrame.enter fn f body args kind) := by
 unfold Frame.enter AFrame.enter qak; simp only [hf, hb, Option.bind_some, Option.getD_some, Option.map_some, List.map_cons, List.map_nil, qaV, qbl, Option.map_none]; congr 1
 apply Array.ext_getElem?
 intro j; rw [tmps_get?, zz18, Array.getElem?_append, List.size_toArray, concL_length, List.getElem?_toArray, qa1, Array.getElem?_replicate]; by_cases h1 : j < args.length
 · have h2 : j < Nat.max fn.ntmps args.length := Nat.lt_of_lt_of_le h1 (Nat.le_max_right _ _); rw [if_pos h1, if_pos h2, List.getElem?_eq_getElem h1]; simp
 · rw [if_neg h1, List.getElem?_eq_none (by omega : args.length <= j)]; have : Nat.max fn.ntmps args.length = max fn.ntmps args.length := rfl; rw [this]; by_cases h2 : j < fn.ntmps
   · rw [if_pos (by omega), if_pos (by omega)]; rfl
   · rw [if_neg (by omega), if_neg (by omega)]
theorem qex {ops : Array Oper} {o : Oper} {ts : T AV} {nt : Nat} (hwf : ∀ t, nt <= t -> ts.get t = none) {b : Bool} (h : wanted ops o ts = .ok b) (E : Env) :
  Region.wanted o (yielded ops (qaG E ts nt)) = b := by
 unfold wanted at h; unfold Region.wanted
 cases hg : o.guard with
 | none => rw [hg] at h; cases h; rfl
 | some gw =>
  obtain ⟨j, u⟩ := gw; rw [hg] at h; simp only at h ⊢; unfold yielded
  cases hd : (ops[j]?).bind (·.dst) with
  | none =>
   rw [hd] at h; simp only [Option.bind_none] at h
   cases h; rfl
  | some d =>
   rw [hd] at h; simp only [Option.bind_some] at h ⊢; rw [tmps_get?]; by_cases hlt : d < nt
   · rw [if_pos hlt]
     cases hv : ts.get d with
     | none => rw [hv] at h; cases h; rfl
     | some v =>
      rw [hv] at h
      cases v <;> simp only at h <;> first | (cases h; done) | (cases h; simp [conc])
   · rw [if_neg hlt]; rw [hwf d (by exact Nat.le_of_not_lt hlt)] at h
     cases h; rfl
end Go.Am
namespace Go.Am
open Go.RowKit
variable [Inhabited DrP]
instance : LawfulMonad R := LawfulMonad.mk'
 (id_map := by intro α x; cases x <;> rfl)
 (pure_bind := by intros; rfl)
 (bind_assoc := by intro α β γ x f g; cases x <;> rfl)
theorem qgf {P : Program} {w : World} {r : Nat} {o : Obj} (h : w.heap[r]? = some o) (hn : ∀ c e f, o ≠ .cells c e f) : (getObj r).run P w = .ok o w := by
 simp only [getObj, Sem.run, h]
theorem ql2 {α β : Type} {g : α -> R β} : ∀ {l : List α} {ms : List β}, l.mapM g = .ok ms -> ∀ x ∈ l, ∃ y ∈ ms, g x = .ok y := by
 intro l; induction l with
 | nil => intro ms _ x hx; cases hx
 | cons a l ih =>
  intro ms h x hx; rw [List.mapM_cons] at h; obtain ⟨b, hb, h1⟩ := zz0.1 h; obtain ⟨bs, hbs, h2⟩ := zz0.1 h1
  cases h2; rcases List.mem_cons.1 hx with rfl | hx
  · exact ⟨b, List.mem_cons_self, hb⟩
  · obtain ⟨y, hy, hg⟩ := ih hbs x hx; exact ⟨y, List.mem_cons_of_mem _ hy, hg⟩
def Out (P : Program) (lo : Nat) (M0 : Machine) (D : Nat -> Prop) (E : Env) (K : KS) (b : FuncId) (base : List Frame) (w : World) : AOut -> Prop
 | .next m' => bot m'.fr m'.cs = b /\ Gets P lo M0 D E K m' base w
 | .alts l => ∃ m' ∈ l, bot m'.fr m'.cs = b /\ Gets P lo M0 D E K m' base w
 | .done v h => Ends P lo M0 D E K v h base b w
theorem Out.trans {P : Program} {D D1 : Nat -> Prop} {E E1 : Env} {K : KS} {base : List Frame} {M0 M1 : Machine} {w w1 : World} {b : FuncId} {out : AOut} {lo lo1 : Nat}
  (hs : Steps P M0 M1) (ha : Agree D E E1) (hd : ∀ i, D i -> D1 i) (hk : Kept K w w1) (hlo : lo <= lo1) (hnew : ∀ i, D1 i -> D i \/ lo <= i) (hg : Out P lo1 M1 D1 E1 K b base w1 out) : Out P lo M0 D E K b base w out := by
 cases out with
 | next m' => exact ⟨hg.1, hg.2.trans hs ha hd hk hlo hnew⟩
 | alts l =>
  obtain ⟨m', h1, h2, h3⟩ := hg; exact ⟨m', h1, h2, h3.trans hs ha hd hk hlo hnew⟩
 | done v h => exact Ends.trans hs ha hd hk hlo hnew hg
def qeA (P : Program) (tab : Tab) (sub : FuncId -> List AV -> AH -> R (List (AV × AH))) : Prop :=
 ∀ f fn body args h outs, tab.fns.get f = some fn -> fn.body = some body -> sub f args h = .ok outs -> ∀ (D : Nat -> Prop) (E : Env) (K : KS) (w : World) (argsC : Array Value),
  (∀ E', Agree D E E' -> HOK E' h K w /\ (qai E' args).toArray = argsC) -> (∀ i, D i -> i < h.next) -> ∀ cs, ∃ v h', (v, h') ∈ outs /\ Ends P h.next (lone (Frame.enter P f argsC .normal) cs w) D E K v h' cs f w
def qez (P : Program) (tab : Tab) : Prop :=
 ∀ f fn args h v h', tab.fns.get f = some fn -> fn.body = none -> qf7 tab f fn args h = .ok (v, h') -> ∀ w, ∃ g : Nat × Nat, ∀ E K, HOK E h K w -> (h.next < h'.next -> E.blk h.next = g.1 /\ E.cap h.next = g.2) ->
  (h.next <= h'.next /\ h'.next <= h.next + 1) /\ ∃ w', (callFunc f (qai E args).toArray).run P w = .ok (.value (conc E v)) w' /\ HOK E h' K w' /\ Kept K w w'
structure Ctx (P : Program) (M0 : Machine) (frC : Frame) (csC : List Frame) (w : World) (kind : CallKind) (dC : Deferred) : Prop where
 enter : ∀ f a w', (invoke dC.target dC.args).run P w = .ok (.enter f a) w' -> Go.step P M0 = .next (lone (Frame.enter P f a kind) (frC :: csC) w')
 round : ∀ l f t a b w', (invoke dC.target dC.args).run P w = .ok (.round l f t a b) w' -> Go.step P M0 = .next (lone (Frame.round l f t a b kind) (frC :: csC) w')
 value : ∀ v w', (invoke dC.target dC.args).run P w = .ok (.value v) w' -> kind = .normal -> Go.step P M0 = .next (lone (frC.finish v) csC w')
section
variable {P : Program} {tab : Tab} (ok : TabOK P tab) {sub : FuncId -> List AV -> AH -> R (List (AV × AH))} (hsub : qeA P tab sub) (hext : qez P tab)
variable {D : Nat -> Prop} {E : Env} {K : KS} {base : List Frame} {frC : Frame} {csC : List Frame} {w : World}
include ok hsub hext in
theorem qi4 {fr : AFrame} {cs : List AFrame} {h : AH} {f : FuncId} {args : List AV} {kind : CallKind} {out : AOut} (hc : callFn tab sub fr cs h f args kind = .ok out)
   (hR : Rel D E K { fr, cs, h } base frC csC w) (M0 : Machine) {dC : Deferred} (hctx : Ctx P M0 frC csC w kind dC)
   (hinv : ∀ E', Agree D E E' -> invoke dC.target dC.args = callFunc f (qai E' args).toArray) : Out P h.next M0 D E K (bot fr cs) base w out := by
 unfold callFn at hc; split at hc
 · rename_i fn hfn; have hP := ok.fns f fn hfn; have hn : fn.name ≠ "runtime.NumGoroutine" := by simpa using ok.nng f fn hfn
   split at hc
   · rename_i body hb; have hrun : ∀ a, (callFunc f a).run P w = .ok (.enter f a) w := by
       intro a; simp [callFunc, hP, hn, hb]
     have hstep : ∀ E', Agree D E E' -> Go.step P M0 = .next (lone (Frame.enter P f (qai E' args).toArray kind) (frC :: csC) w) := fun E' he =>
       hctx.enter _ _ _ (by rw [hinv E' he, hrun])
     by_cases hm : (tab.merge f && kind == .normal) = true
     · simp only [hm, cond_true] at hc; obtain ⟨outs, ho, hc1⟩ := zz0.1 hc; obtain ⟨ms, hms, hc2⟩ := zz0.1 hc1
       cases hc2; have hk : kind = .normal := eq_of_beq ((Bool.and_eq_true _ _ ▸ hm).2 : (kind == .normal) = true); subst hk; have hargs : ∀ E', Agree D E E' -> (qai E' args).toArray = (qai E args).toArray := by
         intro E' he; have h1 := hstep E' he; rw [hstep E (Agree.refl _ _)] at h1; obtain ⟨e, _, _⟩ := qdg (by simpa using h1); have h2 := hinv E' he; have h3 := hinv E (Agree.refl _ _); rw [h2] at h3; have h4 := hrun (qai E' args).toArray; rw [h3, hrun] at h4; simpa using h4.symm
       obtain ⟨v, h', hmem, he⟩ := hsub f fn body args h outs hfn hb ho D E K w (qai E args).toArray (fun E' he => ⟨(hR.all E' he).1, hargs E' he⟩) hR.dom (frC :: csC); obtain ⟨fr', w', v', E', D', s1, s2, s3, s4, s5, s6, s7, s8, s9, s10⟩ := he; obtain ⟨y, hy, hg⟩ := ql2 hms _ hmem; obtain ⟨fr1, hfin, hg1⟩ := zz0.1 hg
       cases hg1; have hfc := qaO hfin; refine ⟨_, hy, qbC (hfc E).2.2 cs, frC.finish v', csC, w', E', D', ?_, ⟨?_, s7, ?_⟩, s5, s6, s8, s9, s10⟩
       · exact (Steps.head (hstep E (Agree.refl _ _)) s1).trans (.one (step_leave_returned s3))
       · intro E'' he'; obtain ⟨g1, g2⟩ := s4 E'' he'; obtain ⟨k1, k2, k3⟩ := hR.all E'' (s5.trans he' s6); refine ⟨g1, ?_, k3⟩; rw [<- (hfc E'').1, <- g2, <- k2]
       · exact ⟨(hfc E).2.1 hR.wf.1, hR.wf.2⟩
     · have hm' : (tab.merge f && kind == .normal) = false := by simpa using hm
       simp only [hm', cond_false] at hc
       cases hc; refine ⟨rfl, ?_⟩; refine hR.one (m' := { fr := AFrame.enter fn f body args kind, cs := fr :: cs, h }) M0 (fun _ => (0, 0)) (Nat.le_refl _) ⟨qdY _ _ _ _ _, ?_⟩ ?_
       · intro g hg; rcases List.mem_cons.1 hg with rfl | hg
         · exact hR.wf.1
         · exact hR.wf.2 g hg
       · intro E' he H e1 e2 _; refine ⟨w, ?_, H, Kept.refl K w⟩; rw [hstep E' he, qbi hP hb]; simp only [List.map_cons, List.cons_append, e1, e2]
   · rename_i hb; split at hc
     · obtain ⟨⟨v, h'⟩, hx, hc1⟩ := zz0.1 hc; obtain ⟨fr1, hfin, hc2⟩ := zz0.1 hc1
       cases hc2; obtain ⟨g, hg⟩ := hext f fn args h v h' hfn hb hx w; have hfc := qaO hfin; refine ⟨qbC (hfc E).2.2 cs, ?_⟩; obtain ⟨E1, ha1, hE1⟩ := hR.near (fun _ => g); have hn := (hg E1 K (hR.all E1 ha1).1 (fun _ => hE1 h.next (Nat.le_refl _))).1; refine hR.one (m' := { fr := fr1, cs, h := h' }) M0 (fun _ => g) hn.1 ⟨(hfc E).2.1 hR.wf.1, hR.wf.2⟩ ?_; intro E' he H e1 e2 hE'; obtain ⟨_, w', s1, s2, s3⟩ := hg E' K H (fun hlt => hE' h.next (Nat.le_refl _) hlt); refine ⟨w', ?_, s2, s3⟩; rw [hctx.value (conc E' v) w' (by rw [hinv E' he, s1]) rfl, <- e1, <- e2, (hfc E').1]
     · cases hc
 · cases hc
omit ok hsub hext in
theorem qgt {fr : AFrame} {cs : List AFrame} {h : AH} {l : Nat} {args : List AV} {kind : CallKind} {out : AOut} (hc : callYield fr cs h l args kind = .ok out)
  (hR : Rel D E K { fr, cs, h } base frC csC w) (M0 : Machine) {dC : Deferred} (hctx : Ctx P M0 frC csC w kind dC)
  (hinv : ∀ E', Agree D E E' -> invoke dC.target dC.args = Instr.yield (E'.blk l) (qai E' args).toArray) : Out P h.next M0 D E K (bot fr cs) base w out := by
 simp [callYield] at hc
include ok hsub hext in
theorem qdt {fr : AFrame} {cs : List AFrame} {h : AH} {d : AD} {kind : CallKind} {out : AOut} (hc : callTarget tab sub fr cs h d kind = .ok out)
   (hR : Rel D E K { fr, cs, h } base frC csC w) (M0 : Machine) {dC : Deferred} (hctx : Ctx P M0 frC csC w kind dC) (hd : ∀ E', Agree D E E' -> qa8 E' d = dC) : Out P h.next M0 D E K (bot fr cs) base w out := by
 unfold callTarget at hc; split at hc
 · rename_i f captured ht; refine qi4 ok hsub hext hc hR M0 hctx (fun E' he => ?_); rw [<- hd E' he]; simp only [qa8, ht, qhk, invoke, concL_append]; simp
 · rename_i l ht; refine qgt hc hR M0 hctx (fun E' he => ?_); rw [<- hd E' he]; simp only [qa8, ht, qhk, invoke]
 · cases hc
end
end Go.Am
namespace Go.Am
open Go.RowKit
variable [Inhabited DrP]
theorem qgg {P : Program} {w : World} {r : Nat} {o : Obj} (h : w.heap[r]? = some o) (hn : ∀ c e f, o ≠ .cells c e f) (o' : Obj) : (setObj r o').run P w = .ok () (w.put r o') := by
 simp only [setObj, Sem.run, h]; rfl
section
variable {P : Program} {h : AH}
theorem qm7 {it : AV} {s : Bool} {l : List (AV × AH)} (hn : nextOp h it s = .ok l) (w : World) (ty : TypeId) :
  ∃ j : Nat, ∀ E K, HOK E h K w -> ∃ (v : AV) (h' : AH), l[j]? = some (v, h') /\ h'.next = h.next /\ ∃ w', (Instr.next (conc E it) s ty).run P w = .ok (conc E v) w' /\ HOK E h' K w' /\ Kept K w w' := by
 simp [nextOp] at hn
end
end Go.Am
namespace Go.Am
open Go.RowKit
variable [Inhabited DrP]
section
variable {P : Program} {tab : Tab} (ok : TabOK P tab) {sub : FuncId -> List AV -> AH -> R (List (AV × AH))} (hsub : qeA P tab sub) (hext : qez P tab)
variable {D : Nat -> Prop} {E : Env} {K : KS} {base : List Frame} {frC : Frame} {csC : List Frame} {w : World}
variable {fr : AFrame} {cs : List AFrame} {h : AH} {ops : Array Oper} {i : Nat} {rest : List Nat} {k : List AItem} {o : Oper}
structure AtOp (frC : Frame) (ops : Array Oper) (i : Nat) (rest : List Nat) (o : Oper) : Prop where
 mode : frC.mode = .run
 todo : ∃ k, frC.todo = .inRegion ops (i :: rest) :: k
 op : ops[i]? = some o
 wanted : Region.wanted o (yielded ops frC.tmps) = true
theorem atOp (hR : Rel D E K { fr, cs, h } base frC csC w) (hm : fr.mode = .run) (ht : fr.todo = .inRegion ops (i :: rest) :: k) (ho : ops[i]? = some o) (hw : wanted ops o fr.tmps = .ok true) : AtOp frC ops i rest o := by
 obtain ⟨_, e, _⟩ := hR.all E (Agree.refl _ _); subst e; refine ⟨by simp [qak, hm, qbl], ⟨k.map (qaV E), by simp [qak, ht, qaV]⟩, ho, ?_⟩; exact qex hR.wf.1 hw E
theorem AtOp.step (a : AtOp frC ops i rest o) (hd : frC.roundOf = none \/ ∀ c, o.op ≠ .defer c) (csC : List Frame) (w : World) :
  stepG P true { frame := frC, callers := csC, status := .running, dying := none } w = stepG.apply P true frC csC none (execOp frC.eval o) w := by
 obtain ⟨k, hk⟩ := a.todo; exact qtc a.mode hk a.op a.wanted hd w
theorem AtOp.value (a : AtOp frC ops i rest o) (hd : frC.roundOf = none \/ ∀ c, o.op ≠ .defer c) (csC : List Frame) {w w' : World} {r : Next} {x : Value} (hs : (execOp frC.eval o).run P w = .ok r w') (hr : qno r x) :
  Go.step P (lone frC csC w) = .next (lone (frC.finish x) csC w') :=
 step_lone_go (by rw [a.step hd, qgo hs hr])
theorem qjQ {ts : T AV} {v : AV} {h' : AH} (hp : qaH tab ts h o = .ok (v, h')) : ∀ c, o.op ≠ .defer c := by
 intro c e; unfold qaH at hp; rw [e] at hp
 cases hp
include ok in
theorem qoM (hR : Rel D E K { fr, cs, h } base frC csC w) (a : AtOp frC ops i rest o) {v : AV} {h' : AH} (hp : qaH tab fr.tmps h o = .ok (v, h')) {fr' : AFrame} (hf : fr.finish v = .ok fr') :
  Out P h.next (lone frC csC w) D E K (bot fr cs) base w (.next { fr := fr', cs, h := h' }) := by
 obtain ⟨f, hgood⟩ := qfT ok hp w frC.eval; have hfc := qaO hf; have hρ : ∀ E', Agree D E E' -> ∀ x u, ev fr.tmps x = .ok u -> frC.eval x = conc E' u := by
  intro E' he x u hx; rw [<- (hR.all E' he).2.1]; exact qej hR.wf.1 E' hx
 obtain ⟨E1, ha1, hE1⟩ := hR.near (fun _ => f); have hn := (hgood E1 K (hR.all E1 ha1).1 (hρ E1 ha1) (fun _ => hE1 h.next (Nat.le_refl _))).1; refine ⟨qbC (hfc E).2.2 cs, ?_⟩; refine hR.one (m' := { fr := fr', cs, h := h' }) _ (fun _ => f) hn.1 ⟨(hfc E).2.1 hR.wf.1, hR.wf.2⟩ ?_; intro E' he H e1 e2 hE'; obtain ⟨_, r, w', s1, s2, s3, s4⟩ := hgood E' K H (hρ E' he) (fun hlt => hE' h.next (Nat.le_refl _) hlt); refine ⟨w', ?_, s3, s4⟩; rw [a.value (.inr (qjQ hp)) csC s1 s2, <- e1, <- e2, (hfc E').1]
theorem qcH {u : AV} {args : List AV} {d : AD} (hd : qd5 u args = .ok d) (E : Env) : Deferred.ofValue (conc E u) (qai E args).toArray = pure (qa8 E d) := by
 unfold qd5 at hd; split at hd
 · cases hd; simp [Deferred.ofValue, conc, qa8, qhk]
 · cases hd; simp [Deferred.ofValue, conc, qa8, qhk]
 · cases hd
theorem qdB {f : Value} {a : Array Value} {d : AD} (h : ∀ E', Agree D E E' -> Deferred.ofValue f a = pure (qa8 E' d)) : ∀ E', Agree D E E' -> qa8 E' d = qa8 E d := by
 intro E' he; have h1 := h E' he; rw [h E (Agree.refl _ _)] at h1; have h2 : (pure (qa8 E d) : Sem Deferred).run default default = (pure (qa8 E' d) : Sem Deferred).run default default := by rw [h1]
 simpa using h2.symm
theorem qgD (a : AtOp frC ops i rest o) (hd : frC.roundOf = none \/ ∀ c, o.op ≠ .defer c) {dC : Deferred} (hx : (execOp frC.eval o).run P w = (invoke dC.target dC.args).run P w) :
   Ctx P (lone frC csC w) frC csC w .normal dC := by
 obtain ⟨k, hk⟩ := a.todo; refine ⟨fun f x w' hr => ?_, fun l f t x b w' hr => ?_, fun v w' hr _ => ?_⟩
 · refine step_lone_go ?_; rw [a.step hd]; simp [stepG.apply, hx, hr, hk]
 · refine step_lone_go ?_; rw [a.step hd]; simp [stepG.apply, hx, hr]
 · exact a.value hd csC (by rw [hx, hr]) (.inl rfl)
theorem qhd {r : Option (AV × List AFrame)} (hr : tryRecover fr cs = .ok r) (E : Env) (base : List Frame) :
   Go.tryRecover (qak E fr) (cs.map (qak E) ++ base) = r.map (fun x => (conc E x.1, x.2.map (qak E) ++ base)) := by
 unfold tryRecover at hr; split at hr
 · rename_i _ c rest hk; have hk' : (qak E fr).kind = .deferred := hk; split at hr
   · rename_i v older hm
     cases hr; have hm' : (qak E c).mode = .panicking ({ v := conc E v, recovered := false } :: older.map (qhj E)) := by simp [qak, hm, qbl, qhj]
     simp only [List.map_cons, List.cons_append, Go.tryRecover, hk', hm', Option.map_some]; rfl
   · rename_i hm
     cases hr; simp only [List.map_cons, List.cons_append, Go.tryRecover, hk', Option.map_none]; split
     · rename_i heq; exfalso; simp only [qak, qbl] at heq; split at heq
       · cases heq
       · cases heq
       · rename_i chain hch
         cases chain with
         | nil => simp at heq
         | cons p older =>
          obtain ⟨v', rc⟩ := p; simp [qhj] at heq; obtain ⟨⟨_, h2⟩, _⟩ := heq; subst h2; exact hm _ _ hch
     · rfl
 · rename_i _ c rest hk
   cases hr; have hk' : (qak E fr).kind = .normal := hk; simp only [List.map_cons, List.cons_append]; unfold Go.tryRecover; simp [hk']
 · cases hr
theorem qiR {v : AV} {cs' : List AFrame} (hr : tryRecover fr cs = .ok (some (v, cs'))) : (∀ f ∈ cs, f.WF) -> (∀ f ∈ cs', f.WF) /\ (∀ fr', fr'.fn = fr.fn -> bot fr' cs' = bot fr cs) := by
 intro hwf; unfold tryRecover at hr; split at hr
 · rename_i _ c rest hk; split at hr
   · cases hr; refine ⟨fun f hf => ?_, fun fr' hf => ?_⟩
     · rcases List.mem_cons.1 hf with rfl | hf
       · exact hwf c List.mem_cons_self
       · exact hwf f (List.mem_cons_of_mem _ hf)
     · show bot _ rest = bot c rest
       exact qbC (by rfl) rest
   · cases hr
 · cases hr
 · cases hr
include ok hsub hext in
theorem qna {out : AOut} (hop : oper tab sub fr cs h o = .ok out) (hR : Rel D E K { fr, cs, h } base frC csC w) (hm : fr.mode = .run) (ht : fr.todo = .inRegion ops (i :: rest) :: k)
   (ho : ops[i]? = some o) (hw : wanted ops o fr.tmps = .ok true) : Out P h.next (lone frC csC w) D E K (bot fr cs) base w out := by
 have a := atOp hR hm ht ho hw; have hρ : ∀ E', Agree D E E' -> ∀ x u, ev fr.tmps x = .ok u -> frC.eval x = conc E' u := by
   intro E' he x u hx; rw [<- (hR.all E' he).2.1]; exact qej hR.wf.1 E' hx
 have hpure : ∀ {out : AOut}, (do let (v, h') <- qaH tab fr.tmps h o; R.ok (AOut.next { fr := <- fr.finish v, cs, h := h' }) : R AOut) = .ok out -> Out P h.next (lone frC csC w) D E K (bot fr cs) base w out := by
   intro out hp; obtain ⟨⟨v, h'⟩, h1, hp1⟩ := zz0.1 hp; obtain ⟨fr', h2, hp2⟩ := zz0.1 hp1
   cases hp2; exact qoM ok hR a h1 h2
 unfold oper at hop; split at hop
 · rename_i c hc; split at hop
   ·
     rename_i f hf; obtain ⟨args, hargs, hop1⟩ := zz0.1 hop; obtain ⟨u, hu, hop2⟩ := zz0.1 hop1; obtain ⟨d, hd, hop3⟩ := zz0.1 hop2; have hres : ∀ E', Agree D E E' -> Deferred.ofValue (frC.eval f) (c.args.map frC.eval) = pure (qa8 E' d) := by
       intro E' he; rw [<- qcH hd E', hρ E' he _ _ hu, <- qek (hρ E' he) _ _ hargs]; congr 1
       simp [<- Array.toList_inj]
     have hrob := qdB hres; refine qdt ok hsub hext hop3 hR _ (dC := qa8 E d) (qgD a (.inr (by rw [hc]; intro c' e; cases e)) ?_) hrob; simp [execOp, hc, resolve, hf, hres E (Agree.refl _ _)]
   ·
     rename_i hb; split at hop
     · rename_i hround; have hr0 : frC.roundOf = none := by
         rw [<- (hR.all E (Agree.refl _ _)).2.1]; simp [qak, hround]
       obtain ⟨r, hr, hop1⟩ := zz0.1 hop; have hnd : frC.roundOf = none \/ ∀ c, o.op ≠ .defer c := .inl hr0; have hrun : (execOp frC.eval o).run P w = .ok .recover w := by
         simp [execOp, hc, resolve, hb, invoke, Go.builtin]
       have hstep : ∀ E', Agree D E E' -> (stepG P true { frame := frC, callers := csC, status := .running, dying := none } w).bare =
          (match r.map (fun x => (conc E' x.1, x.2.map (qak E') ++ base)) with
           | some (v, callers) => .go { frame := frC.finish v, callers, status := .running, dying := none } w
           | none => .go { frame := frC.finish .nilIface, callers := csC, status := .running, dying := none } w) := by
         intro E' he; obtain ⟨_, e1, e2⟩ := hR.all E' he; rw [<- qhd hr E' base, e1, e2, a.step hnd]; simp only [stepG.apply, hrun, hr0, Sem.runT_eq, if_true]
         cases Go.tryRecover frC csC <;> simp
       split at hop1
       · rename_i v cs' ; obtain ⟨fr', hf, hop2⟩ := zz0.1 hop1
         cases hop2; have hfc := qaO hf; obtain ⟨g1, g2⟩ := qiR hr hR.wf.2; refine ⟨g2 _ (hfc E).2.2, ?_⟩; refine hR.one (m' := { fr := fr', cs := cs', h }) _ (fun _ => (0, 0)) (Nat.le_refl _) ⟨(hfc E).2.1 hR.wf.1, g1⟩ ?_; intro E' he H e1 e2 _; refine ⟨w, step_lone_go ?_, H, Kept.refl K w⟩; rw [hstep E' he, <- (hfc E').1, e1]; rfl
       · obtain ⟨fr', hf, hop2⟩ := zz0.1 hop1
         cases hop2; have hfc := qaO hf; refine ⟨qbC (hfc E).2.2 cs, ?_⟩; refine hR.one (m' := { fr := fr', cs, h }) _ (fun _ => (0, 0)) (Nat.le_refl _) ⟨(hfc E).2.1 hR.wf.1, hR.wf.2⟩ ?_; intro E' he H e1 e2 _; refine ⟨w, step_lone_go ?_, H, Kept.refl K w⟩; rw [hstep E' he, <- (hfc E').1, e1, e2]; rfl
     · cases hop
   · exact hpure hop
 ·
   rename_i c hc; split at hop
   · rename_i f hf hround; have hr0 : frC.roundOf = none := by
       rw [<- (hR.all E (Agree.refl _ _)).2.1]; simp [qak, hround]
     obtain ⟨args, hargs, hop1⟩ := zz0.1 hop; obtain ⟨u, hu, hop2⟩ := zz0.1 hop1; obtain ⟨d, hd, hop3⟩ := zz0.1 hop2; obtain ⟨fr', hfin, hop4⟩ := zz0.1 hop3
     cases hop4; have hres : ∀ E', Agree D E E' -> Deferred.ofValue (frC.eval f) (c.args.map frC.eval) = pure (qa8 E' d) := by
       intro E' he; rw [<- qcH hd E', hρ E' he _ _ hu, <- qek (hρ E' he) _ _ hargs]; congr 1
       simp [<- Array.toList_inj]
     have hfc := qaO hfin; refine ⟨(qbC (hfc E).2.2 cs).trans (qbC (by rfl) cs), ?_⟩; refine hR.one (m' := { fr := fr', cs, h }) _ (fun _ => (0, 0)) (Nat.le_refl _) ⟨(hfc E).2.1 hR.wf.1, hR.wf.2⟩ ?_; intro E' he H e1 e2 _; refine ⟨w, step_lone_go ?_, H, Kept.refl K w⟩; have hrun : (execOp frC.eval o).run P w = .ok (.defer (qa8 E' d)) w := by
       simp [execOp, hc, resolve, hf, hres E' he]
     rw [a.step (.inl hr0), <- (hfc E').1, <- e2]; simp only [stepG.apply, hrun, Sem.runT_eq, if_true, GStep.bare_after, GStep.bare_go]; rw [<- e1]; rfl
   · cases hop
 ·
   rename_i x hx; obtain ⟨u, hu, hop1⟩ := zz0.1 hop; split at hop1
   · rename_i t v
     cases hop1; have hnd : ∀ c, o.op ≠ .defer c := by rw [hx]; intro c e; cases e
     refine ⟨qbC (by unfold AFrame.raise; split <;> rfl) cs, ?_⟩; refine hR.one (m' := { fr := fr.raise [{ v := .iface t v, recovered := false }], cs, h }) _ (fun _ => (0, 0)) (Nat.le_refl _) ⟨by unfold AFrame.raise; split <;> exact hR.wf.1, hR.wf.2⟩ ?_; intro E' he H e1 e2 _; refine ⟨w, step_lone_go ?_, H, Kept.refl K w⟩; have hrun : (execOp frC.eval o).run P w = .halt (.panic (conc E' (.iface t v))) w := by
       simp [execOp, hx, hρ E' he _ _ hu, conc, Instr.panic, goPanic, Sem.run, Result.andThen]
     rw [a.step (.inr hnd), <- e2]; simp only [stepG.apply, hrun, Sem.runT_eq, if_true, GStep.bare_after, GStep.bare_go]; rw [<- e1]; simp [Frame.raise, AFrame.raise, qak, hm, qbl, qhj]
   · cases hop1
 ·
   rename_i it s hn; obtain ⟨u, hu, hop1⟩ := zz0.1 hop; obtain ⟨l, hl, hop2⟩ := zz0.1 hop1; obtain ⟨ms, hms, hop3⟩ := zz0.1 hop2; have hnd : ∀ c, o.op ≠ .defer c := by rw [hn]; intro c e; cases e
   obtain ⟨j, hj⟩ := qm7 (P := P) hl w o.type; obtain ⟨v, h', hv, hh, _⟩ := hj E K (hR.all E (Agree.refl _ _)).1; obtain ⟨y, hy, hg⟩ := ql2 hms _ (List.mem_of_getElem? hv); obtain ⟨fr', hfin, hg1⟩ := zz0.1 hg
   cases hg1; have hfc := qaO hfin; have hgets : bot fr' cs = bot fr cs /\ Gets P h.next (lone frC csC w) D E K { fr := fr', cs, h := h' } base w := by
     refine ⟨qbC (hfc E).2.2 cs, ?_⟩; refine hR.one (m' := { fr := fr', cs, h := h' }) _ (fun _ => (0, 0)) (by simp only; omega) ⟨(hfc E).2.1 hR.wf.1, hR.wf.2⟩ ?_; intro E' he H e1 e2 _; obtain ⟨v2, h2, hv2, _, w', s1, s2, s3⟩ := hj E' K H; rw [hv] at hv2
     cases hv2; refine ⟨w', ?_, s2, s3⟩; rw [a.value (.inr hnd) csC (ofV (s := Instr.next (frC.eval it) s o.type) (by simp [execOp, hn]) (by rw [hρ E' he _ _ hu]; exact s1)) (.inl rfl), <- e1, <- e2, (hfc E').1]
   split at hop3
   · rename_i m
     cases hop3; rcases List.mem_cons.1 hy with rfl | hy
     · exact hgets
     · cases hy
   · cases hop3; exact ⟨_, hy, hgets⟩
 · exact hpure hop
end
end Go.Am
namespace Go.Am
open Go.RowKit
variable [Inhabited DrP]
section
variable {P : Program} {tab : Tab} (ok : TabOK P tab) {sub : FuncId -> List AV -> AH -> R (List (AV × AH))} (hsub : qeA P tab sub) (hext : qez P tab)
variable {D : Nat -> Prop} {E : Env} {K : KS} {base : List Frame} {frC : Frame} {csC : List Frame} {w : World}
variable {fr : AFrame} {cs : List AFrame} {h : AH}
theorem qkw (E : Env) (l : List APE) : (l.map (qhj E)).dropWhile (fun e => !e.goexit) = [] := by
 induction l with
 | nil => rfl
 | cons a l ih => simp [qhj]; exact ih
theorem qdD {v : AV} {m' : AM} (hd : doReturn fr cs v h = .ok (.next m')) (hwf : ∀ f ∈ cs, f.WF) (w : World) :
   m'.h = h /\ bot m'.fr m'.cs = bot fr cs /\ (m'.fr.WF /\ ∀ f ∈ m'.cs, f.WF) /\
   ∀ E base, (Go.doReturn P true (qak E fr) (cs.map (qak E) ++ base) none (conc E v) w).bare =
     .go { frame := qak E m'.fr, callers := m'.cs.map (qak E) ++ base, status := .running, dying := none } w := by
 unfold doReturn at hd; split at hd
 · split at hd <;> cases hd
 · rename_i c rest; have hc := hwf c List.mem_cons_self; have hrest : ∀ f ∈ rest, f.WF := fun f hf => hwf f (List.mem_cons_of_mem _ hf)
   split at hd
   · rename_i hk; obtain ⟨fr1, hf, hd1⟩ := zz0.1 hd
     cases hd1; have hfc := qaO hf; refine ⟨rfl, qbC (hfc ⟨fun _ => 0, fun _ => 0⟩).2.2 rest, ⟨(hfc ⟨fun _ => 0, fun _ => 0⟩).2.1 hc, hrest⟩, fun E base => ?_⟩; have hk' : (qak E fr).kind = .normal := hk; simp [Go.doReturn, hk', (hfc E).1]
   · rename_i hk; split at hd
     · rename_i r hm
       cases hd; refine ⟨rfl, qbC (by rfl) rest, ⟨hc, hrest⟩, fun E base => ?_⟩; have hk' : (qak E fr).kind = .deferred := hk; simp only [List.map_cons, List.cons_append, Go.doReturn, hk']; simp only [qak, hm, qbl, List.map_cons, qhj]; simp [qkw]
     · rename_i hm
       cases hd; refine ⟨rfl, rfl, ⟨hc, hrest⟩, fun E base => ?_⟩; have hk' : (qak E fr).kind = .deferred := hk; simp only [List.map_cons, List.cons_append, Go.doReturn, hk']; split
       · rename_i heq; exfalso; simp only [qak, qbl] at heq; split at heq
         · cases heq
         · cases heq
         · rename_i chain hch
           cases chain with
           | nil => simp at heq
           | cons p older =>
            obtain ⟨v', rc⟩ := p; simp [qhj] at heq; obtain ⟨⟨_, h2, _⟩, _⟩ := heq; subst h2; exact hm _ _ hch
       · rfl
   · cases hd
include ok in
theorem qkY {ts : T AV} {nt : Nat} (hwf : ∀ t, nt <= t -> ts.get t = none) (H : HOK E h K w) : ∀ (l : List ResultVar) (vs : List AV), results tab h ts l = .ok vs ->
  (l.mapM (m := Sem) fun
   | .tmp t => pure ((qaG E ts nt).getD t undef)
   | .cell a t => do Go.loadVar t (<- asAddr ((qaG E ts nt).getD a undef))).run P w = .ok (qai E vs) w := by
 intro l; induction l with
 | nil => intro vs h; simp only [results] at h; cases h; simp
 | cons x l ih =>
  intro vs hr; rw [List.mapM_cons]
  cases x with
  | tmp t =>
   simp only [results] at hr; obtain ⟨vs1, h1, h2⟩ := zz0.1 hr
   cases h2; simp only [Sem.run_bind, Sem.run_pure, Result.andThen_ok, ih _ h1, qhb E ts nt t hwf, concL_cons]
  | cell a t =>
   simp only [results] at hr; split at hr
   · rename_i b off ha; obtain ⟨v, h1, h2⟩ := zz0.1 hr; obtain ⟨vs1, h3, h4⟩ := zz0.1 h2
     cases h4; have hv := qgO ok H h1; have hva : asAddr (conc E (.ptr b off)) = pure ⟨E.blk b, off, none⟩ := rfl; simp only [Sem.run_bind, Sem.run_pure, Result.andThen_ok, ih _ h3, qhb E ts nt a hwf, concL_cons, ha, Option.getD_some, hva, hv]
   · cases hr
include ok in
theorem qjT {fn : Func} {ts : T AV} {nt : Nat} (hwf : ∀ t, nt <= t -> ts.get t = none) (H : HOK E h K w) {vs : List AV} (hr : results tab h ts fn.results.toList = .ok vs) :
  (Go.results fn (qaG E ts nt)).run P w = .ok (conc E (result vs)) w := by
 have h1 := qkY ok hwf H _ _ hr; unfold Go.results; rw [Array.mapM_eq_mapM_toList, map_eq_pure_bind, Sem.run_bind, Sem.run_bind]; erw [h1]
 simp only [Result.andThen_ok, Sem.run_pure]
 cases vs with
 | nil => simp [result, conc]
 | cons v vs =>
  cases vs with
  | nil => simp [result]
  | cons u vs => simp [result, conc]
end
end Go.Am
namespace Go.Am
open Go.RowKit
variable [Inhabited DrP]
section
variable {P : Program} {tab : Tab} (ok : TabOK P tab) {sub : FuncId -> List AV -> AH -> R (List (AV × AH))} (hsub : qeA P tab sub) (hext : qez P tab)
variable {D : Nat -> Prop} {E : Env} {K : KS} {base : List Frame} {frC : Frame} {csC : List Frame} {w : World}
variable {fr : AFrame} {cs : List AFrame} {h : AH}
theorem qjd {E E' : Env} (e : qak E' fr = qak E fr) : qaG E' fr.tmps fr.nt = qaG E fr.tmps fr.nt /\ fr.todo.map (qaV E') = fr.todo.map (qaV E) /\
  fr.defers.map (qa8 E') = fr.defers.map (qa8 E) /\ qbl E' fr.mode = qbl E fr.mode /\ fr.round.map E'.blk = fr.round.map E.blk := by
 simpa [qak] using e
def qcX (P : Program) (fr : Frame) (callers : List Frame) (w : World) (jump : Option Code) : GStep :=
 match fr.roundOf with
 | none => if jump matches none | some .ret then .go { frame := { fr with mode := .returning }, callers, status := .running, dying := none } w else .ended (.stuck "exit, goto: no such block or label" (fr.pos P)) w
 | some l =>
  let (r, es) := (Instr.endRound l jump).runT P w #[]
  GStep.after (seen P fr.fn es) <| match r with
  | .ok v w => Go.doReturn P true fr callers none v w
  | .halt _ w => .ended (.stuck "range over a function: no such loop" (fr.pos P)) w
theorem qeN {c : AFrame} {rest : List AFrame} {v : AV} {out : AOut} (hd : doReturn fr (c :: rest) v h = .ok out) : ∃ m', out = .next m' := by
 unfold doReturn at hd; simp only at hd; split at hd
 · obtain ⟨fr1, hf, hd1⟩ := zz0.1 hd
   cases hd1; exact ⟨_, rfl⟩
 · split at hd <;> (cases hd; exact ⟨_, rfl⟩)
 · cases hd
theorem qen {jump : Option Code} {out : AOut} (hl : leave fr cs h jump = .ok out) (hR : Rel D E K { fr, cs, h } base frC csC w)
   (hx : stepG P true { frame := frC, callers := csC, status := .running, dying := none } w = qcX P frC csC w jump) : Out P h.next (lone frC csC w) D E K (bot fr cs) base w out := by
 unfold leave at hl; split at hl
 · rename_i hround; have hret : (jump = none \/ jump = some .ret) -> Out P h.next (lone frC csC w) D E K (bot fr cs) base w (.next { fr := { fr with mode := .returning }, cs, h }) := by
     intro hj; refine ⟨qbC (by rfl) cs, ?_⟩; refine hR.one (m' := { fr := { fr with mode := .returning }, cs, h }) _ (fun _ => (0, 0)) (Nat.le_refl _) ⟨hR.wf.1, hR.wf.2⟩ ?_; intro E' he H e1 e2 _; refine ⟨w, step_lone_go ?_, H, Kept.refl K w⟩; rw [hx]; have hr0 : frC.roundOf = none := by rw [<- e1]; simp [qak, hround]
     have hgo : (qcX P frC csC w jump).bare = .go { frame := { frC with mode := .returning }, callers := csC, status := .running, dying := none } w := by
       unfold qcX; rw [hr0]; rcases hj with rfl | rfl <;> rfl
     rw [hgo, <- e1, <- e2]; simp [qak, hround, qbl]
   split at hl
   · cases hl; exact hret (.inl rfl)
   · cases hl; exact hret (.inr rfl)
   · cases hl
 · rename_i l hround; split at hl
   · rename_i _ st pd fn ts nt ps a b d c rest hg; obtain ⟨m', rfl⟩ := qeN hl
     · obtain ⟨h1, h2, h3, h4⟩ := qdD (P := P) hl hR.wf.2 w; refine ⟨h2, ?_⟩; refine hR.one _ (fun _ => (0, 0)) (by rw [h1]; exact Nat.le_refl _) h3 ?_; intro E' he H e1 e2 _; obtain ⟨o, ho, hoo, hw⟩ := H.obj l _ hg; subst hoo; let o' : Obj := .loop { state := if jump.isNone then .ready else .done, pending := jump, fn, tmps := qaG E' ts nt, params := ps, assign := a, body := b, defers := E'.blk d }
       have hrun : (Instr.endRound (E'.blk l) jump).run P w = .ok (.bool jump.isNone) (w.put (E'.blk l) o') := by
         unfold Instr.endRound Instr.getLoop; simp only [Sem.run_bind, qgf ho (by simp), Result.andThen_ok, Sem.run_pure, qgg ho (by simp)]; rfl
       refine ⟨w.put (E'.blk l) o', step_lone_go ?_, ?_, H.kept_put hg (by simp [AO.ro]) _⟩
       · rw [hx]; have hr0 : frC.roundOf = some (E'.blk l) := by rw [<- e1]; simp [qak, hround]
         unfold qcX; rw [hr0]; simp only [Sem.runT_eq, hrun, GStep.bare_after]; have := (qdD (P := P) hl hR.wf.2 (w.put (E'.blk l) o')).2.2.2 E' base; simp only at e1 e2; rw [e1, e2] at this; exact this
       · rw [h1]; refine H.put hg (by simp [AO.ro]) ⟨?_, hw⟩; by_cases hj : jump.isNone <;> simp [o', hj]
   · cases hl
theorem qj5 (hm : frC.mode ≠ .run) : stepG P true { frame := frC, callers := csC, status := .running, dying := none } w = Go.unwind P true frC csC none w := by
 unfold stepG
 cases hmode : frC.mode with
 | run => exact absurd hmode hm
 | returning => simp [hmode]
 | panicking c => simp [hmode]
include ok hsub hext in
theorem qj7 {out : AOut} (hu : unwind tab sub fr cs h = .ok out) (hm : ∀ (_ : fr.mode = .run), False) (hR : Rel D E K { fr, cs, h } base frC csC w) : Out P h.next (lone frC csC w) D E K (bot fr cs) base w out := by
 have hmC : frC.mode ≠ .run := by
   rw [<- (hR.all E (Agree.refl _ _)).2.1]; intro e; simp only [qak, qbl] at e; split at e
   · rename_i hmm; exact hm hmm
   · cases e
   · cases e
 have hx := qj5 (P := P) (csC := csC) (w := w) hmC; unfold unwind at hu; split at hu
 ·
   rename_i b args ds hds; split at hu
   · rename_i calls hb
     cases hu; refine ⟨qbC (by rfl) cs, ?_⟩; refine hR.one (m' := { fr := { fr with defers := calls ++ ds }, cs, h := h.set b (.dfr none) }) _ (fun _ => (0, 0)) (Nat.le_refl _) ⟨hR.wf.1, hR.wf.2⟩ ?_; intro E' he H e1 e2 _; obtain ⟨o, ho, hoo⟩ := H.obj b _ hb; simp only [OOK] at hoo; subst hoo; refine ⟨w.put (E'.blk b) (.deferred none), step_lone_go ?_, H.put hb (by simp [AO.ro]) (by simp [OOK]), H.kept_put hb (by simp [AO.ro]) _⟩; rw [hx]; have hrun : (Instr.takeDeferred (E'.blk b)).run P w = .ok (calls.map (qa8 E')) (w.put (E'.blk b) (.deferred none)) := by
       unfold Instr.takeDeferred; simp only [Sem.run_bind, qgf ho (by simp), Result.andThen_ok, Sem.run_pure, qgg ho (by simp), Option.map_some]
     have hdef : frC.defers = { target := .collected (E'.blk b), args := (qai E' args).toArray } :: ds.map (qa8 E') := by
       rw [<- e1]; simp [qak, hds, qa8, qhk]
     unfold Go.unwind; simp only [hdef, Sem.runT_eq, hrun, GStep.bare_after, GStep.bare_go]; rw [<- e1, <- e2]; simp [qak]
   · cases hu
 ·
   rename_i d ds hnc hds; have hR' : Rel D E K { fr := { fr with defers := ds }, cs, h } base (qak E { fr with defers := ds }) csC w := by
     refine ⟨fun E' he => ?_, hR.dom, hR.wf.1, hR.wf.2⟩; obtain ⟨g1, g2, g3⟩ := hR.all E' he; refine ⟨g1, ?_, g3⟩; obtain ⟨h1, h2, h3, h4, h5⟩ := qjd (g2.trans (hR.all E (Agree.refl _ _)).2.1.symm); rw [hds] at h3; simp only [List.map_cons, List.cons.injEq] at h3; simp [qak, h1, h2, h3.2, h4, h5]
   have hdrob : ∀ E', Agree D E E' -> qa8 E' d = qa8 E d := by
     intro E' he; obtain ⟨g1, g2, g3⟩ := hR.all E' he; obtain ⟨h1, h2, h3, h4, h5⟩ := qjd (g2.trans (hR.all E (Agree.refl _ _)).2.1.symm); rw [hds] at h3; simp only [List.map_cons, List.cons.injEq] at h3; exact h3.1
   have hfr : frC = qak E fr := (hR.all E (Agree.refl _ _)).2.1.symm; have hdef : frC.defers = qa8 E d :: ds.map (qa8 E) := by
     rw [hfr]; simp [qak, hds]
   have hfr' : ({ frC with defers := ds.map (qa8 E) } : Frame) = qak E { fr with defers := ds } := by
     rw [hfr]; rfl
   have hux : Go.unwind P true frC csC none w = callDeferred P (qak E { fr with defers := ds }) csC none (qa8 E d) w := by
     have hnc' : ∀ b, (qa8 E d).target ≠ .collected b := by
       intro b e; obtain ⟨t, a⟩ := d
       cases t with
       | fn f c => simp [qa8, qhk] at e
       | yld l => simp [qa8, qhk] at e
       | collected r => exact hnc _ _ rfl
     unfold Go.unwind; rw [hdef]; split
     · rename_i b ds' _ heq; simp only [List.cons.injEq] at heq; exact absurd (by rw [heq.1]) (hnc' _)
     · rename_i heq; simp only [List.cons.injEq] at heq; obtain ⟨rfl, rfl⟩ := heq; rw [hfr']
     · rename_i heq; cases heq
   obtain ⟨tg, tc, htgt⟩ : ∃ g c, (qa8 E d).target = .fn g c := by
     obtain ⟨t, a⟩ := d
     cases t with
     | fn f c => exact ⟨_, _, rfl⟩
     | yld l => exact ⟨_, _, rfl⟩
     | collected r => exact absurd rfl (fun e => hnc r a e)
   rw [<- qbC (fr := fr) (fr' := { fr with defers := ds }) rfl cs]; refine (qdt ok hsub hext hu hR' (lone frC csC w) (dC := qa8 E d) ⟨fun f x w' hr => ?_, fun l f t x b w' hr => ?_, fun v w' hr hk => ?_⟩ hdrob)
   · refine step_lone_go ?_; rw [hx, hux]; unfold callDeferred; rw [htgt] at hr; simp only [htgt, Bool.false_and, Bool.false_eq_true, if_false, Sem.runT_eq, hr, GStep.bare_after, GStep.bare_go]
   · refine step_lone_go ?_; rw [hx, hux]; unfold callDeferred; rw [htgt] at hr; simp only [htgt, Bool.false_and, Bool.false_eq_true, if_false, Sem.runT_eq, hr, GStep.bare_after, GStep.bare_go]
   · cases hk
 · rename_i hds; have hdef : frC.defers = [] := by
     rw [<- (hR.all E (Agree.refl _ _)).2.1]; simp [qak, hds]
   split at hu
   · cases hu
   ·
     rename_i chain hmode; split at hu
     · rename_i c rest
       cases hu; refine ⟨qbC (by unfold AFrame.raise; split <;> rfl) rest, ?_⟩; refine hR.one (m' := { fr := c.raise chain, cs := rest, h }) _ (fun _ => (0, 0)) (Nat.le_refl _)
        ⟨by have := hR.wf.2 c List.mem_cons_self; unfold AFrame.raise; split <;> exact this, fun f hf => hR.wf.2 f (List.mem_cons_of_mem _ hf)⟩ ?_
       intro E' he H e1 e2 _; refine ⟨w, step_lone_go ?_, H, Kept.refl K w⟩; have hmd : frC.mode = .panicking (chain.map (qhj E')) := by rw [<- e1]; simp [qak, hmode, qbl]
       have hcat : frC.catches P = false := by
        unfold Frame.catches; rw [<- e1]
        cases P.funcs[(qak E' fr).fn]? with
        | some _ => rfl
        | none =>
          cases htd : fr.todo with
          | nil => simp [qak, htd]
          | cons x l => cases x <;> simp [qak, htd, qaV]
       rw [hx]; unfold Go.unwind; simp only [hdef, hmd, hcat, Bool.false_eq_true, if_false]; rw [<- e2]; simp only [List.map_cons, List.cons_append, GStep.bare_go]; congr 2
       unfold Frame.raise AFrame.raise
       cases hcm : c.mode <;> simp [qak, hcm, qbl]
     · cases hu
   ·
     rename_i hmode; split at hu
     · cases hu
     · rename_i fn hfn; obtain ⟨vs, hvs, hu1⟩ := zz0.1 hu; have hP := ok.fns _ _ hfn; have hmd : frC.mode = .returning := by rw [<- (hR.all E (Agree.refl _ _)).2.1]; simp [qak, hmode, qbl]
       have hres : ∀ E', Agree D E E' -> (Go.results fn frC.tmps).run P w = .ok (conc E' (result vs)) w := by
        intro E' he; obtain ⟨g1, g2, g3⟩ := hR.all E' he; rw [<- g2]; exact qjT ok hR.wf.1 g1 hvs
       have hfn' : frC.fn = fr.fn := by rw [<- (hR.all E (Agree.refl _ _)).2.1]; rfl
       have hP' : P.funcs[frC.fn]? = some fn := by rw [hfn']; exact hP
       have hxx : ∀ E', Agree D E E' -> (stepG P true { frame := frC, callers := csC, status := .running, dying := none } w).bare = (Go.doReturn P true frC csC none (conc E' (result vs)) w).bare := by
        intro E' he; rw [hx]; unfold Go.unwind; simp only [hdef, hmd, hP', Sem.runT_eq, hres E' he, GStep.bare_after]
       cases cs with
       | cons c rest =>
        obtain ⟨m', rfl⟩ := qeN hu1; obtain ⟨h1, h2, h3, h4⟩ := qdD (P := P) hu1 hR.wf.2 w; refine ⟨h2, ?_⟩; refine hR.one _ (fun _ => (0, 0)) (by rw [h1]; exact Nat.le_refl _) h3 ?_; intro E' he H e1 e2 _; refine ⟨w, step_lone_go ?_, by rw [h1]; exact H, Kept.refl K w⟩; rw [hxx E' he]; have := h4 E' base; simp only at e1 e2; rw [e1, e2] at this; exact this
       | nil =>
        unfold doReturn at hu1; simp only at hu1; split at hu1
        · rename_i hk
          cases hu1; have hk' : frC.kind = .normal := by rw [<- (hR.all E (Agree.refl _ _)).2.1]; exact hk
          have hcs : csC = base := by rw [<- (hR.all E (Agree.refl _ _)).2.2]; rfl
          subst hcs; refine ⟨frC, w, conc E (result vs), E, D, Steps.refl P _, hfn', ⟨hmd, hdef, hk', fn, hP', hres E (Agree.refl _ _)⟩, ?_, Agree.refl _ _, fun _ hi => hi, hR.dom, Kept.refl K w, Nat.le_refl _, fun _ hi => .inl hi⟩; intro E'' he; refine ⟨(hR.all E'' he).1, ?_⟩; have h1 := hres E'' he; rw [hres E (Agree.refl _ _)] at h1; simpa using h1.symm
        · cases hu1
end
end Go.Am
namespace Go.Am
open Go.RowKit
variable [Inhabited DrP]
section
variable {P : Program} {tab : Tab} (ok : TabOK P tab) {sub : FuncId -> List AV -> AH -> R (List (AV × AH))} (hsub : qeA P tab sub) (hext : qez P tab)
variable {D : Nat -> Prop} {E : Env} {K : KS} {base : List Frame} {frC : Frame} {csC : List Frame} {w : World}
variable {fr : AFrame} {cs : List AFrame} {h : AH}
theorem Rel.grow {m : AM} (hR : Rel D E K m base frC csC w) (m' : AM) (fr' : Frame) (w' : World) (f : Nat -> Nat × Nat) (hn : m.h.next <= m'.h.next) (hwf : m'.fr.WF /\ ∀ f ∈ m'.cs, f.WF) (hcs : m'.cs = m.cs)
   (h1 : ∀ E', Agree D E E' -> HOK E' m.h K w -> qak E' m.fr = frC -> (∀ i, m.h.next <= i -> i < m'.h.next -> E'.blk i = (f i).1 /\ E'.cap i = (f i).2) -> HOK E' m'.h K w' /\ qak E' m'.fr = fr') :
   ∃ D1 E1, Rel D1 E1 K m' base fr' csC w' /\ Agree D E E1 /\ (∀ i, D i -> D1 i) /\ (∀ i, m.h.next <= i -> i < m'.h.next -> ∀ E', Agree D1 E1 E' -> E'.blk i = (f i).1) /\ (∀ i, D1 i -> D i \/ m.h.next <= i) := by
 obtain ⟨E1, ha, hE⟩ := hR.near f; let D1 : Nat -> Prop := fun i => D i \/ (m.h.next <= i /\ i < m'.h.next)
 have hnew : ∀ i, m.h.next <= i -> i < m'.h.next -> ∀ E', Agree D1 E1 E' -> E'.blk i = (f i).1 /\ E'.cap i = (f i).2 := by
   intro i hi hj E' he; have h2 := he i (.inr ⟨hi, hj⟩); have h3 := hE i hi; exact ⟨h2.1.trans h3.1, h2.2.trans h3.2⟩
 refine ⟨D1, E1, ⟨fun E' he => ?_, fun i hi => ?_, hwf⟩, ha, fun i hi => .inl hi, fun i hi hj E' he => (hnew i hi hj E' he).1, fun i hi => hi.elim .inl (fun h => .inr h.1)⟩
 · have hd : Agree D E E' := ha.trans he (fun i hi => .inl hi); obtain ⟨g1, g2, g3⟩ := hR.all E' hd; obtain ⟨k1, k2⟩ := h1 E' hd g1 g2 (fun i hi hj => hnew i hi hj E' he); exact ⟨k1, k2, by rw [hcs]; exact g3⟩
 · rcases hi with hi | hi
   · have := hR.dom i hi; omega
   · exact hi.2
def qnm (P : Program) (tab : Tab) (sub : FuncId -> List AV -> AH -> R (List (AV × AH))) : Prop :=
 ∀ (fr : AFrame) (cs : List AFrame) (h : AH) (id : Nat) (ops : Array Oper) (k : List AItem) (ts : T AV) (h' : AH), fr.mode = .run -> fr.todo = .code (.region id ops true) :: k -> draw tab sub ops fr.nt fr.tmps h = .ok (ts, h') ->
  ∀ (D : Nat -> Prop) (E : Env) (K : KS) (base : List Frame) (frC : Frame) (csC : List Frame) (w : World), Rel D E K { fr, cs, h } base frC csC w ->
   Gets P h.next (lone frC csC w) D E K { fr := { fr with tmps := ts, todo := k }, cs, h := h' } base w
end
end Go.Am
namespace Go.Am
open Go.RowKit
variable [Inhabited DrP]
section
variable {P : Program} {tab : Tab} (ok : TabOK P tab) {sub : FuncId -> List AV -> AH -> R (List (AV × AH))} (hsub : qeA P tab sub) (hext : qez P tab) (hdraw : qnm P tab sub)
variable {D : Nat -> Prop} {E : Env} {K : KS} {base : List Frame} {frC : Frame} {csC : List Frame} {w : World}
theorem qop (hm : frC.mode = .run) (ht : frC.todo = []) : stepG P true { frame := frC, callers := csC, status := .running, dying := none } w = qcX P frC csC w none := by
 obtain ⟨fn, tmps, todo, defers, mode, kind, roundOf⟩ := frC; simp only at hm ht; subst hm ht
 cases roundOf with
 | none => simp [stepG, stepG.exec, qcX]
 | some l =>
  simp [stepG, stepG.exec, qcX]; rfl
theorem qoq {k : List Item} (hm : frC.mode = .run) (ht : frC.todo = .code .ret :: k) : stepG P true { frame := frC, callers := csC, status := .running, dying := none } w = qcX P frC csC w (some .ret) := by
 obtain ⟨fn, tmps, todo, defers, mode, kind, roundOf⟩ := frC; simp only at hm ht; subst hm ht
 cases roundOf with
 | none => simp [stepG, stepG.exec, qcX]
 | some l =>
  simp [stepG, stepG.exec, qcX]; rfl
theorem qmX {id : Nat} {k : List Item} (hm : frC.mode = .run) (ht : frC.todo = .code (.exit id) :: k) (hk : Go.exitTo id k = none) : stepG P true { frame := frC, callers := csC, status := .running, dying := none } w = qcX P frC csC w (some (.exit id)) := by
 obtain ⟨fn, tmps, todo, defers, mode, kind, roundOf⟩ := frC; simp only at hm ht; subst hm ht
 cases roundOf with
 | none => simp [stepG, stepG.exec, qcX, hk]
 | some l =>
  simp [stepG, stepG.exec, qcX, hk]; rfl
theorem qbo {fr : AFrame} {cs : List AFrame} {h : AH} (hR : Rel D E K { fr, cs, h } base frC csC w) (k : List AItem)
  (hx : ∀ E' cs', Go.step P (lone (qak E' fr) cs' w) = .next (lone (qak E' { fr with todo := k }) cs' w)) :
  Out P h.next (lone frC csC w) D E K (bot fr cs) base w (.next { fr := { fr with todo := k }, cs, h }) :=
 ⟨qbC (by rfl) cs, hR.ctl { fr with todo := k } hR.wf.1 hx⟩
include ok hsub hext hdraw in
theorem qfE {m : AM} {out : AOut} (hs : step tab sub m = .ok out) (hR : Rel D E K m base frC csC w) : Out P m.h.next (lone frC csC w) D E K (bot m.fr m.cs) base w out := by
 obtain ⟨fr, cs, h⟩ := m; unfold step at hs; simp only at hs; split at hs
 · rename_i hm; have hmC : frC.mode = .run := by rw [<- (hR.all E (Agree.refl _ _)).2.1]; simp [qak, hm, qbl]
   split at hs
   ·
     rename_i ht; have htC : frC.todo = [] := by rw [<- (hR.all E (Agree.refl _ _)).2.1]; simp [qak, ht]
     exact qen hs hR (qop hmC htC)
   · rename_i k ht; have htC : frC.todo = .code .ret :: k.map (qaV E) := by rw [<- (hR.all E (Agree.refl _ _)).2.1]; simp [qak, ht, qaV]
     exact qen hs hR (qoq hmC htC)
   · rename_i k ht
     cases hs; exact qbo hR k (fun E' cs' => step_lone_go (by simp [stepG, stepG.exec, qak, hm, ht, qbl, qaV]))
   · rename_i l k ht
     cases hs; exact qbo hR k (fun E' cs' => step_lone_go (by simp [stepG, stepG.exec, qak, hm, ht, qbl, qaV]))
   · rename_i l k ht
     cases hs; exact qbo hR k (fun E' cs' => step_lone_go (by simp [stepG, stepG.exec, qak, hm, ht, qbl, qaV]))
   · rename_i l k ht
     cases hs; exact qbo hR k (fun E' cs' => step_lone_go (by simp [stepG, stepG.exec, qak, hm, ht, qbl, qaV]))
   · rename_i a b k ht
     cases hs; exact qbo hR _ (fun E' cs' => step_lone_go (by simp [stepG, stepG.exec, qak, hm, ht, qbl, qaV]))
   ·
     rename_i c a b k ht; obtain ⟨u, hu, hs1⟩ := zz0.1 hs; split at hs1
     · cases hs1; exact qbo hR _ (fun E' cs' => step_lone_go (by
         have := qej hR.wf.1 E' hu; simp only [conc] at this; simp [stepG, stepG.exec, qak, hm, ht, qbl, qaV] at this ⊢; simp [this]))
     · cases hs1; exact qbo hR _ (fun E' cs' => step_lone_go (by
         have := qej hR.wf.1 E' hu; simp only [conc] at this; simp [stepG, stepG.exec, qak, hm, ht, qbl, qaV] at this ⊢; simp [this]))
     · cases hs1
   · rename_i id b k ht
     cases hs; exact qbo hR _ (fun E' cs' => step_lone_go (by simp [stepG, stepG.exec, qak, hm, ht, qbl, qaV]))
   · rename_i b k ht
     cases hs; exact qbo hR _ (fun E' cs' => step_lone_go (by simp [stepG, stepG.exec, qak, hm, ht, qbl, qaV]))
   · rename_i b k ht
     cases hs; exact qbo hR _ (fun E' cs' => step_lone_go (by simp [stepG, stepG.exec, qak, hm, ht, qbl, qaV]))
   · rename_i b k ht
     cases hs; exact qbo hR _ (fun E' cs' => step_lone_go (by simp [stepG, stepG.exec, qak, hm, ht, qbl, qaV]))
   ·
     rename_i id k ht; split at hs
     · rename_i k' hk
       cases hs; exact qbo hR _ (fun E' cs' => step_lone_go (by simp [stepG, stepG.exec, qak, hm, ht, qbl, qaV, qgH, hk]))
     · rename_i hk; have htC : frC.todo = .code (.exit id) :: k.map (qaV E) := by rw [<- (hR.all E (Agree.refl _ _)).2.1]; simp [qak, ht, qaV]
       exact qen hs hR (qmX hmC htC (by rw [qgH, hk]; rfl))
   ·
     rename_i f ps a b k ht
     cases hs
   ·
     rename_i l k ht; split at hs
     · rename_i st pd fn ts nt ps a b d hl; have hbusy : st ≠ .busy := by intro e; subst e; cases hs
       have hs1 : (R.ok (AOut.next { fr := { fr with todo := (pd.map AItem.code).toList ++ k }, cs, h := h.set l (.loop .exhausted pd fn ts nt ps a b d) }) : R AOut) = .ok out := by
         cases st <;> first | exact hs | exact absurd rfl hbusy
       cases hs1; refine ⟨qbC (by rfl) cs, ?_⟩; refine hR.one (m' := { fr := { fr with todo := (pd.map AItem.code).toList ++ k }, cs, h := h.set l (.loop .exhausted pd fn ts nt ps a b d) }) _ (fun _ => (0, 0)) (Nat.le_refl _) ⟨hR.wf.1, hR.wf.2⟩ ?_; intro E' he H e1 e2 _; obtain ⟨o, ho, hoo, hw⟩ := H.obj l _ hl; subst hoo; let o' : Obj := .loop { state := .exhausted, pending := pd, fn, tmps := qaG E' ts nt, params := ps, assign := a, body := b, defers := E'.blk d }
       have hrun : (Instr.endLoop (E'.blk l)).run P w = .ok pd (w.put (E'.blk l) o') := by
         unfold Instr.endLoop Instr.getLoop; have : (st == LoopState.busy) = false := by cases st <;> first | rfl | exact absurd rfl hbusy
         simp only [Sem.run_bind, qgf ho (by simp), Result.andThen_ok, Sem.run_pure, this, Bool.false_eq_true, if_false, qgg ho (by simp)]; rfl
       refine ⟨w.put (E'.blk l) o', step_lone_go ?_, H.put hl (by simp [AO.ro]) ⟨rfl, hw⟩, H.kept_put hl (by simp [AO.ro]) _⟩; simp only at e1 e2; have htC : frC.todo = .endRangeFunc (E'.blk l) :: k.map (qaV E') := by rw [<- e1]; simp [qak, ht, qaV]
       rw [<- e2]; have hgoal : qak E' { fr with todo := (pd.map AItem.code).toList ++ k } = { frC with todo := (pd.map Item.code).toList ++ k.map (qaV E') } := by
         rw [<- e1]
         cases pd <;> simp [qak, qaV]
       simp only [hgoal]; unfold stepG stepG.exec; simp only [hmC, htC, Sem.runT_eq, hrun, GStep.bare_after, GStep.bare_go]
     · cases hs
   ·
     rename_i k ht; split at hs
     · rename_i l hround; split at hs
       · rename_i pd fn ts nt ps a b d hl
         cases hs; refine ⟨qbC (by rfl) cs, ?_⟩; refine hR.one (m' := { fr := { fr with todo := k }, cs, h := h.set l (.loop .busy pd fn ts nt ps a b d) }) _ (fun _ => (0, 0)) (Nat.le_refl _) ⟨hR.wf.1, hR.wf.2⟩ ?_; intro E' he H e1 e2 _; obtain ⟨o, ho, hoo, hw⟩ := H.obj l _ hl; subst hoo; let o' : Obj := .loop { state := .busy, pending := pd, fn, tmps := qaG E' ts nt, params := ps, assign := a, body := b, defers := E'.blk d }
         simp only at e1 e2; have hr0 : frC.roundOf = some (E'.blk l) := by rw [<- e1]; simp [qak, hround]
         have htC : frC.todo = .beginRound :: k.map (qaV E') := by rw [<- e1]; simp [qak, ht, qaV]
         have hrun : (do frC.roundOf.elim (stuck "beginRound: no round") Instr.beginRound; pure .skip : Sem Next).run P w = .ok .skip (w.put (E'.blk l) o') := by
          rw [hr0]; simp only [Option.elim_some, Instr.beginRound, Instr.getLoop]; simp only [Sem.run_bind, qgf ho (by simp), Result.andThen_ok, Sem.run_pure, qgg ho (by simp)]; rfl
         refine ⟨w.put (E'.blk l) o', step_lone_go ?_, H.put hl (by simp [AO.ro]) ⟨rfl, hw⟩, H.kept_put hl (by simp [AO.ro]) _⟩; rw [<- e2]; have hgoal : qak E' { fr with todo := k } = { frC with todo := k.map (qaV E') } := by
          rw [<- e1]; rfl
         simp only [hgoal]; have hx : stepG P true { frame := frC, callers := cs.map (qak E') ++ base, status := .running, dying := none } w = stepG.apply P true frC (cs.map (qak E') ++ base) none (do frC.roundOf.elim (stuck "beginRound: no round") Instr.beginRound; pure .skip) w := by
          unfold stepG stepG.exec; simp only [hmC, htC]
         rw [hx, qgo hrun (.inr ⟨rfl, rfl⟩)]; simp [Frame.finish, htC]
       · cases hs
     · cases hs
   · rename_i id ops k ht
     cases hs; exact qbo hR _ (fun E' cs' => step_lone_go (by simp [stepG, stepG.exec, qak, hm, ht, qbl, qaV]))
   · rename_i id ops k ht; obtain ⟨⟨ts, h'⟩, hd, hs1⟩ := zz0.1 hs
     cases hs1; exact ⟨qbC (by rfl) cs, hdraw fr cs h id ops k ts h' hm ht hd D E K base frC csC w hR⟩
   · rename_i ops k ht
     cases hs; exact qbo hR _ (fun E' cs' => step_lone_go (by simp [stepG, stepG.exec, qak, hm, ht, qbl, qaV]))
   ·
     rename_i ops i rest k ht; split at hs
     · rename_i o ho; obtain ⟨b, hb, hs1⟩ := zz0.1 hs
       cases b with
       | true => exact qna ok hsub hext hs1 hR hm ht ho hb
       | false =>
         simp only [Bool.false_eq_true, if_false] at hs1; obtain ⟨fr', hf, hs2⟩ := zz0.1 hs1
         cases hs2; have hfc := qaO hf; refine ⟨qbC (hfc E).2.2 cs, hR.ctl fr' ((hfc E).2.1 hR.wf.1) (fun E' cs' => step_lone_go ?_)⟩; have hw := qex hR.wf.1 hb E'; rw [<- (hfc E').1]; have h1 : (qak E' fr).todo = .inRegion ops (i :: rest) :: k.map (qaV E') := by simp [qak, ht, qaV]
         have h2 : (qak E' fr).mode = .run := by simp [qak, hm, qbl]
         have h3 : Region.wanted o (yielded ops (qak E' fr).tmps) = false := hw; generalize qak E' fr = g at *
         unfold stepG stepG.exec; simp [h1, h2, ho, h3]; rfl
     · cases hs
   · cases hs
 · rename_i hm; exact qj7 ok hsub hext hs hm hR
end
end Go.Am
namespace Go.Am
open Go.RowKit
variable [Inhabited DrP]
section
variable {P : Program} {tab : Tab} (ok : TabOK P tab) (hext : qez P tab) (hdraw : ∀ sub, qeA P tab sub -> qnm P tab sub)
def qtB (P : Program) (tab : Tab) (m : AM) (outs : List (AV × AH)) : Prop :=
 ∀ (D : Nat -> Prop) (E : Env) (K : KS) (base : List Frame) (frC : Frame) (csC : List Frame) (w : World), Rel D E K m base frC csC w ->
  ∃ v h', (v, h') ∈ outs /\ Ends P m.h.next (lone frC csC w) D E K v h' base (bot m.fr m.cs) w
include ok hext hdraw in
theorem qoV : ∀ n, (∀ m outs, run tab n m = .ok outs -> qtB P tab m outs) /\
  (∀ l outs, runs tab n l = .ok outs -> ∀ m ∈ l, ∀ outs', (∀ x ∈ outs, x ∈ outs') -> qtB P tab m outs') := by
 intro n; induction n with
 | zero =>
  refine ⟨fun m outs h => ?_, fun l outs h => ?_⟩
  · simp only [run] at h; cases h
  · cases l <;> (simp only [runs] at h; cases h)
 | succ n ih =>
  refine ⟨fun m outs h => ?_, fun l outs h => ?_⟩
  · simp only [run] at h; let sub : FuncId -> List AV -> AH -> R (List (AV × AH)) := fun f args h => match tab.fns.get f with
     | some fn => match fn.body with
       | some body => run tab n { fr := AFrame.enter fn f body args .normal, cs := [], h }
       | none => .no "run: body"
     | none => .no "run: function"
    have hsub : qeA P tab sub := by
     intro f fn body args h outs hfn hb ho D E K w argsC hargs hdom cs; simp only [sub, hfn, hb] at ho; have hP := ok.fns f fn hfn; have hR : Rel D E K { fr := AFrame.enter fn f body args .normal, cs := [], h } cs (Frame.enter P f argsC .normal) cs w := by
       refine ⟨fun E' he => ?_, hdom, qdY _ _ _ _ _, fun f hf => by cases hf⟩; obtain ⟨h1, h2⟩ := hargs E' he; refine ⟨h1, ?_, rfl⟩; rw [<- h2, qbi hP hb]
     exact ih.1 _ _ ho D E K cs _ cs w hR
    intro D E K base frC csC w hR; change (match step tab sub m with
     | .no w => R.no w
     | .ok (.done v h) => .ok [(v, h)]
     | .ok (.next m') => run tab n m'
     | .ok (.alts l) => runs tab n l) = .ok outs at h
    cases hs : step tab sub m with
    | no w => rw [hs] at h; cases h
    | ok out =>
     rw [hs] at h; have ho := qfE ok hsub hext (hdraw sub hsub) hs hR
     cases out with
     | done v hh =>
       cases h; exact ⟨v, hh, List.mem_cons_self, ho⟩
     | next m' =>
       obtain ⟨hb, fr', cs', w', E', D', s1, s2, s3, s4, s5, s6, s7⟩ := ho; obtain ⟨v, h', hm, he⟩ := ih.1 m' outs h D' E' K base fr' cs' w' s2; rw [hb] at he; exact ⟨v, h', hm, Ends.trans s1 s3 s4 s5 s6 s7 he⟩
     | alts l =>
       obtain ⟨m', hml, hb, fr', cs', w', E', D', s1, s2, s3, s4, s5, s6, s7⟩ := ho; obtain ⟨v, h', hm, he⟩ := ih.2 l outs h m' hml outs (fun _ hx => hx) D' E' K base fr' cs' w' s2; rw [hb] at he; exact ⟨v, h', hm, Ends.trans s1 s3 s4 s5 s6 s7 he⟩
  · intro m hm outs' hsub'
    cases l with
    | nil => cases hm
    | cons x l =>
     simp only [runs] at h; obtain ⟨a, ha, h1⟩ := zz0.1 h; obtain ⟨b, hb, h2⟩ := zz0.1 h1
     cases h2; rcases List.mem_cons.1 hm with rfl | hm
     · intro D E K base frC csC w hR; obtain ⟨v, h', hx, he⟩ := ih.1 m a ha D E K base frC csC w hR; exact ⟨v, h', hsub' _ (List.mem_append_left _ hx), he⟩
     · exact ih.2 l b hb m hm outs' (fun x hx => hsub' x (List.mem_append_right _ hx))
end
end Go.Am
namespace Go.Am
open Go.RowKit
variable [Inhabited DrP]
section
variable {tab : Tab} {ts ts' : T AV} {h : AH}
theorem qdG : ∀ (l : List Operand), (∀ x ∈ l, ev ts x = ev ts' x) -> evs ts l = evs ts' l := by
 intro l; induction l with
 | nil => intro _; rfl
 | cons x l ih =>
  intro hx; simp only [evs, hx x List.mem_cons_self, ih (fun y hy => hx y (List.mem_cons_of_mem _ hy))]
theorem qeP : ∀ (l : List (Nat × Operand)), (∀ x ∈ l.map (·.2), ev ts x = ev ts' x) -> qcd ts l = qcd ts' l := by
 intro l; induction l with
 | nil => intro _; rfl
 | cons x l ih =>
  intro hx; simp only [qcd, hx x.2 (by simp), ih (fun y hy => hx y (by simp at hy ⊢; exact .inr hy))]
theorem qcc (o : Oper) (hx : ∀ x ∈ o.op.operands, ev ts x = ev ts' x) : qaH tab ts h o = qaH tab ts' h o := by
 obtain ⟨dst, op, type, pos, after, guard⟩ := o
 cases op <;> simp only [Op.operands] at hx <;> simp only [qaH]
 case build t ps => rw [qeP ps.toList fun x hm => hx x (by simpa using hm)]
 case buildSlice t n ps => rw [qeP ps.toList fun x hm => hx x (by simpa using hm)]
 case makeFunc fn first captured =>
  rw [qdG first.toList fun x hm => hx x (by simp at hm; simp [hm]), qdG captured.toList fun x hm => hx x (by simp at hm; simp [hm])]
 case call c =>
  cases hc : c.callee with
  | builtin b =>
   simp only; rw [qdG c.args.toList fun x hm => hx x (by simp [Call.operands, hc]; simpa using hm)]
  | value f => rfl
  | invoke r m => rfl
 case slice t x lo hi mx =>
  have h0 : ev ts x = ev ts' x := hx x (by simp); have h1 : ∀ y, lo = some y -> ev ts y = ev ts' y := fun y e => hx y (by simp [e])
  have h2 : ∀ y, hi = some y -> ev ts y = ev ts' y := fun y e => hx y (by simp [e])
  have h3 : ∀ y, mx = some y -> ev ts y = ev ts' y := fun y e => hx y (by simp [e])
  rw [h0]
  cases lo <;> cases hi <;> cases mx <;> simp_all [qbm, qaS]
 case makeMap t r => cases r <;> rfl
 all_goals (first | rfl | (simp_all; done))
theorem qkx {sub : FuncId -> List AV -> AH -> R (List (AV × AH))} (o : Oper) (hx : ∀ x ∈ o.op.operands, ev ts x = ev ts' x) : qmI tab sub ts h o = qmI tab sub ts' h o := by
 have hp := qcc (tab := tab) (h := h) o hx; unfold qmI
 cases hop : o.op
 case call c =>
  rw [hop] at hx; simp only
  cases hc : c.callee with
  | builtin b => cases b <;> simp only [hp]
  | value f =>
   have h1 : ev ts f = ev ts' f := hx f (by simp [Op.operands, Call.operands, hc]); have h2 : evs ts c.args.toList = evs ts' c.args.toList := qdG c.args.toList fun x hm => hx x (by simp [Op.operands, Call.operands, hc]; right; simpa using hm)
   simp only [h1, h2]
  | invoke r m => simp only [hp]
 all_goals simp only [hp]
theorem qfv {ops : Array Oper} {o : Oper} (h : ∀ t ∈ qhr ops o, ts.get t = ts'.get t) : (∀ x ∈ o.op.operands, ev ts x = ev ts' x) /\ wanted ops o ts = wanted ops o ts' := by
 constructor
 · intro x hx
   cases x with
   | tmp t =>
    have := h t (List.mem_append_left _ (List.mem_filterMap.2 ⟨.tmp t, by simpa using hx, rfl⟩)); simp only [ev, this]
   | const v => rfl
   | func f => rfl
   | global g => rfl
 · unfold wanted
   cases hg : o.guard with
   | none => rfl
   | some gw =>
    obtain ⟨g, want⟩ := gw; simp only
    cases hd : (ops[g]?).bind (·.dst) with
    | none => rfl
    | some d =>
     have := h d (List.mem_append_right _ (by simp [hg, hd])); simp only [Option.bind_some, this]
end
end Go.Am
namespace Go.Am
open Go.RowKit
variable [Inhabited DrP]
theorem qat : ∀ (l : List (Nat × Nat)) (h : AH), (qa5 h l).next = h.next := by
 intro l; induction l with
 | nil => intro h; rfl
 | cons x l ih => intro h; simp only [qa5, ih, AH.next_kill]
theorem qar : ∀ (l : List (Nat × Nat)) (h : AH) (i : Nat), (qa5 h l).get i = if ∃ x ∈ l, x.2 = i then none else h.get i := by
 intro l; induction l with
 | nil => intro h i; simp [qa5]
 | cons x l ih =>
  intro h i; simp only [qa5, ih, zz39]; by_cases h1 : ∃ y ∈ l, y.2 = i
  · rw [if_pos h1, if_pos (by obtain ⟨y, hy, e⟩ := h1; exact ⟨y, List.mem_cons_of_mem _ hy, e⟩)]
  · rw [if_neg h1]; by_cases h2 : i = x.2
    · rw [if_pos h2, if_pos ⟨x, List.mem_cons_self, h2.symm⟩]
    · rw [if_neg h2, if_neg]; rintro ⟨y, hy, e⟩; rcases List.mem_cons.1 hy with rfl | hy
      · exact h2 e.symm
      · exact h1 ⟨y, hy, e⟩
theorem qbK : ∀ (l : List (Nat × Nat)) (h h0 : AH), (qa9 h h0 l).next = h.next := by
 intro l; induction l with
 | nil => intro h h0; rfl
 | cons x l ih => intro h h0; simp only [qa9, ih]
theorem qbe : ∀ (l : List (Nat × Nat)) (h h0 : AH) (i : Nat), (qa9 h h0 l).get i = if ∃ x ∈ l, x.2 = i then h0.get i else h.get i := by
 intro l; induction l with
 | nil => intro h h0 i; simp [qa9]
 | cons x l ih =>
  intro h h0 i; simp only [qa9, ih]; have hg : ({ h with t := h.t.set x.2 (h0.get x.2) } : AH).get i = if i = x.2 then h0.get x.2 else h.get i := T.get_set _ _ _ _
  rw [hg]; by_cases h1 : ∃ y ∈ l, y.2 = i
  · rw [if_pos h1, if_pos (by obtain ⟨y, hy, e⟩ := h1; exact ⟨y, List.mem_cons_of_mem _ hy, e⟩)]
  · rw [if_neg h1]; by_cases h2 : i = x.2
    · rw [if_pos h2, if_pos ⟨x, List.mem_cons_self, h2.symm⟩, h2]
    · rw [if_neg h2, if_neg]; rintro ⟨y, hy, e⟩; rcases List.mem_cons.1 hy with rfl | hy
      · exact h2 e.symm
      · exact h1 ⟨y, hy, e⟩
section
variable {E : Env} {h h0 h1 h2 : AH} {K : KS} {w w' : World}
def Rest (E : Env) (h h0 : AH) (K : KS) : KS := ⟨fun b => K b \/ ∃ i o, h.get i = some o /\ h0.get i = none /\ b = E.blk i, K.b⟩
theorem HOK.part (H : HOK E h K w) (hs : ∀ i o, h0.get i = some o -> h.get i = some o) (hd : ∀ i o, h0.get i = some o -> i < h0.next) : HOK E h0 (Rest E h h0 K) w := by
 refine ⟨fun i o hi => H.obj i o (hs i o hi), ?_, fun i j oi oj hi hj => H.inj i j oi oj (hs i oi hi) (hs j oj hj), hd, ?_, fun i o hi => H.im i o (hs i o hi), fun b hb => .inl (H.k0 b hb)⟩
 · rintro i o hi hr (hk | ⟨j, oj, hj, hn, e⟩)
   · exact H.nk i o (hs i o hi) hr hk
   · have := H.inj i j o oj (hs i o hi) hj hr e; subst this; rw [hi] at hn; cases hn
 · rintro b (hk | ⟨j, oj, hj, hn, e⟩)
   · exact H.kb b hk
   · subst e; exact H.lt hj
theorem HOK.join (H : HOK E h K w) (H1 : HOK E h1 (Rest E h h0 K) w') (hk : Kept (Rest E h h0 K) w w')
   (hg : ∀ i o, h2.get i = some o -> h1.get i = some o \/ (h.get i = some o /\ h0.get i = none)) (hd : ∀ i o, h2.get i = some o -> i < h2.next) : HOK E h2 K w' := by
 refine ⟨?_, ?_, ?_, hd, ?_, ?_, H.k0⟩
 · intro i o hi; rcases hg i o hi with g | ⟨g, n⟩
   · exact H1.obj i o g
   · obtain ⟨c, hc, ho⟩ := H.obj i o g; refine ⟨c, ?_, ho⟩; rw [<- hc]; exact hk.block _ (.inr ⟨i, o, g, n, rfl⟩)
 · intro i o hi hr hK; rcases hg i o hi with g | ⟨g, n⟩
   · exact H1.nk i o g hr (.inl hK)
   · exact H.nk i o g hr hK
 · intro i j oi oj hi hj hr e; rcases hg i oi hi with g | ⟨g, n⟩ <;> rcases hg j oj hj with g' | ⟨g', n'⟩
   · exact H1.inj i j oi oj g g' hr e
   · exact absurd (.inr ⟨j, oj, g', n', e⟩) (H1.nk i oi g hr)
   · by_cases hrj : oj.ro
     · exact absurd (H.k0 _ (H1.im j oj g' hrj)) (by rw [<- e]; exact H.nk i oi g hr)
     · exact absurd (.inr ⟨i, oi, g, n, e.symm⟩) (H1.nk j oj g' hrj)
   · exact H.inj i j oi oj g g' hr e
 · intro b hb; exact H1.kb b (.inl hb)
 · intro i o hi hr; rcases hg i o hi with g | ⟨g, n⟩
   · exact H1.im i o g hr
   · exact H.im i o g hr
theorem Kept.part (hk : Kept (Rest E h h0 K) w w') : Kept K w w' :=
 ⟨hk.os, hk.tape, hk.output, hk.size, fun b hb => hk.block b (.inl hb), hk.drawn⟩
end
end Go.Am
