/- An evaluator over abstract values, proved sound over the model's machine; no condition. Part: Core. -/
import GoSem.Step
set_option linter.unusedSimpArgs false
set_option linter.unusedVariables false
set_option linter.unusedSectionVars false
set_option linter.deprecated false
namespace Go.Am

/-! A result: a value, or why there is none. -/
inductive R (α : Type) where
  | ok (a : α)
  | no (why : String)
namespace R
def bind {α β : Type} : R α → (α → R β) → R β
  | .ok a, f => f a
  | .no w, _ => .no w
instance : Monad R where
  pure := R.ok
  bind := R.bind
def of {α : Type} (why : String) : Option α → R α
  | some a => .ok a
  | none => .no why
def check (why : String) : Bool → R Unit
  | true => .ok ()
  | false => .no why
end R

/-! A tree of numbers. -/
inductive T (α : Type) where
  | e
  | n (v : Option α) (l r : T α)
namespace T
def get {α : Type} : T α → Nat → Option α
  | .e, _ => none
  | .n v l r, k => bif Nat.beq k 0 then v else bif Nat.beq (Nat.mod k 2) 1 then l.get (Nat.div k 2) else r.get (Nat.pred (Nat.div k 2))
def setF {α : Type} : Nat → T α → Nat → Option α → T α
  | 0, t, _, _ => t
  | f + 1, .e, k, x =>
    bif Nat.beq k 0 then .n x .e .e else bif Nat.beq (Nat.mod k 2) 1 then .n none (setF f .e (Nat.div k 2) x) .e else .n none .e (setF f .e (Nat.pred (Nat.div k 2)) x)
  | f + 1, .n v l r, k, x =>
    bif Nat.beq k 0 then .n x l r else bif Nat.beq (Nat.mod k 2) 1 then .n v (setF f l (Nat.div k 2) x) r else .n v l (setF f r (Nat.pred (Nat.div k 2)) x)
def set {α : Type} (t : T α) (k : Nat) (x : Option α) : T α := setF (k + 1) t k x
def ofListF {α : Type} : List α → Nat → T α → T α
  | [], _, t => t
  | x :: l, k, t => ofListF l (k + 1) (t.set k (some x))
def ofList {α : Type} (l : List α) : T α := ofListF l 0 .e
end T

/-- A slice's capacity: a number, or all of its block from an element on. -/
inductive Cap where
  | lit (n : Nat)
  | tail (k : Nat)
deriving DecidableEq

inductive AV where
  | bool (b : Bool)
  | int (k : IntKind) (n : Int)
  | str (s : List UInt8)
  | nilp
  | ptr (b off : Nat)
  | nils
  | sl (b off len : Nat) (cap : Cap)
  | emp (b off l n k : Nat)        -- a tail-slice of b, cut at its length l: of length 0, somewhere in b
  | nilm
  | map (b : Nat)
  | nilf
  | fn (f : Fn) (first captured : List AV)
  | yld (l : Nat)
  | nili
  | iface (t : TypeId) (v : AV)
  | agg (cs : List AV)
  | tup (vs : List AV)
  | raw (v : Value)

/-- What may be done with a block: it's the run's own; it's the run's own, and marked, or maybe; it's to be read. -/
inductive BK where
  | rw | mark | any | ro
deriving DecidableEq

def BK.grown : BK → BK
  | .rw => .rw
  | _ => .any

inductive AT where
  | fn (f : Fn) (captured : List AV)
  | yld (l : Nat)
  | collected (r : Nat)
structure AD where
  target : AT
  args : List AV

inductive AO where
  | cells (cs : List AV) (elem : TypeId) (sz : Nat) (ext : Bool) (bk : BK)
  | mp (es : List (AV × AV × Nat)) (clock : Nat)
  | miter (m : Option Nat) (since : Nat) (seen : List Nat) (stepped : Nat)
  | siter (s : List UInt8) (pos : Nat)
  | loop (st : LoopState) (pending : Option Code) (fn : FuncId) (tmps : T AV) (nt : Nat) (params : Array Tmp) (assign body : Code) (defers : Nat)
  | dfr (calls : Option (List AD))

structure AH where
  t : T AO
  next : Nat
namespace AH
def get (h : AH) (b : Nat) : Option AO := h.t.get b
def set (h : AH) (b : Nat) (o : AO) : AH := { h with t := h.t.set b (some o) }
def new (h : AH) (o : AO) : AH := { t := h.t.set h.next (some o), next := h.next + 1 }
def kill (h : AH) (b : Nat) : AH := { h with t := h.t.set b none }
end AH

inductive AItem where
  | code (c : Code)
  | inBlock (id : Nat)
  | inLoop (body : Code)
  | inScope (body : Code)
  | inRegion (ops : Array Oper) (l : List Nat)
  | inRange (l : Nat)
  | endRange (l : Nat)
  | beginRound
structure APE where
  v : AV
  recovered : Bool
inductive AMode where
  | run
  | returning
  | panicking (chain : List APE)
structure AFrame where
  fn : FuncId
  nt : Nat
  tmps : T AV
  todo : List AItem
  defers : List AD
  mode : AMode
  kind : CallKind
  round : Option Nat
structure AM where
  fr : AFrame
  cs : List AFrame
  h : AH

/-- What is known of the program. -/
structure Tab where
  und : T TypeDesc
  siz : T Nat
  byt : T Nat
  zer : T AV
  agg : T Bool
  cmp : T Bool
  held : T Bool
  grd : T Bool
  fns : T Func
  ext : T Nat
  merge : FuncId → Bool

/-! Constants. -/
def ofCell : Value → AV
  | .bool b => .bool b
  | .int k n => .int k n
  | .string s => .str s.data.toList
  | .pointer none => .nilp
  | .slice none 0 0 => .nils
  | .map none => .nilm
  | .nilFunc => .nilf
  | .nilIface => .nili
  | v => .raw v
def ofConst : Value → AV
  | .agg cs => .agg (cs.toList.map ofCell)
  | .tuple vs => .tup (vs.toList.map ofCell)
  | v => ofCell v

def ev (ts : T AV) : Operand → R AV
  | .tmp t => .ok ((ts.get t).getD (.tup []))
  | .const v => .ok (ofConst v)
  | .func f => .ok (.fn (.func f) [] [])
  | .global _ => .no "global"

def evs (ts : T AV) : List Operand → R (List AV)
  | [] => .ok []
  | x :: l => do
    let v ← ev ts x
    let vs ← evs ts l
    .ok (v :: vs)

def AV.cells : AV → R (List AV)
  | .agg cs => .ok cs
  | .raw (.agg _) => .no "cells of a raw value"
  | .raw (.tuple _) => .no "cells of a raw value"
  | .raw v => .ok [.raw v]
  | v => .ok [v]

/-! Equality. -/
mutual
def AV.beq : AV → AV → Bool
  | .bool a, .bool b => a == b
  | .int k a, .int j b => k == j && a == b
  | .str a, .str b => a == b
  | .nilp, .nilp => true
  | .ptr a i, .ptr b j => Nat.beq a b && Nat.beq i j
  | .nils, .nils => true
  | .sl a i n c, .sl b j m d => Nat.beq a b && Nat.beq i j && Nat.beq n m && c == d
  | .emp a i n c e, .emp b j m d f => Nat.beq a b && Nat.beq i j && Nat.beq n m && Nat.beq c d && Nat.beq e f
  | .nilm, .nilm => true
  | .map a, .map b => Nat.beq a b
  | .nilf, .nilf => true
  | .fn f a b, .fn g c d => f == g && AV.beqL a c && AV.beqL b d
  | .yld a, .yld b => Nat.beq a b
  | .nili, .nili => true
  | .iface t v, .iface u w => Nat.beq t u && AV.beq v w
  | .agg a, .agg b => AV.beqL a b
  | .tup a, .tup b => AV.beqL a b
  | _, _ => false
def AV.beqL : List AV → List AV → Bool
  | [], [] => true
  | a :: l, b :: m => AV.beq a b && AV.beqL l m
  | _, _ => false
end

section
variable (tab : Tab)

def und (t : TypeId) : R TypeDesc := R.of "und" (tab.und.get t)
def siz (t : TypeId) : R Nat := R.of "siz" (tab.siz.get t)
def zero (t : TypeId) : R AV := R.of "zero" (tab.zer.get t)
def isAgg (t : TypeId) : R Bool := R.of "isAgg" (tab.agg.get t)

def part (t : TypeId) (cs : List AV) (off : Nat) : R AV := do
  if ← isAgg tab t then
    let n ← siz tab t
    .ok (.agg ((cs.drop off).take n))
  else R.of "part" cs[off]?

/-! Memory. -/
def cellsAt (h : AH) (b : Nat) : R (List AV × TypeId × Nat × Bool × BK) :=
  match h.get b with
  | some (.cells cs e sz ext bk) => .ok (cs, e, sz, ext, bk)
  | _ => .no "cells"
def readN (h : AH) (b off n : Nat) : R (List AV) := do
  let (cs, _) ← cellsAt h b
  R.check "readN" (Nat.ble (off + n) cs.length)
  .ok ((cs.drop off).take n)
def overlay (cs : List AV) (off : Nat) (vs : List AV) : List AV := cs.take off ++ (vs ++ cs.drop (off + vs.length))
def oneCell : AV → Bool
  | .agg _ | .tup _ | .raw _ => false
  | _ => true
def writeN (h : AH) (b off : Nat) (vs : List AV) : R AH :=
  match vs with
  | [] => .ok h
  | _ => do
    let (cs, e, sz, ext, bk) ← cellsAt h b
    R.check "writeN: ro" (bk != .ro)
    R.check "writeN: range" (Nat.ble (off + vs.length) cs.length)
    R.check "writeN: cell" (vs.all oneCell)
    .ok (h.set b (.cells (overlay cs off vs) e sz ext bk))
def loadVar (h : AH) (t : TypeId) (b off : Nat) : R AV := do
  if ← isAgg tab t then
    let n ← siz tab t
    let cs ← readN h b off n
    .ok (.agg cs)
  else
    let (cs, _) ← cellsAt h b
    R.of "load" cs[off]?
def storeVar (h : AH) (t : TypeId) (b off : Nat) (v : AV) : R AH := do
  let n ← siz tab t
  let l ← v.cells
  R.check "store: size" (Nat.beq l.length n)
  writeN h b off l
def newRow (h : AH) (elem : TypeId) (cs : List AV) (ext : Bool := false) (bk : BK := .rw) : R (AH × Nat) := do
  let n ← siz tab elem
  .ok (h.new (.cells cs elem n ext bk), h.next)

/-! Numbers. -/
def asInt : AV → R (IntKind × Int)
  | .int k n => .ok (k, n)
  | _ => .no "asInt"
def asNat (v : AV) : R Nat := do
  let (_, n) ← asInt v
  match n with
  | .ofNat k => .ok k
  | .negSucc _ => .no "asNat"
def goInt (n : Nat) : AV := .int .i64 (.ofNat n)

def intOp (op : BinOp) (k : IntKind) (x y : Int) : R AV :=
  match op with
  | .add => .ok (.int k (k.wrap (x + y)))
  | .sub => .ok (.int k (k.wrap (x - y)))
  | .mul => .ok (.int k (k.wrap (x * y)))
  | .quo => if y = 0 then .no "div" else .ok (.int k (k.wrap (x.tdiv y)))
  | .rem => if y = 0 then .no "div" else .ok (.int k (x.tmod y))
  | .and => .ok (.int k (k.wrap (BitVec.ofInt k.bits x &&& BitVec.ofInt k.bits y).toNat))
  | .or => .ok (.int k (k.wrap (BitVec.ofInt k.bits x ||| BitVec.ofInt k.bits y).toNat))
  | .xor => .ok (.int k (k.wrap (BitVec.ofInt k.bits x ^^^ BitVec.ofInt k.bits y).toNat))
  | .andNot => .ok (.int k (k.wrap (BitVec.ofInt k.bits x &&& ~~~ BitVec.ofInt k.bits y).toNat))
  | .eql => .ok (.bool (x == y))
  | .neq => .ok (.bool (x != y))
  | .lss => .ok (.bool (decide (x < y)))
  | .leq => .ok (.bool (decide (x ≤ y)))
  | .gtr => .ok (.bool (decide (x > y)))
  | .geq => .ok (.bool (decide (x ≥ y)))
  | _ => .no "intOp"
def shiftOp (op : BinOp) (k : IntKind) (x y : Int) : R AV :=
  if y < 0 then .no "shift" else
  match op with
  | .shl => .ok (.int k (k.wrap (x * 2 ^ (min y.toNat k.bits))))
  | .shr => .ok (.int k (x.fdiv (2 ^ (min y.toNat k.bits))))
  | _ => .no "shiftOp"
def strOp (op : BinOp) (x y : List UInt8) : R AV :=
  match op with
  | .add => if x.length + y.length ≤ 1048576 then .ok (.str (x ++ y)) else .no "string too long"
  | .eql => .ok (.bool (x == y))
  | .neq => .ok (.bool (!(x == y)))
  | .lss => .ok (.bool (Op.bytesLess x y))
  | .leq => .ok (.bool (Op.bytesLess x y || x == y))
  | .gtr => .ok (.bool (!(Op.bytesLess x y || x == y)))
  | .geq => .ok (.bool (!Op.bytesLess x y))
  | _ => .no "strOp"

/-- ==, by type. -/
def eqFields (eq : TypeId → AV → AV → R Bool) (xs ys : List AV) : List Field → R Bool
  | [] => .ok true
  | f :: fs =>
    if f.name ≠ "_" then do
      let a ← part tab f.type xs f.offset
      let b ← part tab f.type ys f.offset
      if ← eq f.type a b then eqFields eq xs ys fs else .ok false
    else eqFields eq xs ys fs
def eqT : Nat → TypeId → AV → AV → R Bool
  | 0, _, _, _ => .no "eqT"
  | d + 1, t, x, y => do
    match ← und tab t, x, y with
    | .bool, .bool a, .bool b => .ok (a == b)
    | .int _, .int k a, .int j b => if k = j then .ok (a == b) else .no "eqT kinds"
    | .string, .str a, .str b => .ok (a == b)
    | .pointer _, .nilp, .nilp => .ok true
    | .pointer _, .nilp, .ptr _ _ => .ok false
    | .pointer _, .ptr _ _, .nilp => .ok false
    | .slice _, .nils, .nils => .ok true
    | .slice _, .nils, .sl .. => .ok false
    | .slice _, .sl .., .nils => .ok false
    | .slice _, .nils, .emp .. => .ok false
    | .slice _, .emp .., .nils => .ok false
    | .map _ _, .nilm, .nilm => .ok true
    | .map _ _, .nilm, .map _ => .ok false
    | .map _ _, .map _, .nilm => .ok false
    | .func _ _ _, .nilf, .nilf => .ok true
    | .func _ _ _, .nilf, .fn .. => .ok false
    | .func _ _ _, .fn .., .nilf => .ok false
    | .interface _, .nili, .iface _ _ => .ok false
    | .interface _, .iface _ _, .nili => .ok false
    | .struct fs, .agg xs, .agg ys => do
      match tab.held.get t with
      | some false => eqFields tab (eqT d) xs ys fs.toList
      | _ => .no "eqT held"
    | _, _, _ => .no "eqT"

/-- == of pointers that are not nil: of one block. -/
def eqOp (h : AH) (t : TypeId) (x y : AV) : R Bool := do
  match x, y with
  | .ptr a i, .ptr b j =>
    match ← und tab t with
    | .pointer e => do
      let n ← siz tab e
      R.check "eqOp: size 0" (!(Nat.beq n 0))
      if Nat.beq a b then .ok (Nat.beq i j) else
        match h.get a, h.get b with
        | some (.cells _ _ _ _ .rw), some (.cells _ _ _ _ .rw) => .ok false
        | _, _ => .no "eqOp: blocks"
    | _ => .no "eqOp"
  | .agg _, .agg _ =>
    match tab.grd.get t with
    | some false => eqT tab 8 t x y
    | _ => .no "eqOp: guard"
  | .nili, .nili => .no "eqOp: nil, nil"
  | _, _ => eqT tab 8 t x y

def binOp (h : AH) (op : BinOp) (t : TypeId) (x y : AV) : R AV :=
  match op, x, y with
  | .shl, .int k a, .int _ b => shiftOp .shl k a b
  | .shr, .int k a, .int _ b => shiftOp .shr k a b
  | _, .int k a, .int j b => if k = j then intOp op k a b else .no "binOp kinds"
  | _, .str a, .str b => strOp op a b
  | .eql, x, y => do .ok (.bool (← eqOp tab h t x y))
  | .neq, x, y => do .ok (.bool (!(← eqOp tab h t x y)))
  | _, _, _ => .no "binOp"

def unOp (op : UnOp) (x : AV) : R AV :=
  match op, x with
  | .neg, .int k n => .ok (.int k (k.wrap (0 - n)))
  | .xor, .int k n => .ok (.int k (k.wrap (BitVec.ofInt k.bits (if k.signed then -1 else k.max) ^^^ BitVec.ofInt k.bits n).toNat))
  | .not, .bool b => .ok (.bool (!b))
  | _, _ => .no "unOp"

def bytesOf : List AV → R (List UInt8)
  | [] => .ok []
  | .int .u8 (.ofNat n) :: l => do
    let r ← bytesOf l
    .ok (UInt8.ofNat n :: r)
  | _ => .no "bytesOf"
def ofBytes (s : List UInt8) : List AV := s.map fun b => .int .u8 (.ofNat b.toNat)

/-- Conversions. -/
def convert (h : AH) (src dst : TypeId) (x : AV) : R (AV × AH) := do
  match ← und tab src, ← und tab dst, x with
  | _, .int k, .int _ n => .ok (.int k (k.wrap n), h)
  | _, .string, .str s => .ok (.str s, h)
  | _, .slice e, .str s => do
    match ← und tab e with
    | .int .u8 => do
      let n ← siz tab e
      R.check "convert: size" (Nat.beq n 1)
      let (h', b) ← newRow tab h e (ofBytes s) true .mark
      .ok (.sl b 0 s.length (.tail 0), h')
    | _ => .no "convert to a slice"
  | .slice e, .string, x => do
    match ← und tab e, x with
    | .int .u8, .nils => .ok (.str [], h)
    | .int .u8, .sl b off n _ => do
      let s ← bytesOf (← readN h b off n)
      .ok (.str s, h)
    | .int .u8, .emp .. => .ok (.str [], h)
    | _, _ => .no "convert of a slice"
  | .slice _, .slice e, .sl b off n c => do
    match Nat.beq src dst, ← und tab e with
    | true, .int .u8 => do
      let (cs, e', sz, ext, bk) ← cellsAt h b
      R.check "convert: ro" (bk != .ro)
      .ok (.sl b off n c, h.set b (.cells cs e' sz ext .mark))
    | _, _ => .no "convert slices"
  | _, _, _ => .no "convert"

def convertTo (h : AH) (t : TypeId) (x : AV) : R (AV × AH) := do
  match x with
  | .nilp => .ok (.nilp, h)
  | .ptr b off => do
    let (cs, _, _, _, _) ← cellsAt h b
    let n ← siz tab t
    R.check "convert to unsafe.Pointer" (!(Nat.beq n 0) && Nat.blt off cs.length)
    .ok (.ptr b off, h)
  | _ => .no "convert to unsafe.Pointer"
def convertFrom (h : AH) (u : TypeId) (x : AV) : R (AV × AH) := do
  match x with
  | .nilp => .ok (.nilp, h)
  | .ptr b off => do
    let (cs, e, _, _, _) ← cellsAt h b
    let sz ← siz tab u
    R.check "convert from unsafe.Pointer" (Nat.beq e u && !(Nat.beq sz 0) && Nat.beq off 0 && Nat.ble sz cs.length)
    .ok (.ptr b off, h)
  | _ => .no "convert from unsafe.Pointer"
def convertAll (h : AH) (src dst : TypeId) (x : AV) : R (AV × AH) := do
  match ← und tab dst with
  | .unsafePointer => do
    match ← und tab src with
    | .pointer t => convertTo tab h t x
    | _ => .no "convert to unsafe.Pointer"
  | .pointer u => do
    match ← und tab src with
    | .unsafePointer => convertFrom tab h u x
    | _ => .no "convert to a pointer"
  | _ => convert tab h src dst x

/-! build. -/
def fill (cs : List AV) : List (Nat × Nat × AV) → R (List AV)
  | [] => .ok cs
  | (off, n, v) :: rest => do
    let l ← v.cells
    R.check "fill" (Nat.beq l.length n && Nat.ble (off + n) cs.length)
    fill (overlay cs off l) rest
def fieldPlaces (fs : Array Field) : List (Nat × AV) → R (List (Nat × Nat × AV))
  | [] => .ok []
  | (i, v) :: rest => do
    let f ← R.of "field" fs[i]?
    let n ← siz tab f.type
    let r ← fieldPlaces fs rest
    .ok ((f.offset, n, v) :: r)
def build (t : TypeId) (parts : List (Nat × AV)) : R AV := do
  let z ← zero tab t
  let zc ← z.cells
  match ← und tab t with
  | .struct fs => do
    R.check "build: sizes" (fs.toList.all fun f => (tab.siz.get f.type).isSome)
    let ps ← fieldPlaces tab fs parts
    let cs ← fill zc ps
    .ok (.agg cs)
  | .array _ e => do
    let n ← siz tab e
    let cs ← fill zc (parts.map fun (i, v) => (i * n, n, v))
    .ok (.agg cs)
  | _ => .no "build"
def rep (n : Nat) (l : List AV) : List AV :=
  match n with
  | 0 => []
  | n + 1 => l ++ rep n l
def buildSlice (h : AH) (t : TypeId) (len : Nat) (parts : List (Nat × AV)) : R (AV × AH) := do
  match ← und tab t with
  | .slice e => do
    let n ← siz tab e
    R.check "buildSlice" (Nat.ble (len * n) 16777216)
    let z ← zero tab e
    let zc ← z.cells
    R.check "buildSlice: zero" (Nat.beq zc.length n)
    let cs ← fill (rep len zc) (parts.map fun (i, v) => (i * n, n, v))
    let (h', b) ← newRow tab h e cs
    .ok (.sl b 0 len (.lit len), h')
  | _ => .no "buildSlice"
def evParts (ts : T AV) : List (Nat × Operand) → R (List (Nat × AV))
  | [] => .ok []
  | (i, x) :: l => do
    let v ← ev ts x
    let r ← evParts ts l
    .ok ((i, v) :: r)

def makeSlice (h : AH) (t : TypeId) (len cap : AV) : R (AV × AH) := do
  match ← und tab t with
  | .slice e => do
    let l ← asNat len
    let c ← asNat cap
    let by_ ← R.of "byt" (tab.byt.get e)
    R.check "makeSlice" (Nat.ble l c && Nat.ble c 4194304 && Nat.ble (by_ * c) 16777216)
    let n ← siz tab e
    let z ← zero tab e
    let zc ← z.cells
    R.check "makeSlice: zero" (Nat.beq zc.length n && !(Nat.beq n 0))
    let (h', b) ← newRow tab h e (rep c zc)
    .ok (.sl b 0 l (.lit c), h')
  | _ => .no "makeSlice"

/-! Slices. -/
/-- At least so many elements may a slice have. -/
def capLow (h : AH) (b : Nat) : Cap → R Nat
  | .lit n => .ok n
  | .tail k => do
    let (cs, _, sz, ext, _) ← cellsAt h b
    R.check "capLow" (ext && !(Nat.beq sz 0))
    .ok (Nat.div cs.length sz - k)
def optNat (ts : T AV) (d : R Nat) : Option Operand → R Nat
  | none => d
  | some x => do asNat (← ev ts x)
def sliceOp (ts : T AV) (h : AH) (t : TypeId) (x : AV) (lo hi mx : Option Operand) : R (AV × AH) := do
  match ← und tab t, x with
  | .string, .str s => do
    R.check "slice: max" mx.isNone
    let l ← optNat ts (.ok 0) lo
    let u ← optNat ts (.ok s.length) hi
    R.check "slice: bounds" (Nat.ble l u && Nat.ble u s.length)
    .ok (.str ((s.drop l).take (u - l)), h)
  | .slice e, .nils => do
    let _ ← siz tab e
    let l ← optNat ts (.ok 0) lo
    let u ← optNat ts (.ok 0) hi
    let m ← optNat ts (.ok 0) mx
    R.check "slice: nil" (Nat.beq l 0 && Nat.beq u 0 && Nat.beq m 0 && (mx.isNone || hi.isSome))
    .ok (.nils, h)
  | .slice e, .sl b off len cap => do
    let c ← capLow h b cap
    let n ← siz tab e
    let l ← optNat ts (.ok 0) lo
    let u ← optNat ts (.ok len) hi
    match mx with
    | some _ => do
      let m ← optNat ts (.ok 0) mx
      R.check "slice: bounds" (Nat.ble l u && Nat.ble u m && Nat.ble m c && hi.isSome)
      .ok (.sl b (bif Nat.beq m l then off else off + l * n) (u - l) (.lit (m - l)), h)
    | none =>
      match cap with
      | .lit m => do
        R.check "slice: bounds" (Nat.ble l u && Nat.ble u m)
        .ok (.sl b (bif Nat.beq m l then off else off + l * n) (u - l) (.lit (m - l)), h)
      | .tail k => do
        R.check "slice: bounds" (Nat.ble l u && Nat.ble u c)
        bif Nat.beq l 0 then .ok (.sl b off u (.tail k), h)
        else bif Nat.blt l c then .ok (.sl b (off + l * n) (u - l) (.tail (k + l)), h)
        else .ok (.emp b off l n k, h)
  | _, _ => .no "slice"

/-- Is a zero element of so many cells known? -/
def zeroOk (e : TypeId) (n : Nat) : R Unit := do
  let z ← zero tab e
  let zc ← z.cells
  R.check "append: zero" (Nat.beq zc.length n)
/-- append of cells. -/
def appendOp (h : AH) (e : TypeId) (n by_ : Nat) (x : AV) (m : Nat) (news : List AV) : R (AV × AH) := do
  match x with
  | .nils =>
    bif Nat.beq m 0 then .ok (.nils, h)
    else do
      R.check "append: size" (Nat.ble (m * by_) 16777216 && Nat.ble m 16777216)
      zeroOk tab e n
      let (h', b) ← newRow tab h e news true
      .ok (.sl b 0 m (.tail 0), h')
  | .sl b off len cap => do
    let c ← capLow h b cap
    let (cs, e', sz, ext, bk) ← cellsAt h b
    R.check "append: type" (Nat.beq e e' && Nat.beq sz n)
    let need := len + m
    R.check "append: size" (Nat.ble (need * by_) 16777216 && Nat.ble need 16777216)
    bif Nat.ble need c then do
      let h' ← writeN h b (off + len * n) news
      .ok (.sl b off need cap, h')
    else
      R.check "append: old" (Nat.ble (off + len * n) cs.length) >>= fun _ =>
      zeroOk tab e n >>= fun _ =>
      match cap with
      | .lit _ => do
        let (h', b') ← newRow tab h e ((cs.drop off).take (len * n) ++ news) true
        .ok (.sl b' 0 need (.tail 0), h')
      | .tail k => do
        R.check "append: tail" (Nat.beq k 0 && Nat.beq off 0 && ext && bk != .ro && news.all oneCell)
        let (h', b') ← newRow tab (h.kill b) e (cs.take (len * n) ++ news) true bk.grown
        .ok (.sl b' 0 need (.tail 0), h')
  | _ => .no "append"
/-- How many elements, and their cells. -/
def source (h : AH) (n : Nat) : AV → R (Nat × List AV)
  | .nils => .ok (0, [])
  | .emp .. => .ok (0, [])
  | .sl b off len _ => do
    let cs ← readN h b off (len * n)
    .ok (len, cs)
  | .str s => do
    R.check "source: size" (Nat.beq n 1)
    .ok (s.length, ofBytes s)
  | _ => .no "source"

/-! Maps. -/
def ckFields (ck : TypeId → AV → R Unit) (cs : List AV) : List Field → R Unit
  | [] => .ok ()
  | f :: fs =>
    if f.name ≠ "_" then do
      let x ← part tab f.type cs f.offset
      ck f.type x
      ckFields ck cs fs
    else ckFields ck cs fs
def ckKeyN : Nat → TypeId → AV → R Unit
  | 0, _, _ => .no "ckKey"
  | d + 1, t, v => do
    match ← und tab t, v with
    | .interface _, _ => .no "ckKey"
    | .array _ _, _ => .no "ckKey"
    | .struct fs, .agg cs => ckFields tab (ckKeyN d) cs fs.toList
    | .struct _, _ => .no "ckKey"
    | _, _ => .ok ()
def ckKey (t : TypeId) (v : AV) (d : Nat) : R Unit := ckKeyN tab d t v
def findKey (t : TypeId) (k : AV) : List (AV × AV × Nat) → Nat → R (Option (Nat × AV × AV × Nat))
  | [], _ => .ok none
  | (a, v, n) :: es, i => do
    if ← eqT tab 8 t k a then .ok (some (i, a, v, n)) else findKey t k es (i + 1)
def mapAt (h : AH) (b : Nat) : R (List (AV × AV × Nat) × Nat) :=
  match h.get b with
  | some (.mp es c) => .ok (es, c)
  | _ => .no "map"
def entriesOf (h : AH) : AV → R (List (AV × AV × Nat))
  | .nilm => .ok []
  | .map b => do
    let (es, _) ← mapAt h b
    .ok es
  | _ => .no "entries"
def lookup (h : AH) (t : TypeId) (m k : AV) (ok : Bool) : R AV := do
  match ← und tab t with
  | .map kt et => do
    let es ← entriesOf h m
    ckKey tab kt k 8
    let r ← findKey tab kt k es 0
    match r with
    | some (_, _, v, _) => .ok (if ok then .tup [v, .bool true] else v)
    | none => do
      let z ← zero tab et
      .ok (if ok then .tup [z, .bool false] else z)
  | _ => .no "lookup"
def setAt {α : Type} (l : List α) (i : Nat) (x : α) : List α :=
  match l, i with
  | [], _ => []
  | _ :: l, 0 => x :: l
  | a :: l, i + 1 => a :: setAt l i x
def bits1 : AV → Bool
  | .bool _ | .int _ _ | .str _ | .nilp | .ptr _ _ | .nili => true
  | _ => false
def bitsOK : AV → Bool
  | .agg cs => cs.all bits1
  | v => bits1 v
def mapUpdate (h : AH) (t : TypeId) (m k x : AV) : R AH := do
  match ← und tab t, m with
  | .map kt _, .map b => do
    let (es, c) ← mapAt h b
    ckKey tab kt k 8
    match ← findKey tab kt k es 0 with
    | some (i, a, _, n) => do
      R.check "map: key" (AV.beq a k && bitsOK k)
      .ok (h.set b (.mp (setAt es i (a, x, n)) c))
    | none => .ok (h.set b (.mp (es ++ [(k, x, c)]) (c + 1)))
  | _, _ => .no "mapUpdate"
def mapEntry (h : AH) (t : TypeId) (m k : AV) : R (AV × AH) := do
  match ← und tab t, m with
  | .map kt et, .map b => do
    let (es, c) ← mapAt h b
    ckKey tab kt k 8
    match ← findKey tab kt k es 0 with
    | some (_, a, v, n) => do
      R.check "map: key" (AV.beq a k && bitsOK k)
      .ok (.tup [v, goInt n], h)
    | none => do
      let z ← zero tab et
      .ok (.tup [z, goInt c], h.set b (.mp (es ++ [(k, z, c)]) (c + 1)))
  | _, _ => .no "mapEntry"
def entrySet (n : Nat) (x : AV) : List (AV × AV × Nat) → Option (List (AV × AV × Nat))
  | [] => none
  | (a, v, m) :: es => bif Nat.beq m n then some ((a, x, m) :: es) else (entrySet n x es).map ((a, v, m) :: ·)
def entryStore (h : AH) (m s x : AV) : R AH := do
  match m with
  | .map b => do
    let (es, c) ← mapAt h b
    let n ← asNat s
    let es' ← R.of "entryStore" (entrySet n x es)
    .ok (h.set b (.mp es' c))
  | _ => .no "entryStore"
def delete (h : AH) (t : TypeId) (m k : AV) : R AH := do
  match ← und tab t, m with
  | .map kt _, .nilm => do
    ckKey tab kt k 8
    .ok h
  | .map kt _, .map b => do
    let (es, c) ← mapAt h b
    ckKey tab kt k 8
    match ← findKey tab kt k es 0 with
    | some (i, _) => .ok (h.set b (.mp (es.take i ++ es.drop (i + 1)) c))
    | none => .ok h
  | _, _ => .no "delete"

def rangeOp (h : AH) (t : TypeId) (x : AV) : R (AV × AH) := do
  match ← und tab t, x with
  | .string, .str s => .ok (.ptr h.next 0, h.new (.siter s 0))
  | .map _ _, .nilm => .ok (.ptr h.next 0, h.new (.miter none 0 [] 0))
  | .map _ _, .map b => do
    let (_, c) ← mapAt h b
    .ok (.ptr h.next 0, h.new (.miter (some b) c [] c))
  | _, _ => .no "range"
/-- All that a step of an iterator may give. -/
def nextOp (h : AH) (it : AV) (isString : Bool) : R (List (AV × AH)) := do
  match it with
  | .ptr r 0 =>
    match h.get r, isString with
    | some (.miter none _ _ _), false => .ok [(.tup [.bool false], h)]
    | some (.siter s pos), true =>
      bif Nat.blt pos s.length then
        let d := Utf8.decode ⟨s.toArray⟩ pos
        .ok [(.tup [.bool true, goInt pos, .int .i32 d.1], h.set r (.siter s (pos + d.2)))]
      else .ok [(.tup [.bool false], h)]
    | some (.miter (some m) since seen last), false => do
      let (es, c) ← mapAt h m
      R.check "next: clock" (Nat.beq c since && es.all fun x => Nat.blt x.2.2 since && Nat.blt x.2.2 last)
      let left := es.filter fun x => !(seen.any (Nat.beq x.2.2))
      match left with
      | [] => .ok [(.tup [.bool false], h)]
      | l => .ok (l.map fun x => (.tup [.bool true, x.1, x.2.1], h.set r (.miter (some m) since (seen ++ [x.2.2]) c)))
    | _, _ => .no "next"
  | _ => .no "next"
def entryOp (h : AH) (it : AV) : R AV := do
  match it with
  | .ptr r 0 =>
    match h.get r with
    | some (.miter (some m) _ seen stepped) => do
      let (es, c) ← mapAt h m
      R.check "entry: clock" (Nat.beq c stepped)
      let n ← R.of "entry: step" seen.getLast?
      let x ← R.of "entry" (es.find? fun x => Nat.beq x.2.2 n)
      .ok (.tup [x.1, x.2.1])
    | _ => .no "entry"
  | _ => .no "entry"

def fieldOf (t : TypeId) (f : Nat) : R Field := do
  match ← und tab t with
  | .struct fs => R.of "field" fs[f]?
  | _ => .no "struct"

def minInt (k : IntKind) : Int → List AV → R AV
  | x, [] => .ok (.int k x)
  | x, .int _ y :: l => minInt k (if y < x then y else x) l
  | _, _ => .no "min"
def maxInt (k : IntKind) : Int → List AV → R AV
  | x, [] => .ok (.int k x)
  | x, .int _ y :: l => maxInt k (if y > x then y else x) l
  | _, _ => .no "max"

def lenOf (h : AH) : TypeDesc → AV → R Nat
  | .string, .str s => .ok s.length
  | .slice _, .nils => .ok 0
  | .slice _, .emp .. => .ok 0
  | .slice _, .sl _ _ n _ => .ok n
  | .map _ _, .nilm => .ok 0
  | .map _ _, .map b => do
    let (es, _) ← mapAt h b
    .ok es.length
  | .array n _, _ => .ok n
  | _, _ => .no "len"

/-- append(x, make(..)...). -/
def appendMake (h : AH) (e : TypeId) (x y : AV) : R (AV × AH) := do
  let n ← siz tab e
  let by_ ← R.of "byt" (tab.byt.get e)
  R.check "append: cells" (!(Nat.beq n 0))
  let m ← asNat y
  R.check "append of make: size" (Nat.ble m 1048576 && Nat.ble (m * by_) 16777216)
  let z ← zero tab e
  let zc ← z.cells
  R.check "append of make: zero" (Nat.beq zc.length n)
  appendOp tab h e n by_ x m (rep m zc)
def sliceData (h : AH) (x : AV) : R (AV × AH) :=
  match x with
  | .nils => .ok (.nilp, h)
  | .sl b off _ cap => do
    let c ← capLow h b cap
    R.check "unsafe.SliceData" (!(Nat.beq c 0))
    .ok (.ptr b off, h)
  | _ => .no "unsafe.SliceData"
def unsafeString (h : AH) (t : TypeId) (x y : AV) : R (AV × AH) := do
  let n ← asNat y
  R.check "unsafe.String: length" (Nat.ble n 1048576)
  match x with
  | .nilp => do
    R.check "unsafe.String" (Nat.beq n 0)
    .ok (.str [], h)
  | .ptr b off =>
    bif Nat.beq n 0 then .ok (.str [], h)
    else do
      match ← und tab t with
      | .pointer u => do
        let (cs, e, sz, ext, bk) ← cellsAt h b
        let n1 ← siz tab e
        R.check "unsafe.String: type" (Nat.beq e u && Nat.beq n1 1 && bk != .ro)
        let s ← bytesOf (← readN h b off n)
        .ok (.str s, h.set b (.cells cs e sz ext .ro))
      | _ => .no "unsafe.String"
  | _ => .no "unsafe.String"

/-- Built-in functions. -/
def builtin (b : Builtin) (argTypes : Array TypeId) (args : List AV) (h : AH) : R (AV × AH) := do
  match b, args with
  | .len, [x] => do
    let t ← R.of "len" argTypes[0]?
    let u ← und tab t
    match u with
    | .pointer e => do
      match ← und tab e with
      | .array n _ => .ok (goInt n, h)
      | _ => .no "len"
    | u => do
      let n ← lenOf h u x
      .ok (goInt n, h)
  | .cap, [x] => do
    let t ← R.of "cap" argTypes[0]?
    match ← und tab t, x with
    | .slice _, .nils => .ok (goInt 0, h)
    | .slice _, .sl _ _ _ (.lit n) => .ok (goInt n, h)
    | _, _ => .no "cap"
  | .append, [x, y] => do
    let t ← R.of "append" argTypes[0]?
    let u ← R.of "append" argTypes[1]?
    match ← und tab u with
    | .int _ => do
      match ← und tab t with
      | .slice e => appendMake tab h e x y
      | _ => .no "append"
    | _ => do
      match ← und tab t with
      | .slice e => do
        let n ← siz tab e
        let by_ ← R.of "byt" (tab.byt.get e)
        R.check "append: cells" (!(Nat.beq n 0))
        let (m, news) ← source h n y
        appendOp tab h e n by_ x m news
      | _ => .no "append"
  | .copy, [x, y] => do
    let t ← R.of "copy" argTypes[0]?
    match ← und tab t with
    | .slice e => do
      let n ← siz tab e
      let (m, cs) ← source h n y
      match x with
      | .nils => .ok (goInt 0, h)
      | .emp .. => .ok (goInt 0, h)
      | .sl b off len _ => do
        let k := Nat.min m len
        let h' ← writeN h b off (cs.take (k * n))
        .ok (goInt k, h')
      | _ => .no "copy"
    | _ => .no "copy"
  | .clear, [x] => do
    let t ← R.of "clear" argTypes[0]?
    match ← und tab t, x with
    | _, .nilm => .ok (.tup [], h)
    | _, .nils => .ok (.tup [], h)
    | _, .emp .. => .ok (.tup [], h)
    | _, .map b => do
      let (_, c) ← mapAt h b
      .ok (.tup [], h.set b (.mp [] c))
    | .slice e, .sl b off len _ => do
      let z ← zero tab e
      let zc ← z.cells
      let h' ← writeN h b off (rep len zc)
      .ok (.tup [], h')
    | _, _ => .no "clear"
  | .delete, [m, k] => do
    let t ← R.of "delete" argTypes[0]?
    let h' ← delete tab h t m k
    .ok (.tup [], h')
  | .unsafeSliceData, [x] => sliceData h x
  | .unsafeString, [x, y] => do
    let t ← R.of "unsafe.String" argTypes[0]?
    unsafeString tab h t x y
  | .min, .int k x :: l => do
    let v ← minInt k x l
    .ok (v, h)
  | .max, .int k x :: l => do
    let v ← maxInt k x l
    .ok (v, h)
  | _, _ => .no "builtin"

/-- An operation that enters no function: its value, and the heap behind it. -/
def pureOp (ts : T AV) (h : AH) (o : Oper) : R (AV × AH) := do
  match o.op with
  | .move x => do .ok (← ev ts x, h)
  | .assign x => do .ok (← ev ts x, h)
  | .pick c a b => do
    match ← ev ts c with
    | .bool true => do .ok (← ev ts a, h)
    | .bool false => do .ok (← ev ts b, h)
    | _ => .no "pick"
  | .alloc e => do
    let z ← zero tab e
    let zc ← z.cells
    let (h', b) ← newRow tab h e zc
    .ok (.ptr b 0, h')
  | .box e x => do
    let v ← ev ts x
    let vc ← v.cells
    let (h', b) ← newRow tab h e vc
    .ok (.ptr b 0, h')
  | .build t ps => do
    let l ← evParts ts ps.toList
    .ok (← build tab t l, h)
  | .buildSlice t n ps => do
    let l ← evParts ts ps.toList
    buildSlice tab h t n l
  | .load t a => do
    match ← ev ts a with
    | .ptr b off => do .ok (← loadVar tab h t b off, h)
    | _ => .no "load"
  | .store t a x => do
    match ← ev ts a with
    | .ptr b off => do
      let h' ← storeVar tab h t b off (← ev ts x)
      .ok (.tup [], h')
    | _ => .no "store"
  | .nilCheck x => do
    match ← ev ts x with
    | .ptr b off => .ok (.ptr b off, h)
    | .fn (.func f) a b => .ok (.fn (.func f) a b, h)
    | _ => .no "nilCheck"
  | .binOp op t x y _ => do .ok (← binOp tab h op t (← ev ts x) (← ev ts y), h)
  | .unOp op _ x => do .ok (← unOp op (← ev ts x), h)
  | .convert s d x => do convertAll tab h s d (← ev ts x)
  | .makeInterface t x => do
    match ← und tab t with
    | .interface _ => .no "makeInterface"
    | _ => do .ok (.iface t (← ev ts x), h)
  | .makeFunc fn first captured => do
    match fn with
    | .func _ => do .ok (.fn fn (← evs ts first.toList) (← evs ts captured.toList), h)
    | _ => .no "makeFunc"
  | .makeMap _ none => .ok (.map h.next, h.new (.mp [] 0))
  | .makeSlice t l c => do makeSlice tab h t (← ev ts l) (← ev ts c)
  | .slice t x lo hi mx => do sliceOp tab ts h t (← ev ts x) lo hi mx
  | .fieldAddr s x f => do
    let fd ← fieldOf tab s f
    let n ← siz tab fd.type
    R.check "fieldAddr: size 0" (!(Nat.beq n 0))
    match ← ev ts x with
    | .ptr b off => .ok (.ptr b (off + fd.offset), h)
    | _ => .no "fieldAddr"
  | .field t x f => do
    let fd ← fieldOf tab t f
    match ← ev ts x with
    | .agg cs => do .ok (← part tab fd.type cs fd.offset, h)
    | _ => .no "field"
  | .indexAddr t x ix => do
    let i ← asNat (← ev ts ix)
    match ← und tab t, ← ev ts x with
    | .array len e, .ptr b off => do
      R.check "indexAddr" (Nat.blt i len)
      let n ← siz tab e
      .ok (.ptr b (off + i * n), h)
    | .slice e, .sl b off len _ => do
      R.check "indexAddr" (Nat.blt i len)
      let n ← siz tab e
      .ok (.ptr b (off + i * n), h)
    | _, _ => .no "indexAddr"
  | .index t x ix => do
    let i ← asNat (← ev ts ix)
    match ← und tab t, ← ev ts x with
    | .array len e, .agg cs => do
      R.check "index" (Nat.blt i len)
      let n ← siz tab e
      .ok (← part tab e cs (i * n), h)
    | .string, .str s => do
      let b ← R.of "index" s[i]?
      .ok (.int .u8 (.ofNat b.toNat), h)
    | _, _ => .no "index"
  | .lookup t m k ok => do .ok (← lookup tab h t (← ev ts m) (← ev ts k) ok, h)
  | .mapUpdate t m k x | .insert t m k x => do
    let h' ← mapUpdate tab h t (← ev ts m) (← ev ts k) (← ev ts x)
    .ok (.tup [], h')
  | .mapEntry t m k => do mapEntry tab h t (← ev ts m) (← ev ts k)
  | .entryStore _ m s x => do
    let h' ← entryStore h (← ev ts m) (← ev ts s) (← ev ts x)
    .ok (.tup [], h')
  | .range t x => do rangeOp tab h t (← ev ts x)
  | .entry it => do .ok (← entryOp h (← ev ts it), h)
  | .typeAssert x xt t ok => do
    let _ := xt
    match ← und tab t, ← ev ts x with
    | .interface _, _ => .no "typeAssert"
    | _, .iface u v => if u = t then .ok ((if ok then .tup [v, .bool true] else v), h) else do
        R.check "typeAssert" ok
        let z ← zero tab t
        .ok (.tup [z, .bool false], h)
    | _, .nili => do
        R.check "typeAssert" ok
        let z ← zero tab t
        .ok (.tup [z, .bool false], h)
    | _, _ => .no "typeAssert"
  | .extract t i => do
    match ← ev ts t with
    | .tup vs => do .ok (← R.of "extract" vs[i]?, h)
    | _ => .no "extract"
  | .call c => do
    match c.callee with
    | .builtin b => do
      let l ← evs ts c.args.toList
      builtin tab b c.argTypes l h
    | _ => .no "call"
  | _ => .no "op"
end
end Go.Am
