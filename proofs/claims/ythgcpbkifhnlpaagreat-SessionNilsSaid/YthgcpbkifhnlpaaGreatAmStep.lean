/- An evaluator over abstract values, proved sound over the model's machine; no condition. Part: Step. -/
import Derived.Test.YthgcpbkifhnlpaaGreatAmCore
set_option linter.unusedSimpArgs false
set_option linter.unusedVariables false
set_option linter.unusedSectionVars false
set_option linter.deprecated false
namespace Go.Am

def AFrame.enter (fn : Func) (f : FuncId) (body : Code) (args : List AV) (kind : CallKind) : AFrame :=
  { fn := f, nt := Nat.max fn.ntmps args.length, tmps := T.ofList args, todo := [.code body], defers := [], mode := .run, kind, round := none }
def AFrame.put (fr : AFrame) (d : Option Tmp) (v : AV) : T AV :=
  match d with
  | some d => bif Nat.blt d fr.nt then fr.tmps.set d (some v) else fr.tmps
  | none => fr.tmps
def AFrame.finish (fr : AFrame) (v : AV) : R AFrame :=
  match fr.todo with
  | .inRegion ops (i :: rest) :: k => .ok { fr with tmps := fr.put ((ops[i]?).bind (·.dst)) v, todo := .inRegion ops rest :: k }
  | .inRange l :: k => .ok { fr with todo := .endRange l :: k }
  | .beginRound :: k => .ok { fr with todo := k }
  | _ => .no "finish"
def AFrame.raise (fr : AFrame) (c : List APE) : AFrame :=
  match fr.mode with
  | .panicking d => { fr with mode := .panicking (c ++ d) }
  | _ => { fr with mode := .panicking c }
def exitTo (id : Nat) : List AItem → Option (List AItem)
  | .inBlock j :: k => bif Nat.beq j id then some k else exitTo id k
  | _ :: k => exitTo id k
  | [] => none

inductive AOut where
  | next (m : AM)
  | alts (l : List AM)
  | done (v : AV) (h : AH)

section
variable (tab : Tab) (sub : FuncId → List AV → AH → R (List (AV × AH)))

def wanted (ops : Array Oper) (o : Oper) (ts : T AV) : R Bool :=
  match o.guard with
  | none => .ok true
  | some (j, w) =>
    match ((ops[j]?).bind (·.dst)).bind ts.get with
    | some (.bool b) => .ok (b == w)
    | some (.raw _) => .no "guard"
    | _ => .ok false

def loopAt (h : AH) (l : Nat) : R AO :=
  match h.get l with
  | some o@(.loop ..) => .ok o
  | _ => .no "loop"

/-- A frame has come to its end, with a value: its caller goes on. -/
def doReturn (fr : AFrame) (cs : List AFrame) (v : AV) (h : AH) : R AOut :=
  match cs with
  | [] =>
    match fr.kind with
    | .normal => .ok (.done v h)
    | _ => .no "doReturn: end"
  | c :: rest =>
    match fr.kind with
    | .normal => do .ok (.next { fr := ← c.finish v, cs := rest, h })
    | .deferred =>
      match c.mode with
      | .panicking ({ recovered := true, .. } :: _) => .ok (.next { fr := { c with mode := .returning }, cs := rest, h })
      | _ => .ok (.next { fr := c, cs := rest, h })
    | _ => .no "doReturn: kind"

/-- A frame leaves its code by a jump. -/
def leave (fr : AFrame) (cs : List AFrame) (h : AH) (jump : Option Code) : R AOut :=
  match fr.round with
  | none =>
    match jump with
    | none => .ok (.next { fr := { fr with mode := .returning }, cs, h })
    | some .ret => .ok (.next { fr := { fr with mode := .returning }, cs, h })
    | _ => .no "leave"
  | some l =>
    match h.get l, cs with
    | some (.loop _ _ fn ts nt ps a b d), _ :: _ =>
      doReturn fr cs (.bool jump.isNone) (h.set l (.loop (if jump.isNone then .ready else .done) jump fn ts nt ps a b d))
    | _, _ => .no "leave: loop"

/-- What runs without a body: 1 compares strings, 2 gives its argument back, 3 makes bytes, 4 asks whether two slices overlap. -/
def extern (tag : Nat) (fn : Func) (args : List AV) (h : AH) : R (AV × AH) :=
  match tag, args with
  | 1, [.str a, .str b] => .ok (.int .i64 (Extern.BytealgCompare.cmp ⟨a.toArray⟩ ⟨b.toArray⟩), h)
  | 2, [x] => .ok (x, h)
  | 3, [.int .i64 (.ofNat n)] => do
    let t ← R.of "MakeNoZero" fn.resultTypes[0]?
    match ← und tab t with
    | .slice e => do
      let sz ← siz tab e
      R.check "MakeNoZero" (Nat.ble n 1048576 && Nat.beq sz 1)
      let (h', b) ← newRow tab h e [] true
      .ok (.sl b 0 n (.tail 0), h')
    | _ => .no "MakeNoZero"
  | 4, [x, y] => do
    let t ← R.of "overlaps" fn.params[0]?
    match ← und tab t with
    | .slice e => do
      let sz ← siz tab e
      R.check "overlaps: size" (!(Nat.beq sz 0))
      match x, y with
      | .nils, .nils => .ok (.bool false, h)
      | .nils, .sl .. => .ok (.bool false, h)
      | .sl .., .nils => .ok (.bool false, h)
      | .sl a i n _, .sl b j m _ => do
        match h.get a, h.get b with
        | some (.cells _ _ _ _ .rw), some (.cells _ _ _ _ .rw) =>
          bif Nat.beq n 0 || Nat.beq m 0 then .ok (.bool false, h)
          else .ok (.bool (Nat.beq a b && Nat.blt i (j + m * sz) && Nat.blt j (i + n * sz)), h)
        | _, _ => .no "overlaps"
      | _, _ => .no "overlaps"
    | _ => .no "overlaps"
  | _, _ => .no "extern"
def externAt (f : FuncId) (fn : Func) (args : List AV) (h : AH) : R (AV × AH) :=
  match tab.ext.get f with
  | some tag => extern tab tag fn args h
  | none => .no "extern"

/-- A function is called, with all its arguments. -/
def callFn (fr : AFrame) (cs : List AFrame) (h : AH) (f : FuncId) (args : List AV) (kind : CallKind) : R AOut :=
  match tab.fns.get f with
  | some fn =>
    match fn.body with
    | some body =>
      bif tab.merge f && kind == .normal then do
        let outs ← sub f args h
        let ms ← outs.mapM fun (v, h') => do R.ok { fr := ← fr.finish v, cs, h := h' : AM }
        .ok (.alts ms)
      else .ok (.next { fr := AFrame.enter fn f body args kind, cs := fr :: cs, h })
    | none =>
      match kind with
      | .normal => do
        let (v, h') ← externAt tab f fn args h
        .ok (.next { fr := ← fr.finish v, cs, h := h' })
      | _ => .no "callFn: no body"
  | none => .no "callFn: no function"

def putParams (ts : T AV) (nt : Nat) : List Tmp → List AV → T AV
  | p :: ps, a :: as => putParams (bif Nat.blt p nt then ts.set p (some a) else ts) nt ps as
  | _, _ => ts

def callYield (fr : AFrame) (cs : List AFrame) (h : AH) (l : Nat) (args : List AV) (kind : CallKind) : R AOut :=
  match h.get l with
  | some (.loop _ _ fn ts nt ps a b _) => do
    R.check "yield" (Nat.beq args.length ps.size)
    .ok (.next { fr := { fn, nt, tmps := putParams ts nt ps.toList args, todo := [.code a, .beginRound, .code b], defers := [], mode := .run, kind, round := some l }, cs := fr :: cs, h })
  | _ => .no "yield: loop"

def callTarget (fr : AFrame) (cs : List AFrame) (h : AH) (d : AD) (kind : CallKind) : R AOut :=
  match d.target with
  | .fn (.func f) captured => callFn tab sub fr cs h f (d.args ++ captured) kind
  | .yld l => callYield fr cs h l d.args kind
  | _ => .no "callTarget"

def resolveV (f : AV) (args : List AV) : R AD :=
  match f with
  | .fn fn first captured => .ok { target := .fn fn captured, args := first ++ args }
  | .yld l => .ok { target := .yld l, args }
  | _ => .no "resolve"

def tryRecover (fr : AFrame) (cs : List AFrame) : R (Option (AV × List AFrame)) :=
  match fr.kind, cs with
  | .deferred, c :: rest =>
    match c.mode with
    | .panicking ({ v, recovered := false } :: older) => .ok (some (v, { c with mode := .panicking ({ v, recovered := true } :: older) } :: rest))
    | _ => .ok none
  | .normal, _ :: _ => .ok none
  | _, _ => .no "recover"

/-- An operation. -/
def oper (fr : AFrame) (cs : List AFrame) (h : AH) (o : Oper) : R AOut := do
  match o.op with
  | .call c => do
    match c.callee with
    | .value f => do
      let args ← evs fr.tmps c.args.toList
      let d ← resolveV (← ev fr.tmps f) args
      callTarget tab sub fr cs h d .normal
    | .builtin .recover =>
      match fr.round with
      | none => do
        match ← tryRecover fr cs with
        | some (v, cs') => do .ok (.next { fr := ← fr.finish v, cs := cs', h })
        | none => do .ok (.next { fr := ← fr.finish .nili, cs, h })
      | some _ => .no "recover in a round"
    | _ => do
      let (v, h') ← pureOp tab fr.tmps h o
      .ok (.next { fr := ← fr.finish v, cs, h := h' })
  | .defer c => do
    match c.callee, fr.round with
    | .value f, none => do
      let args ← evs fr.tmps c.args.toList
      let d ← resolveV (← ev fr.tmps f) args
      .ok (.next { fr := ← AFrame.finish { fr with defers := d :: fr.defers } (.tup []), cs, h })
    | _, _ => .no "defer"
  | .panic x => do
    match ← ev fr.tmps x with
    | .iface t v => .ok (.next { fr := fr.raise [{ v := .iface t v, recovered := false }], cs, h })
    | _ => .no "panic"
  | .next it s => do
    let l ← nextOp h (← ev fr.tmps it) s
    let ms ← l.mapM fun (v, h') => do R.ok { fr := ← fr.finish v, cs, h := h' : AM }
    match ms with
    | [m] => .ok (.next m)
    | ms => .ok (.alts ms)
  | _ => do
    let (v, h') ← pureOp tab fr.tmps h o
    .ok (.next { fr := ← fr.finish v, cs, h := h' })

/-! A region whose order is open. -/
inductive Cls where
  | pure | read | alloc | eff
deriving DecidableEq
def cls (o : Oper) : Cls :=
  match o.op with
  | .move _ | .assign _ | .pick .. | .build .. | .unOp .. | .makeInterface .. | .makeFunc .. | .slice .. | .fieldAddr .. | .field .. | .indexAddr .. | .index .. | .extract .. | .nilCheck _ | .typeAssert .. => .pure
  | .load .. | .lookup .. | .entry _ | .binOp .. => .read
  | .convert .. => .eff
  | .alloc _ | .box .. | .buildSlice .. | .makeMap .. | .makeSlice .. => .alloc
  | .call c => match c.callee with
    | .builtin .len => .read
    | .builtin .cap | .builtin .min | .builtin .max => .pure
    | _ => .eff
  | _ => .eff

structure DS where
  ts : T AV
  h : AH
  anc : T (List Nat)                  -- what has been looked at, with all that must be ahead of it
  reads : List (Nat × T AV × AV)      -- what reads the heap, and may come later
  allocs : List (Nat × Nat)           -- what makes a block, and may come later; the block

def hideAll (h : AH) : List (Nat × Nat) → AH
  | [] => h
  | (_, b) :: l => hideAll (h.kill b) l
def restore (h h0 : AH) : List (Nat × Nat) → AH
  | [] => h
  | (_, b) :: l => restore { h with t := h.t.set b (h0.get b) } h0 l
def memN (i : Nat) (l : List Nat) : Bool := l.any (Nat.beq i)
def preOf (o : Oper) : List Nat := (o.after.toList.filter (Region.binds .any)).map (·.on)
def ancOf (anc : T (List Nat)) (o : Oper) : List Nat := (preOf o).flatMap fun j => j :: (anc.get j).getD []
def isReady (anc : T (List Nat)) (i : Nat) (o : Oper) : Bool := (anc.get i).isNone && (preOf o).all fun j => (anc.get j).isSome
def looks (ops : Array Oper) (o : Oper) : List Tmp :=
  (o.op.operands.toList.filterMap fun | .tmp t => some t | _ => none) ++
  (match o.guard with
   | some (g, _) => ((ops[g]?).bind (·.dst)).toList
   | none => [])
/-- What has been looked at and writes t is directly ahead. -/
def writersIn (anc : T (List Nat)) (t : Tmp) (pre : List Nat) : Nat → List Oper → Bool
  | _, [] => true
  | j, o :: l => (match o.dst with
    | some d => bif Nat.beq d t && (anc.get j).isSome then memN j pre else true
    | none => true) && writersIn anc t pre (j + 1) l
/-- Nobody else writes a; what has been looked at and looks at a is ahead. -/
def dstFree (anc : T (List Nat)) (ops : Array Oper) (i : Nat) (a : Tmp) (an : List Nat) : Nat → List Oper → Bool
  | _, [] => true
  | j, o :: l => (match o.dst with
    | some d => bif Nat.beq d a then Nat.beq i j else true
    | none => true) && (bif (anc.get j).isSome then memN j an || !(memN a (looks ops o)) else true) && dstFree anc ops i a an (j + 1) l
def opOk (anc : T (List Nat)) (ops : Array Oper) (i : Nat) (o : Oper) : Bool :=
  (looks ops o).all (fun t => writersIn anc t (preOf o) 0 ops.toList) &&
  (match o.dst with
   | some d => dstFree anc ops i d (ancOf anc o) 0 ops.toList
   | none => true)

def effOp (ts : T AV) (h : AH) (o : Oper) : R (AV × AH) := do
  match o.op with
  | .call c => do
    match c.callee with
    | .value f => do
      let args ← evs ts c.args.toList
      let d ← resolveV (← ev ts f) args
      match d.target with
      | .fn (.func f) captured => do
        match tab.fns.get f with
        | some fn =>
          match fn.body with
          | some _ => do
            match ← sub f (d.args ++ captured) h with
            | [(v, h')] => .ok (v, h')
            | _ => .no "draw: more than one end"
          | none => externAt tab f fn (d.args ++ captured) h
        | none => .no "draw: function"
      | _ => .no "draw: target"
    | .builtin .recover => .no "draw: recover"
    | _ => pureOp tab ts h o
  | .defer _ | .panic _ | .next .. | .go _ => .no "draw: effect"
  | _ => pureOp tab ts h o

def drawPut (nt : Nat) (ts : T AV) (o : Oper) (v : AV) : T AV :=
  match o.dst with
  | some d => bif Nat.blt d nt then ts.set d (some v) else ts
  | none => ts

/-- An operation that floats: it may come as soon as all ahead of it has come. None: it does not float. -/
def drawFloat (ops : Array Oper) (nt : Nat) (i : Nat) (o : Oper) (s : DS) : R (Option DS) := do
  R.check "draw: temporaries" (opOk s.anc ops i o)
  let anc := s.anc.set i (some (ancOf s.anc o))
  if !(← wanted ops o s.ts) then .ok (some { s with ts := drawPut nt s.ts o (.tup []), anc })
  else
    match cls o with
    | .eff => .ok none
    | .alloc => do
      let (v, h1) ← pureOp tab s.ts { t := .e, next := s.h.next } o
      R.check "draw: a block" (Nat.beq h1.next (s.h.next + 1))
      let obj ← R.of "draw: block" (h1.get s.h.next)
      .ok (some { s with ts := drawPut nt s.ts o v, h := s.h.new obj, anc, allocs := (i, s.h.next) :: s.allocs })
    | c =>
      match (match c with | .pure => pureOp tab s.ts { t := .e, next := 0 } o | _ => .no "read") with
      | .ok (v, h1) => do
        R.check "draw: no block" (Nat.beq h1.next 0)
        .ok (some { s with ts := drawPut nt s.ts o v, anc })
      | .no _ =>
        match pureOp tab s.ts (hideAll s.h s.allocs) o with
        | .ok (v, _) => .ok (some { s with ts := drawPut nt s.ts o v, anc, reads := (i, s.ts, v) :: s.reads })
        | .no _ => .ok none
def drawPass (ops : Array Oper) (nt : Nat) : Nat → List Oper → DS → R DS
  | _, [], s => .ok s
  | i, o :: l, s =>
    bif isReady s.anc i o then do
      match ← drawFloat tab ops nt i o s with
      | some s' => drawPass ops nt (i + 1) l s'
      | none => drawPass ops nt (i + 1) l s
    else drawPass ops nt (i + 1) l s
def cands (anc : T (List Nat)) : Nat → List Oper → List (Nat × Oper)
  | _, [] => []
  | i, o :: l => bif isReady anc i o then (i, o) :: cands anc (i + 1) l else cands anc (i + 1) l

/-- After an effect, each read that may come behind it gives the same. -/
def reread (ops : Array Oper) (h : AH) : List (Nat × T AV × AV) → R Unit
  | [] => .ok ()
  | (i, ts, v) :: l => do
    let o ← R.of "reread" ops[i]?
    let (u, _) ← pureOp tab ts h o
    R.check "draw: a read behind an effect" (AV.beq u v)
    reread ops h l

def drawEff (ops : Array Oper) (nt : Nat) (i : Nat) (o : Oper) (s : DS) : R DS := do
  R.check "draw: temporaries" (opOk s.anc ops i o)
  let b ← wanted ops o s.ts
  R.check "draw: not wanted" b
  let an := ancOf s.anc o
  let hid := s.allocs.filter fun x => !(memN x.1 an)
  let (v, h1) ← effOp tab sub s.ts (hideAll s.h hid) o
  R.check "draw: next" (Nat.ble s.h.next h1.next)
  let h2 := restore h1 s.h hid
  let reads := s.reads.filter fun x => !(memN x.1 an)
  reread tab ops (hideAll h2 hid) reads
  .ok { ts := drawPut nt s.ts o v, h := h2, anc := s.anc.set i (some an), reads, allocs := hid }
def drawLoop (ops : Array Oper) (nt : Nat) : Nat → DS → R DS
  | 0, _ => .no "draw: fuel"
  | n + 1, s => do
    let s1 ← drawPass tab ops nt 0 ops.toList s
    match cands s1.anc 0 ops.toList with
    | [] => do
      R.check "draw: not all" ((List.range ops.size).all fun i => (s1.anc.get i).isSome)
      .ok s1
    | [(i, o)] => do
      let s2 ← drawEff tab sub ops nt i o s1
      drawLoop ops nt n s2
    | _ => .no "draw: two effects"
def preLt : Nat → List Oper → Bool
  | _, [] => true
  | i, o :: l => (preOf o).all (fun p => Nat.blt p i) && preLt (i + 1) l
def draw (ops : Array Oper) (nt : Nat) (ts : T AV) (h : AH) : R (T AV × AH) := do
  R.check "draw: order" (preLt 0 ops.toList)
  let s ← drawLoop tab sub ops nt (ops.size + 1) { ts, h, anc := .e, reads := [], allocs := [] }
  .ok (s.ts, s.h)

def results (h : AH) (ts : T AV) : List ResultVar → R (List AV)
  | [] => .ok []
  | .tmp t :: l => do
    let vs ← results h ts l
    .ok ((ts.get t).getD (.tup []) :: vs)
  | .cell a t :: l => do
    match ts.get a with
    | some (.ptr b off) => do
      let v ← loadVar tab h t b off
      let vs ← results h ts l
      .ok (v :: vs)
    | _ => .no "results"
def result (vs : List AV) : AV :=
  match vs with
  | [v] => v
  | vs => .tup vs

def unwind (fr : AFrame) (cs : List AFrame) (h : AH) : R AOut :=
  match fr.defers with
  | { target := .collected b, .. } :: ds =>
    match h.get b with
    | some (.dfr (some calls)) => .ok (.next { fr := { fr with defers := calls ++ ds }, cs, h := h.set b (.dfr none) })
    | _ => .no "unwind: collected"
  | d :: ds => callTarget tab sub { fr with defers := ds } cs h d .deferred
  | [] =>
    match fr.mode with
    | .run => .no "unwind"
    | .panicking chain =>
      match cs with
      | c :: rest => .ok (.next { fr := c.raise chain, cs := rest, h })
      | [] => .no "a panic at the end"
    | .returning =>
      match tab.fns.get fr.fn with
      | none => .no "unwind: function"
      | some fn => do
        let vs ← results tab h fr.tmps fn.results.toList
        doReturn fr cs (result vs) h

def step (m : AM) : R AOut :=
  let fr := m.fr
  let cs := m.cs
  let h := m.h
  match fr.mode with
  | .run =>
    match fr.todo with
    | [] => leave fr cs h none
    | .code .ret :: _ => leave fr cs h (some .ret)
    | .code .skip :: k => .ok (.next { fr := { fr with todo := k }, cs, h })
    | .code (.label _) :: k => .ok (.next { fr := { fr with todo := k }, cs, h })
    | .inBlock _ :: k => .ok (.next { fr := { fr with todo := k }, cs, h })
    | .inScope _ :: k => .ok (.next { fr := { fr with todo := k }, cs, h })
    | .code (.seq a b) :: k => .ok (.next { fr := { fr with todo := .code a :: .code b :: k }, cs, h })
    | .code (.cond c a b) :: k => do
      match ← ev fr.tmps c with
      | .bool true => .ok (.next { fr := { fr with todo := .code a :: k }, cs, h })
      | .bool false => .ok (.next { fr := { fr with todo := .code b :: k }, cs, h })
      | _ => .no "cond"
    | .code (.block id b) :: k => .ok (.next { fr := { fr with todo := .code b :: .inBlock id :: k }, cs, h })
    | .code (.loop b) :: k => .ok (.next { fr := { fr with todo := .code b :: .inLoop b :: k }, cs, h })
    | .inLoop b :: k => .ok (.next { fr := { fr with todo := .code b :: .inLoop b :: k }, cs, h })
    | .code (.scope b) :: k => .ok (.next { fr := { fr with todo := .code b :: .inScope b :: k }, cs, h })
    | .code (.exit id) :: k =>
      match exitTo id k with
      | some k' => .ok (.next { fr := { fr with todo := k' }, cs, h })
      | none => leave fr cs h (some (.exit id))
    | .code (.rangeFunc f ps a b) :: k => do
      let d ← resolveV (← ev fr.tmps f) [.yld (bif fr.round.isNone then h.next + 1 else h.next)]
      match fr.round with
      | none =>
        let h1 := h.new (.dfr (some []))
        let h2 := h1.new (.loop .ready none fr.fn fr.tmps fr.nt ps a b h.next)
        callTarget tab sub { fr with todo := .inRange (h.next + 1) :: k, defers := { target := .collected h.next, args := [] } :: fr.defers } cs h2 d .normal
      | some l =>
        match h.get l with
        | some (.loop _ _ _ _ _ _ _ _ dd) =>
          let h2 := h.new (.loop .ready none fr.fn fr.tmps fr.nt ps a b dd)
          callTarget tab sub { fr with todo := .inRange h.next :: k } cs h2 d .normal
        | _ => .no "rangeFunc: loop"
    | .endRange l :: k =>
      match h.get l with
      | some (.loop st pending fn ts nt ps a b d) =>
        match st with
        | .busy => .no "endRange: busy"
        | _ => .ok (.next { fr := { fr with todo := (pending.map AItem.code).toList ++ k }, cs, h := h.set l (.loop .exhausted pending fn ts nt ps a b d) })
      | _ => .no "endRange"
    | .beginRound :: k =>
      match fr.round with
      | some l =>
        match h.get l with
        | some (.loop .ready pending fn ts nt ps a b d) => .ok (.next { fr := { fr with todo := k }, cs, h := h.set l (.loop .busy pending fn ts nt ps a b d) })
        | _ => .no "beginRound"
      | none => .no "beginRound"
    | .code (.region _ ops false) :: k => .ok (.next { fr := { fr with todo := .inRegion ops (List.range ops.size) :: k }, cs, h })
    | .code (.region _ ops true) :: k => do
      let (ts, h') ← draw tab sub ops fr.nt fr.tmps h
      .ok (.next { fr := { fr with tmps := ts, todo := k }, cs, h := h' })
    | .inRegion _ [] :: k => .ok (.next { fr := { fr with todo := k }, cs, h })
    | .inRegion ops (i :: _) :: _ =>
      match ops[i]? with
      | some o => do
        if ← wanted ops o fr.tmps then oper tab sub fr cs h o
        else do .ok (.next { fr := ← fr.finish (.tup []), cs, h })
      | none => .no "region"
    | _ => .no "item"
  | _ => unwind tab sub fr cs h
end

mutual
def runs (tab : Tab) : Nat → List AM → R (List (AV × AH))
  | 0, _ => .no "fuel"
  | _ + 1, [] => .ok []
  | n + 1, m :: l => do
    let a ← run tab n m
    let b ← runs tab n l
    .ok (a ++ b)
def run (tab : Tab) : Nat → AM → R (List (AV × AH))
  | 0, _ => .no "fuel"
  | n + 1, m =>
    match step tab (fun f args h => match tab.fns.get f with
        | some fn => match fn.body with
          | some body => run tab n { fr := AFrame.enter fn f body args .normal, cs := [], h }
          | none => .no "run: body"
        | none => .no "run: function") m with
    | .no w => .no w
    | .ok (.done v h) => .ok [(v, h)]
    | .ok (.next m') => run tab n m'
    | .ok (.alts l) => runs tab n l
end
end Go.Am
