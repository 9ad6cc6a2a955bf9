/- An evaluator over symbolic values, proved sound over the model's machine, and its use at this seat; no condition. Part 4. -/
import Derived.Lib.Bytealg
import Derived.KernelRfl
import Derived.Deep.MidRow
import Derived.Laws.AppendOwn
import Derived.Maps.Own
import Derived.Maps.OwnOps
import Derived.Sort.KeysCollected
import Derived.Sort.EncStr
import Derived.Shelf.SlSortCmp.WholeK
import Derived.Shelf.SlIter.Nil
import Derived.Shelf.SortM.Plain
import Derived.Shelf.SortM.SortNone
import Derived.Shelf.SlicesE.Clone
import Derived.Test.YtmfohfbdddlilaaGreatProg
import Derived.Test.YtmfohfbdddlilaaGreatP3
set_option linter.unusedSimpArgs false
set_option linter.unusedVariables false
set_option linter.unusedSectionVars false
set_option linter.deprecated false
namespace Go.Proofs
open Go Go.Am Go.RowKit Go.Sy Go.Lib
structure CKey where
  name : Bs
  domain : Bs
  path : Bs
deriving DecidableEq, Inhabited
structure CCookie where
  value : Bs
  hostOnly : Bool
  secure : Bool
  httpOnly : Bool
  persistent : Bool
  expiry : Int
  creation : Int
  access : Int
deriving DecidableEq, Inhabited
structure CItem where
  key : CKey
  cookie : CCookie
deriving DecidableEq, Inhabited
structure CConfig where
  devices : Int
  domain : Int
  total : Int
  rules : List Bs
def CKey.enc (x : CKey) : List SV := [.str x.name, .str x.domain, .str x.path]
def CCookie.enc (x : CCookie) : List SV := [.str x.value, .bool x.hostOnly, .bool x.secure, .bool x.httpOnly, .bool x.persistent, .int .i64 x.expiry, .int .i64 x.creation, .int .i64 x.access]
def CItem.enc (x : CItem) : List SV := [.str x.key.name, .str x.key.domain, .str x.key.path, .str x.cookie.value, .bool x.cookie.hostOnly, .bool x.cookie.secure, .bool x.cookie.httpOnly, .bool x.cookie.persistent, .int .i64 x.cookie.expiry, .int .i64 x.cookie.creation, .int .i64 x.cookie.access]
def CConfig.enc (x : CConfig) : List SV := [.int .i64 x.devices, .int .i64 x.domain, .int .i64 x.total, .lst Bs x.rules encTx]

abbrev lt (a b : Bs) : Bool := Op.bytesLess a b
theorem lt_irrefl : ∀ a, lt a a = false
  | [] => rfl
  | a :: l => by simp [lt, Op.bytesLess]; exact lt_irrefl l
theorem lt_trans : ∀ a b c, lt a b = true → lt b c = true → lt a c = true := by
  intro a
  induction a with
  | nil => intro b c h1 h2; cases c with
    | nil => cases b <;> simp [lt, Op.bytesLess] at h1 h2
    | cons => rfl
  | cons x a ih =>
    intro b c h1 h2
    cases b with
    | nil => simp [lt, Op.bytesLess] at h1
    | cons y b => cases c with
      | nil => simp [lt, Op.bytesLess] at h2
      | cons z c =>
        simp only [lt, Op.bytesLess, Bool.or_eq_true, decide_eq_true_eq, Bool.and_eq_true, beq_iff_eq] at *
        rcases h1 with h1 | ⟨rfl, h1⟩ <;> rcases h2 with h2 | ⟨rfl, h2⟩
        · exact .inl (UInt8.lt_trans h1 h2)
        · exact .inl h1
        · exact .inl h2
        · exact .inr ⟨rfl, ih b c h1 h2⟩
theorem lt_tri : ∀ a b, lt a b = true ∨ a = b ∨ lt b a = true := by
  intro a
  induction a with
  | nil => intro b; cases b <;> simp [lt, Op.bytesLess]
  | cons x a ih =>
    intro b
    cases b with
    | nil => simp [lt, Op.bytesLess]
    | cons y b =>
      simp only [lt, Op.bytesLess, Bool.or_eq_true, decide_eq_true_eq, Bool.and_eq_true, beq_iff_eq, List.cons.injEq]
      rcases Nat.lt_trichotomy x.toNat y.toNat with h | h | h
      · exact .inl (.inl (UInt8.lt_iff_toNat_lt.2 h))
      · have h : x = y := UInt8.toNat_inj.1 h
        subst h
        rcases ih b with h | h | h
        · exact .inl (.inr ⟨rfl, h⟩)
        · exact .inr (.inl ⟨rfl, h⟩)
        · exact .inr (.inr (.inr ⟨rfl, h⟩))
      · exact .inr (.inr (.inl (UInt8.lt_iff_toNat_lt.2 h)))
def cmpS (a b : Bs) : Int := if lt a b then -1 else if a = b then 0 else 1
theorem compareBytes_eq : ∀ (a b : Bs), compareBytes a b = cmpS a b := by
  intro a
  induction a with
  | nil => intro b; cases b <;> simp [compareBytes, cmpS, lt, Op.bytesLess]
  | cons x a ih =>
    intro b
    cases b with
    | nil => simp [compareBytes, cmpS, lt, Op.bytesLess]
    | cons y b =>
      simp only [compareBytes, ih b, cmpS, lt, Op.bytesLess, Bool.or_eq_true, decide_eq_true_eq, Bool.and_eq_true, beq_iff_eq, List.cons.injEq]
      by_cases h1 : x < y
      · simp [h1]
      · by_cases h2 : y < x
        · have : x ≠ y := by rintro rfl; exact h1 h2
          simp [h1, h2, this]
        · have : x = y := UInt8.toNat_inj.1 (by have := UInt8.not_lt.1 h1; have := UInt8.not_lt.1 h2; simp [UInt8.le_iff_toNat_le] at *; omega)
          subst this
          simp
theorem cmp_bytes (a b : Bs) : Extern.BytealgCompare.cmp ⟨a.toArray⟩ ⟨b.toArray⟩ = cmpS a b := by
  rw [cmp_eq, compareBytes_eq]
theorem cmpS_zero (a b : Bs) : cmpS a b = 0 ↔ a = b := by
  unfold cmpS
  by_cases h : a = b
  · subst h; simp [lt_irrefl]
  · by_cases h1 : lt a b = true <;> simp [h, h1]
theorem cmpS_neg (a b : Bs) : cmpS a b < 0 ↔ lt a b = true := by
  unfold cmpS
  by_cases h1 : lt a b = true
  · simp [h1]
  · by_cases h : a = b <;> simp [h, h1] <;> simp_all [lt_irrefl]
def cmpI (a b : Int) : Int := if a < b then -1 else if b < a then 1 else 0
theorem cmpI_zero (a b : Int) : cmpI a b = 0 ↔ a = b := by
  unfold cmpI
  by_cases h : a < b
  · rw [if_pos h]; omega
  · rw [if_neg h]
    by_cases h2 : b < a
    · rw [if_pos h2]; omega
    · rw [if_neg h2]; omega
theorem cmpI_neg (a b : Int) : cmpI a b < 0 ↔ a < b := by
  unfold cmpI
  by_cases h : a < b
  · rw [if_pos h]; omega
  · rw [if_neg h]
    by_cases h2 : b < a
    · rw [if_pos h2]; omega
    · rw [if_neg h2]; omega
def keyCmp (a b : CKey) : Int := let n := cmpS a.name b.name; if n ≠ 0 then n else let d := cmpS a.domain b.domain; if d ≠ 0 then d else cmpS a.path b.path
def keyLess (a b : CKey) : Bool := decide (keyCmp a b < 0)
theorem keyLess_eq (a b : CKey) : keyLess a b = if a.name ≠ b.name then lt a.name b.name else if a.domain ≠ b.domain then lt a.domain b.domain else lt a.path b.path := by
  rw [Bool.eq_iff_iff]
  unfold keyLess keyCmp
  by_cases h1 : a.name = b.name
  · have e1 := (cmpS_zero a.name b.name).2 h1
    by_cases h2 : a.domain = b.domain
    · have e2 := (cmpS_zero a.domain b.domain).2 h2
      have := cmpS_neg a.path b.path
      simp_all
    · have e2 := fun h => h2 ((cmpS_zero a.domain b.domain).1 h)
      have := cmpS_neg a.domain b.domain
      simp_all
  · have e1 := fun h => h1 ((cmpS_zero a.name b.name).1 h)
    have := cmpS_neg a.name b.name
    simp_all
theorem keyLess_irrefl (a : CKey) : keyLess a a = false := by simp [keyLess_eq, lt_irrefl]
theorem keyLess_trans (a b c : CKey) (h1 : keyLess a b = true) (h2 : keyLess b c = true) : keyLess a c = true := by
  rw [keyLess_eq] at *
  by_cases n1 : a.name = b.name
  · by_cases n2 : b.name = c.name
    · have n3 : a.name = c.name := n1.trans n2
      simp only [n1, n2, n3, ne_eq, not_true_eq_false, if_false] at h1 h2 ⊢
      by_cases d1 : a.domain = b.domain
      · by_cases d2 : b.domain = c.domain
        · have d3 : a.domain = c.domain := d1.trans d2
          simp only [d1, d2, d3, ne_eq, not_true_eq_false, if_false] at h1 h2 ⊢
          exact lt_trans _ _ _ h1 h2
        · simp only [d1, d2, ne_eq, not_true_eq_false, not_false_eq_true, if_false, if_true] at h1 h2 ⊢
          exact h2
      · simp only [d1, ne_eq, not_false_eq_true, if_true] at h1
        by_cases d2 : b.domain = c.domain
        · rw [← d2]; simp only [d1, ne_eq, not_false_eq_true, if_true]; exact h1
        · simp only [d2, ne_eq, not_false_eq_true, if_true] at h2
          have h3 := lt_trans _ _ _ h1 h2
          have d3 : a.domain ≠ c.domain := fun e => by rw [e, lt_irrefl] at h3; cases h3
          simp only [d3, ne_eq, not_false_eq_true, if_true]; exact h3
    · simp only [n1, n2, ne_eq, not_false_eq_true, if_true] at h2 ⊢
      exact h2
  · simp only [n1, ne_eq, not_false_eq_true, if_true] at h1
    by_cases n2 : b.name = c.name
    · rw [← n2]; simp only [n1, ne_eq, not_false_eq_true, if_true]; exact h1
    · simp only [n2, ne_eq, not_false_eq_true, if_true] at h2
      have h3 := lt_trans _ _ _ h1 h2
      have n3 : a.name ≠ c.name := fun e => by rw [e, lt_irrefl] at h3; cases h3
      simp only [n3, ne_eq, not_false_eq_true, if_true]; exact h3
theorem keyLess_tri (a b : CKey) : keyLess a b = true ∨ a = b ∨ keyLess b a = true := by
  simp only [keyLess_eq]
  by_cases h1 : a.name = b.name
  · by_cases h2 : a.domain = b.domain
    · simp only [h1, h2, ne_eq, not_true_eq_false, if_false]
      rcases lt_tri a.path b.path with h | h | h
      · exact .inl h
      · exact .inr (.inl (by cases a; cases b; simp_all))
      · exact .inr (.inr h)
    · have h2' := Ne.symm h2
      simp only [h1, h2, h2', ne_eq, not_true_eq_false, not_false_eq_true, if_false, if_true]
      rcases lt_tri a.domain b.domain with h | h | h
      · exact .inl h
      · exact absurd h h2
      · exact .inr (.inr h)
  · have h1' := Ne.symm h1
    simp only [h1, h1', ne_eq, not_false_eq_true, if_true]
    rcases lt_tri a.name b.name with h | h | h
    · exact .inl h
    · exact absurd h h1
    · exact .inr (.inr h)
theorem keyLess_asymm (a b : CKey) (h : keyLess a b = true) : keyLess b a = false := by
  cases hb : keyLess b a
  · rfl
  · have := keyLess_trans a b a h hb
    rw [keyLess_irrefl] at this
    cases this
end Go.Proofs

set_option maxRecDepth 100000
namespace Go.Proofs
open Go Go.Am Go.RowKit Go.Sy
variable [Inhabited DrP]
theorem Tryz.fnA26 : Tryz.tab.fns.get F.law26_awake = some Tryz.f35 := by kernel_rfl
theorem Tryz.awakeRun26 : allTrue (run Tryz.tab 200000 { fr := AFrame.enter Tryz.f35 F.law26_awake (Tryz.f35.body.getD .skip) [] .normal, cs := [], h := emptyH }) = true := by kernel_rfl
theorem Tryz.fnCmp : Tryz.tab.fns.get F.internal_bytealg_CompareString = some Tryz.f208 := by kernel_rfl
theorem Tryz.cmpRun (a b : List UInt8) : run Tryz.tab 200 { fr := AFrame.enter Tryz.f208 F.internal_bytealg_CompareString (Tryz.f208.body.getD .skip) [.str a, .str b] .normal, cs := [], h := emptyH } = .ok [(.int .i64 (Extern.BytealgCompare.cmp ⟨a.toArray⟩ ⟨b.toArray⟩), emptyH)] := by kernel_rfl
def cAwake : Con := { Y := Unit, pre := fun _ => True, args := fun _ => [], res := fun _ => .bool true }
theorem awake_ok {f : FuncId} {fn0 : Func} (hfn0 : Tryz.tab.fns.get f = some fn0) (hrun : allTrue (run Tryz.tab 200000 { fr := AFrame.enter fn0 f (fn0.body.getD .skip) [] .normal, cs := [], h := emptyH }) = true) : Go.Sy.ConOK Tryz.prog Tryz.tab f cAwake := by
  refine ConOK.shut Tryz.prOk fun fn body hfn hb y _ avs Fz hav => ?_
  rw [hfn0] at hfn
  cases hfn
  have hl : avs = [] := by
    have := hav.1
    cases avs with
    | nil => rfl
    | cons => simp [cAwake] at this
  subst hl
  refine ⟨fun _ _ => rfl, fun v _ => v = .bool true, ?_, ?_⟩
  · obtain ⟨outs, ho, ht⟩ := allTrue_ok hrun
    rw [hb] at ho
    exact (AGo.run Tryz.prOk ho).mono fun v h' hm => ht v h' hm
  · rintro v h' rfl
    exact ⟨fun _ _ => rfl, .bool true⟩
theorem okAwake26 : Go.Sy.ConOK Tryz.prog Tryz.tab F.law26_awake cAwake := awake_ok Tryz.fnA26 Tryz.awakeRun26
noncomputable def cCmpS : Con := { Y := Bs × Bs, pre := fun _ => True, args := fun y => [.str y.1, .str y.2], res := fun y => .int .i64 (cmpS y.1 y.2) }
theorem okCmpS : Go.Sy.ConOK Tryz.prog Tryz.tab F.internal_bytealg_CompareString cCmpS := by
  refine ConOK.shut Tryz.prOk fun fn body hfn hb y _ avs Fz hav => ?_
  rw [Tryz.fnCmp] at hfn
  cases hfn
  obtain ⟨a, b⟩ := y
  have hl : avs = [.str a, .str b] := by
    obtain ⟨h1, h2⟩ := hav
    cases avs with
    | nil => simp [cCmpS] at h1
    | cons u avs => cases avs with
      | nil => simp [cCmpS] at h1
      | cons w avs => cases avs with
        | cons => simp [cCmpS] at h1
        | nil =>
          have e1 := h2 0 _ u rfl rfl
          have e2 := h2 1 _ w rfl rfl
          simp only at e1 e2
          cases e1
          cases e2
          rfl
  subst hl
  refine ⟨fun _ _ => rfl, fun v _ => v = .int .i64 (cmpS a b), ?_, ?_⟩
  · have ho := Tryz.cmpRun a b
    rw [hb] at ho
    refine (AGo.run Tryz.prOk ho).mono fun v h' hm => ?_
    simp only [List.mem_cons, List.not_mem_nil, or_false, Prod.mk.injEq] at hm
    rw [hm.1, cmp_bytes]
  · rintro v h' rfl
    exact ⟨fun _ _ => rfl, .int _ _⟩
end Go.Proofs

set_option maxRecDepth 100000
namespace Go.Proofs
open Go Go.Am Go.RowKit Go.Sy
variable [Inhabited DrP]
def overC (x : CCookie) (now : Int) : Bool := x.persistent && decide (x.expiry ≤ now)
def staleK (a b : CItem) : Int :=
  let n := if cmpI a.cookie.access b.cookie.access ≠ 0 then cmpI a.cookie.access b.cookie.access else cmpI a.cookie.creation b.cookie.creation
  if n ≠ 0 ∨ a.key = b.key then n else if keyLess a.key b.key then -1 else 1
def stalerB (a b : CItem) : Bool := decide (staleK a b < 0)
def risingL : List CItem → Bool
  | x :: y :: l => keyLess x.key y.key && risingL (y :: l)
  | _ => true
def withoutL (l : List CItem) (k : CKey) : List CItem := l.filter fun x => decide (x.key ≠ k)
def domainL (l : List CItem) (d : Bs) : List CItem := l.filter fun x => decide (x.key.domain = d)
def zeroKey : CKey := ⟨[], [], []⟩
def zeroItem : CItem := ⟨zeroKey, ⟨[], false, false, false, false, 0, 0, 0⟩⟩
def findL (l : List CItem) (k : CKey) : CItem × Bool := match l.find? (fun x => decide (x.key = k)) with | some x => (x, true) | none => (zeroItem, false)
def posD (l : List Bs) (d : Bs) : Nat := (l.takeWhile fun x => lt x d).length
def insD (l : List Bs) (d : Bs) : List Bs := if l[posD l d]? = some d then l else l.take (posD l d) ++ d :: l.drop (posD l d)
def domainsL (l : List CItem) : List Bs := l.foldl (fun a x => insD a x.key.domain) []
def putL (l : List CItem) (x : CItem) : List CItem := l.filter (fun y => keyLess y.key x.key) ++ x :: l.filter (fun y => keyLess x.key y.key)
def byKeysL (l : List CItem) : List CItem := l.foldl putL []
def bestL (l : List CItem) (d : Bs) (all : Bool) : Option CItem := l.foldl (fun b x => if all || decide (x.key.domain = d) then (match b with | none => some x | some y => if stalerB x y then some x else some y) else b) none
def stalestL (l : List CItem) (d : Bs) (all : Bool) : CKey := match bestL l d all with | some x => x.key | none => zeroKey
def checkC (c : CConfig) : Int := if c.devices < 1 ∨ c.devices > 64 ∨ c.domain < 1 ∨ c.domain > 2048 ∨ c.total < 1 ∨ c.total > 2048 then 4 else checkR c.rules
noncomputable def vwI : TypeId → Option View := fun t => bif Nat.beq t Ty.string then some ⟨Bs, encTx⟩ else bif Nat.beq t Ty.Item then some ⟨CItem, CItem.enc⟩ else none
noncomputable def cfgI (con : FuncId → Option Con) (ann : FuncId → Nat → Option Ann) : Cfg := { tab := sTab, view := vwI, con, ann }
def items (l : List CItem) : SV := .lst CItem l CItem.enc
def itemsO (l : List CItem) : SO := .arr CItem l CItem.enc Ty.Item
def annMore (f r : Nat) (A : Ann) (a : FuncId → Nat → Option Ann) : FuncId → Nat → Option Ann := fun g s => bif Nat.beq g f && Nat.beq s r then some A else a g s

def cOver : Con := { Y := CCookie × Int, pre := fun _ => True, args := fun y => [.agg y.1.enc, i64 y.2], res := fun y => .bool (overC y.1 y.2) }
def cCmpI : Con := { Y := Int × Int, pre := fun _ => True, args := fun y => [i64 y.1, i64 y.2], res := fun y => i64 (cmpI y.1 y.2) }
def cKeys : Con := { Y := CKey × CKey, pre := fun _ => True, args := fun y => [.agg y.1.enc, .agg y.2.enc], res := fun y => i64 (keyCmp y.1 y.2) }
def cLess : Con := { Y := CKey × CKey, pre := fun _ => True, args := fun y => [.agg y.1.enc, .agg y.2.enc], res := fun y => .bool (keyLess y.1 y.2) }
def cStale : Con := { Y := CItem × CItem, pre := fun _ => True, args := fun y => [.agg y.1.enc, .agg y.2.enc], res := fun y => i64 (staleK y.1 y.2) }
def cStaler : Con := { Y := CItem × CItem, pre := fun _ => True, args := fun y => [.agg y.1.enc, .agg y.2.enc], res := fun y => .bool (stalerB y.1 y.2) }
def few (l : List CItem) : Prop := l.length ≤ 10000
def cRising : Con := { Y := List CItem, pre := few, args := fun y => [items y], res := fun y => .bool (risingL y) }
def aRising (y : List CItem) : Ann := { α := Nat, ok := fun i => 1 ≤ i ∧ i ≤ y.length + 1 ∧ ∀ j (h : j + 1 < y.length), j + 1 < i → keyLess (y[j]'(by omega)).key y[j + 1].key = true, μ := fun i => y.length + 1 - i, keep := [], slots := fun i => [(0, items y), (3, i64 i)], objs := fun _ => [] }
def cWithout : Con := { Y := List CItem × CKey, pre := fun y => few y.1, args := fun y => [items y.1, .agg y.2.enc], res := fun y => items (withoutL y.1 y.2) }
def cDomain : Con := { Y := List CItem × Bs, pre := fun y => few y.1, args := fun y => [items y.1, .str y.2], res := fun y => items (domainL y.1 y.2) }
def aKeep (l : List CItem) (p : CItem → Bool) : Ann := { α := Nat, ok := fun i => i ≤ l.length, μ := fun i => l.length - i, keep := [1], slots := fun i => [(8, items l), (9, i64 (Int.ofNat l.length)), (10, i64 i), (5, .own 1)], objs := fun i => [(1, itemsO ((l.take i).filter p))] }
def aWithoutR (y : List CItem × CKey) : Ann := { α := Nat, ok := fun i => i ≤ y.1.length, μ := fun i => y.1.length - i, keep := [3], slots := fun i => [(0, items y.1), (5, .own 1), (6, i64 i)], objs := fun i => [(1, itemsO ((y.1.take i).filter fun x => decide (x.key ≠ y.2)))] }
def aDomainR (y : List CItem × Bs) : Ann := { α := Nat, ok := fun i => i ≤ y.1.length, μ := fun i => y.1.length - i, keep := [], slots := fun i => [(0, items y.1), (1, .str y.2), (5, .own 0), (6, i64 i)], objs := fun i => [(0, itemsO ((y.1.take i).filter fun x => decide (x.key.domain = y.2)))] }
def cFindI : Con := { Y := List CItem × CKey, pre := fun y => few y.1, args := fun y => [items y.1, .agg y.2.enc], res := fun y => .tup [.agg (findL y.1 y.2).1.enc, .bool (findL y.1 y.2).2] }
def aFindI (y : List CItem × CKey) : Ann := { α := Nat, ok := fun i => i ≤ y.1.length ∧ ∀ j (h : j < y.1.length), j < i → y.1[j].key ≠ y.2, μ := fun i => y.1.length - i, keep := [3, 4], slots := fun i => [(0, items y.1), (6, i64 i)], objs := fun _ => [] }
def cContains : Con := { Y := List CItem × CItem, pre := fun y => few y.1, args := fun y => [items y.1, .agg y.2.enc], res := fun y => .bool (decide (y.2 ∈ y.1)) }
def aIndex (y : List CItem × CItem) : Ann := { α := Nat, ok := fun i => i ≤ y.1.length ∧ ∀ j (h : j < y.1.length), j < i → y.1[j] ≠ y.2, μ := fun i => y.1.length - i, keep := [3], slots := fun i => [(0, items y.1), (7, i64 (Int.ofNat y.1.length)), (8, i64 i)], objs := fun _ => [] }
def cSameI : Con := { Y := List CItem × List CItem, pre := fun y => few y.1 ∧ few y.2, args := fun y => [items y.1, items y.2], res := fun y => .bool (decide (y.1 = y.2)) }
def aSameI (y : List CItem × List CItem) : Ann := { α := Nat, ok := fun i => i ≤ y.1.length ∧ y.1.length = y.2.length ∧ y.1.take i = y.2.take i, μ := fun i => y.1.length - i, keep := [], slots := fun i => [(0, items y.1), (1, items y.2), (5, i64 i)], objs := fun _ => [] }
def cSameT : Con := { Y := List Bs × List Bs, pre := fun y => y.1.length ≤ 10000 ∧ y.2.length ≤ 10000, args := fun y => [strs y.1, strs y.2], res := fun y => .bool (decide (y.1 = y.2)) }
def aSameT (y : List Bs × List Bs) : Ann := { α := Nat, ok := fun i => i ≤ y.1.length ∧ y.1.length = y.2.length ∧ y.1.take i = y.2.take i, μ := fun i => y.1.length - i, keep := [], slots := fun i => [(0, strs y.1), (1, strs y.2), (5, i64 i)], objs := fun _ => [] }
def cPutR : Con := { Y := List CItem × CItem, pre := fun y => few y.1, args := fun y => [items y.1, .agg y.2.enc], res := fun y => items (putL y.1 y.2) }
def aPutR (y : List CItem × CItem) : Ann := { α := Nat, ok := fun i => i ≤ y.1.length, μ := fun i => y.1.length - i, keep := [3], slots := fun i => [(0, items y.1), (5, .own 1), (6, .own 2), (7, i64 i)], objs := fun i => [(1, itemsO ((y.1.take i).filter fun x => keyLess x.key y.2.key)), (2, itemsO ((y.1.take i).filter fun x => keyLess y.2.key x.key))] }
def cByKeys : Con := { Y := List CItem, pre := fun y => y.length ≤ 1000, args := fun y => [items y], res := fun y => items (byKeysL y) }
def aByKeys (y : List CItem) : Ann := { α := Nat, ok := fun i => i ≤ y.length, μ := fun i => y.length - i, keep := [], slots := fun i => [(0, items y), (3, items (byKeysL (y.take i))), (4, i64 i)], objs := fun _ => [], frz := [3] }
def cDomains : Con := { Y := List CItem, pre := few, args := fun y => [items y], res := fun y => strs (domainsL y) }
def aDomains (y : List CItem) : Ann := { α := Nat, ok := fun i => i ≤ y.length, μ := fun i => y.length - i, keep := [], slots := fun i => [(0, items y), (3, strs (domainsL (y.take i))), (4, i64 i)], objs := fun _ => [], frz := [3] }
def aDomains2 (y : List CItem) : Ann := { α := Nat × Nat, ok := fun x => ∃ h : x.1 < y.length, x.2 ≤ posD (domainsL (y.take x.1)) y[x.1].key.domain, μ := fun x => (domainsL (y.take x.1)).length - x.2, keep := [], slots := fun x => [(0, items y), (3, strs (domainsL (y.take x.1))), (4, i64 x.1), (5, .str ((y[x.1]?).getD zeroItem).key.domain), (6, i64 x.2)], objs := fun _ => [], link := some fun a b => b.1 = a.1 }
def cStalest : Con := { Y := List CItem × Bs × Bool, pre := fun y => few y.1, args := fun y => [items y.1, .str y.2.1, .bool y.2.2], res := fun y => .agg (stalestL y.1 y.2.1 y.2.2).enc }
def aStalest (y : List CItem × Bs × Bool) : Ann := { α := Nat × Int, ok := fun x => x.1 ≤ y.1.length ∧ ((x.2 = -1 ∧ bestL (y.1.take x.1) y.2.1 y.2.2 = none) ∨ ∃ b : Nat, x.2 = Int.ofNat b ∧ ∃ h : b < y.1.length, bestL (y.1.take x.1) y.2.1 y.2.2 = some y.1[b]), μ := fun x => y.1.length - x.1, keep := [6], slots := fun x => [(0, items y.1), (1, .str y.2.1), (2, .bool y.2.2), (7, i64 x.2), (8, i64 x.1)], objs := fun _ => [] }
def okRules (c : CConfig) : Prop := c.rules.length ≤ 100000 ∧ ∀ s ∈ c.rules, s.length ≤ 100000
def cCheckC : Con := { Y := CConfig, pre := okRules, args := fun y => [.agg y.enc], res := fun y => i64 (checkC y) }

noncomputable def conI1 (f : FuncId) : Option Con := bif Nat.beq f F.internal_bytealg_CompareString then some cCmpS else bif Nat.beq f F.law26_awake then some cAwake else conH7 f
noncomputable def conI2 (f : FuncId) : Option Con := bif Nat.beq f F.cookie_Over then some cOver else bif Nat.beq f F.ref14_Over then some cOver else bif Nat.beq f F.cmp_Compare_int then some cCmpI else bif Nat.beq f F.strings_Compare then some cCmpS else conI1 f
noncomputable def conI3 (f : FuncId) : Option Con := bif Nat.beq f F.match_keys then some cKeys else conI2 f
noncomputable def conI4 (f : FuncId) : Option Con := bif Nat.beq f F.match_Less then some cLess else bif Nat.beq f F.ref15_Less then some cLess else conI3 f
noncomputable def conI5 (f : FuncId) : Option Con := bif Nat.beq f F.evict_stale then some cStale else bif Nat.beq f F.ref26_Staler then some cStaler else conI4 f
noncomputable def conI6 (f : FuncId) : Option Con := bif Nat.beq f F.evict_Staler then some cStaler else bif Nat.beq f F.evict_rising then some cRising else bif Nat.beq f F.ref26_Rising then some cRising else bif Nat.beq f F.view_Without then some cWithout else bif Nat.beq f F.ref25_Without then some cWithout else bif Nat.beq f F.view_Domain then some cDomain else bif Nat.beq f F.ref25_Domain then some cDomain else bif Nat.beq f F.ref25_Find then some cFindI else bif Nat.beq f F.slices_Contains_Item then some cContains else bif Nat.beq f F.ref15_Same then some cSameI else bif Nat.beq f F.ref25_SameTexts then some cSameT else bif Nat.beq f F.ref25_Put then some cPutR else bif Nat.beq f F.ref26_stalest then some cStalest else bif Nat.beq f F.evict_Check then some cCheckC else bif Nat.beq f F.ref26_Check then some cCheckC else conI5 f
noncomputable def conI7 (f : FuncId) : Option Con := bif Nat.beq f F.ref25_ByKeys then some cByKeys else bif Nat.beq f F.ref25_Domains then some cDomains else conI6 f
end Go.Proofs

set_option maxRecDepth 100000
set_option maxHeartbeats 4000000
namespace Go.Proofs
open Go Go.Am Go.RowKit Go.Sy
variable [Inhabited DrP]
theorem vcOver : (askY (fun (y : Con.Y cOver) => cfgI con0 (noAnn y)) 400 F.cookie_Over) = (∀ (y : CCookie × Int),
 True →
 br y.1.persistent (leI y.1.expiry y.2 = overC y.1 y.2 ∧ True)
 (Bool.false = overC y.1 y.2 ∧ True)) := by kernel_rfl
theorem vcOverR : (askY (fun (y : Con.Y cOver) => cfgI con0 (noAnn y)) 400 F.ref14_Over) = (∀ (y : CCookie × Int),
 True →
 br y.1.persistent (leI y.1.expiry y.2 = overC y.1 y.2 ∧ True)
 (Bool.false = overC y.1 y.2 ∧ True)) := by kernel_rfl
theorem vcCmpI : (askY (fun (y : Con.Y cCmpI) => cfgI con0 (noAnn y)) 400 F.cmp_Compare_int) = (∀ (y : Int × Int),
 True →
 br (!y.1 == y.1)
 (br (!y.2 == y.2) (eqI 0 (cmpI y.1 y.2) ∧ True) (eqI (-1) (cmpI y.1 y.2) ∧ True))
 (br (!y.2 == y.2) (eqI 1 (cmpI y.1 y.2) ∧ True)
 (br (ltI y.1 y.2) (eqI (-1) (cmpI y.1 y.2) ∧ True)
 (br (ltI y.2 y.1) (eqI 1 (cmpI y.1 y.2) ∧ True)
 (eqI 0 (cmpI y.1 y.2) ∧ True))))) := by kernel_rfl
theorem vcCmpS : (askY (fun (y : Con.Y cCmpS) => cfgI conI1 (noAnn y)) 400 F.strings_Compare) = (∀ (y : Bs × Bs),
 True →
 ∃ (y_1 : Bs × Bs),
 y.1 = y_1.1 ∧ y.2 = y_1.2 ∧ True ∧ eqI (cmpS y_1.1 y_1.2) (cmpS y.1 y.2) ∧ True) := by kernel_rfl
theorem vcKeys : (askY (fun (y : Con.Y cKeys) => cfgI conI2 (noAnn y)) 600 F.match_keys) = (∀ (y : CKey × CKey),
 True →
 ∃ (y_1 : Bs × Bs),
 y.1.name = y_1.1 ∧
 y.2.name = y_1.2 ∧
 True ∧
 ∃ (y_2 : Bs × Bs),
 y.1.domain = y_2.1 ∧
 y.2.domain = y_2.2 ∧
 True ∧
 ∃ (y_3 : Bs × Bs),
 y.1.path = y_3.1 ∧
 y.2.path = y_3.2 ∧
 True ∧
 br (!cmpS y_1.1 y_1.2 == 0)
 (eqI (cmpS y_1.1 y_1.2) (keyCmp y.1 y.2) ∧ True)
 (br (!cmpS y_2.1 y_2.2 == 0)
 (eqI (cmpS y_2.1 y_2.2) (keyCmp y.1 y.2) ∧ True)
 (br (!cmpS y_3.1 y_3.2 == 0)
 (eqI (cmpS y_3.1 y_3.2) (keyCmp y.1 y.2) ∧ True)
 (eqI 0 (keyCmp y.1 y.2) ∧ True)))) := by kernel_rfl
theorem vcLess : (askY (fun (y : Con.Y cLess) => cfgI conI3 (noAnn y)) 400 F.match_Less) = (∀ (y : CKey × CKey),
 True →
 ∃ (y_1 : CKey × CKey),
 y.1.name = y_1.1.name ∧
 y.1.domain = y_1.1.domain ∧
 y.1.path = y_1.1.path ∧
 y.2.name = y_1.2.name ∧
 y.2.domain = y_1.2.domain ∧
 y.2.path = y_1.2.path ∧
 True ∧ ltI (keyCmp y_1.1 y_1.2) 0 = keyLess y.1 y.2 ∧ True) := by kernel_rfl
theorem vcLessR : (askY (fun (y : Con.Y cLess) => cfgI con0 (noAnn y)) 400 F.ref15_Less) = (∀ (y : CKey × CKey),
 True →
 br (!y.1.name == y.2.name)
 (Go.Op.bytesLess y.1.name y.2.name = keyLess y.1 y.2 ∧ True)
 (br (!y.1.domain == y.2.domain)
 (Go.Op.bytesLess y.1.domain y.2.domain = keyLess y.1 y.2 ∧ True)
 (Go.Op.bytesLess y.1.path y.2.path = keyLess y.1 y.2 ∧ True))) := by kernel_rfl
theorem vcStale : (askY (fun (y : Con.Y cStale) => cfgI conI4 (noAnn y)) 600 F.evict_stale) = (∀ (y : CItem × CItem),
 True →
 ∃ (y_1 : Int × Int),
 eqI y.1.cookie.access y_1.1 ∧
 eqI y.2.cookie.access y_1.2 ∧
 True ∧
 ∃ (y_2 : Int × Int),
 eqI y.1.cookie.creation y_2.1 ∧
 eqI y.2.cookie.creation y_2.2 ∧
 True ∧
 br (!cmpI y_1.1 y_1.2 == 0)
 (br (!cmpI y_1.1 y_1.2 == 0)
 (eqI (cmpI y_1.1 y_1.2) (staleK y.1 y.2) ∧ True)
 (br
 (y.1.key.name == y.2.key.name &&
 (y.1.key.domain == y.2.key.domain &&
 (y.1.key.path == y.2.key.path && Bool.true)))
 (eqI (cmpI y_1.1 y_1.2) (staleK y.1 y.2) ∧ True)
 (∃ (y_3 : CKey × CKey),
 y.1.key.name = y_3.1.name ∧
 y.1.key.domain = y_3.1.domain ∧
 y.1.key.path = y_3.1.path ∧
 y.2.key.name = y_3.2.name ∧
 y.2.key.domain = y_3.2.domain ∧
 y.2.key.path = y_3.2.path ∧
 True ∧
 br (keyLess y_3.1 y_3.2) (eqI (-1) (staleK y.1 y.2) ∧ True)
 (eqI 1 (staleK y.1 y.2) ∧ True))))
 (br (!cmpI y_2.1 y_2.2 == 0)
 (br (!cmpI y_2.1 y_2.2 == 0)
 (eqI (cmpI y_2.1 y_2.2) (staleK y.1 y.2) ∧ True)
 (br
 (y.1.key.name == y.2.key.name &&
 (y.1.key.domain == y.2.key.domain &&
 (y.1.key.path == y.2.key.path && Bool.true)))
 (eqI (cmpI y_2.1 y_2.2) (staleK y.1 y.2) ∧ True)
 (∃ (y_3 : CKey × CKey),
 y.1.key.name = y_3.1.name ∧
 y.1.key.domain = y_3.1.domain ∧
 y.1.key.path = y_3.1.path ∧
 y.2.key.name = y_3.2.name ∧
 y.2.key.domain = y_3.2.domain ∧
 y.2.key.path = y_3.2.path ∧
 True ∧
 br (keyLess y_3.1 y_3.2) (eqI (-1) (staleK y.1 y.2) ∧ True)
 (eqI 1 (staleK y.1 y.2) ∧ True))))
 (br
 (y.1.key.name == y.2.key.name &&
 (y.1.key.domain == y.2.key.domain &&
 (y.1.key.path == y.2.key.path && Bool.true)))
 (eqI 0 (staleK y.1 y.2) ∧ True)
 (∃ (y_3 : CKey × CKey),
 y.1.key.name = y_3.1.name ∧
 y.1.key.domain = y_3.1.domain ∧
 y.1.key.path = y_3.1.path ∧
 y.2.key.name = y_3.2.name ∧
 y.2.key.domain = y_3.2.domain ∧
 y.2.key.path = y_3.2.path ∧
 True ∧
 br (keyLess y_3.1 y_3.2) (eqI (-1) (staleK y.1 y.2) ∧ True)
 (eqI 1 (staleK y.1 y.2) ∧ True))))) := by kernel_rfl
theorem vcStalerR : (askY (fun (y : Con.Y cStaler) => cfgI conI4 (noAnn y)) 400 F.ref26_Staler) = (∀ (y : CItem × CItem),
 True →
 br (!y.1.cookie.access == y.2.cookie.access)
 (ltI y.1.cookie.access y.2.cookie.access =
 stalerB y.1 y.2 ∧
 True)
 (br (!y.1.cookie.creation == y.2.cookie.creation)
 (ltI y.1.cookie.creation y.2.cookie.creation =
 stalerB y.1 y.2 ∧
 True)
 (∃ (y_1 : CKey × CKey),
 y.1.key.name = y_1.1.name ∧
 y.1.key.domain = y_1.1.domain ∧
 y.1.key.path = y_1.1.path ∧
 y.2.key.name = y_1.2.name ∧
 y.2.key.domain = y_1.2.domain ∧
 y.2.key.path = y_1.2.path ∧
 True ∧ keyLess y_1.1 y_1.2 = stalerB y.1 y.2 ∧ True))) := by kernel_rfl
theorem vcStaler : (askY (fun (y : Con.Y cStaler) => cfgI conI5 (noAnn y)) 400 F.evict_Staler) = (∀ (y : CItem × CItem),
 True →
 ∃ (y_1 : CItem × CItem),
 y.1.key.name = y_1.1.key.name ∧
 y.1.key.domain = y_1.1.key.domain ∧
 y.1.key.path = y_1.1.key.path ∧
 y.1.cookie.value = y_1.1.cookie.value ∧
 y.1.cookie.hostOnly = y_1.1.cookie.hostOnly ∧
 y.1.cookie.secure = y_1.1.cookie.secure ∧
 y.1.cookie.httpOnly = y_1.1.cookie.httpOnly ∧
 y.1.cookie.persistent = y_1.1.cookie.persistent ∧
 eqI y.1.cookie.expiry y_1.1.cookie.expiry ∧
 eqI y.1.cookie.creation y_1.1.cookie.creation ∧
 eqI y.1.cookie.access y_1.1.cookie.access ∧
 y.2.key.name = y_1.2.key.name ∧
 y.2.key.domain = y_1.2.key.domain ∧
 y.2.key.path = y_1.2.key.path ∧
 y.2.cookie.value = y_1.2.cookie.value ∧
 y.2.cookie.hostOnly = y_1.2.cookie.hostOnly ∧
 y.2.cookie.secure = y_1.2.cookie.secure ∧
 y.2.cookie.httpOnly = y_1.2.cookie.httpOnly ∧
 y.2.cookie.persistent =
 y_1.2.cookie.persistent ∧
 eqI y.2.cookie.expiry
 y_1.2.cookie.expiry ∧
 eqI y.2.cookie.creation
 y_1.2.cookie.creation ∧
 eqI y.2.cookie.access
 y_1.2.cookie.access ∧
 True ∧ ltI (staleK y_1.1 y_1.2) 0 = stalerB y.1 y.2 ∧ True) := by kernel_rfl
theorem vcRising : (askY (fun (y : Con.Y cRising) => cfgI conI4 (annAt F.evict_rising 2 (aRising y))) 400 F.evict_rising) = (∀ (y : List CItem),
 y.length ≤ 10000 →
 (∃ (x : Nat),
 (1 ≤ x ∧
 x ≤ y.length + 1 ∧ ∀ (j : Nat) (h : j + 1 < y.length), j + 1 < x → keyLess (CItem.key y[j]) (CItem.key y[j + 1]) = Bool.true) ∧
 (SV.lst CItem y CItem.enc = SV.lst CItem y CItem.enc ∧ eqI 1 ↑x ∧ True) ∧ True ∧ True) ∧
 ∀ (x : Nat),
 (1 ≤ x ∧
 x ≤ y.length + 1 ∧ ∀ (j : Nat) (h : j + 1 < y.length), j + 1 < x → keyLess (CItem.key y[j]) (CItem.key y[j + 1]) = Bool.true) →
 br (ltI (↑x) (Int.ofNat y.length))
 (ck (inR Go.IntKind.i64 (↑x - 1))
 (ck (nn (↑x - 1))
 (so y[Int.toNat (↑x - 1)]? fun (val : CItem) =>
 so y[Int.toNat ↑x]? fun (val_1 : CItem) =>
 ∃ (y_1 : CKey × CKey),
 val.key.name = y_1.1.name ∧
 val.key.domain = y_1.1.domain ∧
 val.key.path = y_1.1.path ∧
 val_1.key.name = y_1.2.name ∧
 val_1.key.domain = y_1.2.domain ∧
 val_1.key.path = y_1.2.path ∧
 True ∧
 br (!keyLess y_1.1 y_1.2) (Bool.false = risingL y ∧ True)
 (ck (inR Go.IntKind.i64 (↑x + 1))
 (∃ (y_2 : Nat),
 (1 ≤ y_2 ∧
 y_2 ≤ y.length + 1 ∧
 ∀ (j : Nat) (h : j + 1 < y.length),
 j + 1 < y_2 → keyLess (CItem.key y[j]) (CItem.key y[j + 1]) = Bool.true) ∧
 Ann.μ (aRising y) y_2 < Ann.μ (aRising y) x ∧
 (SV.lst CItem y CItem.enc = SV.lst CItem y CItem.enc ∧
 eqI (↑x + 1) ↑y_2 ∧ True) ∧
 True ∧ True)))))
 (Bool.true = risingL y ∧ True)) := by kernel_rfl
theorem vcRisingR : (askY (fun (y : Con.Y cRising) => cfgI conI4 (annAt F.ref26_Rising 2 (aRising y))) 400 F.ref26_Rising) = (∀ (y : List CItem),
 y.length ≤ 10000 →
 (∃ (x : Nat),
 (1 ≤ x ∧
 x ≤ y.length + 1 ∧ ∀ (j : Nat) (h : j + 1 < y.length), j + 1 < x → keyLess (CItem.key y[j]) (CItem.key y[j + 1]) = Bool.true) ∧
 (SV.lst CItem y CItem.enc = SV.lst CItem y CItem.enc ∧ eqI 1 ↑x ∧ True) ∧ True ∧ True) ∧
 ∀ (x : Nat),
 (1 ≤ x ∧
 x ≤ y.length + 1 ∧ ∀ (j : Nat) (h : j + 1 < y.length), j + 1 < x → keyLess (CItem.key y[j]) (CItem.key y[j + 1]) = Bool.true) →
 br (ltI (↑x) (Int.ofNat y.length))
 (ck (inR Go.IntKind.i64 (↑x - 1))
 (ck (nn (↑x - 1))
 (so y[Int.toNat (↑x - 1)]? fun (val : CItem) =>
 so y[Int.toNat ↑x]? fun (val_1 : CItem) =>
 ∃ (y_1 : CKey × CKey),
 val.key.name = y_1.1.name ∧
 val.key.domain = y_1.1.domain ∧
 val.key.path = y_1.1.path ∧
 val_1.key.name = y_1.2.name ∧
 val_1.key.domain = y_1.2.domain ∧
 val_1.key.path = y_1.2.path ∧
 True ∧
 br (!keyLess y_1.1 y_1.2) (Bool.false = risingL y ∧ True)
 (ck (inR Go.IntKind.i64 (↑x + 1))
 (∃ (y_2 : Nat),
 (1 ≤ y_2 ∧
 y_2 ≤ y.length + 1 ∧
 ∀ (j : Nat) (h : j + 1 < y.length),
 j + 1 < y_2 → keyLess (CItem.key y[j]) (CItem.key y[j + 1]) = Bool.true) ∧
 Ann.μ (aRising y) y_2 < Ann.μ (aRising y) x ∧
 (SV.lst CItem y CItem.enc = SV.lst CItem y CItem.enc ∧
 eqI (↑x + 1) ↑y_2 ∧ True) ∧
 True ∧ True)))))
 (Bool.true = risingL y ∧ True)) := by kernel_rfl
theorem vcWithout : (askY (fun (y : Con.Y cWithout) => cfgI con0 (annAt F.view_keep_Item 3 (aKeep y.1 fun (x : CItem) => Decidable.decide (x.key ≠ y.2)))) 600 F.view_Without) = (∀ (y : List CItem × CKey),
 y.1.length ≤ 10000 →
 (∃ (x : Nat),
 x ≤ y.1.length ∧
 (SV.fn 98 [] [SV.ptr (SH.next (St.h { ts := Fr.of (Con.args cWithout y) 0, h := { next := 0, os := [] }, log := [] })) 0] =
 SV.fn 98 []
 [SV.ptr (SH.next (St.h { ts := Fr.of (Con.args cWithout y) 0, h := { next := 0, os := [] }, log := [] })) 0] ∧
 SV.lst CItem y.1 CItem.enc = SV.lst CItem y.1 CItem.enc ∧
 eqI (Int.ofNat y.1.length) (Int.ofNat y.1.length) ∧ eqI 0 ↑x ∧ True ∧ True) ∧
 ((List.filter (fun (x : CItem) => Decidable.decide (x.key ≠ y.2)) (List.take x y.1) = [] ∧
 ∀ (x : CItem), List.length (CItem.enc x) = 11) ∧
 (y.2.name = y.2.name ∧
 y.2.domain = y.2.domain ∧ y.2.path = y.2.path ∧ True) ∧
 True) ∧
 True) ∧
 ∀ (x : Nat),
 x ≤ y.1.length →
 br (ltI (↑x) (Int.ofNat y.1.length))
 (so y.1[Int.toNat ↑x]? fun (val : CItem) =>
 br
 (!(val.key.name == y.2.name &&
 (val.key.domain == y.2.domain &&
 (val.key.path == y.2.path && Bool.true))))
 (∃ (x_1 : CItem),
 (CItem.enc x_1) =
 (CItem.enc val) ∧
 ck
 (Nat.ble
 ((List.length (List.filter (fun (x : CItem) => Decidable.decide (x.key ≠ y.2)) (List.take x y.1)) +
 List.length [x_1]) *
 96)
 16777216 &&
 Nat.ble
 (List.length (List.filter (fun (x : CItem) => Decidable.decide (x.key ≠ y.2)) (List.take x y.1)) +
 List.length [x_1])
 16777216)
 (ck (inR Go.IntKind.i64 (↑x + 1))
 (∃ (y_1 : Nat),
 y_1 ≤ y.1.length ∧
 Ann.μ (aKeep y.1 fun (x : CItem) => Decidable.decide (x.key ≠ y.2)) y_1 <
 Ann.μ (aKeep y.1 fun (x : CItem) => Decidable.decide (x.key ≠ y.2)) x ∧
 (SV.fn 98 []
 [SV.ptr
 (SH.next (St.h { ts := Fr.of (Con.args cWithout y) 0, h := { next := 0, os := [] }, log := [] })) 0] =
 SV.fn 98 []
 [SV.ptr
 (SH.next (St.h { ts := Fr.of (Con.args cWithout y) 0, h := { next := 0, os := [] }, log := [] })) 0] ∧
 SV.lst CItem y.1 CItem.enc = SV.lst CItem y.1 CItem.enc ∧
 eqI (Int.ofNat y.1.length) (Int.ofNat y.1.length) ∧ eqI (↑x + 1) ↑y_1 ∧ True ∧ True) ∧
 (SV.lst CItem
 (List.filter (fun (x : CItem) => Decidable.decide (x.key ≠ y.2)) (List.take x y.1) ++ [x_1])
 CItem.enc =
 SV.lst CItem
 (List.filter (fun (x : CItem) => Decidable.decide (x.key ≠ y.2)) (List.take y_1 y.1))
 CItem.enc ∧
 (y.2.name = y.2.name ∧
 y.2.domain = y.2.domain ∧
 y.2.path = y.2.path ∧ True) ∧
 True) ∧
 True)))
 (ck (inR Go.IntKind.i64 (↑x + 1))
 (∃ (y_1 : Nat),
 y_1 ≤ y.1.length ∧
 Ann.μ (aKeep y.1 fun (x : CItem) => Decidable.decide (x.key ≠ y.2)) y_1 <
 Ann.μ (aKeep y.1 fun (x : CItem) => Decidable.decide (x.key ≠ y.2)) x ∧
 (SV.fn 98 []
 [SV.ptr (SH.next (St.h { ts := Fr.of (Con.args cWithout y) 0, h := { next := 0, os := [] }, log := [] }))
 0] =
 SV.fn 98 []
 [SV.ptr (SH.next (St.h { ts := Fr.of (Con.args cWithout y) 0, h := { next := 0, os := [] }, log := [] }))
 0] ∧
 SV.lst CItem y.1 CItem.enc = SV.lst CItem y.1 CItem.enc ∧
 eqI (Int.ofNat y.1.length) (Int.ofNat y.1.length) ∧ eqI (↑x + 1) ↑y_1 ∧ True ∧ True) ∧
 (SV.lst CItem
 (List.filter (fun (x : CItem) => Decidable.decide (x.key ≠ y.2)) (List.take x y.1))
 CItem.enc =
 SV.lst CItem
 (List.filter (fun (x : CItem) => Decidable.decide (x.key ≠ y.2)) (List.take y_1 y.1))
 CItem.enc ∧
 (y.2.name = y.2.name ∧
 y.2.domain = y.2.domain ∧
 y.2.path = y.2.path ∧ True) ∧
 True) ∧
 True)))
 (SV.lst CItem (List.filter (fun (x : CItem) => Decidable.decide (x.key ≠ y.2)) (List.take x y.1))
 CItem.enc =
 SV.lst CItem (withoutL y.1 y.2) CItem.enc ∧
 True)) := by kernel_rfl
theorem vcWithoutR : (askY (fun (y : Con.Y cWithout) => cfgI con0 (annAt F.ref25_Without 3 (aWithoutR y))) 400 F.ref25_Without) = (∀ (y : List CItem × CKey),
 y.1.length ≤ 10000 →
 (∃ (x : Nat),
 x ≤ y.1.length ∧
 (True ∧ SV.lst CItem y.1 CItem.enc = SV.lst CItem y.1 CItem.enc ∧ True ∧ eqI 0 ↑x ∧ True) ∧
 (SV.lst (View.X { X := CItem, enc := CItem.enc }) [] (View.enc { X := CItem, enc := CItem.enc }) =
 SV.lst CItem (List.filter (fun (x : CItem) => Decidable.decide (x.key ≠ y.2)) (List.take x y.1))
 CItem.enc ∧
 (y.2.name = y.2.name ∧
 y.2.domain = y.2.domain ∧ y.2.path = y.2.path ∧ True) ∧
 True) ∧
 True) ∧
 ∀ (x : Nat),
 x ≤ y.1.length →
 br (ltI (↑x) (Int.ofNat y.1.length))
 (so y.1[Int.toNat ↑x]? fun (val : CItem) =>
 br
 (!(val.key.name == y.2.name &&
 (val.key.domain == y.2.domain &&
 (val.key.path == y.2.path && Bool.true))))
 (so y.1[Int.toNat ↑x]? fun (val : CItem) =>
 ∃ (x_1 : CItem),
 (CItem.enc x_1) =
 (CItem.enc val) ∧
 ck
 (Nat.ble
 ((List.length (List.filter (fun (x : CItem) => Decidable.decide (x.key ≠ y.2)) (List.take x y.1)) +
 List.length [x_1]) *
 96)
 16777216 &&
 Nat.ble
 (List.length (List.filter (fun (x : CItem) => Decidable.decide (x.key ≠ y.2)) (List.take x y.1)) +
 List.length [x_1])
 16777216)
 (ck (inR Go.IntKind.i64 (↑x + 1))
 (∃ (y_1 : Nat),
 y_1 ≤ y.1.length ∧
 Ann.μ (aWithoutR y) y_1 < Ann.μ (aWithoutR y) x ∧
 (True ∧
 SV.lst CItem y.1 CItem.enc = SV.lst CItem y.1 CItem.enc ∧
 True ∧ eqI (↑x + 1) ↑y_1 ∧ True) ∧
 (SV.lst CItem
 (List.filter (fun (x : CItem) => Decidable.decide (x.key ≠ y.2)) (List.take x y.1) ++ [x_1])
 CItem.enc =
 SV.lst CItem
 (List.filter (fun (x : CItem) => Decidable.decide (x.key ≠ y.2)) (List.take y_1 y.1))
 CItem.enc ∧
 (y.2.name = y.2.name ∧
 y.2.domain = y.2.domain ∧
 y.2.path = y.2.path ∧ True) ∧
 True) ∧
 True)))
 (ck (inR Go.IntKind.i64 (↑x + 1))
 (∃ (y_1 : Nat),
 y_1 ≤ y.1.length ∧
 Ann.μ (aWithoutR y) y_1 < Ann.μ (aWithoutR y) x ∧
 (True ∧
 SV.lst CItem y.1 CItem.enc = SV.lst CItem y.1 CItem.enc ∧
 True ∧ eqI (↑x + 1) ↑y_1 ∧ True) ∧
 (SV.lst CItem
 (List.filter (fun (x : CItem) => Decidable.decide (x.key ≠ y.2)) (List.take x y.1))
 CItem.enc =
 SV.lst CItem
 (List.filter (fun (x : CItem) => Decidable.decide (x.key ≠ y.2)) (List.take y_1 y.1))
 CItem.enc ∧
 (y.2.name = y.2.name ∧
 y.2.domain = y.2.domain ∧
 y.2.path = y.2.path ∧ True) ∧
 True) ∧
 True)))
 (SV.lst CItem (List.filter (fun (x : CItem) => Decidable.decide (x.key ≠ y.2)) (List.take x y.1))
 CItem.enc =
 SV.lst CItem (withoutL y.1 y.2) CItem.enc ∧
 True)) := by kernel_rfl
theorem vcDomain : (askY (fun (y : Con.Y cDomain) => cfgI con0 (annAt F.view_keep_Item 3 (aKeep y.1 fun (x : CItem) => Decidable.decide (x.key.domain = y.2)))) 600 F.view_Domain) = (∀ (y : List CItem × Bs),
 y.1.length ≤ 10000 →
 (∃ (x : Nat),
 x ≤ y.1.length ∧
 (SV.fn 99 [] [SV.ptr (SH.next (St.h { ts := Fr.of (Con.args cDomain y) 0, h := { next := 0, os := [] }, log := [] })) 0] =
 SV.fn 99 []
 [SV.ptr (SH.next (St.h { ts := Fr.of (Con.args cDomain y) 0, h := { next := 0, os := [] }, log := [] })) 0] ∧
 SV.lst CItem y.1 CItem.enc = SV.lst CItem y.1 CItem.enc ∧
 eqI (Int.ofNat y.1.length) (Int.ofNat y.1.length) ∧ eqI 0 ↑x ∧ True ∧ True) ∧
 ((List.filter (fun (x : CItem) => Decidable.decide (x.key.domain = y.2)) (List.take x y.1) = [] ∧
 ∀ (x : CItem), List.length (CItem.enc x) = 11) ∧
 (y.2 = y.2 ∧ True) ∧ True) ∧
 True) ∧
 ∀ (x : Nat),
 x ≤ y.1.length →
 br (ltI (↑x) (Int.ofNat y.1.length))
 (so y.1[Int.toNat ↑x]? fun (val : CItem) =>
 br (val.key.domain == y.2)
 (∃ (x_1 : CItem),
 (CItem.enc x_1) =
 (CItem.enc val) ∧
 ck
 (Nat.ble
 ((List.length
 (List.filter (fun (x : CItem) => Decidable.decide (x.key.domain = y.2))
 (List.take x y.1)) +
 List.length [x_1]) *
 96)
 16777216 &&
 Nat.ble
 (List.length
 (List.filter (fun (x : CItem) => Decidable.decide (x.key.domain = y.2))
 (List.take x y.1)) +
 List.length [x_1])
 16777216)
 (ck (inR Go.IntKind.i64 (↑x + 1))
 (∃ (y_1 : Nat),
 y_1 ≤ y.1.length ∧
 Ann.μ (aKeep y.1 fun (x : CItem) => Decidable.decide (x.key.domain = y.2))
 y_1 <
 Ann.μ
 (aKeep y.1 fun (x : CItem) => Decidable.decide (x.key.domain = y.2)) x ∧
 (SV.fn 99 []
 [SV.ptr
 (SH.next (St.h { ts := Fr.of (Con.args cDomain y) 0, h := { next := 0, os := [] }, log := [] })) 0] =
 SV.fn 99 []
 [SV.ptr
 (SH.next (St.h { ts := Fr.of (Con.args cDomain y) 0, h := { next := 0, os := [] }, log := [] })) 0] ∧
 SV.lst CItem y.1 CItem.enc = SV.lst CItem y.1 CItem.enc ∧
 eqI (Int.ofNat y.1.length) (Int.ofNat y.1.length) ∧ eqI (↑x + 1) ↑y_1 ∧ True ∧ True) ∧
 (SV.lst CItem
 (List.filter (fun (x : CItem) => Decidable.decide (x.key.domain = y.2))
 (List.take x y.1) ++
 [x_1])
 CItem.enc =
 SV.lst CItem
 (List.filter (fun (x : CItem) => Decidable.decide (x.key.domain = y.2))
 (List.take y_1 y.1))
 CItem.enc ∧
 (y.2 = y.2 ∧ True) ∧ True) ∧
 True)))
 (ck (inR Go.IntKind.i64 (↑x + 1))
 (∃ (y_1 : Nat),
 y_1 ≤ y.1.length ∧
 Ann.μ (aKeep y.1 fun (x : CItem) => Decidable.decide (x.key.domain = y.2)) y_1 <
 Ann.μ (aKeep y.1 fun (x : CItem) => Decidable.decide (x.key.domain = y.2)) x ∧
 (SV.fn 99 []
 [SV.ptr (SH.next (St.h { ts := Fr.of (Con.args cDomain y) 0, h := { next := 0, os := [] }, log := [] }))
 0] =
 SV.fn 99 []
 [SV.ptr (SH.next (St.h { ts := Fr.of (Con.args cDomain y) 0, h := { next := 0, os := [] }, log := [] }))
 0] ∧
 SV.lst CItem y.1 CItem.enc = SV.lst CItem y.1 CItem.enc ∧
 eqI (Int.ofNat y.1.length) (Int.ofNat y.1.length) ∧ eqI (↑x + 1) ↑y_1 ∧ True ∧ True) ∧
 (SV.lst CItem
 (List.filter (fun (x : CItem) => Decidable.decide (x.key.domain = y.2))
 (List.take x y.1))
 CItem.enc =
 SV.lst CItem
 (List.filter (fun (x : CItem) => Decidable.decide (x.key.domain = y.2))
 (List.take y_1 y.1))
 CItem.enc ∧
 (y.2 = y.2 ∧ True) ∧ True) ∧
 True)))
 (SV.lst CItem
 (List.filter (fun (x : CItem) => Decidable.decide (x.key.domain = y.2)) (List.take x y.1))
 CItem.enc =
 SV.lst CItem (domainL y.1 y.2) CItem.enc ∧
 True)) := by kernel_rfl
theorem vcDomainR : (askY (fun (y : Con.Y cDomain) => cfgI con0 (annAt F.ref25_Domain 3 (aDomainR y))) 400 F.ref25_Domain) = (∀ (y : List CItem × Bs),
 y.1.length ≤ 10000 →
 (∃ (x : Nat),
 x ≤ y.1.length ∧
 (SV.lst CItem y.1 CItem.enc = SV.lst CItem y.1 CItem.enc ∧
 y.2 = y.2 ∧ True ∧ eqI 0 ↑x ∧ True) ∧
 (SV.lst (View.X { X := CItem, enc := CItem.enc }) [] (View.enc { X := CItem, enc := CItem.enc }) =
 SV.lst CItem
 (List.filter (fun (x : CItem) => Decidable.decide (x.key.domain = y.2)) (List.take x y.1))
 CItem.enc ∧
 True) ∧
 True) ∧
 ∀ (x : Nat),
 x ≤ y.1.length →
 br (ltI (↑x) (Int.ofNat y.1.length))
 (so y.1[Int.toNat ↑x]? fun (val : CItem) =>
 br (val.key.domain == y.2)
 (so y.1[Int.toNat ↑x]? fun (val : CItem) =>
 ∃ (x_1 : CItem),
 (CItem.enc x_1) =
 (CItem.enc val) ∧
 ck
 (Nat.ble
 ((List.length
 (List.filter (fun (x : CItem) => Decidable.decide (x.key.domain = y.2))
 (List.take x y.1)) +
 List.length [x_1]) *
 96)
 16777216 &&
 Nat.ble
 (List.length
 (List.filter (fun (x : CItem) => Decidable.decide (x.key.domain = y.2))
 (List.take x y.1)) +
 List.length [x_1])
 16777216)
 (ck (inR Go.IntKind.i64 (↑x + 1))
 (∃ (y_1 : Nat),
 y_1 ≤ y.1.length ∧
 Ann.μ (aDomainR y) y_1 < Ann.μ (aDomainR y) x ∧
 (SV.lst CItem y.1 CItem.enc = SV.lst CItem y.1 CItem.enc ∧
 y.2 = y.2 ∧ True ∧ eqI (↑x + 1) ↑y_1 ∧ True) ∧
 (SV.lst CItem
 (List.filter (fun (x : CItem) => Decidable.decide (x.key.domain = y.2))
 (List.take x y.1) ++
 [x_1])
 CItem.enc =
 SV.lst CItem
 (List.filter (fun (x : CItem) => Decidable.decide (x.key.domain = y.2))
 (List.take y_1 y.1))
 CItem.enc ∧
 True) ∧
 True)))
 (ck (inR Go.IntKind.i64 (↑x + 1))
 (∃ (y_1 : Nat),
 y_1 ≤ y.1.length ∧
 Ann.μ (aDomainR y) y_1 < Ann.μ (aDomainR y) x ∧
 (SV.lst CItem y.1 CItem.enc = SV.lst CItem y.1 CItem.enc ∧
 y.2 = y.2 ∧ True ∧ eqI (↑x + 1) ↑y_1 ∧ True) ∧
 (SV.lst CItem
 (List.filter (fun (x : CItem) => Decidable.decide (x.key.domain = y.2))
 (List.take x y.1))
 CItem.enc =
 SV.lst CItem
 (List.filter (fun (x : CItem) => Decidable.decide (x.key.domain = y.2))
 (List.take y_1 y.1))
 CItem.enc ∧
 True) ∧
 True)))
 (SV.lst CItem
 (List.filter (fun (x : CItem) => Decidable.decide (x.key.domain = y.2)) (List.take x y.1))
 CItem.enc =
 SV.lst CItem (domainL y.1 y.2) CItem.enc ∧
 True)) := by kernel_rfl
theorem vcFindI : (askY (fun (y : Con.Y cFindI) => cfgI con0 (annAt F.ref25_Find 2 (aFindI y))) 400 F.ref25_Find) = (∀ (y : List CItem × CKey),
 y.1.length ≤ 10000 →
 (∃ (x : Nat),
 (x ≤ y.1.length ∧ ∀ (j : Nat) (h : j < y.1.length), j < x → CItem.key y.1[j] = y.2 → False) ∧
 (True ∧ True ∧ SV.lst CItem y.1 CItem.enc = SV.lst CItem y.1 CItem.enc ∧ eqI 0 ↑x ∧ True) ∧
 ((([] : List UInt8) = [] ∧
 ([] : List UInt8) = [] ∧
 ([] : List UInt8) = [] ∧
 ([] : List UInt8) = [] ∧
 Bool.false = Bool.false ∧
 Bool.false = Bool.false ∧ Bool.false = Bool.false ∧ Bool.false = Bool.false ∧ eqI 0 0 ∧ eqI 0 0 ∧ eqI 0 0 ∧ True) ∧
 (y.2.name = y.2.name ∧
 y.2.domain = y.2.domain ∧ y.2.path = y.2.path ∧ True) ∧
 True) ∧
 True) ∧
 ∀ (x : Nat),
 (x ≤ y.1.length ∧ ∀ (j : Nat) (h : j < y.1.length), j < x → CItem.key y.1[j] = y.2 → False) →
 br (ltI (↑x) (Int.ofNat y.1.length))
 (so y.1[Int.toNat ↑x]? fun (val : CItem) =>
 br
 (val.key.name == y.2.name &&
 (val.key.domain == y.2.domain &&
 (val.key.path == y.2.path && Bool.true)))
 (so y.1[Int.toNat ↑x]? fun (val : CItem) =>
 val.key.name = CKey.name (CItem.key (Prod.fst (findL y.1 y.2))) ∧
 val.key.domain = CKey.domain (CItem.key (Prod.fst (findL y.1 y.2))) ∧
 val.key.path = CKey.path (CItem.key (Prod.fst (findL y.1 y.2))) ∧
 val.cookie.value =
 CCookie.value (CItem.cookie (Prod.fst (findL y.1 y.2))) ∧
 val.cookie.hostOnly =
 CCookie.hostOnly (CItem.cookie (Prod.fst (findL y.1 y.2))) ∧
 val.cookie.secure =
 CCookie.secure (CItem.cookie (Prod.fst (findL y.1 y.2))) ∧
 val.cookie.httpOnly =
 CCookie.httpOnly (CItem.cookie (Prod.fst (findL y.1 y.2))) ∧
 val.cookie.persistent =
 CCookie.persistent (CItem.cookie (Prod.fst (findL y.1 y.2))) ∧
 eqI val.cookie.expiry
 (CCookie.expiry (CItem.cookie (Prod.fst (findL y.1 y.2)))) ∧
 eqI val.cookie.creation
 (CCookie.creation (CItem.cookie (Prod.fst (findL y.1 y.2)))) ∧
 eqI val.cookie.access
 (CCookie.access (CItem.cookie (Prod.fst (findL y.1 y.2)))) ∧
 Bool.true = Prod.snd (findL y.1 y.2) ∧ True)
 (ck (inR Go.IntKind.i64 (↑x + 1))
 (∃ (y_1 : Nat),
 (y_1 ≤ y.1.length ∧ ∀ (j : Nat) (h : j < y.1.length), j < y_1 → CItem.key y.1[j] = y.2 → False) ∧
 Ann.μ (aFindI y) y_1 < Ann.μ (aFindI y) x ∧
 (True ∧
 True ∧
 SV.lst CItem y.1 CItem.enc = SV.lst CItem y.1 CItem.enc ∧
 eqI (↑x + 1) ↑y_1 ∧ True) ∧
 ((([] : List UInt8) = [] ∧
 ([] : List UInt8) = [] ∧
 ([] : List UInt8) = [] ∧
 ([] : List UInt8) = [] ∧
 Bool.false = Bool.false ∧
 Bool.false = Bool.false ∧ Bool.false = Bool.false ∧ Bool.false = Bool.false ∧ eqI 0 0 ∧ eqI 0 0 ∧ eqI 0 0 ∧ True) ∧
 (y.2.name = y.2.name ∧
 y.2.domain = y.2.domain ∧
 y.2.path = y.2.path ∧ True) ∧
 True) ∧
 True)))
 ([] = CKey.name (CItem.key (Prod.fst (findL y.1 y.2))) ∧
 [] = CKey.domain (CItem.key (Prod.fst (findL y.1 y.2))) ∧
 [] = CKey.path (CItem.key (Prod.fst (findL y.1 y.2))) ∧
 [] = CCookie.value (CItem.cookie (Prod.fst (findL y.1 y.2))) ∧
 Bool.false = CCookie.hostOnly (CItem.cookie (Prod.fst (findL y.1 y.2))) ∧
 Bool.false = CCookie.secure (CItem.cookie (Prod.fst (findL y.1 y.2))) ∧
 Bool.false = CCookie.httpOnly (CItem.cookie (Prod.fst (findL y.1 y.2))) ∧
 Bool.false = CCookie.persistent (CItem.cookie (Prod.fst (findL y.1 y.2))) ∧
 eqI 0 (CCookie.expiry (CItem.cookie (Prod.fst (findL y.1 y.2)))) ∧
 eqI 0 (CCookie.creation (CItem.cookie (Prod.fst (findL y.1 y.2)))) ∧
 eqI 0 (CCookie.access (CItem.cookie (Prod.fst (findL y.1 y.2)))) ∧
 Bool.false = Prod.snd (findL y.1 y.2) ∧ True)) := by kernel_rfl
theorem vcContains : (askY (fun (y : Con.Y cContains) => cfgI con0 (annAt F.slices_Index_Item 2 (aIndex y))) 400 F.slices_Contains_Item) = (∀ (y : List CItem × CItem),
 y.1.length ≤ 10000 →
 (∃ (x : Nat),
 (x ≤ y.1.length ∧ ∀ (j : Nat) (h : j < y.1.length), j < x → y.1[j] = y.2 → False) ∧
 (True ∧
 SV.lst CItem y.1 CItem.enc = SV.lst CItem y.1 CItem.enc ∧
 eqI (Int.ofNat y.1.length) (Int.ofNat y.1.length) ∧ eqI 0 ↑x ∧ True) ∧
 ((y.2.key.name = y.2.key.name ∧
 y.2.key.domain = y.2.key.domain ∧
 y.2.key.path = y.2.key.path ∧
 y.2.cookie.value = y.2.cookie.value ∧
 y.2.cookie.hostOnly = y.2.cookie.hostOnly ∧
 y.2.cookie.secure = y.2.cookie.secure ∧
 y.2.cookie.httpOnly = y.2.cookie.httpOnly ∧
 y.2.cookie.persistent = y.2.cookie.persistent ∧
 eqI y.2.cookie.expiry y.2.cookie.expiry ∧
 eqI y.2.cookie.creation y.2.cookie.creation ∧
 eqI y.2.cookie.access y.2.cookie.access ∧
 True) ∧
 (y.2.key.name = y.2.key.name ∧
 y.2.key.domain = y.2.key.domain ∧
 y.2.key.path = y.2.key.path ∧
 y.2.cookie.value = y.2.cookie.value ∧
 y.2.cookie.hostOnly = y.2.cookie.hostOnly ∧
 y.2.cookie.secure = y.2.cookie.secure ∧
 y.2.cookie.httpOnly = y.2.cookie.httpOnly ∧
 y.2.cookie.persistent = y.2.cookie.persistent ∧
 eqI y.2.cookie.expiry y.2.cookie.expiry ∧
 eqI y.2.cookie.creation
 y.2.cookie.creation ∧
 eqI y.2.cookie.access y.2.cookie.access ∧
 True) ∧
 True) ∧
 True) ∧
 ∀ (x : Nat),
 (x ≤ y.1.length ∧ ∀ (j : Nat) (h : j < y.1.length), j < x → y.1[j] = y.2 → False) →
 br (ltI (↑x) (Int.ofNat y.1.length))
 (so y.1[Int.toNat ↑x]? fun (val : CItem) =>
 br
 (y.2.key.name == val.key.name &&
 (y.2.key.domain == val.key.domain &&
 (y.2.key.path == val.key.path && Bool.true)) &&
 (y.2.cookie.value == val.cookie.value &&
 (y.2.cookie.hostOnly == val.cookie.hostOnly &&
 (y.2.cookie.secure == val.cookie.secure &&
 (y.2.cookie.httpOnly == val.cookie.httpOnly &&
 (y.2.cookie.persistent == val.cookie.persistent &&
 (y.2.cookie.expiry == val.cookie.expiry &&
 (y.2.cookie.creation == val.cookie.creation &&
 (y.2.cookie.access == val.cookie.access && Bool.true))))))) &&
 Bool.true))
 (leI 0 ↑x = Decidable.decide (y.2 ∈ y.1) ∧ True)
 (ck (inR Go.IntKind.i64 (↑x + 1))
 (∃ (y_1 : Nat),
 (y_1 ≤ y.1.length ∧ ∀ (j : Nat) (h : j < y.1.length), j < y_1 → y.1[j] = y.2 → False) ∧
 Ann.μ (aIndex y) y_1 < Ann.μ (aIndex y) x ∧
 (True ∧
 SV.lst CItem y.1 CItem.enc = SV.lst CItem y.1 CItem.enc ∧
 eqI (Int.ofNat y.1.length) (Int.ofNat y.1.length) ∧ eqI (↑x + 1) ↑y_1 ∧ True) ∧
 ((y.2.key.name = y.2.key.name ∧
 y.2.key.domain = y.2.key.domain ∧
 y.2.key.path = y.2.key.path ∧
 y.2.cookie.value = y.2.cookie.value ∧
 y.2.cookie.hostOnly = y.2.cookie.hostOnly ∧
 y.2.cookie.secure = y.2.cookie.secure ∧
 y.2.cookie.httpOnly = y.2.cookie.httpOnly ∧
 y.2.cookie.persistent =
 y.2.cookie.persistent ∧
 eqI y.2.cookie.expiry
 y.2.cookie.expiry ∧
 eqI y.2.cookie.creation
 y.2.cookie.creation ∧
 eqI y.2.cookie.access
 y.2.cookie.access ∧
 True) ∧
 (y.2.key.name = y.2.key.name ∧
 y.2.key.domain = y.2.key.domain ∧
 y.2.key.path = y.2.key.path ∧
 y.2.cookie.value = y.2.cookie.value ∧
 y.2.cookie.hostOnly = y.2.cookie.hostOnly ∧
 y.2.cookie.secure = y.2.cookie.secure ∧
 y.2.cookie.httpOnly = y.2.cookie.httpOnly ∧
 y.2.cookie.persistent =
 y.2.cookie.persistent ∧
 eqI y.2.cookie.expiry
 y.2.cookie.expiry ∧
 eqI y.2.cookie.creation
 y.2.cookie.creation ∧
 eqI y.2.cookie.access
 y.2.cookie.access ∧
 True) ∧
 True) ∧
 True)))
 (leI 0 (-1) = Decidable.decide (y.2 ∈ y.1) ∧ True)) := by kernel_rfl
theorem vcSameI : (askY (fun (y : Con.Y cSameI) => cfgI con0 (annAt F.ref15_Same 4 (aSameI y))) 400 F.ref15_Same) = (∀ (y : List CItem × List CItem),
 y.1.length ≤ 10000 ∧ y.2.length ≤ 10000 →
 br (!Int.ofNat y.1.length == Int.ofNat y.2.length) (Bool.false = Decidable.decide (y.1 = y.2) ∧ True)
 ((∃ (x : Nat),
 (x ≤ y.1.length ∧ y.1.length = y.2.length ∧ List.take x y.1 = List.take x y.2) ∧
 (SV.lst CItem y.1 CItem.enc = SV.lst CItem y.1 CItem.enc ∧
 SV.lst CItem y.2 CItem.enc = SV.lst CItem y.2 CItem.enc ∧ eqI 0 ↑x ∧ True) ∧
 True ∧ True) ∧
 ∀ (x : Nat),
 x ≤ y.1.length ∧ y.1.length = y.2.length ∧ List.take x y.1 = List.take x y.2 →
 br (ltI (↑x) (Int.ofNat y.1.length))
 (so y.1[Int.toNat ↑x]? fun (val : CItem) =>
 so y.2[Int.toNat ↑x]? fun (val_1 : CItem) =>
 br
 (!(val.key.name == val_1.key.name &&
 (val.key.domain == val_1.key.domain &&
 (val.key.path == val_1.key.path && Bool.true)) &&
 (val.cookie.value == val_1.cookie.value &&
 (val.cookie.hostOnly == val_1.cookie.hostOnly &&
 (val.cookie.secure == val_1.cookie.secure &&
 (val.cookie.httpOnly == val_1.cookie.httpOnly &&
 (val.cookie.persistent == val_1.cookie.persistent &&
 (val.cookie.expiry == val_1.cookie.expiry &&
 (val.cookie.creation == val_1.cookie.creation &&
 (val.cookie.access == val_1.cookie.access && Bool.true))))))) &&
 Bool.true)))
 (Bool.false = Decidable.decide (y.1 = y.2) ∧ True)
 (ck (inR Go.IntKind.i64 (↑x + 1))
 (∃ (y_1 : Nat),
 (y_1 ≤ y.1.length ∧ y.1.length = y.2.length ∧ List.take y_1 y.1 = List.take y_1 y.2) ∧
 Ann.μ (aSameI y) y_1 < Ann.μ (aSameI y) x ∧
 (SV.lst CItem y.1 CItem.enc = SV.lst CItem y.1 CItem.enc ∧
 SV.lst CItem y.2 CItem.enc = SV.lst CItem y.2 CItem.enc ∧
 eqI (↑x + 1) ↑y_1 ∧ True) ∧
 True ∧ True)))
 (Bool.true = Decidable.decide (y.1 = y.2) ∧ True))) := by kernel_rfl
theorem vcSameT : (askY (fun (y : Con.Y cSameT) => cfgI con0 (annAt F.ref25_SameTexts 4 (aSameT y))) 400 F.ref25_SameTexts) = (∀ (y : List Bs × List Bs),
 y.1.length ≤ 10000 ∧ y.2.length ≤ 10000 →
 br (!Int.ofNat y.1.length == Int.ofNat y.2.length) (Bool.false = Decidable.decide (y.1 = y.2) ∧ True)
 ((∃ (x : Nat),
 (x ≤ y.1.length ∧ y.1.length = y.2.length ∧ List.take x y.1 = List.take x y.2) ∧
 (SV.lst Bs y.1 encTx = SV.lst Bs y.1 encTx ∧
 SV.lst Bs y.2 encTx = SV.lst Bs y.2 encTx ∧ eqI 0 ↑x ∧ True) ∧
 True ∧ True) ∧
 ∀ (x : Nat),
 x ≤ y.1.length ∧ y.1.length = y.2.length ∧ List.take x y.1 = List.take x y.2 →
 br (ltI (↑x) (Int.ofNat y.1.length))
 (so y.1[Int.toNat ↑x]? fun (val : Bs) =>
 so y.2[Int.toNat ↑x]? fun (val_1 : Bs) =>
 br (!val == val_1) (Bool.false = Decidable.decide (y.1 = y.2) ∧ True)
 (ck (inR Go.IntKind.i64 (↑x + 1))
 (∃ (y_1 : Nat),
 (y_1 ≤ y.1.length ∧ y.1.length = y.2.length ∧ List.take y_1 y.1 = List.take y_1 y.2) ∧
 Ann.μ (aSameT y) y_1 < Ann.μ (aSameT y) x ∧
 (SV.lst Bs y.1 encTx = SV.lst Bs y.1 encTx ∧
 SV.lst Bs y.2 encTx = SV.lst Bs y.2 encTx ∧ eqI (↑x + 1) ↑y_1 ∧ True) ∧
 True ∧ True)))
 (Bool.true = Decidable.decide (y.1 = y.2) ∧ True))) := by kernel_rfl
theorem vcPutR : (askY (fun (y : Con.Y cPutR) => cfgI conI4 (annAt F.ref25_Put 4 (aPutR y))) 600 F.ref25_Put) = (∀ (y : List CItem × CItem),
 y.1.length ≤ 10000 →
 (∃ (x : Nat),
 x ≤ y.1.length ∧
 (True ∧
 SV.lst CItem y.1 CItem.enc = SV.lst CItem y.1 CItem.enc ∧ True ∧ True ∧ eqI 0 ↑x ∧ True) ∧
 (SV.lst (View.X { X := CItem, enc := CItem.enc }) [] (View.enc { X := CItem, enc := CItem.enc }) =
 SV.lst CItem
 (List.filter (fun (x : CItem) => keyLess y.2.key x.key) (List.take x y.1))
 CItem.enc ∧
 SV.lst (View.X { X := CItem, enc := CItem.enc }) [] (View.enc { X := CItem, enc := CItem.enc }) =
 SV.lst CItem
 (List.filter (fun (x : CItem) => keyLess x.key y.2.key) (List.take x y.1))
 CItem.enc ∧
 (y.2.key.name = y.2.key.name ∧
 y.2.key.domain = y.2.key.domain ∧
 y.2.key.path = y.2.key.path ∧
 y.2.cookie.value = y.2.cookie.value ∧
 y.2.cookie.hostOnly = y.2.cookie.hostOnly ∧
 y.2.cookie.secure = y.2.cookie.secure ∧
 y.2.cookie.httpOnly = y.2.cookie.httpOnly ∧
 y.2.cookie.persistent = y.2.cookie.persistent ∧
 eqI y.2.cookie.expiry y.2.cookie.expiry ∧
 eqI y.2.cookie.creation
 y.2.cookie.creation ∧
 eqI y.2.cookie.access
 y.2.cookie.access ∧
 True) ∧
 True) ∧
 True) ∧
 ∀ (x : Nat),
 x ≤ y.1.length →
 br (ltI (↑x) (Int.ofNat y.1.length))
 (so y.1[Int.toNat ↑x]? fun (val : CItem) =>
 ∃ (y_1 : CKey × CKey),
 val.key.name = y_1.1.name ∧
 val.key.domain = y_1.1.domain ∧
 val.key.path = y_1.1.path ∧
 y.2.key.name = y_1.2.name ∧
 y.2.key.domain = y_1.2.domain ∧
 y.2.key.path = y_1.2.path ∧
 True ∧
 br (keyLess y_1.1 y_1.2)
 (so y.1[Int.toNat ↑x]? fun (val : CItem) =>
 ∃ (x_1 : CItem),
 (CItem.enc x_1) =
 (CItem.enc val) ∧
 ck
 (Nat.ble
 ((List.length
 (List.filter (fun (x : CItem) => keyLess x.key y.2.key)
 (List.take x y.1)) +
 List.length [x_1]) *
 96)
 16777216 &&
 Nat.ble
 (List.length
 (List.filter (fun (x : CItem) => keyLess x.key y.2.key)
 (List.take x y.1)) +
 List.length [x_1])
 16777216)
 (so y.1[Int.toNat ↑x]? fun (val : CItem) =>
 ∃ (y_2 : CKey × CKey),
 y.2.key.name = y_2.1.name ∧
 y.2.key.domain = y_2.1.domain ∧
 y.2.key.path = y_2.1.path ∧
 val.key.name = y_2.2.name ∧
 val.key.domain = y_2.2.domain ∧
 val.key.path = y_2.2.path ∧
 True ∧
 br (keyLess y_2.1 y_2.2)
 (so y.1[Int.toNat ↑x]? fun (val : CItem) =>
 ∃ (x_2 : CItem),
 (CItem.enc x_2) =
 (CItem.enc val) ∧
 ck
 (Nat.ble
 ((List.length
 (List.filter
 (fun (x : CItem) =>
 keyLess y.2.key x.key)
 (List.take x y.1)) +
 List.length [x_2]) *
 96)
 16777216 &&
 Nat.ble
 (List.length
 (List.filter
 (fun (x : CItem) =>
 keyLess y.2.key x.key)
 (List.take x y.1)) +
 List.length [x_2])
 16777216)
 (ck (inR Go.IntKind.i64 (↑x + 1))
 (∃ (y_3 : Nat),
 y_3 ≤ y.1.length ∧
 Ann.μ (aPutR y) y_3 < Ann.μ (aPutR y) x ∧
 (True ∧
 SV.lst CItem y.1 CItem.enc =
 SV.lst CItem y.1 CItem.enc ∧
 True ∧ True ∧ eqI (↑x + 1) ↑y_3 ∧ True) ∧
 (SV.lst CItem
 (List.filter
 (fun (x : CItem) =>
 keyLess y.2.key x.key)
 (List.take x y.1) ++
 [x_2])
 CItem.enc =
 SV.lst CItem
 (List.filter
 (fun (x : CItem) =>
 keyLess y.2.key x.key)
 (List.take y_3 y.1))
 CItem.enc ∧
 SV.lst CItem
 (List.filter
 (fun (x : CItem) =>
 keyLess x.key y.2.key)
 (List.take x y.1) ++
 [x_1])
 CItem.enc =
 SV.lst CItem
 (List.filter
 (fun (x : CItem) =>
 keyLess x.key y.2.key)
 (List.take y_3 y.1))
 CItem.enc ∧
 (y.2.key.name =
 y.2.key.name ∧
 y.2.key.domain =
 y.2.key.domain ∧
 y.2.key.path =
 y.2.key.path ∧
 y.2.cookie.value =
 y.2.cookie.value ∧
 y.2.cookie.hostOnly =
 y.2.cookie.hostOnly ∧
 y.2.cookie.secure =
 y.2.cookie.secure ∧
 y.2.cookie.httpOnly =
 y.2.cookie.httpOnly ∧
 y.2.cookie.persistent =
 y.2.cookie.persistent ∧
 eqI y.2.cookie.expiry
 y.2.cookie.expiry ∧
 eqI y.2.cookie.creation
 y.2.cookie.creation ∧
 eqI y.2.cookie.access
 y.2.cookie.access ∧
 True) ∧
 True) ∧
 True)))
 (ck (inR Go.IntKind.i64 (↑x + 1))
 (∃ (y_3 : Nat),
 y_3 ≤ y.1.length ∧
 Ann.μ (aPutR y) y_3 < Ann.μ (aPutR y) x ∧
 (True ∧
 SV.lst CItem y.1 CItem.enc =
 SV.lst CItem y.1 CItem.enc ∧
 True ∧ True ∧ eqI (↑x + 1) ↑y_3 ∧ True) ∧
 (SV.lst CItem
 (List.filter
 (fun (x : CItem) =>
 keyLess y.2.key x.key)
 (List.take x y.1))
 CItem.enc =
 SV.lst CItem
 (List.filter
 (fun (x : CItem) =>
 keyLess y.2.key x.key)
 (List.take y_3 y.1))
 CItem.enc ∧
 SV.lst CItem
 (List.filter
 (fun (x : CItem) =>
 keyLess x.key y.2.key)
 (List.take x y.1) ++
 [x_1])
 CItem.enc =
 SV.lst CItem
 (List.filter
 (fun (x : CItem) =>
 keyLess x.key y.2.key)
 (List.take y_3 y.1))
 CItem.enc ∧
 (y.2.key.name =
 y.2.key.name ∧
 y.2.key.domain =
 y.2.key.domain ∧
 y.2.key.path =
 y.2.key.path ∧
 y.2.cookie.value =
 y.2.cookie.value ∧
 y.2.cookie.hostOnly =
 y.2.cookie.hostOnly ∧
 y.2.cookie.secure =
 y.2.cookie.secure ∧
 y.2.cookie.httpOnly =
 y.2.cookie.httpOnly ∧
 y.2.cookie.persistent =
 y.2.cookie.persistent ∧
 eqI y.2.cookie.expiry
 y.2.cookie.expiry ∧
 eqI y.2.cookie.creation
 y.2.cookie.creation ∧
 eqI y.2.cookie.access
 y.2.cookie.access ∧
 True) ∧
 True) ∧
 True))))
 (so y.1[Int.toNat ↑x]? fun (val : CItem) =>
 ∃ (y_2 : CKey × CKey),
 y.2.key.name = y_2.1.name ∧
 y.2.key.domain = y_2.1.domain ∧
 y.2.key.path = y_2.1.path ∧
 val.key.name = y_2.2.name ∧
 val.key.domain = y_2.2.domain ∧
 val.key.path = y_2.2.path ∧
 True ∧
 br (keyLess y_2.1 y_2.2)
 (so y.1[Int.toNat ↑x]? fun (val : CItem) =>
 ∃ (x_1 : CItem),
 (CItem.enc x_1) =
 (CItem.enc val) ∧
 ck
 (Nat.ble
 ((List.length
 (List.filter
 (fun (x : CItem) => keyLess y.2.key x.key)
 (List.take x y.1)) +
 List.length [x_1]) *
 96)
 16777216 &&
 Nat.ble
 (List.length
 (List.filter
 (fun (x : CItem) => keyLess y.2.key x.key)
 (List.take x y.1)) +
 List.length [x_1])
 16777216)
 (ck (inR Go.IntKind.i64 (↑x + 1))
 (∃ (y_3 : Nat),
 y_3 ≤ y.1.length ∧
 Ann.μ (aPutR y) y_3 < Ann.μ (aPutR y) x ∧
 (True ∧
 SV.lst CItem y.1 CItem.enc =
 SV.lst CItem y.1 CItem.enc ∧
 True ∧ True ∧ eqI (↑x + 1) ↑y_3 ∧ True) ∧
 (SV.lst CItem
 (List.filter
 (fun (x : CItem) =>
 keyLess y.2.key x.key)
 (List.take x y.1) ++
 [x_1])
 CItem.enc =
 SV.lst CItem
 (List.filter
 (fun (x : CItem) =>
 keyLess y.2.key x.key)
 (List.take y_3 y.1))
 CItem.enc ∧
 SV.lst CItem
 (List.filter
 (fun (x : CItem) =>
 keyLess x.key y.2.key)
 (List.take x y.1))
 CItem.enc =
 SV.lst CItem
 (List.filter
 (fun (x : CItem) =>
 keyLess x.key y.2.key)
 (List.take y_3 y.1))
 CItem.enc ∧
 (y.2.key.name =
 y.2.key.name ∧
 y.2.key.domain =
 y.2.key.domain ∧
 y.2.key.path =
 y.2.key.path ∧
 y.2.cookie.value =
 y.2.cookie.value ∧
 y.2.cookie.hostOnly =
 y.2.cookie.hostOnly ∧
 y.2.cookie.secure =
 y.2.cookie.secure ∧
 y.2.cookie.httpOnly =
 y.2.cookie.httpOnly ∧
 y.2.cookie.persistent =
 y.2.cookie.persistent ∧
 eqI y.2.cookie.expiry
 y.2.cookie.expiry ∧
 eqI y.2.cookie.creation
 y.2.cookie.creation ∧
 eqI y.2.cookie.access
 y.2.cookie.access ∧
 True) ∧
 True) ∧
 True)))
 (ck (inR Go.IntKind.i64 (↑x + 1))
 (∃ (y_3 : Nat),
 y_3 ≤ y.1.length ∧
 Ann.μ (aPutR y) y_3 < Ann.μ (aPutR y) x ∧
 (True ∧
 SV.lst CItem y.1 CItem.enc =
 SV.lst CItem y.1 CItem.enc ∧
 True ∧ True ∧ eqI (↑x + 1) ↑y_3 ∧ True) ∧
 (SV.lst CItem
 (List.filter
 (fun (x : CItem) => keyLess y.2.key x.key)
 (List.take x y.1))
 CItem.enc =
 SV.lst CItem
 (List.filter
 (fun (x : CItem) => keyLess y.2.key x.key)
 (List.take y_3 y.1))
 CItem.enc ∧
 SV.lst CItem
 (List.filter
 (fun (x : CItem) =>
 keyLess x.key y.2.key)
 (List.take x y.1))
 CItem.enc =
 SV.lst CItem
 (List.filter
 (fun (x : CItem) =>
 keyLess x.key y.2.key)
 (List.take y_3 y.1))
 CItem.enc ∧
 (y.2.key.name =
 y.2.key.name ∧
 y.2.key.domain =
 y.2.key.domain ∧
 y.2.key.path =
 y.2.key.path ∧
 y.2.cookie.value =
 y.2.cookie.value ∧
 y.2.cookie.hostOnly =
 y.2.cookie.hostOnly ∧
 y.2.cookie.secure =
 y.2.cookie.secure ∧
 y.2.cookie.httpOnly =
 y.2.cookie.httpOnly ∧
 y.2.cookie.persistent =
 y.2.cookie.persistent ∧
 eqI y.2.cookie.expiry
 y.2.cookie.expiry ∧
 eqI y.2.cookie.creation
 y.2.cookie.creation ∧
 eqI y.2.cookie.access
 y.2.cookie.access ∧
 True) ∧
 True) ∧
 True))))
 (∃ (x_1 : CItem),
 (CItem.enc x_1) =
 (CItem.enc y.2) ∧
 ck
 (Nat.ble
 ((List.length
 (List.filter (fun (x : CItem) => keyLess x.key y.2.key) (List.take x y.1)) +
 List.length [x_1]) *
 96)
 16777216 &&
 Nat.ble
 (List.length
 (List.filter (fun (x : CItem) => keyLess x.key y.2.key) (List.take x y.1)) +
 List.length [x_1])
 16777216)
 ((∀ (x : CItem), List.length (CItem.enc x) = 11 ∧ List.all (CItem.enc x) isPure = Bool.true) ∧
 ∃ (M' : List CItem),
 SV.lst CItem
 (List.filter (fun (x : CItem) => keyLess y.2.key x.key) (List.take x y.1))
 CItem.enc =
 SV.lst CItem M' CItem.enc ∧
 ck
 (Nat.ble
 ((List.length
 (List.filter (fun (x : CItem) => keyLess x.key y.2.key)
 (List.take x y.1) ++
 [x_1]) +
 M'.length) *
 96)
 16777216 &&
 Nat.ble
 (List.length
 (List.filter (fun (x : CItem) => keyLess x.key y.2.key)
 (List.take x y.1) ++
 [x_1]) +
 M'.length)
 16777216)
 (SV.lst CItem
 (List.filter (fun (x : CItem) => keyLess x.key y.2.key)
 (List.take x y.1) ++
 [x_1] ++
 M')
 CItem.enc =
 SV.lst CItem (putL y.1 y.2) CItem.enc ∧
 True)))) := by kernel_rfl
theorem vcStalest : (askY (fun (y : Con.Y cStalest) => cfgI conI5 (annAt F.ref26_stalest 3 (aStalest y))) 600 F.ref26_stalest) = (∀ (y : List CItem × Bs × Bool),
 y.1.length ≤ 10000 →
 (∃ (x : Nat × Int),
 (x.1 ≤ y.1.length ∧
 (x.2 = -1 ∧ bestL (List.take x.1 y.1) y.2.1 y.2.2 = Option.none ∨
 ∃ (b : Nat),
 x.2 = Int.ofNat b ∧
 ∃ (h : b < y.1.length),
 bestL (List.take x.1 y.1) y.2.1 y.2.2 = Option.some y.1[b])) ∧
 (True ∧
 SV.lst CItem y.1 CItem.enc = SV.lst CItem y.1 CItem.enc ∧
 y.2.1 = y.2.1 ∧ y.2.2 = y.2.2 ∧ eqI (-1) x.2 ∧ eqI 0 ↑x.1 ∧ True) ∧
 ((([] : List UInt8) = [] ∧ ([] : List UInt8) = [] ∧ ([] : List UInt8) = [] ∧ True) ∧ True) ∧ True) ∧
 ∀ (x : Nat × Int),
 x.1 ≤ y.1.length ∧
 (x.2 = -1 ∧ bestL (List.take x.1 y.1) y.2.1 y.2.2 = Option.none ∨
 ∃ (b : Nat),
 x.2 = Int.ofNat b ∧
 ∃ (h : b < y.1.length),
 bestL (List.take x.1 y.1) y.2.1 y.2.2 = Option.some y.1[b]) →
 br (ltI (↑x.1) (Int.ofNat y.1.length))
 (br (!y.2.2)
 (so y.1[Int.toNat ↑x.1]? fun (val : CItem) =>
 br (!val.key.domain == y.2.1)
 (ck (inR Go.IntKind.i64 (↑x.1 + 1))
 (∃ (y_1 : Nat × Int),
 (y_1.1 ≤ y.1.length ∧
 (y_1.2 = -1 ∧ bestL (List.take y_1.1 y.1) y.2.1 y.2.2 = Option.none ∨
 ∃ (b : Nat),
 y_1.2 = Int.ofNat b ∧
 ∃ (h : b < y.1.length),
 bestL (List.take y_1.1 y.1) y.2.1 y.2.2 = Option.some y.1[b])) ∧
 Ann.μ (aStalest y) y_1 < Ann.μ (aStalest y) x ∧
 (True ∧
 SV.lst CItem y.1 CItem.enc = SV.lst CItem y.1 CItem.enc ∧
 y.2.1 = y.2.1 ∧
 y.2.2 = y.2.2 ∧ eqI x.2 y_1.2 ∧ eqI (↑x.1 + 1) ↑y_1.1 ∧ True) ∧
 ((([] : List UInt8) = [] ∧ ([] : List UInt8) = [] ∧ ([] : List UInt8) = [] ∧ True) ∧ True) ∧ True))
 (br (ltI x.2 0)
 (ck (inR Go.IntKind.i64 (↑x.1 + 1))
 (∃ (y_1 : Nat × Int),
 (y_1.1 ≤ y.1.length ∧
 (y_1.2 = -1 ∧ bestL (List.take y_1.1 y.1) y.2.1 y.2.2 = Option.none ∨
 ∃ (b : Nat),
 y_1.2 = Int.ofNat b ∧
 ∃ (h : b < y.1.length),
 bestL (List.take y_1.1 y.1) y.2.1 y.2.2 = Option.some y.1[b])) ∧
 Ann.μ (aStalest y) y_1 < Ann.μ (aStalest y) x ∧
 (True ∧
 SV.lst CItem y.1 CItem.enc = SV.lst CItem y.1 CItem.enc ∧
 y.2.1 = y.2.1 ∧
 y.2.2 = y.2.2 ∧
 eqI (↑x.1) y_1.2 ∧ eqI (↑x.1 + 1) ↑y_1.1 ∧ True) ∧
 ((([] : List UInt8) = [] ∧ ([] : List UInt8) = [] ∧ ([] : List UInt8) = [] ∧ True) ∧ True) ∧ True))
 (so y.1[Int.toNat ↑x.1]? fun (val : CItem) =>
 ck (nn x.2)
 (so y.1[Int.toNat x.2]? fun (val_1 : CItem) =>
 ∃ (y_1 : CItem × CItem),
 val.key.name = y_1.1.key.name ∧
 val.key.domain = y_1.1.key.domain ∧
 val.key.path = y_1.1.key.path ∧
 val.cookie.value = y_1.1.cookie.value ∧
 val.cookie.hostOnly = y_1.1.cookie.hostOnly ∧
 val.cookie.secure = y_1.1.cookie.secure ∧
 val.cookie.httpOnly = y_1.1.cookie.httpOnly ∧
 val.cookie.persistent = y_1.1.cookie.persistent ∧
 eqI val.cookie.expiry y_1.1.cookie.expiry ∧
 eqI val.cookie.creation
 y_1.1.cookie.creation ∧
 eqI val.cookie.access
 y_1.1.cookie.access ∧
 val_1.key.name = y_1.2.key.name ∧
 val_1.key.domain = y_1.2.key.domain ∧
 val_1.key.path = y_1.2.key.path ∧
 val_1.cookie.value = y_1.2.cookie.value ∧
 val_1.cookie.hostOnly =
 y_1.2.cookie.hostOnly ∧
 val_1.cookie.secure =
 y_1.2.cookie.secure ∧
 val_1.cookie.httpOnly =
 y_1.2.cookie.httpOnly ∧
 val_1.cookie.persistent =
 y_1.2.cookie.persistent ∧
 eqI val_1.cookie.expiry
 y_1.2.cookie.expiry ∧
 eqI val_1.cookie.creation
 y_1.2.cookie.creation ∧
 eqI val_1.cookie.access
 y_1.2.cookie.access ∧
 True ∧
 br (stalerB y_1.1 y_1.2)
 (ck (inR Go.IntKind.i64 (↑x.1 + 1))
 (∃ (y_2 : Nat × Int),
 (y_2.1 ≤ y.1.length ∧
 (y_2.2 = -1 ∧
 bestL (List.take y_2.1 y.1) y.2.1
 y.2.2 =
 Option.none ∨
 ∃ (b : Nat),
 y_2.2 = Int.ofNat b ∧
 ∃ (h : b < y.1.length),
 bestL (List.take y_2.1 y.1) y.2.1
 y.2.2 =
 Option.some y.1[b])) ∧
 Ann.μ (aStalest y) y_2 < Ann.μ (aStalest y) x ∧
 (True ∧
 SV.lst CItem y.1 CItem.enc =
 SV.lst CItem y.1 CItem.enc ∧
 y.2.1 = y.2.1 ∧
 y.2.2 = y.2.2 ∧
 eqI (↑x.1) y_2.2 ∧
 eqI (↑x.1 + 1) ↑y_2.1 ∧ True) ∧
 ((([] : List UInt8) = [] ∧ ([] : List UInt8) = [] ∧ ([] : List UInt8) = [] ∧ True) ∧ True) ∧ True))
 (ck (inR Go.IntKind.i64 (↑x.1 + 1))
 (∃ (y_2 : Nat × Int),
 (y_2.1 ≤ y.1.length ∧
 (y_2.2 = -1 ∧
 bestL (List.take y_2.1 y.1) y.2.1
 y.2.2 =
 Option.none ∨
 ∃ (b : Nat),
 y_2.2 = Int.ofNat b ∧
 ∃ (h : b < y.1.length),
 bestL (List.take y_2.1 y.1) y.2.1
 y.2.2 =
 Option.some y.1[b])) ∧
 Ann.μ (aStalest y) y_2 < Ann.μ (aStalest y) x ∧
 (True ∧
 SV.lst CItem y.1 CItem.enc =
 SV.lst CItem y.1 CItem.enc ∧
 y.2.1 = y.2.1 ∧
 y.2.2 = y.2.2 ∧
 eqI x.2 y_2.2 ∧
 eqI (↑x.1 + 1) ↑y_2.1 ∧ True) ∧
 ((([] : List UInt8) = [] ∧ ([] : List UInt8) = [] ∧ ([] : List UInt8) = [] ∧ True) ∧ True) ∧ True))))))
 (br (ltI x.2 0)
 (ck (inR Go.IntKind.i64 (↑x.1 + 1))
 (∃ (y_1 : Nat × Int),
 (y_1.1 ≤ y.1.length ∧
 (y_1.2 = -1 ∧ bestL (List.take y_1.1 y.1) y.2.1 y.2.2 = Option.none ∨
 ∃ (b : Nat),
 y_1.2 = Int.ofNat b ∧
 ∃ (h : b < y.1.length),
 bestL (List.take y_1.1 y.1) y.2.1 y.2.2 = Option.some y.1[b])) ∧
 Ann.μ (aStalest y) y_1 < Ann.μ (aStalest y) x ∧
 (True ∧
 SV.lst CItem y.1 CItem.enc = SV.lst CItem y.1 CItem.enc ∧
 y.2.1 = y.2.1 ∧
 y.2.2 = y.2.2 ∧ eqI (↑x.1) y_1.2 ∧ eqI (↑x.1 + 1) ↑y_1.1 ∧ True) ∧
 ((([] : List UInt8) = [] ∧ ([] : List UInt8) = [] ∧ ([] : List UInt8) = [] ∧ True) ∧ True) ∧ True))
 (so y.1[Int.toNat ↑x.1]? fun (val : CItem) =>
 ck (nn x.2)
 (so y.1[Int.toNat x.2]? fun (val_1 : CItem) =>
 ∃ (y_1 : CItem × CItem),
 val.key.name = y_1.1.key.name ∧
 val.key.domain = y_1.1.key.domain ∧
 val.key.path = y_1.1.key.path ∧
 val.cookie.value = y_1.1.cookie.value ∧
 val.cookie.hostOnly = y_1.1.cookie.hostOnly ∧
 val.cookie.secure = y_1.1.cookie.secure ∧
 val.cookie.httpOnly = y_1.1.cookie.httpOnly ∧
 val.cookie.persistent = y_1.1.cookie.persistent ∧
 eqI val.cookie.expiry y_1.1.cookie.expiry ∧
 eqI val.cookie.creation y_1.1.cookie.creation ∧
 eqI val.cookie.access y_1.1.cookie.access ∧
 val_1.key.name = y_1.2.key.name ∧
 val_1.key.domain = y_1.2.key.domain ∧
 val_1.key.path = y_1.2.key.path ∧
 val_1.cookie.value = y_1.2.cookie.value ∧
 val_1.cookie.hostOnly =
 y_1.2.cookie.hostOnly ∧
 val_1.cookie.secure = y_1.2.cookie.secure ∧
 val_1.cookie.httpOnly =
 y_1.2.cookie.httpOnly ∧
 val_1.cookie.persistent =
 y_1.2.cookie.persistent ∧
 eqI val_1.cookie.expiry
 y_1.2.cookie.expiry ∧
 eqI val_1.cookie.creation
 y_1.2.cookie.creation ∧
 eqI val_1.cookie.access
 y_1.2.cookie.access ∧
 True ∧
 br (stalerB y_1.1 y_1.2)
 (ck (inR Go.IntKind.i64 (↑x.1 + 1))
 (∃ (y_2 : Nat × Int),
 (y_2.1 ≤ y.1.length ∧
 (y_2.2 = -1 ∧
 bestL (List.take y_2.1 y.1) y.2.1
 y.2.2 =
 Option.none ∨
 ∃ (b : Nat),
 y_2.2 = Int.ofNat b ∧
 ∃ (h : b < y.1.length),
 bestL (List.take y_2.1 y.1) y.2.1
 y.2.2 =
 Option.some y.1[b])) ∧
 Ann.μ (aStalest y) y_2 < Ann.μ (aStalest y) x ∧
 (True ∧
 SV.lst CItem y.1 CItem.enc =
 SV.lst CItem y.1 CItem.enc ∧
 y.2.1 = y.2.1 ∧
 y.2.2 = y.2.2 ∧
 eqI (↑x.1) y_2.2 ∧
 eqI (↑x.1 + 1) ↑y_2.1 ∧ True) ∧
 ((([] : List UInt8) = [] ∧ ([] : List UInt8) = [] ∧ ([] : List UInt8) = [] ∧ True) ∧ True) ∧ True))
 (ck (inR Go.IntKind.i64 (↑x.1 + 1))
 (∃ (y_2 : Nat × Int),
 (y_2.1 ≤ y.1.length ∧
 (y_2.2 = -1 ∧
 bestL (List.take y_2.1 y.1) y.2.1
 y.2.2 =
 Option.none ∨
 ∃ (b : Nat),
 y_2.2 = Int.ofNat b ∧
 ∃ (h : b < y.1.length),
 bestL (List.take y_2.1 y.1) y.2.1
 y.2.2 =
 Option.some y.1[b])) ∧
 Ann.μ (aStalest y) y_2 < Ann.μ (aStalest y) x ∧
 (True ∧
 SV.lst CItem y.1 CItem.enc =
 SV.lst CItem y.1 CItem.enc ∧
 y.2.1 = y.2.1 ∧
 y.2.2 = y.2.2 ∧
 eqI x.2 y_2.2 ∧
 eqI (↑x.1 + 1) ↑y_2.1 ∧ True) ∧
 ((([] : List UInt8) = [] ∧ ([] : List UInt8) = [] ∧ ([] : List UInt8) = [] ∧ True) ∧ True) ∧ True))))))
 (br (ltI x.2 0)
 ([] = CKey.name (stalestL y.1 y.2.1 y.2.2) ∧
 [] = CKey.domain (stalestL y.1 y.2.1 y.2.2) ∧
 [] = CKey.path (stalestL y.1 y.2.1 y.2.2) ∧ True)
 (ck (nn x.2)
 (so y.1[Int.toNat x.2]? fun (val : CItem) =>
 val.key.name = CKey.name (stalestL y.1 y.2.1 y.2.2) ∧
 val.key.domain = CKey.domain (stalestL y.1 y.2.1 y.2.2) ∧
 val.key.path = CKey.path (stalestL y.1 y.2.1 y.2.2) ∧
 True)))) := by kernel_rfl
theorem vcCheckC : (askY (fun (y : Con.Y cCheckC) => cfgI conI5 (noAnn y)) 600 F.evict_Check) = (∀ (y : CConfig),
 (y.rules.length ≤ 100000 ∧ ∀ (s : Bs), s ∈ y.rules → s.length ≤ 100000) →
 br (leI 1 y.devices)
 (br (!leI y.devices 64) (eqI 4 (checkC y) ∧ True)
 (br (leI 1 y.domain)
 (br (!leI y.domain 2048) (eqI 4 (checkC y) ∧ True)
 (br (leI 1 y.total)
 (br (!leI y.total 2048) (eqI 4 (checkC y) ∧ True)
 (∃ (y_1 : List Bs),
 SV.lst Bs y.rules encTx = SV.lst Bs y_1 encTx ∧
 (y_1.length ≤ 100000 ∧ ∀ (s : Bs), s ∈ y_1 → s.length ≤ 100000) ∧ eqI (checkR y_1) (checkC y) ∧ True))
 (eqI 4 (checkC y) ∧ True)))
 (eqI 4 (checkC y) ∧ True)))
 (eqI 4 (checkC y) ∧ True)) := by kernel_rfl
theorem vcCheckCR : (askY (fun (y : Con.Y cCheckC) => cfgI conI5 (noAnn y)) 600 F.ref26_Check) = (∀ (y : CConfig),
 (y.rules.length ≤ 100000 ∧ ∀ (s : Bs), s ∈ y.rules → s.length ≤ 100000) →
 br (ltI y.devices 1) (eqI 4 (checkC y) ∧ True)
 (br (ltI 64 y.devices) (eqI 4 (checkC y) ∧ True)
 (br (ltI y.domain 1) (eqI 4 (checkC y) ∧ True)
 (br (ltI 2048 y.domain) (eqI 4 (checkC y) ∧ True)
 (br (ltI y.total 1) (eqI 4 (checkC y) ∧ True)
 (br (ltI 2048 y.total) (eqI 4 (checkC y) ∧ True)
 (br (ltI 256 (Int.ofNat y.rules.length)) (eqI 3 (checkC y) ∧ True)
 (∃ (y_1 : List Bs),
 SV.lst Bs y.rules encTx = SV.lst Bs y_1 encTx ∧
 (y_1.length ≤ 100000 ∧ ∀ (s : Bs), s ∈ y_1 → s.length ≤ 100000) ∧
 br (!List.all y_1 isRule) (eqI 1 (checkC y) ∧ True) (eqI 0 (checkC y) ∧ True))))))))) := by kernel_rfl
theorem vcByKeys : (askY (fun (y : Con.Y cByKeys) => cfgI conI6 (annAt F.ref25_ByKeys 3 (aByKeys y))) 400 F.ref25_ByKeys) = (∀ (y : List CItem),
 y.length ≤ 1000 →
 (∃ (x : Nat),
 x ≤ y.length ∧
 (SV.lst CItem y CItem.enc = SV.lst CItem y CItem.enc ∧
 SV.lst (View.X { X := CItem, enc := CItem.enc }) [] (View.enc { X := CItem, enc := CItem.enc }) =
 SV.lst CItem (byKeysL (List.take x y)) CItem.enc ∧
 eqI 0 ↑x ∧ True) ∧
 (True ∧ True) ∧ True) ∧
 ∀ (x : Nat),
 x ≤ y.length →
 br (ltI (↑x) (Int.ofNat y.length))
 (so y[Int.toNat ↑x]? fun (val : CItem) =>
 ∃ (y_1 : List CItem × CItem),
 SV.lst CItem (byKeysL (List.take x y)) CItem.enc = SV.lst CItem y_1.1 CItem.enc ∧
 val.key.name = y_1.2.key.name ∧
 val.key.domain = y_1.2.key.domain ∧
 val.key.path = y_1.2.key.path ∧
 val.cookie.value = y_1.2.cookie.value ∧
 val.cookie.hostOnly = y_1.2.cookie.hostOnly ∧
 val.cookie.secure = y_1.2.cookie.secure ∧
 val.cookie.httpOnly = y_1.2.cookie.httpOnly ∧
 val.cookie.persistent = y_1.2.cookie.persistent ∧
 eqI val.cookie.expiry y_1.2.cookie.expiry ∧
 eqI val.cookie.creation y_1.2.cookie.creation ∧
 eqI val.cookie.access y_1.2.cookie.access ∧
 y_1.1.length ≤ 10000 ∧
 ck (inR Go.IntKind.i64 (↑x + 1))
 (∃ (y_2 : Nat),
 y_2 ≤ y.length ∧
 Ann.μ (aByKeys y) y_2 < Ann.μ (aByKeys y) x ∧
 (SV.lst CItem y CItem.enc = SV.lst CItem y CItem.enc ∧
 SV.lst CItem (putL y_1.1 y_1.2) CItem.enc =
 SV.lst CItem (byKeysL (List.take y_2 y)) CItem.enc ∧
 eqI (↑x + 1) ↑y_2 ∧ True) ∧
 (True ∧ True) ∧ True))
 (SV.lst CItem (byKeysL (List.take x y)) CItem.enc = SV.lst CItem (byKeysL y) CItem.enc ∧ True)) := by kernel_rfl
theorem vcDomains : (askY (fun (y : Con.Y cDomains) => cfgI conI6 (annMore F.ref25_Domains 7 (aDomains2 y) (annAt F.ref25_Domains 3 (aDomains y)))) 600 F.ref25_Domains) = (∀ (y : List CItem),
 y.length ≤ 10000 →
 (∃ (x : Nat),
 x ≤ y.length ∧
 (SV.lst CItem y CItem.enc = SV.lst CItem y CItem.enc ∧
 SV.lst (View.X { X := Bs, enc := encTx }) [] (View.enc { X := Bs, enc := encTx }) =
 SV.lst Bs (domainsL (List.take x y)) encTx ∧
 eqI 0 ↑x ∧ True) ∧
 (True ∧ True) ∧ True) ∧
 ∀ (x : Nat),
 x ≤ y.length →
 br (ltI (↑x) (Int.ofNat y.length))
 (so y[Int.toNat ↑x]? fun (val : CItem) =>
 ∃ (x0 : Nat × Nat),
 (∃ (x_1 : Nat × Nat),
 ((∃ (h : x_1.1 < y.length),
 x_1.2 ≤ posD (domainsL (List.take x_1.1 y)) (CKey.domain (CItem.key y[x_1.1]))) ∧
 x_1.1 = x0.1) ∧
 (SV.lst CItem y CItem.enc = SV.lst CItem y CItem.enc ∧
 SV.lst Bs (domainsL (List.take x y)) encTx =
 SV.lst Bs (domainsL (List.take x_1.1 y)) encTx ∧
 eqI ↑x ↑x_1.1 ∧
 val.key.domain = CKey.domain (CItem.key (Option.getD y[x_1.1]? zeroItem)) ∧
 eqI 0 ↑x_1.2 ∧ True) ∧
 (True ∧ True) ∧ True) ∧
 ∀ (x_1 : Nat × Nat),
 (∃ (h : x_1.1 < y.length),
 x_1.2 ≤ posD (domainsL (List.take x_1.1 y)) (CKey.domain (CItem.key y[x_1.1]))) ∧
 x_1.1 = x0.1 →
 br (ltI (↑x_1.2) (Int.ofNat (List.length (domainsL (List.take x_1.1 y)))))
 (so (domainsL (List.take x_1.1 y))[Int.toNat ↑x_1.2]? fun (val : Bs) =>
 br (Go.Op.bytesLess val (CKey.domain (CItem.key (Option.getD y[x_1.1]? zeroItem))))
 (ck (inR Go.IntKind.i64 (↑x_1.2 + 1))
 (∃ (y_1 : Nat × Nat),
 ((∃ (h : y_1.1 < y.length),
 y_1.2 ≤
 posD (domainsL (List.take y_1.1 y)) (CKey.domain (CItem.key y[y_1.1]))) ∧
 y_1.1 = x0.1) ∧
 Ann.μ (Ann.when (aDomains2 y) (fun (a b : Nat × Nat) => b.1 = a.1) x0) y_1 <
 Ann.μ (Ann.when (aDomains2 y) (fun (a b : Nat × Nat) => b.1 = a.1) x0) x_1 ∧
 (SV.lst CItem y CItem.enc = SV.lst CItem y CItem.enc ∧
 SV.lst Bs (domainsL (List.take x_1.1 y)) encTx =
 SV.lst Bs (domainsL (List.take y_1.1 y)) encTx ∧
 eqI ↑x_1.1 ↑y_1.1 ∧
 CKey.domain (CItem.key (Option.getD y[x_1.1]? zeroItem)) =
 CKey.domain (CItem.key (Option.getD y[y_1.1]? zeroItem)) ∧
 eqI (↑x_1.2 + 1) ↑y_1.2 ∧ True) ∧
 (True ∧ True) ∧ True))
 (br ((↑x_1.2 : Int) == Int.ofNat (List.length (domainsL (List.take x_1.1 y))))
 ((∀ (x : Bs), List.length (encTx x) = 1) ∧
 ck (Nat.ble (Int.toNat ↑x_1.2) (List.length (domainsL (List.take x_1.1 y))))
 ((∀ (x : Bs), List.length (encTx x) = 1) ∧
 ck (Nat.ble (Int.toNat ↑x_1.2) (List.length (domainsL (List.take x_1.1 y))))
 ((∀ (x : Bs), List.length (encTx x) = 1 ∧ List.all (encTx x) isPure = Bool.true) ∧
 ∃ (M' : List (View.X { X := Bs, enc := encTx })),
 SV.lst Bs (List.take (Int.toNat ↑x_1.2) (domainsL (List.take x_1.1 y))) encTx =
 SV.lst (View.X { X := Bs, enc := encTx }) M'
 (View.enc { X := Bs, enc := encTx }) ∧
 ck (Nat.ble ((List.length ([] : List Nat) + M'.length) * 16) 16777216 && Nat.ble (List.length ([] : List Nat) + M'.length) 16777216)
 (∃ (x_2 : View.X { X := Bs, enc := encTx }),
 [SV.str x_2] =
 [SV.str (CKey.domain (CItem.key (Option.getD y[x_1.1]? zeroItem)))] ∧
 ck
 (Nat.ble ((List.length ([] ++ M') + List.length [x_2]) * 16) 16777216 &&
 Nat.ble (List.length ([] ++ M') + List.length [x_2]) 16777216)
 ((∀ (x : Bs), List.length (encTx x) = 1 ∧ List.all (encTx x) isPure = Bool.true) ∧
 ∃ (M'_1 : List (View.X { X := Bs, enc := encTx })),
 SV.lst Bs (List.drop (Int.toNat ↑x_1.2) (domainsL (List.take x_1.1 y)))
 encTx =
 SV.lst (View.X { X := Bs, enc := encTx }) M'_1
 (View.enc { X := Bs, enc := encTx }) ∧
 ck
 (Nat.ble ((List.length ([] ++ M' ++ [x_2]) + M'_1.length) * 16) 16777216 &&
 Nat.ble (List.length ([] ++ M' ++ [x_2]) + M'_1.length) 16777216)
 (ck (inR Go.IntKind.i64 (↑x_1.1 + 1))
 (∃ (y_1 : Nat),
 y_1 ≤ y.length ∧
 Ann.μ (aDomains y) y_1 < Ann.μ (aDomains y) x ∧
 (SV.lst CItem y CItem.enc = SV.lst CItem y CItem.enc ∧
 SV.lst (View.X { X := Bs, enc := encTx }) ([] ++ M' ++ [x_2] ++ M'_1)
 (View.enc { X := Bs, enc := encTx }) =
 SV.lst Bs (domainsL (List.take y_1 y)) encTx ∧
 eqI (↑x_1.1 + 1) ↑y_1 ∧ True) ∧
 (True ∧ True) ∧ True)))))))
 (so (domainsL (List.take x_1.1 y))[Int.toNat ↑x_1.2]? fun (val : Bs) =>
 br (!val == CKey.domain (CItem.key (Option.getD y[x_1.1]? zeroItem)))
 ((∀ (x : Bs), List.length (encTx x) = 1) ∧
 ck (Nat.ble (Int.toNat ↑x_1.2) (List.length (domainsL (List.take x_1.1 y))))
 ((∀ (x : Bs), List.length (encTx x) = 1) ∧
 ck (Nat.ble (Int.toNat ↑x_1.2) (List.length (domainsL (List.take x_1.1 y))))
 ((∀ (x : Bs), List.length (encTx x) = 1 ∧ List.all (encTx x) isPure = Bool.true) ∧
 ∃ (M' : List (View.X { X := Bs, enc := encTx })),
 SV.lst Bs (List.take (Int.toNat ↑x_1.2) (domainsL (List.take x_1.1 y))) encTx =
 SV.lst (View.X { X := Bs, enc := encTx }) M'
 (View.enc { X := Bs, enc := encTx }) ∧
 ck (Nat.ble ((List.length ([] : List Nat) + M'.length) * 16) 16777216 && Nat.ble (List.length ([] : List Nat) + M'.length) 16777216)
 (∃ (x_2 : View.X { X := Bs, enc := encTx }),
 [SV.str x_2] =
 [SV.str (CKey.domain (CItem.key (Option.getD y[x_1.1]? zeroItem)))] ∧
 ck
 (Nat.ble ((List.length ([] ++ M') + List.length [x_2]) * 16) 16777216 &&
 Nat.ble (List.length ([] ++ M') + List.length [x_2]) 16777216)
 ((∀ (x : Bs), List.length (encTx x) = 1 ∧ List.all (encTx x) isPure = Bool.true) ∧
 ∃ (M'_1 : List (View.X { X := Bs, enc := encTx })),
 SV.lst Bs (List.drop (Int.toNat ↑x_1.2) (domainsL (List.take x_1.1 y)))
 encTx =
 SV.lst (View.X { X := Bs, enc := encTx }) M'_1
 (View.enc { X := Bs, enc := encTx }) ∧
 ck
 (Nat.ble ((List.length ([] ++ M' ++ [x_2]) + M'_1.length) * 16) 16777216 &&
 Nat.ble (List.length ([] ++ M' ++ [x_2]) + M'_1.length) 16777216)
 (ck (inR Go.IntKind.i64 (↑x_1.1 + 1))
 (∃ (y_1 : Nat),
 y_1 ≤ y.length ∧
 Ann.μ (aDomains y) y_1 < Ann.μ (aDomains y) x ∧
 (SV.lst CItem y CItem.enc = SV.lst CItem y CItem.enc ∧
 SV.lst (View.X { X := Bs, enc := encTx }) ([] ++ M' ++ [x_2] ++ M'_1)
 (View.enc { X := Bs, enc := encTx }) =
 SV.lst Bs (domainsL (List.take y_1 y)) encTx ∧
 eqI (↑x_1.1 + 1) ↑y_1 ∧ True) ∧
 (True ∧ True) ∧ True)))))))
 (ck (inR Go.IntKind.i64 (↑x_1.1 + 1))
 (∃ (y_1 : Nat),
 y_1 ≤ y.length ∧
 Ann.μ (aDomains y) y_1 < Ann.μ (aDomains y) x ∧
 (SV.lst CItem y CItem.enc = SV.lst CItem y CItem.enc ∧
 SV.lst Bs (domainsL (List.take x_1.1 y)) encTx =
 SV.lst Bs (domainsL (List.take y_1 y)) encTx ∧
 eqI (↑x_1.1 + 1) ↑y_1 ∧ True) ∧
 (True ∧ True) ∧ True)))))
 (br ((↑x_1.2 : Int) == Int.ofNat (List.length (domainsL (List.take x_1.1 y))))
 ((∀ (x : Bs), List.length (encTx x) = 1) ∧
 ck (Nat.ble (Int.toNat ↑x_1.2) (List.length (domainsL (List.take x_1.1 y))))
 ((∀ (x : Bs), List.length (encTx x) = 1) ∧
 ck (Nat.ble (Int.toNat ↑x_1.2) (List.length (domainsL (List.take x_1.1 y))))
 ((∀ (x : Bs), List.length (encTx x) = 1 ∧ List.all (encTx x) isPure = Bool.true) ∧
 ∃ (M' : List (View.X { X := Bs, enc := encTx })),
 SV.lst Bs (List.take (Int.toNat ↑x_1.2) (domainsL (List.take x_1.1 y))) encTx =
 SV.lst (View.X { X := Bs, enc := encTx }) M'
 (View.enc { X := Bs, enc := encTx }) ∧
 ck (Nat.ble ((List.length ([] : List Nat) + M'.length) * 16) 16777216 && Nat.ble (List.length ([] : List Nat) + M'.length) 16777216)
 (∃ (x_2 : View.X { X := Bs, enc := encTx }),
 [SV.str x_2] = [SV.str (CKey.domain (CItem.key (Option.getD y[x_1.1]? zeroItem)))] ∧
 ck
 (Nat.ble ((List.length ([] ++ M') + List.length [x_2]) * 16) 16777216 &&
 Nat.ble (List.length ([] ++ M') + List.length [x_2]) 16777216)
 ((∀ (x : Bs), List.length (encTx x) = 1 ∧ List.all (encTx x) isPure = Bool.true) ∧
 ∃ (M'_1 : List (View.X { X := Bs, enc := encTx })),
 SV.lst Bs (List.drop (Int.toNat ↑x_1.2) (domainsL (List.take x_1.1 y)))
 encTx =
 SV.lst (View.X { X := Bs, enc := encTx }) M'_1
 (View.enc { X := Bs, enc := encTx }) ∧
 ck
 (Nat.ble ((List.length ([] ++ M' ++ [x_2]) + M'_1.length) * 16) 16777216 &&
 Nat.ble (List.length ([] ++ M' ++ [x_2]) + M'_1.length) 16777216)
 (ck (inR Go.IntKind.i64 (↑x_1.1 + 1))
 (∃ (y_1 : Nat),
 y_1 ≤ y.length ∧
 Ann.μ (aDomains y) y_1 < Ann.μ (aDomains y) x ∧
 (SV.lst CItem y CItem.enc = SV.lst CItem y CItem.enc ∧
 SV.lst (View.X { X := Bs, enc := encTx }) ([] ++ M' ++ [x_2] ++ M'_1)
 (View.enc { X := Bs, enc := encTx }) =
 SV.lst Bs (domainsL (List.take y_1 y)) encTx ∧
 eqI (↑x_1.1 + 1) ↑y_1 ∧ True) ∧
 (True ∧ True) ∧ True)))))))
 (so (domainsL (List.take x_1.1 y))[Int.toNat ↑x_1.2]? fun (val : Bs) =>
 br (!val == CKey.domain (CItem.key (Option.getD y[x_1.1]? zeroItem)))
 ((∀ (x : Bs), List.length (encTx x) = 1) ∧
 ck (Nat.ble (Int.toNat ↑x_1.2) (List.length (domainsL (List.take x_1.1 y))))
 ((∀ (x : Bs), List.length (encTx x) = 1) ∧
 ck (Nat.ble (Int.toNat ↑x_1.2) (List.length (domainsL (List.take x_1.1 y))))
 ((∀ (x : Bs), List.length (encTx x) = 1 ∧ List.all (encTx x) isPure = Bool.true) ∧
 ∃ (M' : List (View.X { X := Bs, enc := encTx })),
 SV.lst Bs (List.take (Int.toNat ↑x_1.2) (domainsL (List.take x_1.1 y))) encTx =
 SV.lst (View.X { X := Bs, enc := encTx }) M'
 (View.enc { X := Bs, enc := encTx }) ∧
 ck (Nat.ble ((List.length ([] : List Nat) + M'.length) * 16) 16777216 && Nat.ble (List.length ([] : List Nat) + M'.length) 16777216)
 (∃ (x_2 : View.X { X := Bs, enc := encTx }),
 [SV.str x_2] =
 [SV.str (CKey.domain (CItem.key (Option.getD y[x_1.1]? zeroItem)))] ∧
 ck
 (Nat.ble ((List.length ([] ++ M') + List.length [x_2]) * 16) 16777216 &&
 Nat.ble (List.length ([] ++ M') + List.length [x_2]) 16777216)
 ((∀ (x : Bs), List.length (encTx x) = 1 ∧ List.all (encTx x) isPure = Bool.true) ∧
 ∃ (M'_1 : List (View.X { X := Bs, enc := encTx })),
 SV.lst Bs (List.drop (Int.toNat ↑x_1.2) (domainsL (List.take x_1.1 y)))
 encTx =
 SV.lst (View.X { X := Bs, enc := encTx }) M'_1
 (View.enc { X := Bs, enc := encTx }) ∧
 ck
 (Nat.ble ((List.length ([] ++ M' ++ [x_2]) + M'_1.length) * 16) 16777216 &&
 Nat.ble (List.length ([] ++ M' ++ [x_2]) + M'_1.length) 16777216)
 (ck (inR Go.IntKind.i64 (↑x_1.1 + 1))
 (∃ (y_1 : Nat),
 y_1 ≤ y.length ∧
 Ann.μ (aDomains y) y_1 < Ann.μ (aDomains y) x ∧
 (SV.lst CItem y CItem.enc = SV.lst CItem y CItem.enc ∧
 SV.lst (View.X { X := Bs, enc := encTx }) ([] ++ M' ++ [x_2] ++ M'_1)
 (View.enc { X := Bs, enc := encTx }) =
 SV.lst Bs (domainsL (List.take y_1 y)) encTx ∧
 eqI (↑x_1.1 + 1) ↑y_1 ∧ True) ∧
 (True ∧ True) ∧ True)))))))
 (ck (inR Go.IntKind.i64 (↑x_1.1 + 1))
 (∃ (y_1 : Nat),
 y_1 ≤ y.length ∧
 Ann.μ (aDomains y) y_1 < Ann.μ (aDomains y) x ∧
 (SV.lst CItem y CItem.enc = SV.lst CItem y CItem.enc ∧
 SV.lst Bs (domainsL (List.take x_1.1 y)) encTx =
 SV.lst Bs (domainsL (List.take y_1 y)) encTx ∧
 eqI (↑x_1.1 + 1) ↑y_1 ∧ True) ∧
 (True ∧ True) ∧ True)))))
 (SV.lst Bs (domainsL (List.take x y)) encTx = SV.lst Bs (domainsL y) encTx ∧ True)) := by kernel_rfl
end Go.Proofs

set_option maxRecDepth 100000
namespace Go.Proofs
open Go Go.Am Go.RowKit Go.Sy
variable [Inhabited DrP]
theorem conI1_ok : ∀ g C, conI1 g = some C → Go.Sy.ConOK Tryz.prog Tryz.tab g C := con_step okCmpS (con_step okAwake26 conH7_ok)
theorem key_beq (a b : CKey) : (a.name == b.name && (a.domain == b.domain && (a.path == b.path && true))) = decide (a = b) := by
  rw [Bool.eq_iff_iff]
  cases a; cases b
  simp
section
variable {l : List CItem} {p : CItem → Bool} {x : Nat}
theorem filter_next (h : x < l.length) : (l.take (x + 1)).filter p = (l.take x).filter p ++ if p l[x] then [l[x]] else [] := by
  rw [List.take_succ_eq_append_getElem h, List.filter_append]
  by_cases hp : p l[x] = true <;> simp [hp]
theorem filter_len : ((l.take x).filter p).length ≤ x := Nat.le_trans (List.length_filter_le _ _) (by simp; omega)
theorem filter_all (h : ¬ (x : Int) < Int.ofNat l.length) : (l.take x).filter p = l.filter p := by
  rw [List.take_of_length_le (by simp only [Int.ofNat_eq_natCast] at h; omega)]
end
theorem okOver : Go.Sy.ConOK Tryz.prog Tryz.tab F.cookie_Over cOver := askY_ok (cfg := fun y => cfgI con0 (noAnn y)) Tryz.prOk (fun _ => rfl) (fun _ => con0_ok) (n := 400) (by
  rw [vcOver]
  rintro ⟨c, now⟩ _
  refine br_iff.2 ⟨fun h => ⟨?_, trivial⟩, fun h => ⟨?_, trivial⟩⟩
  · have h : c.persistent = true := h
    unfold overC
    rw [h, leI_eq, Bool.true_and]
  · have h : c.persistent = false := h
    unfold overC
    rw [h, Bool.false_and])
theorem okOverR : Go.Sy.ConOK Tryz.prog Tryz.tab F.ref14_Over cOver := askY_ok (cfg := fun y => cfgI con0 (noAnn y)) Tryz.prOk (fun _ => rfl) (fun _ => con0_ok) (n := 400) (by
  rw [vcOverR]
  rintro ⟨c, now⟩ _
  refine br_iff.2 ⟨fun h => ⟨?_, trivial⟩, fun h => ⟨?_, trivial⟩⟩
  · have h : c.persistent = true := h
    unfold overC
    rw [h, leI_eq, Bool.true_and]
  · have h : c.persistent = false := h
    unfold overC
    rw [h, Bool.false_and])
theorem okCmpI : Go.Sy.ConOK Tryz.prog Tryz.tab F.cmp_Compare_int cCmpI := askY_ok (cfg := fun y => cfgI con0 (noAnn y)) Tryz.prOk (fun _ => rfl) (fun _ => con0_ok) (n := 400) (by
  rw [vcCmpI]
  rintro ⟨a, b⟩ -
  simp [br_iff, ltI_eq, cmpI]
  refine ⟨fun h1 h2 => by omega, fun h1 => ⟨fun h2 => ?_, fun h2 => ?_⟩⟩
  · rw [if_neg (by omega), if_pos h2]
  · rw [if_neg (by omega), if_neg (by omega)])
theorem okCmpS2 : Go.Sy.ConOK Tryz.prog Tryz.tab F.strings_Compare cCmpS := askY_ok (cfg := fun y => cfgI conI1 (noAnn y)) Tryz.prOk (fun _ => rfl) (fun _ => conI1_ok) (n := 400) (by
  rw [vcCmpS]
  rintro ⟨a, b⟩ -
  exact ⟨(a, b), rfl, rfl, trivial, rfl, trivial⟩)
theorem conI2_ok : ∀ g C, conI2 g = some C → Go.Sy.ConOK Tryz.prog Tryz.tab g C := con_step okOver (con_step okOverR (con_step okCmpI (con_step okCmpS2 conI1_ok)))
theorem okKeys : Go.Sy.ConOK Tryz.prog Tryz.tab F.match_keys cKeys := askY_ok (cfg := fun y => cfgI conI2 (noAnn y)) Tryz.prOk (fun _ => rfl) (fun _ => conI2_ok) (n := 600) (by
  rw [vcKeys]
  rintro ⟨a, b⟩ -
  refine ⟨(_, _), rfl, rfl, trivial, ⟨(_, _), rfl, rfl, trivial, ⟨(_, _), rfl, rfl, trivial, ?_⟩⟩⟩
  simp only [br_iff, keyCmp, and_true]
  generalize cmpS a.name b.name = n
  generalize cmpS a.domain b.domain = d
  generalize cmpS a.path b.path = p
  refine ⟨fun h => ?_, fun h => ⟨fun h2 => ?_, fun h2 => ⟨fun h3 => ?_, fun h3 => ?_⟩⟩⟩ <;> simp_all)
theorem conI3_ok : ∀ g C, conI3 g = some C → Go.Sy.ConOK Tryz.prog Tryz.tab g C := con_step okKeys conI2_ok
theorem okLess : Go.Sy.ConOK Tryz.prog Tryz.tab F.match_Less cLess := askY_ok (cfg := fun y => cfgI conI3 (noAnn y)) Tryz.prOk (fun _ => rfl) (fun _ => conI3_ok) (n := 400) (by
  rw [vcLess]
  rintro ⟨a, b⟩ -
  refine ⟨(a, b), rfl, rfl, rfl, rfl, rfl, rfl, trivial, ?_, trivial⟩
  simp only [ltI_eq, keyLess])
theorem okLessR : Go.Sy.ConOK Tryz.prog Tryz.tab F.ref15_Less cLess := askY_ok (cfg := fun y => cfgI con0 (noAnn y)) Tryz.prOk (fun _ => rfl) (fun _ => con0_ok) (n := 400) (by
  rw [vcLessR]
  rintro ⟨a, b⟩ -
  simp only [br_iff, keyLess_eq]
  refine ⟨fun h => ?_, fun h => ⟨fun h2 => ?_, fun h2 => ?_⟩⟩ <;> simp_all)
theorem conI4_ok : ∀ g C, conI4 g = some C → Go.Sy.ConOK Tryz.prog Tryz.tab g C := con_step okLess (con_step okLessR conI3_ok)
theorem okStale : Go.Sy.ConOK Tryz.prog Tryz.tab F.evict_stale cStale := askY_ok (cfg := fun y => cfgI conI4 (noAnn y)) Tryz.prOk (fun _ => rfl) (fun _ => conI4_ok) (n := 600) (by
  rw [vcStale]
  rintro ⟨a, b⟩ -
  refine ⟨(_, _), rfl, rfl, trivial, ⟨(_, _), rfl, rfl, trivial, ?_⟩⟩
  simp only [key_beq, br_iff, staleK]
  generalize cmpI a.cookie.access b.cookie.access = n
  generalize cmpI a.cookie.creation b.cookie.creation = m
  refine ⟨fun hn => ⟨fun _ => ?_, fun hn2 => ?_⟩, fun hn => ⟨fun hm => ⟨fun _ => ?_, fun hm2 => ?_⟩, fun hm => ⟨fun hkk => ?_, fun hkk => ⟨(a.key, b.key), rfl, rfl, rfl, rfl, rfl, rfl, trivial, fun hl => ?_, fun hl => ?_⟩⟩⟩⟩
  all_goals simp_all)
theorem stale_neg (a b : CItem) : stalerB a b = if a.cookie.access ≠ b.cookie.access then decide (a.cookie.access < b.cookie.access) else if a.cookie.creation ≠ b.cookie.creation then decide (a.cookie.creation < b.cookie.creation) else keyLess a.key b.key := by
  unfold stalerB staleK
  have e1 := cmpI_zero a.cookie.access b.cookie.access
  have e2 := cmpI_zero a.cookie.creation b.cookie.creation
  have e3 := cmpI_neg a.cookie.access b.cookie.access
  have e4 := cmpI_neg a.cookie.creation b.cookie.creation
  revert e1 e2 e3 e4
  generalize cmpI a.cookie.access b.cookie.access = n
  generalize cmpI a.cookie.creation b.cookie.creation = m
  intro e1 e2 e3 e4
  by_cases h1 : a.cookie.access = b.cookie.access
  · have h5 : n = 0 := e1.2 h1
    subst h5
    by_cases h2 : a.cookie.creation = b.cookie.creation
    · have h6 : m = 0 := e2.2 h2
      subst h6
      by_cases h3 : a.key = b.key
      · simp [h1, h2, h3, keyLess_irrefl]
      · by_cases h4 : keyLess a.key b.key = true <;> simp [h1, h2, h3, h4]
    · have h6 : m ≠ 0 := fun h => h2 (e2.1 h)
      simp [h1, h2, h6, e4]
  · have h6 : n ≠ 0 := fun h => h1 (e1.1 h)
    simp [h1, h6, e3]
theorem okStalerR : Go.Sy.ConOK Tryz.prog Tryz.tab F.ref26_Staler cStaler := askY_ok (cfg := fun y => cfgI conI4 (noAnn y)) Tryz.prOk (fun _ => rfl) (fun _ => conI4_ok) (n := 400) (by
  rw [vcStalerR]
  rintro ⟨a, b⟩ -
  simp only [stale_neg]
  refine br_iff.2 ⟨fun h => ⟨?_, trivial⟩, fun h => br_iff.2 ⟨fun h2 => ⟨?_, trivial⟩, fun h2 => ⟨(a.key, b.key), rfl, rfl, rfl, rfl, rfl, rfl, trivial, ?_, trivial⟩⟩⟩
  · rw [if_pos (by simpa using h), ltI_eq]
  · rw [if_neg (by simpa using h), if_pos (by simpa using h2), ltI_eq]
  · rw [if_neg (by simpa using h), if_neg (by simpa using h2)])
theorem conI5_ok : ∀ g C, conI5 g = some C → Go.Sy.ConOK Tryz.prog Tryz.tab g C := con_step okStale (con_step okStalerR conI4_ok)
theorem okStaler : Go.Sy.ConOK Tryz.prog Tryz.tab F.evict_Staler cStaler := askY_ok (cfg := fun y => cfgI conI5 (noAnn y)) Tryz.prOk (fun _ => rfl) (fun _ => conI5_ok) (n := 400) (by
  rw [vcStaler]
  rintro ⟨a, b⟩ -
  refine ⟨(a, b), ?_⟩
  (repeat' (first | exact trivial | exact rfl | exact (fun _ => rfl) | refine And.intro ?_ ?_))
  all_goals (simp only [ltI_eq, stalerB]))
theorem risingL_iff : ∀ l : List CItem, risingL l = true ↔ ∀ (j : Nat) (h : j + 1 < l.length), keyLess (l[j]'(by omega)).key l[j + 1].key = true
  | [] => by simp [risingL]
  | [x] => by simp [risingL]
  | x :: y :: l => by
    rw [risingL, Bool.and_eq_true, risingL_iff (y :: l)]
    constructor
    · rintro ⟨h1, h2⟩ j hj
      cases j with
      | zero => exact h1
      | succ j => exact h2 j (by simpa using hj)
    · intro h
      exact ⟨h 0 (by simp), fun j hj => h (j + 1) (by simpa using hj)⟩
theorem okRising : Go.Sy.ConOK Tryz.prog Tryz.tab F.evict_rising cRising := askY_ok (cfg := fun y => cfgI conI4 (annAt F.evict_rising 2 (aRising y))) Tryz.prOk (fun _ => rfl) (fun _ => conI4_ok) (n := 400) (by
  rw [vcRising]
  intro l hpre
  have hpre : l.length ≤ 10000 := hpre
  refine ⟨⟨1, ⟨by omega, by omega, fun j h hj => by omega⟩, ⟨rfl, rfl, trivial⟩, trivial, trivial⟩, ?_⟩
  rintro x ⟨h1, hx, hall⟩
  refine br_iff.2 ⟨fun hlt => ?_, fun hge => ⟨?_, trivial⟩⟩
  · have hlt' := lt_of_ltI hlt
    have e : Int.toNat ((x : Int) - 1) = x - 1 := by omega
    refine ck_iff.2 ⟨by rw [inR64]; omega, ck_iff.2 ⟨by rw [nn_eq, decide_eq_true_eq]; omega, so_iff.2 ⟨l[x - 1], by rw [e]; exact List.getElem?_eq_getElem (by omega), so_iff.2 ⟨l[x], get_ok hlt', ((l[x - 1]).key, (l[x]).key), rfl, rfl, rfl, rfl, rfl, rfl, trivial, br_iff.2 ⟨fun h => ⟨?_, trivial⟩, fun h => ck_iff.2 ⟨inR_nat x (by omega), x + 1, ⟨by omega, by omega, fun j hj hjx => ?_⟩, ?_, ⟨rfl, rfl, trivial⟩, trivial, trivial⟩⟩⟩⟩⟩⟩
    · symm
      rw [Bool.eq_false_iff]
      intro hr
      have := (risingL_iff l).1 hr (x - 1) (by omega)
      simp only [show x - 1 + 1 = x by omega] at this
      simp [this] at h
    · by_cases e2 : j + 1 = x
      · subst e2
        simpa using h
      · exact hall j hj (by omega)
    · show l.length + 1 - (x + 1) < l.length + 1 - x
      omega
  · symm
    rw [risingL_iff]
    intro j hj
    have := ge_of_ltI hge
    simp only [Int.ofNat_eq_natCast] at this
    exact hall j hj (by omega))
theorem okRisingR : Go.Sy.ConOK Tryz.prog Tryz.tab F.ref26_Rising cRising := askY_ok (cfg := fun y => cfgI conI4 (annAt F.ref26_Rising 2 (aRising y))) Tryz.prOk (fun _ => rfl) (fun _ => conI4_ok) (n := 400) (by
  rw [vcRisingR]
  intro l hpre
  have hpre : l.length ≤ 10000 := hpre
  refine ⟨⟨1, ⟨by omega, by omega, fun j h hj => by omega⟩, ⟨rfl, rfl, trivial⟩, trivial, trivial⟩, ?_⟩
  rintro x ⟨h1, hx, hall⟩
  refine br_iff.2 ⟨fun hlt => ?_, fun hge => ⟨?_, trivial⟩⟩
  · have hlt' := lt_of_ltI hlt
    have e : Int.toNat ((x : Int) - 1) = x - 1 := by omega
    refine ck_iff.2 ⟨by rw [inR64]; omega, ck_iff.2 ⟨by rw [nn_eq, decide_eq_true_eq]; omega, so_iff.2 ⟨l[x - 1], by rw [e]; exact List.getElem?_eq_getElem (by omega), so_iff.2 ⟨l[x], get_ok hlt', ((l[x - 1]).key, (l[x]).key), rfl, rfl, rfl, rfl, rfl, rfl, trivial, br_iff.2 ⟨fun h => ⟨?_, trivial⟩, fun h => ck_iff.2 ⟨inR_nat x (by omega), x + 1, ⟨by omega, by omega, fun j hj hjx => ?_⟩, ?_, ⟨rfl, rfl, trivial⟩, trivial, trivial⟩⟩⟩⟩⟩⟩
    · symm
      rw [Bool.eq_false_iff]
      intro hr
      have := (risingL_iff l).1 hr (x - 1) (by omega)
      simp only [show x - 1 + 1 = x by omega] at this
      simp [this] at h
    · by_cases e2 : j + 1 = x
      · subst e2
        simpa using h
      · exact hall j hj (by omega)
    · show l.length + 1 - (x + 1) < l.length + 1 - x
      omega
  · symm
    rw [risingL_iff]
    intro j hj
    have := ge_of_ltI hge
    simp only [Int.ofNat_eq_natCast] at this
    exact hall j hj (by omega))
theorem okWithout : Go.Sy.ConOK Tryz.prog Tryz.tab F.view_Without cWithout := askY_ok (cfg := fun y => cfgI con0 (annAt F.view_keep_Item 3 (aKeep (y : List CItem × CKey).1 fun x => decide (x.key ≠ (y : List CItem × CKey).2)))) Tryz.prOk (fun _ => rfl) (fun _ => con0_ok) (n := 600) (by
  rw [vcWithout]
  rintro ⟨l, k⟩ hpre
  have hpre : l.length ≤ 10000 := hpre
  refine ⟨⟨0, by simp, ?_⟩, ?_⟩
  · (repeat' (first | exact trivial | exact rfl | exact (fun _ => rfl) | refine And.intro ?_ ?_))
  intro x hx
  refine br_iff.2 ⟨fun hlt => so_iff.2 ⟨_, get_ok (lt_of_ltI hlt), ?_⟩, fun hge => ⟨by rw [filter_all (ge_of_ltI hge)]; rfl, trivial⟩⟩
  have hlt' : x < l.length := lt_of_ltI hlt
  have hlen := filter_len (l := l) (x := x) (p := fun z : CItem => decide (z.key ≠ k))
  refine br_iff.2 ⟨fun h => ⟨l[x], rfl, ck_iff.2 ⟨by simp only [Bool.and_eq_true, Nat.ble_eq, List.length_cons, List.length_nil]; omega, ck_iff.2 ⟨inR_nat x (by omega), x + 1, hlt', ?_, ?_⟩⟩⟩, fun h => ck_iff.2 ⟨inR_nat x (by omega), x + 1, hlt', ?_, ?_⟩⟩
  · show l.length - (x + 1) < l.length - x
    omega
  · have hp : (fun z : CItem => decide (z.key ≠ k)) l[x] = true := by rw [key_beq] at h; simpa using h
    have hf := filter_next (p := fun z : CItem => decide (z.key ≠ k)) hlt'
    rw [if_pos hp] at hf
    (repeat' (first | exact trivial | exact rfl | exact (fun _ => rfl) | refine And.intro ?_ ?_))
    all_goals (first | (rw [hf]) | (simp [eqI]))
  · show l.length - (x + 1) < l.length - x
    omega
  · have hp : (fun z : CItem => decide (z.key ≠ k)) l[x] = false := by rw [key_beq] at h; simpa using h
    have hf := filter_next (p := fun z : CItem => decide (z.key ≠ k)) hlt'
    rw [if_neg (by simp only [hp]; simp), List.append_nil] at hf
    (repeat' (first | exact trivial | exact rfl | exact (fun _ => rfl) | refine And.intro ?_ ?_))
    all_goals (first | (rw [hf]) | (simp [eqI])))
theorem okWithoutR : Go.Sy.ConOK Tryz.prog Tryz.tab F.ref25_Without cWithout := askY_ok (cfg := fun y => cfgI con0 (annAt F.ref25_Without 3 (aWithoutR y))) Tryz.prOk (fun _ => rfl) (fun _ => con0_ok) (n := 400) (by
  rw [vcWithoutR]
  rintro ⟨l, k⟩ hpre
  have hpre : l.length ≤ 10000 := hpre
  refine ⟨⟨0, by simp, ?_⟩, ?_⟩
  · (repeat' (first | exact trivial | exact rfl | exact (fun _ => rfl) | refine And.intro ?_ ?_))
  intro x hx
  refine br_iff.2 ⟨fun hlt => so_iff.2 ⟨_, get_ok (lt_of_ltI hlt), ?_⟩, fun hge => ⟨by rw [filter_all (ge_of_ltI hge)]; rfl, trivial⟩⟩
  have hlt' : x < l.length := lt_of_ltI hlt
  have hlen := filter_len (l := l) (x := x) (p := fun z : CItem => decide (z.key ≠ k))
  refine br_iff.2 ⟨fun h => so_iff.2 ⟨l[x], get_ok hlt', ⟨l[x], rfl, ck_iff.2 ⟨by simp only [Bool.and_eq_true, Nat.ble_eq, List.length_cons, List.length_nil]; omega, ck_iff.2 ⟨inR_nat x (by omega), x + 1, hlt', ?_, ?_⟩⟩⟩⟩, fun h => ck_iff.2 ⟨inR_nat x (by omega), x + 1, hlt', ?_, ?_⟩⟩
  · show l.length - (x + 1) < l.length - x
    omega
  · have hp : (fun z : CItem => decide (z.key ≠ k)) l[x] = true := by rw [key_beq] at h; simpa using h
    have hf := filter_next (p := fun z : CItem => decide (z.key ≠ k)) hlt'
    rw [if_pos hp] at hf
    (repeat' (first | exact trivial | exact rfl | exact (fun _ => rfl) | refine And.intro ?_ ?_))
    all_goals (first | (rw [hf]) | (simp [eqI]))
  · show l.length - (x + 1) < l.length - x
    omega
  · have hp : (fun z : CItem => decide (z.key ≠ k)) l[x] = false := by rw [key_beq] at h; simpa using h
    have hf := filter_next (p := fun z : CItem => decide (z.key ≠ k)) hlt'
    rw [if_neg (by simp only [hp]; simp), List.append_nil] at hf
    (repeat' (first | exact trivial | exact rfl | exact (fun _ => rfl) | refine And.intro ?_ ?_))
    all_goals (first | (rw [hf]) | (simp [eqI])))
theorem okDomain : Go.Sy.ConOK Tryz.prog Tryz.tab F.view_Domain cDomain := askY_ok (cfg := fun y => cfgI con0 (annAt F.view_keep_Item 3 (aKeep (y : List CItem × Bs).1 fun x => decide (x.key.domain = (y : List CItem × Bs).2)))) Tryz.prOk (fun _ => rfl) (fun _ => con0_ok) (n := 600) (by
  rw [vcDomain]
  rintro ⟨l, k⟩ hpre
  have hpre : l.length ≤ 10000 := hpre
  refine ⟨⟨0, by simp, ?_⟩, ?_⟩
  · (repeat' (first | exact trivial | exact rfl | exact (fun _ => rfl) | refine And.intro ?_ ?_))
  intro x hx
  refine br_iff.2 ⟨fun hlt => so_iff.2 ⟨_, get_ok (lt_of_ltI hlt), ?_⟩, fun hge => ⟨by rw [filter_all (ge_of_ltI hge)]; rfl, trivial⟩⟩
  have hlt' : x < l.length := lt_of_ltI hlt
  have hlen := filter_len (l := l) (x := x) (p := fun z : CItem => decide (z.key.domain = k))
  refine br_iff.2 ⟨fun h => ⟨l[x], rfl, ck_iff.2 ⟨by simp only [Bool.and_eq_true, Nat.ble_eq, List.length_cons, List.length_nil]; omega, ck_iff.2 ⟨inR_nat x (by omega), x + 1, hlt', ?_, ?_⟩⟩⟩, fun h => ck_iff.2 ⟨inR_nat x (by omega), x + 1, hlt', ?_, ?_⟩⟩
  · show l.length - (x + 1) < l.length - x
    omega
  · have hp : (fun z : CItem => decide (z.key.domain = k)) l[x] = true := by simpa using h
    have hf := filter_next (p := fun z : CItem => decide (z.key.domain = k)) hlt'
    rw [if_pos hp] at hf
    (repeat' (first | exact trivial | exact rfl | exact (fun _ => rfl) | refine And.intro ?_ ?_))
    all_goals (first | (rw [hf]) | (simp [eqI]))
  · show l.length - (x + 1) < l.length - x
    omega
  · have hp : (fun z : CItem => decide (z.key.domain = k)) l[x] = false := by simpa using h
    have hf := filter_next (p := fun z : CItem => decide (z.key.domain = k)) hlt'
    rw [if_neg (by simp only [hp]; simp), List.append_nil] at hf
    (repeat' (first | exact trivial | exact rfl | exact (fun _ => rfl) | refine And.intro ?_ ?_))
    all_goals (first | (rw [hf]) | (simp [eqI])))
theorem okDomainR : Go.Sy.ConOK Tryz.prog Tryz.tab F.ref25_Domain cDomain := askY_ok (cfg := fun y => cfgI con0 (annAt F.ref25_Domain 3 (aDomainR y))) Tryz.prOk (fun _ => rfl) (fun _ => con0_ok) (n := 400) (by
  rw [vcDomainR]
  rintro ⟨l, k⟩ hpre
  have hpre : l.length ≤ 10000 := hpre
  refine ⟨⟨0, by simp, ?_⟩, ?_⟩
  · (repeat' (first | exact trivial | exact rfl | exact (fun _ => rfl) | refine And.intro ?_ ?_))
  intro x hx
  refine br_iff.2 ⟨fun hlt => so_iff.2 ⟨_, get_ok (lt_of_ltI hlt), ?_⟩, fun hge => ⟨by rw [filter_all (ge_of_ltI hge)]; rfl, trivial⟩⟩
  have hlt' : x < l.length := lt_of_ltI hlt
  have hlen := filter_len (l := l) (x := x) (p := fun z : CItem => decide (z.key.domain = k))
  refine br_iff.2 ⟨fun h => so_iff.2 ⟨l[x], get_ok hlt', ⟨l[x], rfl, ck_iff.2 ⟨by simp only [Bool.and_eq_true, Nat.ble_eq, List.length_cons, List.length_nil]; omega, ck_iff.2 ⟨inR_nat x (by omega), x + 1, hlt', ?_, ?_⟩⟩⟩⟩, fun h => ck_iff.2 ⟨inR_nat x (by omega), x + 1, hlt', ?_, ?_⟩⟩
  · show l.length - (x + 1) < l.length - x
    omega
  · have hp : (fun z : CItem => decide (z.key.domain = k)) l[x] = true := by simpa using h
    have hf := filter_next (p := fun z : CItem => decide (z.key.domain = k)) hlt'
    rw [if_pos hp] at hf
    (repeat' (first | exact trivial | exact rfl | exact (fun _ => rfl) | refine And.intro ?_ ?_))
    all_goals (first | (rw [hf]) | (simp [eqI]))
  · show l.length - (x + 1) < l.length - x
    omega
  · have hp : (fun z : CItem => decide (z.key.domain = k)) l[x] = false := by simpa using h
    have hf := filter_next (p := fun z : CItem => decide (z.key.domain = k)) hlt'
    rw [if_neg (by simp only [hp]; simp), List.append_nil] at hf
    (repeat' (first | exact trivial | exact rfl | exact (fun _ => rfl) | refine And.intro ?_ ?_))
    all_goals (first | (rw [hf]) | (simp [eqI])))
theorem ge_len {x n : Nat} (h : ltI (x : Int) (Int.ofNat n) = false) : n ≤ x := by
  have := ge_of_ltI h
  simp only [Int.ofNat_eq_natCast] at this
  omega
theorem item_beq (a b : CItem) : (a.key.name == b.key.name && (a.key.domain == b.key.domain && (a.key.path == b.key.path && true)) && (a.cookie.value == b.cookie.value && (a.cookie.hostOnly == b.cookie.hostOnly && (a.cookie.secure == b.cookie.secure && (a.cookie.httpOnly == b.cookie.httpOnly && (a.cookie.persistent == b.cookie.persistent && (a.cookie.expiry == b.cookie.expiry && (a.cookie.creation == b.cookie.creation && (a.cookie.access == b.cookie.access && true))))))) && true)) = decide (a = b) := by
  rw [Bool.eq_iff_iff]
  obtain ⟨⟨a1, a2, a3⟩, ⟨a4, a5, a6, a7, a8, a9, a10, a11⟩⟩ := a
  obtain ⟨⟨b1, b2, b3⟩, ⟨b4, b5, b6, b7, b8, b9, b10, b11⟩⟩ := b
  simp only [Bool.and_eq_true, beq_iff_eq, decide_eq_true_eq, CItem.mk.injEq, CKey.mk.injEq, CCookie.mk.injEq, and_true]
theorem find_here {l : List CItem} {k : CKey} {x : Nat} (h : x < l.length) (h1 : l[x].key = k) (h2 : ∀ (j : Nat) (h : j < l.length), j < x → l[j].key = k → False) : findL l k = (l[x], true) := by
  have : l.find? (fun z => decide (z.key = k)) = some l[x] := by
    rw [List.find?_eq_some_iff_getElem]
    exact ⟨by simpa using h1, x, h, rfl, fun j hj => by simpa using h2 j (by omega) hj⟩
  unfold findL
  rw [this]
theorem find_no {l : List CItem} {k : CKey} (h2 : ∀ (j : Nat) (h : j < l.length), l[j].key = k → False) : findL l k = (zeroItem, false) := by
  have : l.find? (fun z => decide (z.key = k)) = none := by
    rw [List.find?_eq_none]
    intro z hz
    obtain ⟨j, hj, rfl⟩ := List.getElem_of_mem hz
    simpa using h2 j hj
  unfold findL
  rw [this]
theorem okFindI : Go.Sy.ConOK Tryz.prog Tryz.tab F.ref25_Find cFindI := askY_ok (cfg := fun y => cfgI con0 (annAt F.ref25_Find 2 (aFindI y))) Tryz.prOk (fun _ => rfl) (fun _ => con0_ok) (n := 400) (by
  rw [vcFindI]
  rintro ⟨l, k⟩ hpre
  have hpre : l.length ≤ 10000 := hpre
  refine ⟨⟨0, ⟨by simp, fun j h hj => by omega⟩, ?_⟩, ?_⟩
  · (repeat' (first | exact trivial | exact rfl | exact (fun _ => rfl) | refine And.intro ?_ ?_))
  rintro x ⟨hx, hall⟩
  refine br_iff.2 ⟨fun hlt => so_iff.2 ⟨_, get_ok (lt_of_ltI hlt), ?_⟩, fun hge => ?_⟩
  · have hlt' : x < l.length := lt_of_ltI hlt
    refine br_iff.2 ⟨fun h => so_iff.2 ⟨_, get_ok hlt', ?_⟩, fun h => ck_iff.2 ⟨inR_nat x (by omega), x + 1, ⟨hlt', fun j hj hjx he => ?_⟩, ?_, ?_⟩⟩
    · rw [key_beq] at h
      have e := find_here hlt' (by simpa using h) hall
      rw [show findL (l, k).1 (l, k).2 = (l[x], true) from e]
      (repeat' (first | exact trivial | exact rfl | exact (fun _ => rfl) | refine And.intro ?_ ?_))
    · rw [key_beq] at h
      by_cases hji : j = x
      · subst hji
        exact absurd he (by simpa using h)
      · exact hall j hj (by omega) he
    · show l.length - (x + 1) < l.length - x
      omega
    · (repeat' (first | exact trivial | exact rfl | exact (fun _ => rfl) | refine And.intro ?_ ?_))
  · have e := find_no (l := l) (k := k) (fun j hj => hall j hj (by have : l.length ≤ x := ge_len hge; omega))
    rw [show findL (l, k).1 (l, k).2 = (zeroItem, false) from e]
    (repeat' (first | exact trivial | exact rfl | exact (fun _ => rfl) | refine And.intro ?_ ?_)))
theorem okContains : Go.Sy.ConOK Tryz.prog Tryz.tab F.slices_Contains_Item cContains := askY_ok (cfg := fun y => cfgI con0 (annAt F.slices_Index_Item 2 (aIndex y))) Tryz.prOk (fun _ => rfl) (fun _ => con0_ok) (n := 400) (by
  rw [vcContains]
  rintro ⟨l, k⟩ hpre
  have hpre : l.length ≤ 10000 := hpre
  refine ⟨⟨0, ⟨by simp, fun j h hj => by omega⟩, ?_⟩, ?_⟩
  · (repeat' (first | exact trivial | exact rfl | exact (fun _ => rfl) | refine And.intro ?_ ?_))
  rintro x ⟨hx, hall⟩
  refine br_iff.2 ⟨fun hlt => so_iff.2 ⟨_, get_ok (lt_of_ltI hlt), ?_⟩, fun hge => ⟨?_, trivial⟩⟩
  · have hlt' : x < l.length := lt_of_ltI hlt
    refine br_iff.2 ⟨fun h => ⟨?_, trivial⟩, fun h => ck_iff.2 ⟨inR_nat x (by omega), x + 1, ⟨hlt', fun j hj hjx he => ?_⟩, ?_, ?_⟩⟩
    · rw [item_beq] at h
      have h : k = l[x] := by simpa using h
      rw [leI_eq, Bool.eq_iff_iff]
      have hm : k ∈ l := by rw [h]; exact List.getElem_mem hlt'
      simp [hm]
    · rw [item_beq] at h
      have h : ¬ k = l[x] := by simpa using h
      by_cases hji : j = x
      · subst hji
        exact h he.symm
      · exact hall j hj (by omega) he
    · show l.length - (x + 1) < l.length - x
      omega
    · (repeat' (first | exact trivial | exact rfl | exact (fun _ => rfl) | refine And.intro ?_ ?_))
  · rw [leI_eq]
    symm
    have hm : ¬ k ∈ l := by
      intro hm
      obtain ⟨j, hj, he⟩ := List.getElem_of_mem hm
      exact hall j hj (by have : l.length ≤ x := ge_len hge; omega) he
    simp [hm])
theorem okSameI : Go.Sy.ConOK Tryz.prog Tryz.tab F.ref15_Same cSameI := askY_ok (cfg := fun y => cfgI con0 (annAt F.ref15_Same 4 (aSameI y))) Tryz.prOk (fun _ => rfl) (fun _ => con0_ok) (n := 400) (by
  rw [vcSameI]
  rintro ⟨l, m⟩ ⟨hl, hm⟩
  have hl : l.length ≤ 10000 := hl
  refine br_iff.2 ⟨fun h => ⟨?_, trivial⟩, fun h => ⟨⟨0, ⟨by simp, ?_, by simp⟩, ?_⟩, ?_⟩⟩
  · symm
    rw [decide_eq_false_iff_not]
    intro e
    have e : l = m := e
    subst e
    simp at h
  · simp only [Bool.not_eq_false', beq_iff_eq, Int.ofNat_eq_natCast] at h
    simp only at h ⊢
    omega
  · (repeat' (first | exact trivial | exact rfl | exact (fun _ => rfl) | refine And.intro ?_ ?_))
  rintro x ⟨hx, hlen, ht⟩
  have hlen : l.length = m.length := hlen
  have ht : l.take x = m.take x := ht
  refine br_iff.2 ⟨fun hlt => ?_, fun hge => ⟨?_, trivial⟩⟩
  · have hlt' : x < l.length := lt_of_ltI hlt
    refine so_iff.2 ⟨_, get_ok hlt', so_iff.2 ⟨_, get_ok (show x < m.length by omega), br_iff.2 ⟨fun h2 => ⟨?_, trivial⟩, fun h2 => ck_iff.2 ⟨inR_nat x (by omega), x + 1, ⟨hlt', hlen, ?_⟩, ?_, ?_⟩⟩⟩⟩
    · rw [item_beq] at h2
      symm
      rw [decide_eq_false_iff_not]
      intro e
      have e : l = m := e
      subst e
      simp at h2
    · rw [item_beq] at h2
      show l.take (x + 1) = m.take (x + 1)
      rw [List.take_succ_eq_append_getElem hlt', List.take_succ_eq_append_getElem (show x < m.length by omega), ht]
      have : l[x] = m[x]'(by omega) := by simpa using h2
      rw [this]
    · show l.length - (x + 1) < l.length - x
      omega
    · (repeat' (first | exact trivial | exact rfl | exact (fun _ => rfl) | refine And.intro ?_ ?_))
  · symm
    rw [decide_eq_true_eq]
    have : l.length ≤ x := ge_len hge
    rw [List.take_of_length_le (by omega), List.take_of_length_le (by omega)] at ht
    exact ht)
theorem okSameT : Go.Sy.ConOK Tryz.prog Tryz.tab F.ref25_SameTexts cSameT := askY_ok (cfg := fun y => cfgI con0 (annAt F.ref25_SameTexts 4 (aSameT y))) Tryz.prOk (fun _ => rfl) (fun _ => con0_ok) (n := 400) (by
  rw [vcSameT]
  rintro ⟨l, m⟩ ⟨hl, hm⟩
  have hl : l.length ≤ 10000 := hl
  refine br_iff.2 ⟨fun h => ⟨?_, trivial⟩, fun h => ⟨⟨0, ⟨by simp, ?_, by simp⟩, ?_⟩, ?_⟩⟩
  · symm
    rw [decide_eq_false_iff_not]
    intro e
    have e : l = m := e
    subst e
    simp at h
  · simp only [Bool.not_eq_false', beq_iff_eq, Int.ofNat_eq_natCast] at h
    simp only at h ⊢
    omega
  · (repeat' (first | exact trivial | exact rfl | exact (fun _ => rfl) | refine And.intro ?_ ?_))
  rintro x ⟨hx, hlen, ht⟩
  have hlen : l.length = m.length := hlen
  have ht : l.take x = m.take x := ht
  refine br_iff.2 ⟨fun hlt => ?_, fun hge => ⟨?_, trivial⟩⟩
  · have hlt' : x < l.length := lt_of_ltI hlt
    refine so_iff.2 ⟨_, get_ok hlt', so_iff.2 ⟨_, get_ok (show x < m.length by omega), br_iff.2 ⟨fun h2 => ⟨?_, trivial⟩, fun h2 => ck_iff.2 ⟨inR_nat x (by omega), x + 1, ⟨hlt', hlen, ?_⟩, ?_, ?_⟩⟩⟩⟩
    · skip
      symm
      rw [decide_eq_false_iff_not]
      intro e
      have e : l = m := e
      subst e
      simp at h2
    · skip
      show l.take (x + 1) = m.take (x + 1)
      rw [List.take_succ_eq_append_getElem hlt', List.take_succ_eq_append_getElem (show x < m.length by omega), ht]
      have : l[x] = m[x]'(by omega) := by simpa using h2
      rw [this]
    · show l.length - (x + 1) < l.length - x
      omega
    · (repeat' (first | exact trivial | exact rfl | exact (fun _ => rfl) | refine And.intro ?_ ?_))
  · symm
    rw [decide_eq_true_eq]
    have : l.length ≤ x := ge_len hge
    rw [List.take_of_length_le (by omega), List.take_of_length_le (by omega)] at ht
    exact ht)
theorem okCheckC : Go.Sy.ConOK Tryz.prog Tryz.tab F.evict_Check cCheckC := askY_ok (cfg := fun y => cfgI conI5 (noAnn y)) Tryz.prOk (fun _ => rfl) (fun _ => conI5_ok) (n := 600) (by
  rw [vcCheckC]
  intro c hpre
  have four : (c.devices < 1 ∨ c.devices > 64 ∨ c.domain < 1 ∨ c.domain > 2048 ∨ c.total < 1 ∨ c.total > 2048) → eqI 4 (checkC c) ∧ True := by
    intro h
    unfold checkC
    rw [if_pos h]
    exact ⟨rfl, trivial⟩
  simp only [leI_eq]
  refine br_iff.2 ⟨fun h1 => br_iff.2 ⟨fun h2 => four ?_, fun h2 => br_iff.2 ⟨fun h3 => br_iff.2 ⟨fun h4 => four ?_, fun h4 => br_iff.2 ⟨fun h5 => br_iff.2 ⟨fun h6 => four ?_, fun h6 => ⟨c.rules, rfl, hpre, ?_, trivial⟩⟩, fun h5 => four ?_⟩⟩, fun h3 => four ?_⟩⟩, fun h1 => four ?_⟩
  all_goals (simp at *)
  · omega
  · omega
  · omega
  · unfold checkC
    rw [if_neg (by omega)]
  · omega
  · omega
  · omega)
theorem okCheckCR : Go.Sy.ConOK Tryz.prog Tryz.tab F.ref26_Check cCheckC := askY_ok (cfg := fun y => cfgI conI5 (noAnn y)) Tryz.prOk (fun _ => rfl) (fun _ => conI5_ok) (n := 600) (by
  rw [vcCheckCR]
  intro c hpre
  have four : (c.devices < 1 ∨ c.devices > 64 ∨ c.domain < 1 ∨ c.domain > 2048 ∨ c.total < 1 ∨ c.total > 2048) → eqI 4 (checkC c) ∧ True := by
    intro h
    unfold checkC
    rw [if_pos h]
    exact ⟨rfl, trivial⟩
  simp only [ltI_eq]
  refine br_iff.2 ⟨fun h1 => four ?_, fun h1 => br_iff.2 ⟨fun h2 => four ?_, fun h2 => br_iff.2 ⟨fun h3 => four ?_, fun h3 => br_iff.2 ⟨fun h4 => four ?_, fun h4 => br_iff.2 ⟨fun h5 => four ?_, fun h5 => br_iff.2 ⟨fun h6 => four ?_, fun h6 => br_iff.2 ⟨fun h7 => ⟨?_, trivial⟩, fun h7 => ⟨c.rules, rfl, hpre, br_iff.2 ⟨fun h8 => ⟨?_, trivial⟩, fun h8 => ⟨?_, trivial⟩⟩⟩⟩⟩⟩⟩⟩⟩⟩
  all_goals (simp only [decide_eq_true_eq, decide_eq_false_iff_not, Int.ofNat_eq_natCast] at *)
  · omega
  · omega
  · omega
  · omega
  · omega
  · omega
  all_goals (unfold checkC; rw [if_neg (by omega)]; unfold checkR)
  · rw [if_pos (by omega)]
  · rw [if_neg (by omega), if_neg (by simpa using h8)]
  · rw [if_neg (by omega), if_pos (by simpa using h8)])
theorem putL_len (l : List CItem) (x : CItem) : (putL l x).length ≤ l.length + 1 := by
  have h : ∀ l : List CItem, (l.filter fun y => keyLess y.key x.key).length + (l.filter fun y => keyLess x.key y.key).length ≤ l.length := by
    intro l
    induction l with
    | nil => simp
    | cons y l ih =>
      simp only [List.filter_cons]
      by_cases h1 : keyLess y.key x.key = true
      · rw [if_pos h1, if_neg (by rw [keyLess_asymm _ _ h1]; simp)]
        simp; omega
      · rw [if_neg h1]
        by_cases h2 : keyLess x.key y.key = true
        · rw [if_pos h2]; simp; omega
        · rw [if_neg h2]; simp; omega
  have := h l
  unfold putL
  simp
  omega
theorem byKeys_len : ∀ (l a : List CItem), (l.foldl putL a).length ≤ a.length + l.length
  | [], a => by simp
  | x :: l, a => by
    have h1 := byKeys_len l (putL a x)
    have h2 := putL_len a x
    simp only [List.foldl_cons, List.length_cons]
    omega
theorem fold_next {α β : Type} (f : β → α → β) (b : β) {l : List α} {x : Nat} (h : x < l.length) : (l.take (x + 1)).foldl f b = f ((l.take x).foldl f b) l[x] := by
  rw [List.take_succ_eq_append_getElem h, List.foldl_append]
  rfl
theorem take_done {α : Type} {l : List α} {x : Nat} (h : ¬ (x : Int) < Int.ofNat l.length) : l.take x = l := List.take_of_length_le (by simp only [Int.ofNat_eq_natCast] at h; omega)
theorem best_next {l : List CItem} {d : Bs} {all : Bool} {x : Nat} (h : x < l.length) : bestL (l.take (x + 1)) d all = if all || decide (l[x].key.domain = d) then (match bestL (l.take x) d all with | none => some l[x] | some y => if stalerB l[x] y then some l[x] else some y) else bestL (l.take x) d all := by
  unfold bestL
  rw [fold_next _ _ h]
  all_goals (generalize List.foldl _ none (List.take x l) = r; cases r <;> rfl)
theorem okStalest : Go.Sy.ConOK Tryz.prog Tryz.tab F.ref26_stalest cStalest := askY_ok (cfg := fun y => cfgI conI5 (annAt F.ref26_stalest 3 (aStalest y))) Tryz.prOk (fun _ => rfl) (fun _ => conI5_ok) (n := 600) (by
  rw [vcStalest]
  rintro ⟨l, d, all⟩ hpre
  have hpre : l.length ≤ 10000 := hpre
  refine ⟨⟨(0, -1), ⟨by simp, .inl ⟨rfl, rfl⟩⟩, ?_⟩, ?_⟩
  · (repeat' (first | exact trivial | exact rfl | exact (fun _ => rfl) | refine And.intro ?_ ?_))
  rintro ⟨x, z⟩ ⟨hx, hb⟩
  have hb : (z = -1 ∧ bestL (l.take x) d all = none) ∨ ∃ b : Nat, z = Int.ofNat b ∧ ∃ h : b < l.length, bestL (l.take x) d all = some l[b] := hb
  refine br_iff.2 ⟨fun hlt => ?_, fun hge => ?_⟩
  · have hlt' : x < l.length := lt_of_ltI hlt
    have hn := best_next (d := d) (all := all) hlt'
    have hmu : l.length - (x + 1) < l.length - x := by omega
    refine br_iff.2 ⟨fun ha => so_iff.2 ⟨_, get_ok hlt', br_iff.2 ⟨fun hd => ?_, fun hd => ?_⟩⟩, fun ha => ?_⟩
    · have ha : all = false := by simpa using ha
      have hd : ¬ l[x].key.domain = d := by simpa using hd
      have hcf : ¬ (all || decide (l[x].key.domain = d)) = true := by simp [ha, hd]
      rw [if_neg hcf] at hn
      refine ck_iff.2 ⟨inR_nat x (by omega), (x + 1, z), ⟨hlt', ?_⟩, hmu, ?_⟩
      · simp only
        rw [hn]
        exact hb
      · (repeat' (first | exact trivial | exact rfl | exact (fun _ => rfl) | refine And.intro ?_ ?_))
    all_goals (have hc : (all || decide (l[x].key.domain = d)) = true := by first | (have ha : all = true := by simpa using ha); simp [ha] | (have hd : l[x].key.domain = d := by simpa using hd); simp [hd])
    all_goals (rw [if_pos hc] at hn)
    all_goals (rcases hb with ⟨hz, hbn⟩ | ⟨b, hz, hbl, hbb⟩)
    all_goals (subst hz)
    all_goals (first
      | (refine br_iff.2 ⟨fun _ => ?_, fun h => absurd h (by rw [ltI_eq]; simp)⟩
         rw [hbn] at hn
         refine ck_iff.2 ⟨inR_nat x (by omega), (x + 1, (x : Int)), ⟨hlt', .inr ⟨x, rfl, hlt', ?_⟩⟩, hmu, ?_⟩
         · exact hn
         · (repeat' (first | exact trivial | exact rfl | exact (fun _ => rfl) | refine And.intro ?_ ?_)))
      | (refine br_iff.2 ⟨fun h => absurd h (by rw [ltI_eq]; simp), fun _ => so_iff.2 ⟨_, get_ok hlt', ck_iff.2 ⟨by rw [nn_eq]; simp, so_iff.2 ⟨l[b], by simp [hbl], (l[x], l[b]), ?_⟩⟩⟩⟩
         (repeat' (first | exact trivial | exact rfl | exact (fun _ => rfl) | refine And.intro ?_ ?_))
         rw [hbb] at hn
         simp only at hn
         refine br_iff.2 ⟨fun hs => ?_, fun hs => ?_⟩
         · rw [if_pos (show stalerB l[x] l[b] = true from hs)] at hn
           refine ck_iff.2 ⟨inR_nat x (by omega), (x + 1, (x : Int)), ⟨hlt', .inr ⟨x, rfl, hlt', hn⟩⟩, hmu, ?_⟩
           (repeat' (first | exact trivial | exact rfl | exact (fun _ => rfl) | refine And.intro ?_ ?_))
         · rw [if_neg (by simp [show stalerB l[x] l[b] = false from hs])] at hn
           refine ck_iff.2 ⟨inR_nat x (by omega), (x + 1, Int.ofNat b), ⟨hlt', .inr ⟨b, rfl, hbl, hn⟩⟩, hmu, ?_⟩
           (repeat' (first | exact trivial | exact rfl | exact (fun _ => rfl) | refine And.intro ?_ ?_))))
  · have hge' : l.length ≤ x := ge_len hge
    rw [List.take_of_length_le hge'] at hb
    rcases hb with ⟨hz, hbn⟩ | ⟨b, hz, hbl, hbb⟩
    · subst hz
      have e : stalestL l d all = zeroKey := by unfold stalestL; rw [hbn]
      refine br_iff.2 ⟨fun _ => ?_, fun h => absurd h (by rw [ltI_eq]; simp)⟩
      rw [show stalestL (l, d, all).1 (l, d, all).2.1 (l, d, all).2.2 = zeroKey from e]
      (repeat' (first | exact trivial | exact rfl | exact (fun _ => rfl) | refine And.intro ?_ ?_))
    · subst hz
      have e : stalestL l d all = l[b].key := by unfold stalestL; rw [hbb]
      refine br_iff.2 ⟨fun h => absurd h (by rw [ltI_eq]; simp), fun _ => ck_iff.2 ⟨by rw [nn_eq]; simp, so_iff.2 ⟨l[b], by simp [hbl], ?_⟩⟩⟩
      rw [show stalestL (l, d, all).1 (l, d, all).2.1 (l, d, all).2.2 = l[b].key from e]
      (repeat' (first | exact trivial | exact rfl | exact (fun _ => rfl) | refine And.intro ?_ ?_)))
theorem okPutR : Go.Sy.ConOK Tryz.prog Tryz.tab F.ref25_Put cPutR := askY_ok (cfg := fun y => cfgI conI4 (annAt F.ref25_Put 4 (aPutR y))) Tryz.prOk (fun _ => rfl) (fun _ => conI4_ok) (n := 600) (by
  rw [vcPutR]
  rintro ⟨l, k⟩ hpre
  have hpre : l.length ≤ 10000 := hpre
  refine ⟨⟨0, by simp, ?_⟩, ?_⟩
  · (repeat' (first | exact trivial | exact rfl | exact (fun _ => rfl) | refine And.intro ?_ ?_))
  intro x hx
  have n1 := filter_len (l := l) (x := x) (p := fun z => keyLess z.key k.key)
  have n2 := filter_len (l := l) (x := x) (p := fun z => keyLess k.key z.key)
  have hx' : x ≤ l.length := hx
  refine br_iff.2 ⟨fun hlt => ?_, fun hge => ?_⟩
  · have hlt' : x < l.length := lt_of_ltI hlt
    have hmu : l.length - (x + 1) < l.length - x := by omega
    have f1 := filter_next (p := fun z => keyLess z.key k.key) hlt'
    have f2 := filter_next (p := fun z => keyLess k.key z.key) hlt'
    refine so_iff.2 ⟨_, get_ok hlt', (l[x].key, k.key), rfl, rfl, rfl, rfl, rfl, rfl, trivial, br_iff.2 ⟨fun h1 => so_iff.2 ⟨_, get_ok hlt', l[x], rfl, ck_iff.2 ⟨by simp only [Bool.and_eq_true, Nat.ble_eq, List.length_append, List.length_cons, List.length_nil]; omega, so_iff.2 ⟨_, get_ok hlt', (k.key, l[x].key), rfl, rfl, rfl, rfl, rfl, rfl, trivial, br_iff.2 ⟨fun h2 => so_iff.2 ⟨_, get_ok hlt', l[x], rfl, ck_iff.2 ⟨by simp only [Bool.and_eq_true, Nat.ble_eq, List.length_append, List.length_cons, List.length_nil]; omega, ?_⟩⟩, fun h2 => ?_⟩⟩⟩⟩, fun h1 => so_iff.2 ⟨_, get_ok hlt', (k.key, l[x].key), rfl, rfl, rfl, rfl, rfl, rfl, trivial, br_iff.2 ⟨fun h2 => so_iff.2 ⟨_, get_ok hlt', l[x], rfl, ck_iff.2 ⟨by simp only [Bool.and_eq_true, Nat.ble_eq, List.length_append, List.length_cons, List.length_nil]; omega, ?_⟩⟩, fun h2 => ?_⟩⟩⟩⟩
    · have g1 : keyLess l[x].key k.key = true := h1
      have g2 : keyLess k.key l[x].key = true := h2
      refine ck_iff.2 ⟨inR_nat x (by omega), x + 1, hlt', hmu, ?_⟩
      (repeat' (first | exact trivial | exact rfl | exact (fun _ => rfl) | refine And.intro ?_ ?_))
      all_goals (first | (rw [f1, if_pos g1]) | (rw [f2, if_pos g2]))
    · have g1 : keyLess l[x].key k.key = true := h1
      have g2 : keyLess k.key l[x].key = false := h2
      refine ck_iff.2 ⟨inR_nat x (by omega), x + 1, hlt', hmu, ?_⟩
      (repeat' (first | exact trivial | exact rfl | exact (fun _ => rfl) | refine And.intro ?_ ?_))
      all_goals (first | (rw [f1, if_pos g1]) | (rw [f2, if_neg (by simp [g2]), List.append_nil]))
    · have g1 : keyLess l[x].key k.key = false := h1
      have g2 : keyLess k.key l[x].key = true := h2
      refine ck_iff.2 ⟨inR_nat x (by omega), x + 1, hlt', hmu, ?_⟩
      (repeat' (first | exact trivial | exact rfl | exact (fun _ => rfl) | refine And.intro ?_ ?_))
      all_goals (first | (rw [f1, if_neg (by simp [g1]), List.append_nil]) | (rw [f2, if_pos g2]))
    · have g1 : keyLess l[x].key k.key = false := h1
      have g2 : keyLess k.key l[x].key = false := h2
      refine ck_iff.2 ⟨inR_nat x (by omega), x + 1, hlt', hmu, ?_⟩
      (repeat' (first | exact trivial | exact rfl | exact (fun _ => rfl) | refine And.intro ?_ ?_))
      all_goals (first | (rw [f1, if_neg (by simp [g1]), List.append_nil]) | (rw [f2, if_neg (by simp [g2]), List.append_nil]))
  · have hge' : l.length ≤ x := ge_len hge
    refine ⟨k, rfl, ck_iff.2 ⟨by simp only [Bool.and_eq_true, Nat.ble_eq, List.length_append, List.length_cons, List.length_nil]; omega, fun _ => ⟨rfl, rfl⟩, _, rfl, ck_iff.2 ⟨by simp only [Bool.and_eq_true, Nat.ble_eq, List.length_append, List.length_cons, List.length_nil]; omega, ?_, trivial⟩⟩⟩
    show SV.lst CItem ((l.take x).filter (fun z => keyLess z.key k.key) ++ [k] ++ (l.take x).filter (fun z => keyLess k.key z.key)) CItem.enc = SV.lst CItem (putL l k) CItem.enc
    rw [List.take_of_length_le hge']
    unfold putL
    simp)
theorem conI6_ok : ∀ g C, conI6 g = some C → Go.Sy.ConOK Tryz.prog Tryz.tab g C :=
  con_step okStaler (con_step okRising (con_step okRisingR (con_step okWithout (con_step okWithoutR (con_step okDomain (con_step okDomainR (con_step okFindI (con_step okContains (con_step okSameI (con_step okSameT (con_step okPutR (con_step okStalest (con_step okCheckC (con_step okCheckCR conI5_ok))))))))))))))
theorem okByKeys : Go.Sy.ConOK Tryz.prog Tryz.tab F.ref25_ByKeys cByKeys := askY_ok (cfg := fun y => cfgI conI6 (annAt F.ref25_ByKeys 3 (aByKeys y))) Tryz.prOk (fun _ => rfl) (fun _ => conI6_ok) (n := 400) (by
  rw [vcByKeys]
  intro l hpre
  have hpre : l.length ≤ 1000 := hpre
  refine ⟨⟨0, by simp, ?_⟩, ?_⟩
  · (repeat' (first | exact trivial | exact rfl | exact (fun _ => rfl) | refine And.intro ?_ ?_))
  intro x hx
  refine br_iff.2 ⟨fun hlt => ?_, fun hge => ⟨by rw [take_done (ge_of_ltI hge)], trivial⟩⟩
  have hlt' : x < l.length := lt_of_ltI hlt
  have hn := fold_next putL ([] : List CItem) hlt'
  refine so_iff.2 ⟨_, get_ok hlt', (byKeysL (l.take x), l[x]), rfl, rfl, rfl, rfl, rfl, rfl, rfl, rfl, rfl, rfl, rfl, rfl, ?_, ck_iff.2 ⟨inR_nat x (by omega), x + 1, hlt', ?_, ?_⟩⟩
  · have := byKeys_len (l.take x) []
    unfold byKeysL
    simp at this ⊢
    omega
  · show l.length - (x + 1) < l.length - x
    omega
  · (repeat' (first | exact trivial | exact rfl | exact (fun _ => rfl) | refine And.intro ?_ ?_))
    all_goals (simp only [byKeysL, hn]))
theorem tw_get {α : Type} {p : α → Bool} : ∀ {l : List α} {j : Nat} (_ : j < (l.takeWhile p).length), ∃ h : j < l.length, p l[j] = true
  | [], j, hj => by simp at hj
  | a :: l, j, hj => by
    by_cases hb : p a = true
    · rw [List.takeWhile_cons, if_pos hb] at hj
      cases j with
      | zero => exact ⟨by simp, by simpa using hb⟩
      | succ j =>
        obtain ⟨h1, h2⟩ := tw_get (l := l) (j := j) (by simpa using hj)
        exact ⟨by simpa using h1, by simpa using h2⟩
    · rw [List.takeWhile_cons, if_neg hb] at hj
      simp at hj
theorem tw_at {α : Type} {p : α → Bool} : ∀ {l : List α} (h : (l.takeWhile p).length < l.length), p (l[(l.takeWhile p).length]) = false
  | [], h => by simp at h
  | a :: l, h => by
    by_cases hb : p a = true
    · have e : ((a :: l).takeWhile p).length = (l.takeWhile p).length + 1 := by rw [List.takeWhile_cons, if_pos hb]; rfl
      simp only [e, List.getElem_cons_succ]
      exact tw_at (by rw [e] at h; simpa using h)
    · have e : ((a :: l).takeWhile p).length = 0 := by rw [List.takeWhile_cons, if_neg hb]; rfl
      simp only [e, List.getElem_cons_zero]
      exact Bool.eq_false_iff.2 hb
theorem posD_le (L : List Bs) (d : Bs) : posD L d ≤ L.length := (List.takeWhile_prefix _).length_le
theorem posD_next {L : List Bs} {d : Bs} {k : Nat} (hk : k ≤ posD L d) (h : k < L.length) (hl : lt L[k] d = true) : k + 1 ≤ posD L d := by
  apply Decidable.byContradiction
  intro hn
  have e : posD L d = k := by omega
  have := tw_at (p := fun x => lt x d) (l := L) (by show posD L d < L.length; omega)
  have e2 : (L.takeWhile fun x => lt x d).length = k := e
  simp only [e2] at this
  rw [hl] at this
  cases this
theorem posD_stop {L : List Bs} {d : Bs} {k : Nat} (hk : k ≤ posD L d) (h : k < L.length) (hl : lt L[k] d = false) : k = posD L d := by
  apply Decidable.byContradiction
  intro hn
  obtain ⟨h1, h2⟩ := tw_get (p := fun x => lt x d) (l := L) (j := k) (by show k < posD L d; omega)
  rw [hl] at h2
  cases h2
theorem insD_len (L : List Bs) (d : Bs) : (insD L d).length ≤ L.length + 1 := by
  unfold insD
  have := posD_le L d
  split
  · omega
  · simp; omega
theorem domains_len : ∀ (l : List CItem) (a : List Bs), (l.foldl (fun a x => insD a x.key.domain) a).length ≤ a.length + l.length
  | [], a => by simp
  | x :: l, a => by
    have h1 := domains_len l (insD a x.key.domain)
    have h2 := insD_len a x.key.domain
    simp only [List.foldl_cons, List.length_cons]
    omega
theorem okDomains : Go.Sy.ConOK Tryz.prog Tryz.tab F.ref25_Domains cDomains := askY_ok (cfg := fun y => cfgI conI6 (annMore F.ref25_Domains 7 (aDomains2 y) (annAt F.ref25_Domains 3 (aDomains y)))) Tryz.prOk (fun _ => rfl) (fun _ => conI6_ok) (n := 600) (by
  rw [vcDomains]
  intro l hpre
  have hpre : l.length ≤ 10000 := hpre
  refine ⟨⟨0, by simp, ?_⟩, ?_⟩
  · (repeat' (first | exact trivial | exact rfl | exact (fun _ => rfl) | refine And.intro ?_ ?_))
  intro x hx
  refine br_iff.2 ⟨fun hlt => ?_, fun hge => ⟨by rw [take_done (ge_of_ltI hge)], trivial⟩⟩
  have hlt' : x < l.length := lt_of_ltI hlt
  have hd : ((l[x]?).getD zeroItem).key.domain = l[x].key.domain := by simp [hlt']
  refine so_iff.2 ⟨_, get_ok hlt', (x, 0), ⟨(x, 0), ⟨⟨hlt', Nat.zero_le _⟩, rfl⟩, ?_⟩, ?_⟩
  · (repeat' (first | exact trivial | exact rfl | exact (fun _ => rfl) | refine And.intro ?_ ?_))
    all_goals (simp [hlt'])
  rintro ⟨x1, k⟩ ⟨⟨h1, h2⟩, hx1⟩
  have hx1 : x1 = x := hx1
  subst hx1
  have hn := fold_next (fun a (z : CItem) => insD a z.key.domain) ([] : List Bs) hlt'
  have hn : domainsL (l.take (x1 + 1)) = insD (domainsL (l.take x1)) l[x1].key.domain := hn
  have hlen : (domainsL (l.take x1)).length ≤ x1 := by have := domains_len (l.take x1) []; unfold domainsL; simp at this ⊢; omega
  have hk : k ≤ posD (domainsL (l.take x1)) l[x1].key.domain := h2
  have hkp := posD_le (domainsL (l.take x1)) l[x1].key.domain
  have hkl : k ≤ (domainsL (l.take x1)).length := by omega
  have hmu : l.length - (x1 + 1) < l.length - x1 := by omega
  refine br_iff.2 ⟨fun hlt2 => ?_, fun hge2 => ?_⟩
  · have hlt2' : k < (domainsL (l.take x1)).length := lt_of_ltI hlt2
    refine so_iff.2 ⟨_, get_ok hlt2', br_iff.2 ⟨fun hl => ck_iff.2 ⟨inR_nat k (by omega), (x1, k + 1), ⟨⟨hlt', ?_⟩, rfl⟩, ?_, ?_⟩, fun hl => br_iff.2 ⟨fun he => absurd he (by simp; omega), fun he => so_iff.2 ⟨_, get_ok hlt2', br_iff.2 ⟨fun hne => ?_, fun hne => ?_⟩⟩⟩⟩⟩
    · exact posD_next hk hlt2' (by rw [← hd]; exact hl)
    · show (domainsL (l.take x1)).length - (k + 1) < (domainsL (l.take x1)).length - k
      omega
    · (repeat' (first | exact trivial | exact rfl | exact (fun _ => rfl) | refine And.intro ?_ ?_))
    all_goals (have hkk : k = posD (domainsL (l.take x1)) l[x1].key.domain := posD_stop hk hlt2' (by rw [← hd]; exact hl))
    all_goals (have hne := hne; simp only [hd] at hne)
    · refine ⟨fun _ => rfl, ck_iff.2 ⟨by rw [Nat.ble_eq]; exact hkl, fun _ => rfl, ck_iff.2 ⟨by rw [Nat.ble_eq]; exact hkl, fun _ => ⟨rfl, rfl⟩, (domainsL (l.take x1)).take k, rfl, ck_iff.2 ⟨by simp only [Bool.and_eq_true, Nat.ble_eq, List.length_append, List.length_cons, List.length_nil, List.length_take, List.length_drop]; omega, l[x1].key.domain, by rw [hd], ck_iff.2 ⟨by simp only [Bool.and_eq_true, Nat.ble_eq, List.length_append, List.length_cons, List.length_nil, List.length_take, List.length_drop]; omega, fun _ => ⟨rfl, rfl⟩, (domainsL (l.take x1)).drop k, rfl, ck_iff.2 ⟨by simp only [Bool.and_eq_true, Nat.ble_eq, List.length_append, List.length_cons, List.length_nil, List.length_take, List.length_drop]; omega, ck_iff.2 ⟨inR_nat x1 (by omega), x1 + 1, hlt', hmu, ?_⟩⟩⟩⟩⟩⟩⟩
      (repeat' (first | exact trivial | exact rfl | exact (fun _ => rfl) | refine And.intro ?_ ?_))
      all_goals (first | (rw [hn]; unfold insD; rw [← hkk, if_neg (by rw [List.getElem?_eq_getElem hlt2']; simpa using hne)]; simp) | (simp [eqI]))
    · refine ck_iff.2 ⟨inR_nat x1 (by omega), x1 + 1, hlt', hmu, ?_⟩
      (repeat' (first | exact trivial | exact rfl | exact (fun _ => rfl) | refine And.intro ?_ ?_))
      all_goals (first | (rw [hn]; unfold insD; rw [← hkk, if_pos (by rw [List.getElem?_eq_getElem hlt2']; simpa using hne)]) | (simp [eqI]))
  · have hge2' : (domainsL (l.take x1)).length ≤ k := ge_len hge2
    have hkk : k = posD (domainsL (l.take x1)) l[x1].key.domain := by omega
    refine br_iff.2 ⟨fun he => ?_, fun he => absurd he (by simp; omega)⟩
    refine ⟨fun _ => rfl, ck_iff.2 ⟨by rw [Nat.ble_eq]; exact hkl, fun _ => rfl, ck_iff.2 ⟨by rw [Nat.ble_eq]; exact hkl, fun _ => ⟨rfl, rfl⟩, (domainsL (l.take x1)).take k, rfl, ck_iff.2 ⟨by simp only [Bool.and_eq_true, Nat.ble_eq, List.length_append, List.length_cons, List.length_nil, List.length_take, List.length_drop]; omega, l[x1].key.domain, by rw [hd], ck_iff.2 ⟨by simp only [Bool.and_eq_true, Nat.ble_eq, List.length_append, List.length_cons, List.length_nil, List.length_take, List.length_drop]; omega, fun _ => ⟨rfl, rfl⟩, (domainsL (l.take x1)).drop k, rfl, ck_iff.2 ⟨by simp only [Bool.and_eq_true, Nat.ble_eq, List.length_append, List.length_cons, List.length_nil, List.length_take, List.length_drop]; omega, ck_iff.2 ⟨inR_nat x1 (by omega), x1 + 1, hlt', hmu, ?_⟩⟩⟩⟩⟩⟩⟩
    (repeat' (first | exact trivial | exact rfl | exact (fun _ => rfl) | refine And.intro ?_ ?_))
    all_goals (first | (rw [hn]; unfold insD; rw [← hkk, if_neg (by rw [List.getElem?_eq_none hge2']; simp)]; simp) | (simp [eqI])))
theorem conI7_ok : ∀ g C, conI7 g = some C → Go.Sy.ConOK Tryz.prog Tryz.tab g C := con_step okByKeys (con_step okDomains conI6_ok)
end Go.Proofs

namespace Go.Proofs
open Go Go.Am Go.RowKit Go.Sy
theorem staler_iff (a b : CItem) : stalerB a b = true ↔ a.cookie.access < b.cookie.access ∨ (a.cookie.access = b.cookie.access ∧ (a.cookie.creation < b.cookie.creation ∨ (a.cookie.creation = b.cookie.creation ∧ keyLess a.key b.key = true))) := by
  unfold stalerB staleK
  have h1 := cmpI_zero a.cookie.access b.cookie.access
  have h2 := cmpI_neg a.cookie.access b.cookie.access
  have h3 := cmpI_zero a.cookie.creation b.cookie.creation
  have h4 := cmpI_neg a.cookie.creation b.cookie.creation
  generalize cmpI a.cookie.access b.cookie.access = n at *
  generalize cmpI a.cookie.creation b.cookie.creation = m at *
  simp only [decide_eq_true_eq]
  by_cases e1 : n = 0
  · have a1 := h1.1 e1
    by_cases e2 : m = 0
    · have a2 := h3.1 e2
      by_cases hk : a.key = b.key
      · simp [e1, e2, hk, keyLess_irrefl, a1, a2]
      · cases hl : keyLess a.key b.key <;> simp [e1, e2, hk, a1, a2]
    · have a2 : a.cookie.creation ≠ b.cookie.creation := fun h => e2 (h3.2 h)
      simp [e1, e2, a1, a2, h4]
  · have a1 : a.cookie.access ≠ b.cookie.access := fun h => e1 (h1.2 h)
    simp [e1, a1, h2]
theorem staler_irrefl (a : CItem) : stalerB a a = false := by
  apply Bool.eq_false_iff.2
  intro h
  rw [staler_iff, keyLess_irrefl] at h
  simp at h
theorem staler_trans {a b c : CItem} (h1 : stalerB a b = true) (h2 : stalerB b c = true) : stalerB a c = true := by
  rw [staler_iff] at *
  have ht := keyLess_trans a.key b.key c.key
  rcases h1 with h1 | ⟨h1, h1' | ⟨h1', h1''⟩⟩ <;> rcases h2 with h2 | ⟨h2, h2' | ⟨h2', h2''⟩⟩
  · left; omega
  · left; omega
  · left; omega
  · left; omega
  · right; exact ⟨by omega, .inl (by omega)⟩
  · right; exact ⟨by omega, .inl (by omega)⟩
  · left; omega
  · right; exact ⟨by omega, .inl (by omega)⟩
  · right; exact ⟨by omega, .inr ⟨by omega, ht h1'' h2''⟩⟩
theorem staler_tri {a b : CItem} (h1 : stalerB a b = false) (h2 : stalerB b a = false) : a.key = b.key := by
  have h1 := Bool.eq_false_iff.1 h1
  have h2 := Bool.eq_false_iff.1 h2
  rw [ne_eq, staler_iff] at h1 h2
  rcases keyLess_tri a.key b.key with hk | hk | hk
  · exfalso; apply h1
    rcases Int.lt_trichotomy a.cookie.access b.cookie.access with e | e | e
    · exact .inl e
    · refine .inr ⟨e, ?_⟩
      rcases Int.lt_trichotomy a.cookie.creation b.cookie.creation with g | g | g
      · exact .inl g
      · exact .inr ⟨g, hk⟩
      · exact absurd (.inr ⟨e.symm, .inl g⟩) h2
    · exact absurd (.inl e) h2
  · exact hk
  · exfalso; apply h2
    rcases Int.lt_trichotomy b.cookie.access a.cookie.access with e | e | e
    · exact .inl e
    · refine .inr ⟨e, ?_⟩
      rcases Int.lt_trichotomy b.cookie.creation a.cookie.creation with g | g | g
      · exact .inl g
      · exact .inr ⟨g, hk⟩
      · exact absurd (.inr ⟨e.symm, .inl g⟩) h1
    · exact absurd (.inl e) h1
theorem staler_ntrans {a b c : CItem} (h1 : stalerB a b = false) (h2 : stalerB b c = false) : stalerB a c = false := by
  apply Bool.eq_false_iff.2
  intro h
  cases hb : stalerB b a
  · have e := staler_tri h1 hb
    cases hc : stalerB c b
    · have e2 := staler_tri h2 hc
      have h1' := Bool.eq_false_iff.1 h1
      have h2' := Bool.eq_false_iff.1 h2
      have hb' := Bool.eq_false_iff.1 hb
      have hc' := Bool.eq_false_iff.1 hc
      rw [ne_eq, staler_iff] at h1' h2' hb' hc'
      rw [staler_iff, e, e2, keyLess_irrefl] at h
      simp only [e, e2, keyLess_irrefl, Bool.false_eq_true, and_false, or_false] at h1' h2' hb' hc' h
      omega
    · have := staler_trans hc (?_ : stalerB b c = true)
      · rw [staler_irrefl] at this; cases this
      · rw [h2]
        exfalso
        have h1' := Bool.eq_false_iff.1 h1
        have hb' := Bool.eq_false_iff.1 hb
        rw [ne_eq, staler_iff] at h1' hb'
        rw [staler_iff] at h hc
        simp only [e, keyLess_irrefl, Bool.false_eq_true, and_false, or_false] at h1' hb'
        have e1 : a.cookie.access = b.cookie.access := by omega
        have e2 : a.cookie.creation = b.cookie.creation := by omega
        rw [e1, e2, e] at h
        have h := (staler_iff b c).2 h
        rw [h2] at h
        cases h
  · have := staler_trans hb h
    rw [h2] at this
    cases this

abbrev KN (l : List CItem) : Prop := (l.map fun x => x.key).Nodup
theorem KN.sub {l l' : List CItem} (h : KN l) (hs : l'.Sublist l) : KN l' := List.Sublist.nodup (hs.map _) h
theorem KN.nodup {l : List CItem} (h : KN l) : l.Nodup := by
  unfold KN at h
  rw [List.nodup_iff_pairwise_ne, List.pairwise_map] at h
  rw [List.nodup_iff_pairwise_ne]
  exact h.imp fun hab e => hab (by rw [e])
theorem KN.inj : ∀ {l : List CItem}, KN l → ∀ {a b : CItem}, a ∈ l → b ∈ l → a.key = b.key → a = b
  | [], _, a, b, ha, _, _ => by cases ha
  | x :: l, h, a, b, ha, hb, hk => by
    have h0 : x.key ∉ l.map (fun x => x.key) ∧ KN l := by simpa [KN] using h
    rcases List.mem_cons.1 ha with rfl | ha' <;> rcases List.mem_cons.1 hb with rfl | hb'
    · rfl
    · exact absurd (List.mem_map.2 ⟨b, hb', hk.symm⟩) h0.1
    · exact absurd (List.mem_map.2 ⟨a, ha', hk⟩) h0.1
    · exact h0.2.inj ha' hb' hk
def ofL (l : List CItem) (d : Bs) (all : Bool) : List CItem := l.filter fun x => all || decide (x.key.domain = d)
theorem ofL_true (l : List CItem) (d : Bs) : ofL l d true = l := by simp [ofL]
theorem ofL_false (l : List CItem) (d : Bs) : ofL l d false = domainL l d := by simp [ofL, domainL]
abbrev bestF (P : CItem → Bool) (b : Option CItem) (x : CItem) : Option CItem := if P x then (match b with | none => some x | some y => if stalerB x y then some x else some y) else b
theorem best_none (P : CItem → Bool) : ∀ (l : List CItem) (b : Option CItem), l.foldl (bestF P) b = none → b = none ∧ ∀ x ∈ l, P x = false
  | [], b, h => ⟨h, by simp⟩
  | x :: l, b, h => by
    obtain ⟨h1, h2⟩ := best_none P l _ h
    by_cases hx : P x = true
    · exfalso
      simp only [bestF, hx, if_true] at h1
      cases b with
      | none => cases h1
      | some y => by_cases hs : stalerB x y = true <;> simp [hs] at h1
    · simp only [bestF, hx, if_false] at h1
      exact ⟨by simpa using h1, by simpa [hx] using h2⟩
theorem best_some (P : CItem → Bool) : ∀ (l : List CItem) (b : Option CItem) (z : CItem), l.foldl (bestF P) b = some z → (b = some z ∨ (z ∈ l ∧ P z = true)) ∧ (∀ y, b = some y → stalerB y z = false) ∧ ∀ x ∈ l, P x = true → stalerB x z = false
  | [], b, z, h => ⟨.inl h, fun y e => by have h : b = some z := h; rw [h] at e; cases e; exact staler_irrefl _, by simp⟩
  | x :: l, b, z, h => by
    obtain ⟨i1, i2, i3⟩ := best_some P l _ z h
    have hmem : z ∈ l ∧ P z = true → z ∈ x :: l ∧ P z = true := fun h => ⟨List.mem_cons_of_mem _ h.1, h.2⟩
    by_cases hx : P x = true
    · have all : stalerB x z = false → ∀ w ∈ x :: l, P w = true → stalerB w z = false := by
        intro h0 w hw hp
        rcases List.mem_cons.1 hw with rfl | hw
        · exact h0
        · exact i3 w hw hp
      simp only [bestF, hx, if_true] at i1 i2
      cases b with
      | none =>
        simp only at i1 i2
        refine ⟨.inr ?_, fun y e => (nomatch e), all (i2 _ rfl)⟩
        rcases i1 with e | h1
        · cases e; exact ⟨List.mem_cons_self, hx⟩
        · exact hmem h1
      | some y0 =>
        by_cases hs : stalerB x y0 = true
        · simp only [hs, if_true] at i1 i2
          refine ⟨.inr ?_, fun y e => ?_, all (i2 _ rfl)⟩
          · rcases i1 with e | h1
            · cases e; exact ⟨List.mem_cons_self, hx⟩
            · exact hmem h1
          · cases e
            apply Bool.eq_false_iff.2
            intro h2
            have := staler_trans hs h2
            rw [i2 _ rfl] at this
            cases this
        · have hs := Bool.eq_false_iff.2 hs
          simp only [hs, Bool.false_eq_true, if_false] at i1 i2
          exact ⟨i1.imp id hmem, i2, all (staler_ntrans hs (i2 _ rfl))⟩
    · simp only [bestF, hx, if_false] at i1 i2
      refine ⟨i1.imp id hmem, i2, fun w hw hp => ?_⟩
      rcases List.mem_cons.1 hw with rfl | hw
      · exact absurd hp hx
      · exact i3 w hw hp
theorem bestL_eq (l : List CItem) (d : Bs) (all : Bool) : bestL l d all = l.foldl (bestF fun x => all || decide (x.key.domain = d)) none := rfl
theorem stalest_spec {l : List CItem} {d : Bs} {all : Bool} (h : ofL l d all ≠ []) : ∃ b ∈ ofL l d all, stalestL l d all = b.key ∧ bestL l d all = some b ∧ ∀ x ∈ ofL l d all, stalerB x b = false := by
  cases hb : bestL l d all with
  | none =>
    exfalso
    have := (best_none _ l none (by rw [← bestL_eq]; exact hb)).2
    apply h
    unfold ofL
    rw [List.filter_eq_nil_iff]
    intro x hx
    rw [this x hx]
    simp
  | some b =>
    obtain ⟨i1, _, i3⟩ := best_some _ l none b (by rw [← bestL_eq]; exact hb)
    rcases i1 with e | ⟨i1, i2⟩
    · cases e
    · refine ⟨b, List.mem_filter.2 ⟨i1, i2⟩, by simp only [stalestL, hb], rfl, fun x hx => ?_⟩
      obtain ⟨h1, h2⟩ := List.mem_filter.1 hx
      exact i3 x h1 h2
theorem bestL_of (l : List CItem) (d : Bs) : bestL l d false = bestL (domainL l d) [] true := by
  unfold bestL domainL
  rw [List.foldl_filter]
  congr 1
  try (funext b x; by_cases hx : x.key.domain = d <;> simp [hx])
theorem without_lt {l : List CItem} {x : CItem} (h : x ∈ l) : (withoutL l x.key).length < l.length := by
  unfold withoutL
  apply Nat.lt_of_le_of_ne (List.length_filter_le _ _)
  intro e
  have := List.length_filter_eq_length_iff.1 e x h
  simp at this
theorem stalest_lt {l : List CItem} {d : Bs} {all : Bool} {m : Nat} (h : m < (ofL l d all).length) : (withoutL l (stalestL l d all)).length < l.length := by
  obtain ⟨b, hb, he, _⟩ := stalest_spec (l := l) (d := d) (all := all) (by intro e; rw [e] at h; simp at h)
  rw [he]
  exact without_lt (List.mem_filter.1 hb).1
def trimD (m : Nat) (d : Bs) (all : Bool) (l : List CItem) : List CItem :=
  if h : m < (ofL l d all).length then trimD m d all (withoutL l (stalestL l d all)) else l
  termination_by l.length
  decreasing_by exact stalest_lt h
theorem trimD_more {m : Nat} {d : Bs} {all : Bool} {l : List CItem} (h : m < (ofL l d all).length) : trimD m d all l = trimD m d all (withoutL l (stalestL l d all)) := by
  conv => lhs; unfold trimD
  rw [dif_pos h]
theorem trimD_done {m : Nat} {d : Bs} {all : Bool} {l : List CItem} (h : (ofL l d all).length ≤ m) : trimD m d all l = l := by
  unfold trimD
  rw [dif_neg (by omega)]
abbrev trimA (m : Nat) (l : List CItem) : List CItem := trimD m [] true l
theorem trimA_done {m : Nat} {l : List CItem} (h : l.length ≤ m) : trimA m l = l := trimD_done (by rw [ofL_true]; exact h)
theorem trimA_more {m : Nat} {l : List CItem} (h : m < l.length) : trimA m l = trimA m (withoutL l (stalestL l [] true)) := trimD_more (by rw [ofL_true]; exact h)
theorem trimD_sub (m : Nat) (d : Bs) (all : Bool) : ∀ (n : Nat) (l : List CItem), l.length ≤ n → (trimD m d all l).Sublist l := by
  intro n
  induction n with
  | zero => intro l h; rw [trimD_done (by unfold ofL; exact Nat.le_trans (List.length_filter_le _ _) (by omega))]; exact List.Sublist.refl _
  | succ n ih =>
    intro l h
    by_cases hm : m < (ofL l d all).length
    · rw [trimD_more hm]
      exact (ih _ (by have := stalest_lt hm; omega)).trans List.filter_sublist
    · rw [trimD_done (by omega)]; exact List.Sublist.refl _
theorem trim_sub (m : Nat) (d : Bs) (all : Bool) (l : List CItem) : (trimD m d all l).Sublist l := trimD_sub m d all l.length l (Nat.le_refl _)
theorem trim_len (m : Nat) (d : Bs) (all : Bool) : ∀ (n : Nat) (l : List CItem), l.length ≤ n → (ofL (trimD m d all l) d all).length ≤ m := by
  intro n
  induction n with
  | zero => intro l h; rw [trimD_done (by unfold ofL; exact Nat.le_trans (List.length_filter_le _ _) (by omega))]; unfold ofL; exact Nat.le_trans (List.length_filter_le _ _) (by omega)
  | succ n ih =>
    intro l h
    by_cases hm : m < (ofL l d all).length
    · rw [trimD_more hm]
      exact ih _ (by have := stalest_lt hm; omega)
    · rw [trimD_done (by omega)]; omega
theorem without_perm {l s : List CItem} {x : CItem} (hk : KN l) (hp : (x :: s).Perm l) : s.Perm (withoutL l x.key) := by
  have h1 : (withoutL (x :: s) x.key).Perm (withoutL l x.key) := hp.filter _
  have hk2 : KN (x :: s) := (hp.map _).nodup_iff.2 hk
  have h0 : x.key ∉ s.map (fun x => x.key) := by simp only [KN, List.map_cons, List.nodup_cons] at hk2; exact hk2.1
  have h2 : withoutL (x :: s) x.key = s := by
    unfold withoutL
    rw [List.filter_cons, if_neg (by simp)]
    apply List.filter_eq_self.2
    intro y hy
    simp only [decide_eq_true_eq]
    intro e
    exact h0 (List.mem_map.2 ⟨y, hy, e⟩)
  rw [h2] at h1
  exact h1
theorem cut_eq (m : Nat) : ∀ (n : Nat) (l s : List CItem), l.length ≤ m + n → KN l → s.Perm l → s.Pairwise (fun a b => stalerB b a = false) → (s.take (l.length - m)).foldl (fun a x => withoutL a x.key) l = trimA m l := by
  intro n
  induction n with
  | zero =>
    intro l s hl _ _ _
    rw [show l.length - m = 0 by omega]
    simp only [List.take_zero, List.foldl_nil]
    exact (trimA_done (by omega)).symm
  | succ n ih =>
    intro l s hl hk hp hs
    by_cases hm : l.length ≤ m
    · rw [show l.length - m = 0 by omega]
      simp only [List.take_zero, List.foldl_nil]
      exact (trimA_done (by omega)).symm
    · cases s with
      | nil => have := hp.length_eq; simp at this; omega
      | cons x s =>
        obtain ⟨b, hb, he, _, hall⟩ := stalest_spec (l := l) (d := []) (all := true) (by rw [ofL_true]; intro e; rw [e] at hm; simp at hm)
        rw [ofL_true] at hb hall
        have hx : x ∈ l := hp.subset List.mem_cons_self
        have hbx : stalerB b x = false := by
          rcases List.mem_cons.1 (hp.symm.subset hb) with rfl | h
          · exact staler_irrefl _
          · exact (List.pairwise_cons.1 hs).1 b h
        have hxb := hall x hx
        have : b = x := hk.inj hb hx (staler_tri hbx hxb)
        subst this
        rw [show l.length - m = (l.length - 1 - m) + 1 by omega, List.take_succ_cons, List.foldl_cons]
        have hp2 := without_perm hk hp
        have hlen : (withoutL l b.key).length = l.length - 1 := by
          have h1 := hp2.length_eq
          have h2 := hp.length_eq
          simp at h2
          omega
        rw [← hlen, ih (withoutL l b.key) s (by rw [hlen]; omega) (hk.sub List.filter_sublist) hp2 (List.pairwise_cons.1 hs).2, trimA_more (l := l) (by omega), he]
theorem without_domain (l : List CItem) (d : Bs) (k : CKey) : domainL (withoutL l k) d = withoutL (domainL l d) k := by
  unfold domainL withoutL
  rw [List.filter_filter, List.filter_filter]
  congr 1
  funext x
  exact Bool.and_comm _ _
theorem trim_domain (m : Nat) (d : Bs) : ∀ (n : Nat) (l : List CItem), l.length ≤ n → trimD m d false l = l.filter fun x => decide (x.key.domain ≠ d) || decide (x ∈ trimA m (domainL l d)) := by
  intro n
  have done : ∀ l : List CItem, (domainL l d).length ≤ m → trimD m d false l = l.filter fun x => decide (x.key.domain ≠ d) || decide (x ∈ trimA m (domainL l d)) := by
    intro l h
    rw [trimD_done (by rw [ofL_false]; exact h), trimA_done h]
    refine (List.filter_eq_self.2 fun x hx => ?_).symm
    by_cases hd : x.key.domain = d
    · have : x ∈ domainL l d := List.mem_filter.2 ⟨hx, by simpa using hd⟩
      simp [this]
    · simp [hd]
  induction n with
  | zero => intro l h; exact done l (Nat.le_trans (List.length_filter_le _ _) (by omega))
  | succ n ih =>
    intro l h
    by_cases hm : m < (domainL l d).length
    · have hm1 : m < (ofL l d false).length := by rw [ofL_false]; exact hm
      have hm2 : m < (ofL (domainL l d) [] true).length := by rw [ofL_true]; exact hm
      have hk : stalestL l d false = stalestL (domainL l d) [] true := by simp only [stalestL, bestL_of]
      obtain ⟨b, hb, he, _⟩ := stalest_spec (l := l) (d := d) (all := false) (by intro e; rw [e] at hm1; simp at hm1)
      rw [ofL_false] at hb
      have hbd : b.key.domain = d := by simpa using (List.mem_filter.1 hb).2
      rw [trimD_more hm1, ih _ (by have := stalest_lt hm1; omega), show trimA m (domainL l d) = trimA m (withoutL (domainL l d) (stalestL (domainL l d) [] true)) from trimD_more hm2, ← hk, ← without_domain]
      conv => lhs; arg 2; unfold withoutL
      rw [List.filter_filter]
      apply List.filter_congr
      intro x hx
      by_cases hq : (decide (x.key.domain ≠ d) || decide (x ∈ trimA m (domainL (withoutL l (stalestL l d false)) d))) = true
      · rw [hq, Bool.true_and, decide_eq_true_eq]
        simp only [Bool.or_eq_true, decide_eq_true_eq] at hq
        rcases hq with hq | hq
        · rw [he]; intro e; rw [e] at hq; exact hq hbd
        · have h1 := (trim_sub m [] true _).subset hq
          rw [without_domain] at h1
          simpa using (List.mem_filter.1 h1).2
      · rw [Bool.eq_false_iff.2 hq, Bool.false_and]
    · exact done l (by omega)
def stepF (T : List CItem) (a : List CItem) (x : CItem) : List CItem := if x ∈ T then a else withoutL a x.key
theorem stepF_fold (T : List CItem) : ∀ (o l : List CItem), o.foldl (stepF T) l = l.filter fun y => decide (∀ x ∈ o, x ∉ T → y.key ≠ x.key)
  | [], l => (List.filter_eq_self.2 fun y _ => by simp).symm
  | x :: o, l => by
    rw [List.foldl_cons, stepF_fold T o]
    unfold stepF
    by_cases hx : x ∈ T
    · rw [if_pos hx]
      apply List.filter_congr
      intro y _
      simp [hx]
    · rw [if_neg hx]
      unfold withoutL
      rw [List.filter_filter]
      apply List.filter_congr
      intro y _
      simp [hx]
      rw [Bool.and_comm]
theorem step_eq {l : List CItem} (hk : KN l) (m : Nat) (d : Bs) : (domainL l d).foldl (stepF (trimA m (domainL l d))) l = trimD m d false l := by
  rw [stepF_fold, trim_domain m d l.length l (Nat.le_refl _)]
  apply List.filter_congr
  intro y hy
  rw [Bool.eq_iff_iff]
  simp only [decide_eq_true_eq, Bool.or_eq_true]
  constructor
  · intro h
    by_cases hd : y.key.domain = d
    · right
      apply Classical.byContradiction
      intro hn
      exact h y (List.mem_filter.2 ⟨hy, by simpa using hd⟩) hn rfl
    · exact .inl hd
  · intro h x hx hxT e
    obtain ⟨hx1, hx2⟩ := List.mem_filter.1 hx
    have : y = x := hk.inj hy hx1 e
    subst this
    rcases h with h | h
    · exact h (by simpa using hx2)
    · exact hxT h
def liveL (l : List CItem) (now : Int) : List CItem := l.filter fun x => !overC x.cookie now
def domsF (cap : Nat) (l : List CItem) (ds : List Bs) : List CItem := ds.foldl (fun b d => trimD cap d false b) l
def leftL (cap total : Nat) (l : List CItem) (now : Int) : List CItem := trimA total (domsF cap (liveL l now) (domainsL (liveL l now)))
theorem domsF_sub (cap : Nat) : ∀ (ds : List Bs) (l : List CItem), (domsF cap l ds).Sublist l
  | [], l => List.Sublist.refl _
  | d :: ds, l => (domsF_sub cap ds _).trans (trim_sub cap d false l)
theorem left_sub (cap total : Nat) (l : List CItem) (now : Int) : (leftL cap total l now).Sublist l := (trim_sub _ _ _ _).trans ((domsF_sub _ _ _).trans List.filter_sublist)
theorem domain_sub {l l' : List CItem} (h : l'.Sublist l) (d : Bs) : (domainL l' d).Sublist (domainL l d) := h.filter _
theorem domsF_len (cap : Nat) : ∀ (ds : List Bs) (l : List CItem) (d : Bs), d ∈ ds → (domainL (domsF cap l ds) d).length ≤ cap
  | [], l, d, h => by cases h
  | e :: ds, l, d, h => by
    rcases List.mem_cons.1 h with rfl | h
    · refine Nat.le_trans (domain_sub (domsF_sub cap ds _) d).length_le ?_
      have := trim_len cap d false l.length l (Nat.le_refl _)
      rw [ofL_false] at this
      exact this
    · exact domsF_len cap ds _ d h
theorem mem_insD {L : List Bs} {d e : Bs} : e ∈ insD L d ↔ e = d ∨ e ∈ L := by
  unfold insD
  split
  · rename_i h
    have : d ∈ L := List.mem_of_getElem? h
    constructor
    · exact .inr
    · rintro (rfl | h)
      · exact this
      · exact h
  · rw [List.mem_append, List.mem_cons]
    conv => rhs; rw [← List.take_append_drop (posD L d) L]
    rw [List.mem_append]
    constructor
    · rintro (h | h | h)
      · exact .inr (.inl h)
      · exact .inl h
      · exact .inr (.inr h)
    · rintro (h | h | h)
      · exact .inr (.inl h)
      · exact .inl h
      · exact .inr (.inr h)
theorem mem_domF : ∀ (l : List CItem) (a : List Bs) (d : Bs), d ∈ l.foldl (fun a x => insD a x.key.domain) a ↔ d ∈ a ∨ ∃ x ∈ l, x.key.domain = d
  | [], a, d => by simp
  | x :: l, a, d => by
    rw [List.foldl_cons, mem_domF l, mem_insD]
    constructor
    · rintro ((rfl | h) | ⟨y, h1, h2⟩)
      · exact .inr ⟨x, List.mem_cons_self, rfl⟩
      · exact .inl h
      · exact .inr ⟨y, List.mem_cons_of_mem _ h1, h2⟩
    · rintro (h | ⟨y, h1, h2⟩)
      · exact .inl (.inr h)
      · rcases List.mem_cons.1 h1 with rfl | h1
        · exact .inl (.inl h2.symm)
        · exact .inr ⟨y, h1, h2⟩
theorem mem_domainsL {l : List CItem} {d : Bs} : d ∈ domainsL l ↔ ∃ x ∈ l, x.key.domain = d := by
  unfold domainsL
  rw [mem_domF]
  simp
theorem left_limits {cap total : Nat} {l : List CItem} {now : Int} : (leftL cap total l now).length ≤ total ∧ ∀ x ∈ leftL cap total l now, overC x.cookie now = false ∧ (domainL (leftL cap total l now) x.key.domain).length ≤ cap := by
  have hs := trim_sub total [] true (domsF cap (liveL l now) (domainsL (liveL l now)))
  refine ⟨?_, fun x hx => ⟨?_, ?_⟩⟩
  · have := trim_len total [] true _ (domsF cap (liveL l now) (domainsL (liveL l now))) (Nat.le_refl _)
    rw [ofL_true] at this
    exact this
  · have := (domsF_sub cap _ _).subset (hs.subset hx)
    simpa using (List.mem_filter.1 this).2
  · have hx1 := (domsF_sub cap _ _).subset (hs.subset hx)
    exact Nat.le_trans (domain_sub hs _).length_le (domsF_len cap _ _ _ (mem_domainsL.2 ⟨x, hx1, rfl⟩))
theorem domsF_few (cap : Nat) (l : List CItem) (h : ∀ x ∈ l, (domainL l x.key.domain).length ≤ cap) : ∀ ds : List Bs, domsF cap l ds = l
  | [] => rfl
  | d :: ds => by
    have hd : (domainL l d).length ≤ cap := by
      cases he : domainL l d with
      | nil => simp
      | cons x o =>
        have hx : x ∈ domainL l d := by rw [he]; exact List.mem_cons_self
        obtain ⟨h1, h2⟩ := List.mem_filter.1 hx
        have := h x h1
        rw [show x.key.domain = d by simpa using h2, he] at this
        exact this
    show domsF cap (trimD cap d false l) ds = l
    rw [trimD_done (by rw [ofL_false]; exact hd)]
    exact domsF_few cap l h ds
theorem left_few {cap total : Nat} {l : List CItem} {now : Int} (h1 : ∀ x ∈ l, overC x.cookie now = false) (h2 : ∀ x ∈ l, (domainL l x.key.domain).length ≤ cap) (h3 : l.length ≤ total) : leftL cap total l now = l := by
  have e : liveL l now = l := List.filter_eq_self.2 fun x hx => by simp [h1 x hx]
  unfold leftL
  rw [e, domsF_few cap l h2, trimA_done h3]
def goneL (l k : List CItem) : List CItem := l.filter fun x => decide (x ∉ k)
theorem rising_pair : ∀ {l : List CItem}, risingL l = true ↔ l.Pairwise (fun a b => keyLess a.key b.key = true)
  | [] => by simp [risingL]
  | [x] => by simp [risingL]
  | x :: y :: l => by
    simp only [risingL, Bool.and_eq_true]
    rw [rising_pair (l := y :: l), List.pairwise_cons (a := x)]
    constructor
    · rintro ⟨h1, h2⟩
      refine ⟨fun z hz => ?_, h2⟩
      rcases List.mem_cons.1 hz with rfl | hz
      · exact h1
      · exact keyLess_trans _ _ _ h1 ((List.pairwise_cons.1 h2).1 z hz)
    · rintro ⟨h1, h2⟩
      exact ⟨h1 y List.mem_cons_self, h2⟩
theorem rising_KN {l : List CItem} (h : risingL l = true) : KN l := by
  have h := rising_pair.1 h
  unfold KN
  rw [List.nodup_iff_pairwise_ne, List.pairwise_map]
  exact h.imp fun hab e => by rw [e, keyLess_irrefl] at hab; cases hab
theorem rising_sub {l l' : List CItem} (h : risingL l = true) (hs : l'.Sublist l) : risingL l' = true := rising_pair.2 ((rising_pair.1 h).sublist hs)
theorem rising_put {l : List CItem} {x : CItem} (h : risingL l = true) : risingL (putL l x) = true := by
  have h := rising_pair.1 h
  apply rising_pair.2
  unfold putL
  rw [List.pairwise_append]
  refine ⟨h.sublist List.filter_sublist, List.pairwise_cons.2 ⟨fun y hy => (List.mem_filter.1 hy).2, h.sublist List.filter_sublist⟩, fun a ha b hb => ?_⟩
  have ha := (List.mem_filter.1 ha).2
  rcases List.mem_cons.1 hb with rfl | hb
  · exact ha
  · exact keyLess_trans _ _ _ ha (List.mem_filter.1 hb).2
theorem rising_byKeys (l : List CItem) : risingL (byKeysL l) = true := by
  have : ∀ (l a : List CItem), risingL a = true → risingL (l.foldl putL a) = true := by
    intro l
    induction l with
    | nil => intro a h; exact h
    | cons x l ih => intro a h; exact ih _ (rising_put h)
  exact this l [] rfl
theorem doms_eq {l : List CItem} (hk : KN l) (cap : Nat) : ∀ ds : List Bs, ds.foldl (fun b d => (domainL b d).foldl (stepF (trimA cap (domainL b d))) b) l = domsF cap l ds := by
  intro ds
  induction ds generalizing l with
  | nil => rfl
  | cons d ds ih =>
    rw [List.foldl_cons, step_eq hk, ih (hk.sub (trim_sub _ _ _ _))]
    rfl
end Go.Proofs

set_option maxRecDepth 100000
namespace Go.Proofs
open Go Go.Am Go.RowKit Go.Sy
variable [Inhabited DrP]
abbrev capN (c : CConfig) : Nat := c.domain.toNat
abbrev totN (c : CConfig) : Nat := c.total.toNat
def cCutE : Con := { Y := List CItem × Int, pre := fun y => few y.1 ∧ KN y.1 ∧ 0 ≤ y.2, args := fun y => [items y.1, i64 y.2], res := fun y => items (trimA y.2.toNat y.1) }
def shorts (l : List CItem) : Prop := ∀ x ∈ l, x.key.domain.length ≤ 1000000
def cDomsV : Con := { Y := List CItem, pre := fun y => few y ∧ shorts y, args := fun y => [items y], res := fun y => strs (domainsL y) }
noncomputable def conG1 (f : FuncId) : Option Con := bif Nat.beq f F.view_Domains then some cDomsV else bif Nat.beq f F.evict_cut then some cCutE else conI7 f

abbrev goneR (l k : List CItem) : List CItem := l.filter fun x => !(findL k x.key).2
def cLeftR : Con := { Y := CConfig × List CItem × Int, pre := fun y => 0 ≤ y.1.domain ∧ 0 ≤ y.1.total ∧ few y.2.1, args := fun y => [.agg y.1.enc, items y.2.1, i64 y.2.2], res := fun y => items (leftL (capN y.1) (totN y.1) y.2.1 y.2.2) }
abbrev domsI (cap : Nat) (l : List CItem) (i : Nat) : List CItem := domsF cap l ((domainsL l).take i)
def aLeftR1 (y : CConfig × List CItem × Int) : Ann := { α := Nat, ok := fun i => i ≤ y.2.1.length, μ := fun i => y.2.1.length - i, keep := [2, 3, 6], slots := fun i => [(1, items y.2.1), (7, .own 1), (8, i64 i)], objs := fun i => [(1, itemsO ((y.2.1.take i).filter fun x => !overC x.cookie y.2.2))] }
def aLeftR2 (y : CConfig × List CItem × Int) : Ann := let l := liveL y.2.1 y.2.2; { α := Nat, ok := fun i => i ≤ (domainsL l).length, μ := fun i => (domainsL l).length - i, keep := [3, 6], slots := fun i => [(7, items (domsI (capN y.1) l i)), (9, strs (domainsL l)), (10, i64 i)], objs := fun _ => [], frz := [7] }
def aLeftR3 (y : CConfig × List CItem × Int) : Ann := let l := liveL y.2.1 y.2.2; { α := Nat × List CItem, ok := fun x => ∃ h : x.1 < (domainsL l).length, x.2.length ≤ y.2.1.length ∧ trimD (capN y.1) (domainsL l)[x.1] false x.2 = domsI (capN y.1) l (x.1 + 1), μ := fun x => x.2.length, keep := [3, 6], slots := fun x => [(7, items x.2), (9, strs (domainsL l)), (10, i64 x.1)], objs := fun _ => [], link := some fun a b => b.1 = a.1 }
def aLeftR4 (y : CConfig × List CItem × Int) : Ann := { α := List CItem, ok := fun x => x.length ≤ y.2.1.length ∧ trimA (totN y.1) x = leftL (capN y.1) (totN y.1) y.2.1 y.2.2, μ := fun x => x.length, keep := [3, 6], slots := fun x => [(7, items x)], objs := fun _ => [] }
noncomputable def annLeftR (y : CConfig × List CItem × Int) : FuncId → Nat → Option Ann := annMore F.ref26_Left 3 (aLeftR1 y) (annMore F.ref26_Left 9 (aLeftR2 y) (annMore F.ref26_Left 11 (aLeftR3 y) (annAt F.ref26_Left 13 (aLeftR4 y))))
noncomputable def conG2 (f : FuncId) : Option Con := bif Nat.beq f F.ref26_Left then some cLeftR else conG1 f
def cGoneR : Con := { Y := CConfig × List CItem × Int, pre := fun y => 0 ≤ y.1.domain ∧ 0 ≤ y.1.total ∧ few y.2.1, args := fun y => [.agg y.1.enc, items y.2.1, i64 y.2.2], res := fun y => items (goneR y.2.1 (leftL (capN y.1) (totN y.1) y.2.1 y.2.2)) }
def aGoneR (y : CConfig × List CItem × Int) : Ann := let k := leftL (capN y.1) (totN y.1) y.2.1 y.2.2; { α := Nat, ok := fun i => i ≤ y.2.1.length, μ := fun i => y.2.1.length - i, keep := [3, 6], slots := fun i => [(1, items y.2.1), (7, items k), (8, .own 1), (9, i64 i)], objs := fun i => [(1, itemsO ((y.2.1.take i).filter fun x => !(findL k x.key).2))] }

def evL (y : CConfig × List CItem × Int) : List CItem × Int := if checkC y.1 ≠ 0 then ([], checkC y.1) else if risingL y.2.1 then (leftL (capN y.1) (totN y.1) y.2.1 y.2.2, 0) else ([], 6)
def cLeft : Con := { Y := CConfig × List CItem × Int, pre := fun y => okRules y.1 ∧ few y.2.1 ∧ shorts y.2.1, args := fun y => [.agg y.1.enc, items y.2.1, i64 y.2.2], res := fun y => .tup [items (evL y).1, i64 (evL y).2] }
def aLeft1 (y : CConfig × List CItem × Int) : Ann := { α := Nat, ok := fun i => i ≤ y.2.1.length, μ := fun i => y.2.1.length - i, keep := [2, 3, 6, 7], slots := fun i => [(25, items y.2.1), (26, i64 (Int.ofNat y.2.1.length)), (27, i64 i), (9, .own 1)], objs := fun i => [(1, itemsO ((y.2.1.take i).filter fun x => !overC x.cookie y.2.2))] }
abbrev domsE (cap : Nat) (l : List CItem) (i : Nat) : List CItem := ((domainsL l).take i).foldl (fun b d => (domainL b d).foldl (stepF (trimA cap (domainL b d))) b) l
def aLeft2 (y : CConfig × List CItem × Int) : Ann := let l := liveL y.2.1 y.2.2; { α := Nat, ok := fun i => i ≤ (domainsL l).length, μ := fun i => (domainsL l).length - i, keep := [3, 6, 7], slots := fun i => [(9, items (domsE (capN y.1) l i)), (41, strs (domainsL l)), (42, i64 (Int.ofNat (domainsL l).length)), (43, i64 i)], objs := fun _ => [], frz := [9] }
abbrev ofE (cap : Nat) (l : List CItem) (i : Nat) : List CItem := domainL (domsE cap l i) ((domainsL l)[i]?.getD [])
def aLeft3 (y : CConfig × List CItem × Int) : Ann := let l := liveL y.2.1 y.2.2; { α := Nat × Nat, ok := fun x => ∃ _ : x.1 < (domainsL l).length, x.2 ≤ (ofE (capN y.1) l x.1).length, μ := fun x => (ofE (capN y.1) l x.1).length - x.2, keep := [3, 6, 7], slots := fun x => [(9, items (((ofE (capN y.1) l x.1).take x.2).foldl (stepF (trimA (capN y.1) (ofE (capN y.1) l x.1))) (domsE (capN y.1) l x.1))), (14, items (ofE (capN y.1) l x.1)), (41, strs (domainsL l)), (42, i64 (Int.ofNat (domainsL l).length)), (43, i64 x.1), (50, items (ofE (capN y.1) l x.1)), (51, i64 (Int.ofNat (ofE (capN y.1) l x.1).length)), (52, i64 x.2)], objs := fun _ => [], link := some fun a b => b.1 = a.1 }
noncomputable def annLeft (y : CConfig × List CItem × Int) : FuncId → Nat → Option Ann := annMore F.evict_Left 8 (aLeft1 y) (annMore F.evict_Left 14 (aLeft2 y) (annAt F.evict_Left 18 (aLeft3 y)))
noncomputable def conG3 (f : FuncId) : Option Con := bif Nat.beq f F.ref26_Gone then some cGoneR else bif Nat.beq f F.evict_Left then some cLeft else conG2 f
def evG (y : CConfig × List CItem × Int) : List CItem × Int := if (evL y).2 ≠ 0 then ([], (evL y).2) else (goneL y.2.1 (evL y).1, 0)
def cGone : Con := { Y := CConfig × List CItem × Int, pre := fun y => okRules y.1 ∧ few y.2.1 ∧ shorts y.2.1, args := fun y => [.agg y.1.enc, items y.2.1, i64 y.2.2], res := fun y => .tup [items (evG y).1, i64 (evG y).2] }
def aGone (y : CConfig × List CItem × Int) : Ann := { α := Nat, ok := fun i => i ≤ y.2.1.length, μ := fun i => y.2.1.length - i, keep := [6, 7], slots := fun i => [(8, items (evL y).1), (10, .own 1), (23, items y.2.1), (24, i64 (Int.ofNat y.2.1.length)), (25, i64 i)], objs := fun i => [(1, itemsO (goneL (y.2.1.take i) (evL y).1))] }
def cShown : Con := { Y := CConfig × List CItem × Int, pre := fun y => okRules y.1 ∧ few y.2.1 ∧ shorts y.2.1, args := fun y => [.agg y.1.enc, items y.2.1, i64 y.2.2], res := fun y => items (evL y).1 }
def shortB (x : CItem) : Bool := decide (x.key.name.length ≤ 300) && decide (x.key.domain.length ≤ 300) && decide (x.key.path.length ≤ 300) && decide (x.cookie.value.length ≤ 300)
def lightB (c : CConfig) (l : List CItem) : Bool := decide (l.length ≤ 40) && !(decide (20 < c.rules.length) && decide (c.rules.length ≤ 256)) && decide (c.rules.length ≤ 300) && c.rules.all (fun s => decide (s.length ≤ 300)) && l.all shortB
def cLight : Con := { Y := CConfig × List CItem, pre := fun _ => True, args := fun y => [.agg y.1.enc, items y.2], res := fun y => .bool (lightB y.1 y.2) }
def aLight1 (y : CConfig × List CItem) : Ann := { α := Nat, ok := fun i => i ≤ y.1.rules.length ∧ ∀ j (h : j < y.1.rules.length), j < i → y.1.rules[j].length ≤ 300, μ := fun i => y.1.rules.length - i, keep := [1, 2, 4], slots := fun i => [(5, i64 i)], objs := fun _ => [] }
def aLight2 (y : CConfig × List CItem) : Ann := { α := Nat, ok := fun i => i ≤ y.2.length ∧ ∀ j (h : j < y.2.length), j < i → shortB y.2[j] = true, μ := fun i => y.2.length - i, keep := [1, 2, 4], slots := fun i => [(6, i64 i)], objs := fun _ => [] }
noncomputable def conG4 (f : FuncId) : Option Con := bif Nat.beq f F.evict_Gone then some cGone else bif Nat.beq f F.evict_Shown then some cShown else bif Nat.beq f F.law26_light then some cLight else conG3 f
def cLawE : Con := { Y := CConfig × List CItem × Int, pre := fun _ => True, args := fun y => [.agg y.1.enc, items y.2.1, i64 y.2.2], res := fun _ => .bool true }
def aLimits (y : CConfig × List CItem × Int) : Ann := let k := (evL (y.1, byKeysL y.2.1, y.2.2)).1; { α := Nat, ok := fun i => i ≤ k.length, μ := fun i => k.length - i, keep := [2, 3, 6], slots := fun i => [(7, items k), (9, i64 i)], objs := fun _ => [] }
def aFew (y : CConfig × List CItem × Int) : Ann := let s := byKeysL y.2.1; { α := Nat, ok := fun i => i ≤ s.length ∧ ∀ j (h : j < s.length), j < i → overC s[j].cookie y.2.2 = false ∧ (Int.ofNat (domainL s s[j].key.domain).length) ≤ y.1.domain, μ := fun i => s.length - i, keep := [2, 3, 6], slots := fun i => [(7, items s), (8, i64 i)], objs := fun _ => [] }
end Go.Proofs

set_option maxRecDepth 100000
set_option maxHeartbeats 4000000
namespace Go.Proofs
open Go Go.Am Go.RowKit Go.Sy
theorem vcLeftR : (askY (fun (y : Con.Y cLeftR) => cfgI conG1 (annLeftR y)) 800 F.ref26_Left) = (∀ (y : CConfig × List CItem × Int),
 0 ≤ y.1.domain ∧ 0 ≤ y.1.total ∧ y.2.1.length ≤ 10000 →
 (∃ (x : Nat),
 x ≤ y.2.1.length ∧
 (eqI y.2.2 y.2.2 ∧
 True ∧
 True ∧
 SV.lst CItem y.2.1 CItem.enc = SV.lst CItem y.2.1 CItem.enc ∧
 True ∧ eqI 0 ↑x ∧ True) ∧
 (SV.lst (View.X { X := CItem, enc := CItem.enc }) [] (View.enc { X := CItem, enc := CItem.enc }) =
 SV.lst CItem
 (List.filter (fun (x : CItem) => !overC x.cookie y.2.2) (List.take x y.2.1))
 CItem.enc ∧
 (eqI y.1.devices y.1.devices ∧
 eqI y.1.domain y.1.domain ∧
 eqI y.1.total y.1.total ∧
 SV.lst Bs y.1.rules encTx =
 SV.lst Bs y.1.rules encTx ∧
 True) ∧
 True) ∧
 True) ∧
 ∀ (x : Nat),
 x ≤ y.2.1.length →
 br (ltI (↑x) (Int.ofNat y.2.1.length))
 (so y.2.1[Int.toNat ↑x]? fun (val : CItem) =>
 ∃ (y_1 : CCookie × Int),
 val.cookie.value = y_1.1.value ∧
 val.cookie.hostOnly = y_1.1.hostOnly ∧
 val.cookie.secure = y_1.1.secure ∧
 val.cookie.httpOnly = y_1.1.httpOnly ∧
 val.cookie.persistent = y_1.1.persistent ∧
 eqI val.cookie.expiry y_1.1.expiry ∧
 eqI val.cookie.creation y_1.1.creation ∧
 eqI val.cookie.access y_1.1.access ∧
 eqI y.2.2 y_1.2 ∧
 True ∧
 br (!overC y_1.1 y_1.2)
 (so y.2.1[Int.toNat ↑x]? fun (val : CItem) =>
 ∃ (x_1 : CItem),
 (CItem.enc x_1) =
 (CItem.enc val) ∧
 ck
 (Nat.ble
 ((List.length
 (List.filter (fun (x : CItem) => !overC x.cookie y.2.2)
 (List.take x y.2.1)) +
 List.length [x_1]) *
 96)
 16777216 &&
 Nat.ble
 (List.length
 (List.filter (fun (x : CItem) => !overC x.cookie y.2.2)
 (List.take x y.2.1)) +
 List.length [x_1])
 16777216)
 (ck (inR Go.IntKind.i64 (↑x + 1))
 (∃ (y_2 : Nat),
 y_2 ≤ y.2.1.length ∧
 Ann.μ (aLeftR1 y) y_2 < Ann.μ (aLeftR1 y) x ∧
 (eqI y.2.2 y.2.2 ∧
 True ∧
 True ∧
 SV.lst CItem y.2.1 CItem.enc =
 SV.lst CItem y.2.1 CItem.enc ∧
 True ∧ eqI (↑x + 1) ↑y_2 ∧ True) ∧
 (SV.lst CItem
 (List.filter (fun (x : CItem) => !overC x.cookie y.2.2)
 (List.take x y.2.1) ++
 [x_1])
 CItem.enc =
 SV.lst CItem
 (List.filter (fun (x : CItem) => !overC x.cookie y.2.2)
 (List.take y_2 y.2.1))
 CItem.enc ∧
 (eqI y.1.devices y.1.devices ∧
 eqI y.1.domain y.1.domain ∧
 eqI y.1.total y.1.total ∧
 SV.lst Bs y.1.rules encTx =
 SV.lst Bs y.1.rules encTx ∧
 True) ∧
 True) ∧
 True)))
 (ck (inR Go.IntKind.i64 (↑x + 1))
 (∃ (y_2 : Nat),
 y_2 ≤ y.2.1.length ∧
 Ann.μ (aLeftR1 y) y_2 < Ann.μ (aLeftR1 y) x ∧
 (eqI y.2.2 y.2.2 ∧
 True ∧
 True ∧
 SV.lst CItem y.2.1 CItem.enc =
 SV.lst CItem y.2.1 CItem.enc ∧
 True ∧ eqI (↑x + 1) ↑y_2 ∧ True) ∧
 (SV.lst CItem
 (List.filter (fun (x : CItem) => !overC x.cookie y.2.2)
 (List.take x y.2.1))
 CItem.enc =
 SV.lst CItem
 (List.filter (fun (x : CItem) => !overC x.cookie y.2.2)
 (List.take y_2 y.2.1))
 CItem.enc ∧
 (eqI y.1.devices y.1.devices ∧
 eqI y.1.domain y.1.domain ∧
 eqI y.1.total y.1.total ∧
 SV.lst Bs y.1.rules encTx =
 SV.lst Bs y.1.rules encTx ∧
 True) ∧
 True) ∧
 True)))
 (∃ (y_1 : List CItem),
 SV.lst CItem
 (List.filter (fun (x : CItem) => !overC x.cookie y.2.2) (List.take x y.2.1))
 CItem.enc =
 SV.lst CItem y_1 CItem.enc ∧
 y_1.length ≤ 10000 ∧
 (∃ (x_1 : Nat),
 x_1 ≤ List.length (domainsL (liveL y.2.1 y.2.2)) ∧
 (True ∧
 True ∧
 SV.lst CItem
 (List.filter (fun (x : CItem) => !overC x.cookie y.2.2)
 (List.take x y.2.1))
 CItem.enc =
 SV.lst CItem (domsI (capN y.1) (liveL y.2.1 y.2.2) x_1)
 CItem.enc ∧
 SV.lst Bs (domainsL y_1) encTx =
 SV.lst Bs (domainsL (liveL y.2.1 y.2.2)) encTx ∧
 eqI 0 ↑x_1 ∧ True) ∧
 (True ∧
 (eqI y.1.devices y.1.devices ∧
 eqI y.1.domain y.1.domain ∧
 eqI y.1.total y.1.total ∧
 SV.lst Bs y.1.rules encTx =
 SV.lst Bs y.1.rules encTx ∧
 True) ∧
 True) ∧
 True) ∧
 ∀ (x : Nat),
 x ≤ List.length (domainsL (liveL y.2.1 y.2.2)) →
 br (ltI (↑x) (Int.ofNat (List.length (domainsL (liveL y.2.1 y.2.2)))))
 (∃ (x0 : Nat × List CItem),
 (∃ (x_1 : Nat × List CItem),
 ((∃ (h : x_1.1 < List.length (domainsL (liveL y.2.1 y.2.2))),
 x_1.2.length ≤ y.2.1.length ∧
 trimD (capN y.1)
 (domainsL (liveL y.2.1 y.2.2))[x_1.1] Bool.false x_1.2 =
 domsI (capN y.1) (liveL y.2.1 y.2.2) (x_1.1 + 1)) ∧
 x_1.1 = x0.1) ∧
 (True ∧
 True ∧
 SV.lst CItem
 (domsI (capN y.1) (liveL y.2.1 y.2.2) x)
 CItem.enc =
 SV.lst CItem x_1.2 CItem.enc ∧
 SV.lst Bs (domainsL (liveL y.2.1 y.2.2)) encTx =
 SV.lst Bs (domainsL (liveL y.2.1 y.2.2)) encTx ∧
 eqI ↑x ↑x_1.1 ∧ True) ∧
 (True ∧
 (eqI y.1.devices y.1.devices ∧
 eqI y.1.domain y.1.domain ∧
 eqI y.1.total y.1.total ∧
 SV.lst Bs y.1.rules encTx =
 SV.lst Bs y.1.rules encTx ∧
 True) ∧
 True) ∧
 True) ∧
 ∀ (x_1 : Nat × List CItem),
 (∃ (h : x_1.1 < List.length (domainsL (liveL y.2.1 y.2.2))),
 x_1.2.length ≤ y.2.1.length ∧
 trimD (capN y.1)
 (domainsL (liveL y.2.1 y.2.2))[x_1.1] Bool.false x_1.2 =
 domsI (capN y.1) (liveL y.2.1 y.2.2) (x_1.1 + 1)) ∧
 x_1.1 = x0.1 →
 so (domainsL (liveL y.2.1 y.2.2))[Int.toNat ↑x_1.1]?
 fun (val : Bs) =>
 ∃ (y_2 : List CItem × Bs),
 SV.lst CItem x_1.2 CItem.enc = SV.lst CItem y_2.1 CItem.enc ∧
 val = y_2.2 ∧
 y_2.1.length ≤ 10000 ∧
 br (ltI y.1.domain (Int.ofNat (List.length (domainL y_2.1 y_2.2))))
 (so (domainsL (liveL y.2.1 y.2.2))[Int.toNat ↑x_1.1]?
 fun (val : Bs) =>
 ∃ (y_3 : List CItem × Bs × Bool),
 SV.lst CItem x_1.2 CItem.enc =
 SV.lst CItem y_3.1 CItem.enc ∧
 val = y_3.2.1 ∧
 Bool.false = y_3.2.2 ∧
 y_3.1.length ≤ 10000 ∧
 ∃ (y_4 : List CItem × CKey),
 SV.lst CItem x_1.2 CItem.enc =
 SV.lst CItem y_4.1 CItem.enc ∧
 CKey.name (stalestL y_3.1 y_3.2.1 y_3.2.2) =
 y_4.2.name ∧
 CKey.domain (stalestL y_3.1 y_3.2.1 y_3.2.2) =
 y_4.2.domain ∧
 CKey.path (stalestL y_3.1 y_3.2.1 y_3.2.2) =
 y_4.2.path ∧
 y_4.1.length ≤ 10000 ∧
 ∃ (y_5 : Nat × List CItem),
 ((∃ (h :
 y_5.1 <
 List.length (domainsL (liveL y.2.1 y.2.2))),
 y_5.2.length ≤ y.2.1.length ∧
 trimD (capN y.1)
 (domainsL
 (liveL y.2.1 y.2.2))[y_5.1]
 Bool.false y_5.2 =
 domsI (capN y.1)
 (liveL y.2.1 y.2.2) (y_5.1 + 1)) ∧
 y_5.1 = x0.1) ∧
 Ann.μ
 (Ann.when (aLeftR3 y)
 (fun (a b : Nat × List CItem) => b.1 = a.1) x0)
 y_5 <
 Ann.μ
 (Ann.when (aLeftR3 y)
 (fun (a b : Nat × List CItem) => b.1 = a.1) x0)
 x_1 ∧
 (True ∧
 True ∧
 SV.lst CItem (withoutL y_4.1 y_4.2)
 CItem.enc =
 SV.lst CItem y_5.2 CItem.enc ∧
 SV.lst Bs
 (domainsL (liveL y.2.1 y.2.2))
 encTx =
 SV.lst Bs
 (domainsL (liveL y.2.1 y.2.2))
 encTx ∧
 eqI ↑x_1.1 ↑y_5.1 ∧ True) ∧
 (True ∧
 (eqI y.1.devices y.1.devices ∧
 eqI y.1.domain y.1.domain ∧
 eqI y.1.total y.1.total ∧
 SV.lst Bs y.1.rules encTx =
 SV.lst Bs y.1.rules encTx ∧
 True) ∧
 True) ∧
 True)
 (ck (inR Go.IntKind.i64 (↑x_1.1 + 1))
 (∃ (y_3 : Nat),
 y_3 ≤ List.length (domainsL (liveL y.2.1 y.2.2)) ∧
 Ann.μ (aLeftR2 y) y_3 < Ann.μ (aLeftR2 y) x ∧
 (True ∧
 True ∧
 SV.lst CItem x_1.2 CItem.enc =
 SV.lst CItem
 (domsI (capN y.1) (liveL y.2.1 y.2.2)
 y_3)
 CItem.enc ∧
 SV.lst Bs (domainsL (liveL y.2.1 y.2.2))
 encTx =
 SV.lst Bs (domainsL (liveL y.2.1 y.2.2))
 encTx ∧
 eqI (↑x_1.1 + 1) ↑y_3 ∧ True) ∧
 (True ∧
 (eqI y.1.devices y.1.devices ∧
 eqI y.1.domain y.1.domain ∧
 eqI y.1.total y.1.total ∧
 SV.lst Bs y.1.rules encTx =
 SV.lst Bs y.1.rules encTx ∧
 True) ∧
 True) ∧
 True)))
 ((∃ (x_1 : List CItem),
 (x_1.length ≤ y.2.1.length ∧
 trimA (totN y.1) x_1 =
 leftL (capN y.1) (totN y.1) y.2.1 y.2.2) ∧
 (True ∧
 True ∧
 SV.lst CItem
 (domsI (capN y.1) (liveL y.2.1 y.2.2) x)
 CItem.enc =
 SV.lst CItem x_1 CItem.enc ∧
 True) ∧
 (True ∧
 (eqI y.1.devices y.1.devices ∧
 eqI y.1.domain y.1.domain ∧
 eqI y.1.total y.1.total ∧
 SV.lst Bs y.1.rules encTx =
 SV.lst Bs y.1.rules encTx ∧
 True) ∧
 True) ∧
 True) ∧
 ∀ (x : List CItem),
 x.length ≤ y.2.1.length ∧
 trimA (totN y.1) x =
 leftL (capN y.1) (totN y.1) y.2.1 y.2.2 →
 br (ltI y.1.total (Int.ofNat x.length))
 (∃ (y_2 : List CItem × Bs × Bool),
 SV.lst CItem x CItem.enc = SV.lst CItem y_2.1 CItem.enc ∧
 Array.toList (ByteArray.data { data := #[] }) = y_2.2.1 ∧
 Bool.true = y_2.2.2 ∧
 y_2.1.length ≤ 10000 ∧
 ∃ (y_3 : List CItem × CKey),
 SV.lst CItem x CItem.enc = SV.lst CItem y_3.1 CItem.enc ∧
 CKey.name (stalestL y_2.1 y_2.2.1 y_2.2.2) =
 y_3.2.name ∧
 CKey.domain (stalestL y_2.1 y_2.2.1 y_2.2.2) =
 y_3.2.domain ∧
 CKey.path (stalestL y_2.1 y_2.2.1 y_2.2.2) =
 y_3.2.path ∧
 y_3.1.length ≤ 10000 ∧
 ∃ (y_4 : List CItem),
 (y_4.length ≤ y.2.1.length ∧
 trimA (totN y.1) y_4 =
 leftL (capN y.1) (totN y.1) y.2.1
 y.2.2) ∧
 Ann.μ (aLeftR4 y) y_4 < Ann.μ (aLeftR4 y) x ∧
 (True ∧
 True ∧
 SV.lst CItem (withoutL y_3.1 y_3.2) CItem.enc =
 SV.lst CItem y_4 CItem.enc ∧
 True) ∧
 (True ∧
 (eqI y.1.devices y.1.devices ∧
 eqI y.1.domain y.1.domain ∧
 eqI y.1.total y.1.total ∧
 SV.lst Bs y.1.rules encTx =
 SV.lst Bs y.1.rules encTx ∧
 True) ∧
 True) ∧
 True)
 (SV.lst CItem x CItem.enc =
 SV.lst CItem
 (leftL (capN y.1) (totN y.1) y.2.1 y.2.2)
 CItem.enc ∧
 True)))) := by kernel_rfl
theorem vcGoneR : (askY (fun (y : Con.Y cGoneR) => cfgI conG2 (annAt F.ref26_Gone 4 (aGoneR y))) 800 F.ref26_Gone) = (∀ (y : CConfig × List CItem × Int),
 0 ≤ y.1.domain ∧ 0 ≤ y.1.total ∧ y.2.1.length ≤ 10000 →
 ∃ (y_1 : CConfig × List CItem × Int),
 eqI y.1.devices y_1.1.devices ∧
 eqI y.1.domain y_1.1.domain ∧
 eqI y.1.total y_1.1.total ∧
 SV.lst Bs y.1.rules encTx = SV.lst Bs y_1.1.rules encTx ∧
 SV.lst CItem y.2.1 CItem.enc = SV.lst CItem y_1.2.1 CItem.enc ∧
 eqI y.2.2 y_1.2.2 ∧
 (0 ≤ y_1.1.domain ∧ 0 ≤ y_1.1.total ∧ y_1.2.1.length ≤ 10000) ∧
 (∃ (x : Nat),
 x ≤ y.2.1.length ∧
 (True ∧
 True ∧
 SV.lst CItem y.2.1 CItem.enc =
 SV.lst CItem y.2.1 CItem.enc ∧
 SV.lst CItem
 (leftL (capN y_1.1) (totN y_1.1) y_1.2.1 y_1.2.2)
 CItem.enc =
 SV.lst CItem
 (leftL (capN y.1) (totN y.1) y.2.1 y.2.2)
 CItem.enc ∧
 True ∧ eqI 0 ↑x ∧ True) ∧
 (SV.lst (View.X { X := CItem, enc := CItem.enc }) []
 (View.enc { X := CItem, enc := CItem.enc }) =
 SV.lst CItem
 (List.filter
 (fun (x : CItem) =>
 !Prod.snd
 (findL
 (leftL (capN y.1) (totN y.1) y.2.1 y.2.2)
 x.key))
 (List.take x y.2.1))
 CItem.enc ∧
 (eqI y.1.devices y.1.devices ∧
 eqI y.1.domain y.1.domain ∧
 eqI y.1.total y.1.total ∧
 SV.lst Bs y.1.rules encTx =
 SV.lst Bs y.1.rules encTx ∧
 True) ∧
 True) ∧
 True) ∧
 ∀ (x : Nat),
 x ≤ y.2.1.length →
 br (ltI (↑x) (Int.ofNat y.2.1.length))
 (so y.2.1[Int.toNat ↑x]? fun (val : CItem) =>
 ∃ (y_2 : List CItem × CKey),
 SV.lst CItem
 (leftL (capN y.1) (totN y.1) y.2.1 y.2.2)
 CItem.enc =
 SV.lst CItem y_2.1 CItem.enc ∧
 val.key.name = y_2.2.name ∧
 val.key.domain = y_2.2.domain ∧
 val.key.path = y_2.2.path ∧
 y_2.1.length ≤ 10000 ∧
 br (!Prod.snd (findL y_2.1 y_2.2))
 (so y.2.1[Int.toNat ↑x]? fun (val : CItem) =>
 ∃ (x_1 : CItem),
 (CItem.enc x_1) =
 (CItem.enc val) ∧
 ck
 (Nat.ble
 ((List.length
 (List.filter
 (fun (x : CItem) =>
 !Prod.snd
 (findL
 (leftL (capN y.1) (totN y.1) y.2.1
 y.2.2)
 x.key))
 (List.take x y.2.1)) +
 List.length [x_1]) *
 96)
 16777216 &&
 Nat.ble
 (List.length
 (List.filter
 (fun (x : CItem) =>
 !Prod.snd
 (findL
 (leftL (capN y.1) (totN y.1) y.2.1
 y.2.2)
 x.key))
 (List.take x y.2.1)) +
 List.length [x_1])
 16777216)
 (ck (inR Go.IntKind.i64 (↑x + 1))
 (∃ (y_3 : Nat),
 y_3 ≤ y.2.1.length ∧
 Ann.μ (aGoneR y) y_3 < Ann.μ (aGoneR y) x ∧
 (True ∧
 True ∧
 SV.lst CItem y.2.1 CItem.enc =
 SV.lst CItem y.2.1 CItem.enc ∧
 SV.lst CItem
 (leftL (capN y.1) (totN y.1) y.2.1
 y.2.2)
 CItem.enc =
 SV.lst CItem
 (leftL (capN y.1) (totN y.1) y.2.1
 y.2.2)
 CItem.enc ∧
 True ∧ eqI (↑x + 1) ↑y_3 ∧ True) ∧
 (SV.lst CItem
 (List.filter
 (fun (x : CItem) =>
 !Prod.snd
 (findL
 (leftL (capN y.1) (totN y.1)
 y.2.1 y.2.2)
 x.key))
 (List.take x y.2.1) ++
 [x_1])
 CItem.enc =
 SV.lst CItem
 (List.filter
 (fun (x : CItem) =>
 !Prod.snd
 (findL
 (leftL (capN y.1) (totN y.1) y.2.1
 y.2.2)
 x.key))
 (List.take y_3 y.2.1))
 CItem.enc ∧
 (eqI y.1.devices y.1.devices ∧
 eqI y.1.domain y.1.domain ∧
 eqI y.1.total y.1.total ∧
 SV.lst Bs y.1.rules encTx =
 SV.lst Bs y.1.rules encTx ∧
 True) ∧
 True) ∧
 True)))
 (ck (inR Go.IntKind.i64 (↑x + 1))
 (∃ (y_3 : Nat),
 y_3 ≤ y.2.1.length ∧
 Ann.μ (aGoneR y) y_3 < Ann.μ (aGoneR y) x ∧
 (True ∧
 True ∧
 SV.lst CItem y.2.1 CItem.enc =
 SV.lst CItem y.2.1 CItem.enc ∧
 SV.lst CItem
 (leftL (capN y.1) (totN y.1) y.2.1
 y.2.2)
 CItem.enc =
 SV.lst CItem
 (leftL (capN y.1) (totN y.1) y.2.1
 y.2.2)
 CItem.enc ∧
 True ∧ eqI (↑x + 1) ↑y_3 ∧ True) ∧
 (SV.lst CItem
 (List.filter
 (fun (x : CItem) =>
 !Prod.snd
 (findL
 (leftL (capN y.1) (totN y.1) y.2.1
 y.2.2)
 x.key))
 (List.take x y.2.1))
 CItem.enc =
 SV.lst CItem
 (List.filter
 (fun (x : CItem) =>
 !Prod.snd
 (findL
 (leftL (capN y.1) (totN y.1) y.2.1
 y.2.2)
 x.key))
 (List.take y_3 y.2.1))
 CItem.enc ∧
 (eqI y.1.devices y.1.devices ∧
 eqI y.1.domain y.1.domain ∧
 eqI y.1.total y.1.total ∧
 SV.lst Bs y.1.rules encTx =
 SV.lst Bs y.1.rules encTx ∧
 True) ∧
 True) ∧
 True)))
 (SV.lst CItem
 (List.filter
 (fun (x : CItem) =>
 !Prod.snd
 (findL
 (leftL (capN y.1) (totN y.1) y.2.1 y.2.2)
 x.key))
 (List.take x y.2.1))
 CItem.enc =
 SV.lst CItem
 (goneR y.2.1
 (leftL (capN y.1) (totN y.1) y.2.1 y.2.2))
 CItem.enc ∧
 True)) := by kernel_rfl
theorem vcLeft : (askY (fun (y : Con.Y cLeft) => cfgI conG2 (annLeft y)) 800 F.evict_Left) = (∀ (y : CConfig × List CItem × Int),
 ((y.1.rules.length ≤ 100000 ∧ ∀ (s : Bs), s ∈ y.1.rules → s.length ≤ 100000) ∧
 y.2.1.length ≤ 10000 ∧ ∀ (x : CItem), x ∈ y.2.1 → x.key.domain.length ≤ 1000000) →
 ∃ (y_1 : CConfig),
 eqI y.1.devices y_1.devices ∧
 eqI y.1.domain y_1.domain ∧
 eqI y.1.total y_1.total ∧
 SV.lst Bs y.1.rules encTx = SV.lst Bs y_1.rules encTx ∧
 (y_1.rules.length ≤ 100000 ∧ ∀ (s : Bs), s ∈ y_1.rules → s.length ≤ 100000) ∧
 br (!checkC y_1 == 0) (Prod.fst (evL y) = [] ∧ eqI (checkC y_1) (Prod.snd (evL y)) ∧ True)
 (∃ (y_2 : List CItem),
 SV.lst CItem y.2.1 CItem.enc = SV.lst CItem y_2 CItem.enc ∧
 y_2.length ≤ 10000 ∧
 br (!risingL y_2) (Prod.fst (evL y) = [] ∧ eqI 6 (Prod.snd (evL y)) ∧ True)
 ((∃ (x : Nat),
 x ≤ y.2.1.length ∧
 (eqI y.2.2 y.2.2 ∧
 True ∧
 True ∧
 eqI 0 0 ∧
 SV.lst CItem y.2.1 CItem.enc =
 SV.lst CItem y.2.1 CItem.enc ∧
 eqI (Int.ofNat y.2.1.length) (Int.ofNat y.2.1.length) ∧
 eqI 0 ↑x ∧ True ∧ True) ∧
 ((List.filter (fun (x : CItem) => !overC x.cookie y.2.2)
 (List.take x y.2.1) =
 [] ∧
 ∀ (x : CItem), List.length (CItem.enc x) = 11) ∧
 (eqI y.1.devices y.1.devices ∧
 eqI y.1.domain y.1.domain ∧
 eqI y.1.total y.1.total ∧
 SV.lst Bs y.1.rules encTx =
 SV.lst Bs y.1.rules encTx ∧
 True) ∧
 True) ∧
 True) ∧
 ∀ (x : Nat),
 x ≤ y.2.1.length →
 br (ltI (↑x) (Int.ofNat y.2.1.length))
 (so y.2.1[Int.toNat ↑x]? fun (val : CItem) =>
 ∃ (y_3 : CCookie × Int),
 val.cookie.value = y_3.1.value ∧
 val.cookie.hostOnly = y_3.1.hostOnly ∧
 val.cookie.secure = y_3.1.secure ∧
 val.cookie.httpOnly = y_3.1.httpOnly ∧
 val.cookie.persistent = y_3.1.persistent ∧
 eqI val.cookie.expiry y_3.1.expiry ∧
 eqI val.cookie.creation y_3.1.creation ∧
 eqI val.cookie.access y_3.1.access ∧
 eqI y.2.2 y_3.2 ∧
 True ∧
 br (overC y_3.1 y_3.2)
 (ck (inR Go.IntKind.i64 (↑x + 1))
 (∃ (y_4 : Nat),
 y_4 ≤ y.2.1.length ∧
 Ann.μ (aLeft1 y) y_4 < Ann.μ (aLeft1 y) x ∧
 (eqI y.2.2 y.2.2 ∧
 True ∧
 True ∧
 eqI 0 0 ∧
 SV.lst CItem y.2.1 CItem.enc =
 SV.lst CItem y.2.1 CItem.enc ∧
 eqI (Int.ofNat y.2.1.length)
 (Int.ofNat y.2.1.length) ∧
 eqI (↑x + 1) ↑y_4 ∧ True ∧ True) ∧
 (SV.lst CItem
 (List.filter
 (fun (x : CItem) => !overC x.cookie y.2.2)
 (List.take x y.2.1))
 CItem.enc =
 SV.lst CItem
 (List.filter
 (fun (x : CItem) => !overC x.cookie y.2.2)
 (List.take y_4 y.2.1))
 CItem.enc ∧
 (eqI y.1.devices y.1.devices ∧
 eqI y.1.domain y.1.domain ∧
 eqI y.1.total y.1.total ∧
 SV.lst Bs y.1.rules encTx =
 SV.lst Bs y.1.rules encTx ∧
 True) ∧
 True) ∧
 True))
 (∃ (x_1 : CItem),
 (CItem.enc x_1) =
 (CItem.enc val) ∧
 ck
 (Nat.ble
 ((List.length
 (List.filter
 (fun (x : CItem) => !overC x.cookie y.2.2)
 (List.take x y.2.1)) +
 List.length [x_1]) *
 96)
 16777216 &&
 Nat.ble
 (List.length
 (List.filter
 (fun (x : CItem) => !overC x.cookie y.2.2)
 (List.take x y.2.1)) +
 List.length [x_1])
 16777216)
 (ck (inR Go.IntKind.i64 (↑x + 1))
 (∃ (y_4 : Nat),
 y_4 ≤ y.2.1.length ∧
 Ann.μ (aLeft1 y) y_4 < Ann.μ (aLeft1 y) x ∧
 (eqI y.2.2 y.2.2 ∧
 True ∧
 True ∧
 eqI 0 0 ∧
 SV.lst CItem y.2.1 CItem.enc =
 SV.lst CItem y.2.1 CItem.enc ∧
 eqI (Int.ofNat y.2.1.length)
 (Int.ofNat y.2.1.length) ∧
 eqI (↑x + 1) ↑y_4 ∧ True ∧ True) ∧
 (SV.lst CItem
 (List.filter
 (fun (x : CItem) =>
 !overC x.cookie y.2.2)
 (List.take x y.2.1) ++
 [x_1])
 CItem.enc =
 SV.lst CItem
 (List.filter
 (fun (x : CItem) =>
 !overC x.cookie y.2.2)
 (List.take y_4 y.2.1))
 CItem.enc ∧
 (eqI y.1.devices y.1.devices ∧
 eqI y.1.domain y.1.domain ∧
 eqI y.1.total y.1.total ∧
 SV.lst Bs y.1.rules encTx =
 SV.lst Bs y.1.rules encTx ∧
 True) ∧
 True) ∧
 True))))
 (∃ (y_3 : List CItem),
 SV.lst CItem
 (List.filter (fun (x : CItem) => !overC x.cookie y.2.2)
 (List.take x y.2.1))
 CItem.enc =
 SV.lst CItem y_3 CItem.enc ∧
 (y_3.length ≤ 10000 ∧ ∀ (x : CItem), x ∈ y_3 → x.key.domain.length ≤ 1000000) ∧
 (∃ (x_1 : Nat),
 x_1 ≤ List.length (domainsL (liveL y.2.1 y.2.2)) ∧
 (True ∧
 True ∧
 eqI 0 0 ∧
 SV.lst CItem
 (List.filter (fun (x : CItem) => !overC x.cookie y.2.2)
 (List.take x y.2.1))
 CItem.enc =
 SV.lst CItem
 (domsE (capN y.1) (liveL y.2.1 y.2.2) x_1)
 CItem.enc ∧
 SV.lst Bs (domainsL y_3) encTx =
 SV.lst Bs (domainsL (liveL y.2.1 y.2.2))
 encTx ∧
 eqI (Int.ofNat (List.length (domainsL y_3)))
 (Int.ofNat (List.length (domainsL (liveL y.2.1 y.2.2)))) ∧
 eqI 0 ↑x_1 ∧ True) ∧
 (True ∧
 (eqI y.1.devices y.1.devices ∧
 eqI y.1.domain y.1.domain ∧
 eqI y.1.total y.1.total ∧
 SV.lst Bs y.1.rules encTx =
 SV.lst Bs y.1.rules encTx ∧
 True) ∧
 True) ∧
 True) ∧
 ∀ (x : Nat),
 x ≤ List.length (domainsL (liveL y.2.1 y.2.2)) →
 br
 (ltI (↑x) (Int.ofNat (List.length (domainsL (liveL y.2.1 y.2.2)))))
 (so (domainsL (liveL y.2.1 y.2.2))[Int.toNat ↑x]?
 fun (val : Bs) =>
 ∃ (y_4 : List CItem × Bs),
 SV.lst CItem
 (domsE (capN y.1) (liveL y.2.1 y.2.2) x)
 CItem.enc =
 SV.lst CItem y_4.1 CItem.enc ∧
 val = y_4.2 ∧
 y_4.1.length ≤ 10000 ∧
 ∃ (x0 : Nat × Nat),
 (∃ (x_1 : Nat × Nat),
 ((∃ (x :
 x_1.1 <
 List.length (domainsL (liveL y.2.1 y.2.2))),
 x_1.2 ≤
 List.length
 (ofE (capN y.1)
 (liveL y.2.1 y.2.2) x_1.1)) ∧
 x_1.1 = x0.1) ∧
 (True ∧
 True ∧
 eqI 0 0 ∧
 SV.lst CItem
 (domsE (capN y.1)
 (liveL y.2.1 y.2.2) x)
 CItem.enc =
 SV.lst CItem
 (List.foldl
 (stepF
 (trimA (capN y.1)
 (ofE (capN y.1)
 (liveL y.2.1 y.2.2) x_1.1)))
 (domsE (capN y.1)
 (liveL y.2.1 y.2.2) x_1.1)
 (List.take x_1.2
 (ofE (capN y.1)
 (liveL y.2.1 y.2.2) x_1.1)))
 CItem.enc ∧
 SV.lst CItem (domainL y_4.1 y_4.2) CItem.enc =
 SV.lst CItem
 (ofE (capN y.1)
 (liveL y.2.1 y.2.2) x_1.1)
 CItem.enc ∧
 SV.lst Bs
 (domainsL (liveL y.2.1 y.2.2))
 encTx =
 SV.lst Bs
 (domainsL (liveL y.2.1 y.2.2))
 encTx ∧
 eqI
 (Int.ofNat
 (List.length
 (domainsL (liveL y.2.1 y.2.2))))
 (Int.ofNat
 (List.length
 (domainsL (liveL y.2.1 y.2.2)))) ∧
 eqI ↑x ↑x_1.1 ∧
 SV.lst CItem (domainL y_4.1 y_4.2)
 CItem.enc =
 SV.lst CItem
 (ofE (capN y.1)
 (liveL y.2.1 y.2.2) x_1.1)
 CItem.enc ∧
 eqI (Int.ofNat (List.length (domainL y_4.1 y_4.2)))
 (Int.ofNat
 (List.length
 (ofE (capN y.1)
 (liveL y.2.1 y.2.2)
 x_1.1))) ∧
 eqI 0 ↑x_1.2 ∧ True) ∧
 (True ∧
 (eqI y.1.devices y.1.devices ∧
 eqI y.1.domain y.1.domain ∧
 eqI y.1.total y.1.total ∧
 SV.lst Bs y.1.rules encTx =
 SV.lst Bs y.1.rules encTx ∧
 True) ∧
 True) ∧
 True) ∧
 ∀ (x_1 : Nat × Nat),
 (∃ (x :
 x_1.1 <
 List.length (domainsL (liveL y.2.1 y.2.2))),
 x_1.2 ≤
 List.length
 (ofE (capN y.1)
 (liveL y.2.1 y.2.2) x_1.1)) ∧
 x_1.1 = x0.1 →
 br
 (ltI (↑x_1.2)
 (Int.ofNat
 (List.length
 (ofE (capN y.1)
 (liveL y.2.1 y.2.2) x_1.1))))
 (so
 (ofE (capN y.1) (liveL y.2.1 y.2.2)
 x_1.1)[Int.toNat ↑x_1.2]?
 fun (val : CItem) =>
 ∃ (y_5 : List CItem × Int),
 SV.lst CItem
 (ofE (capN y.1)
 (liveL y.2.1 y.2.2) x_1.1)
 CItem.enc =
 SV.lst CItem y_5.1 CItem.enc ∧
 eqI y.1.domain y_5.2 ∧
 (y_5.1.length ≤ 10000 ∧
 List.Pairwise (fun (x1 x2 : CKey) => x1 ≠ x2)
 (List.map (fun (x : CItem) => x.key) y_5.1) ∧
 0 ≤ y_5.2) ∧
 ∃ (y_6 : List CItem × CItem),
 SV.lst CItem (trimA y_5.2.toNat y_5.1)
 CItem.enc =
 SV.lst CItem y_6.1 CItem.enc ∧
 val.key.name =
 y_6.2.key.name ∧
 val.key.domain =
 y_6.2.key.domain ∧
 val.key.path =
 y_6.2.key.path ∧
 val.cookie.value =
 y_6.2.cookie.value ∧
 val.cookie.hostOnly =
 y_6.2.cookie.hostOnly ∧
 val.cookie.secure =
 y_6.2.cookie.secure ∧
 val.cookie.httpOnly =
 y_6.2.cookie.httpOnly ∧
 val.cookie.persistent =
 y_6.2.cookie.persistent ∧
 eqI val.cookie.expiry
 y_6.2.cookie.expiry ∧
 eqI val.cookie.creation
 y_6.2.cookie.creation ∧
 eqI val.cookie.access
 y_6.2.cookie.access ∧
 y_6.1.length ≤ 10000 ∧
 br (!Decidable.decide (y_6.2 ∈ y_6.1))
 (∃ (y_7 : List CItem × CKey),
 SV.lst CItem
 (List.foldl
 (stepF
 (trimA (capN y.1)
 (ofE (capN y.1)
 (liveL y.2.1
 y.2.2)
 x_1.1)))
 (domsE (capN y.1)
 (liveL y.2.1
 y.2.2)
 x_1.1)
 (List.take x_1.2
 (ofE (capN y.1)
 (liveL y.2.1
 y.2.2)
 x_1.1)))
 CItem.enc =
 SV.lst CItem y_7.1 CItem.enc ∧
 val.key.name =
 y_7.2.name ∧
 val.key.domain =
 y_7.2.domain ∧
 val.key.path =
 y_7.2.path ∧
 y_7.1.length ≤ 10000 ∧
 ck (inR Go.IntKind.i64 (↑x_1.2 + 1))
 (∃ (y_8 : Nat × Nat),
 ((∃ (x :
 y_8.1 <
 List.length
 (domainsL
 (liveL y.2.1
 y.2.2))),
 y_8.2 ≤
 List.length
 (ofE (capN y.1)
 (liveL y.2.1
 y.2.2)
 y_8.1)) ∧
 y_8.1 = x0.1) ∧
 Ann.μ
 (Ann.when (aLeft3 y)
 (fun (a b : Nat × Nat) =>
 b.1 = a.1)
 x0)
 y_8 <
 Ann.μ
 (Ann.when (aLeft3 y)
 (fun (a b : Nat × Nat) =>
 b.1 = a.1)
 x0)
 x_1 ∧
 (True ∧
 True ∧
 eqI 0 0 ∧
 SV.lst CItem
 (withoutL y_7.1
 y_7.2)
 CItem.enc =
 SV.lst CItem
 (List.foldl
 (stepF
 (trimA
 (capN y.1)
 (ofE
 (capN y.1)
 (liveL
 y.2.1
 y.2.2)
 y_8.1)))
 (domsE
 (capN y.1)
 (liveL
 y.2.1
 y.2.2)
 y_8.1)
 (List.take y_8.2
 (ofE
 (capN y.1)
 (liveL
 y.2.1
 y.2.2)
 y_8.1)))
 CItem.enc ∧
 SV.lst CItem
 (ofE
 (capN y.1)
 (liveL
 y.2.1
 y.2.2)
 x_1.1)
 CItem.enc =
 SV.lst CItem
 (ofE
 (capN y.1)
 (liveL
 y.2.1
 y.2.2)
 y_8.1)
 CItem.enc ∧
 SV.lst Bs
 (domainsL
 (liveL
 y.2.1
 y.2.2))
 encTx =
 SV.lst Bs
 (domainsL
 (liveL
 y.2.1
 y.2.2))
 encTx ∧
 eqI
 (Int.ofNat
 (List.length
 (domainsL
 (liveL
 y.2.1
 y.2.2))))
 (Int.ofNat
 (List.length
 (domainsL
 (liveL
 y.2.1
 y.2.2)))) ∧
 eqI ↑x_1.1
 ↑y_8.1 ∧
 SV.lst CItem
 (ofE
 (capN
 y.1)
 (liveL
 y.2.1
 y.2.2)
 x_1.1)
 CItem.enc =
 SV.lst CItem
 (ofE
 (capN
 y.1)
 (liveL
 y.2.1
 y.2.2)
 y_8.1)
 CItem.enc ∧
 eqI
 (Int.ofNat
 (List.length
 (ofE
 (capN
 y.1)
 (liveL
 y.2.1
 y.2.2)
 x_1.1)))
 (Int.ofNat
 (List.length
 (ofE
 (capN
 y.1)
 (liveL
 y.2.1
 y.2.2)
 y_8.1))) ∧
 eqI
 (↑x_1.2 + 1)
 ↑y_8.2 ∧
 True) ∧
 (True ∧
 (eqI
 y.1.devices
 y.1.devices ∧
 eqI
 y.1.domain
 y.1.domain ∧
 eqI
 y.1.total
 y.1.total ∧
 SV.lst Bs
 y.1.rules
 encTx =
 SV.lst Bs
 y.1.rules
 encTx ∧
 True) ∧
 True) ∧
 True))
 (ck (inR Go.IntKind.i64 (↑x_1.2 + 1))
 (∃ (y_7 : Nat × Nat),
 ((∃ (x :
 y_7.1 <
 List.length
 (domainsL
 (liveL y.2.1
 y.2.2))),
 y_7.2 ≤
 List.length
 (ofE (capN y.1)
 (liveL y.2.1
 y.2.2)
 y_7.1)) ∧
 y_7.1 = x0.1) ∧
 Ann.μ
 (Ann.when (aLeft3 y)
 (fun (a b : Nat × Nat) => b.1 = a.1) x0)
 y_7 <
 Ann.μ
 (Ann.when (aLeft3 y)
 (fun (a b : Nat × Nat) => b.1 = a.1) x0)
 x_1 ∧
 (True ∧
 True ∧
 eqI 0 0 ∧
 SV.lst CItem
 (List.foldl
 (stepF
 (trimA (capN y.1)
 (ofE (capN y.1)
 (liveL y.2.1
 y.2.2)
 x_1.1)))
 (domsE (capN y.1)
 (liveL y.2.1
 y.2.2)
 x_1.1)
 (List.take x_1.2
 (ofE (capN y.1)
 (liveL y.2.1
 y.2.2)
 x_1.1)))
 CItem.enc =
 SV.lst CItem
 (List.foldl
 (stepF
 (trimA (capN y.1)
 (ofE (capN y.1)
 (liveL y.2.1
 y.2.2)
 y_7.1)))
 (domsE (capN y.1)
 (liveL y.2.1
 y.2.2)
 y_7.1)
 (List.take y_7.2
 (ofE (capN y.1)
 (liveL y.2.1
 y.2.2)
 y_7.1)))
 CItem.enc ∧
 SV.lst CItem
 (ofE (capN y.1)
 (liveL y.2.1
 y.2.2)
 x_1.1)
 CItem.enc =
 SV.lst CItem
 (ofE (capN y.1)
 (liveL y.2.1
 y.2.2)
 y_7.1)
 CItem.enc ∧
 SV.lst Bs
 (domainsL
 (liveL y.2.1
 y.2.2))
 encTx =
 SV.lst Bs
 (domainsL
 (liveL y.2.1
 y.2.2))
 encTx ∧
 eqI
 (Int.ofNat
 (List.length
 (domainsL
 (liveL y.2.1
 y.2.2))))
 (Int.ofNat
 (List.length
 (domainsL
 (liveL y.2.1
 y.2.2)))) ∧
 eqI ↑x_1.1 ↑y_7.1 ∧
 SV.lst CItem
 (ofE
 (capN y.1)
 (liveL
 y.2.1
 y.2.2)
 x_1.1)
 CItem.enc =
 SV.lst CItem
 (ofE
 (capN y.1)
 (liveL
 y.2.1
 y.2.2)
 y_7.1)
 CItem.enc ∧
 eqI
 (Int.ofNat
 (List.length
 (ofE
 (capN y.1)
 (liveL
 y.2.1
 y.2.2)
 x_1.1)))
 (Int.ofNat
 (List.length
 (ofE
 (capN y.1)
 (liveL
 y.2.1
 y.2.2)
 y_7.1))) ∧
 eqI (↑x_1.2 + 1)
 ↑y_7.2 ∧
 True) ∧
 (True ∧
 (eqI y.1.devices
 y.1.devices ∧
 eqI y.1.domain
 y.1.domain ∧
 eqI y.1.total
 y.1.total ∧
 SV.lst Bs
 y.1.rules
 encTx =
 SV.lst Bs
 y.1.rules
 encTx ∧
 True) ∧
 True) ∧
 True)))
 (ck (inR Go.IntKind.i64 (↑x_1.1 + 1))
 (∃ (y_5 : Nat),
 y_5 ≤ List.length (domainsL (liveL y.2.1 y.2.2)) ∧
 Ann.μ (aLeft2 y) y_5 < Ann.μ (aLeft2 y) x ∧
 (True ∧
 True ∧
 eqI 0 0 ∧
 SV.lst CItem
 (List.foldl
 (stepF
 (trimA (capN y.1)
 (ofE (capN y.1)
 (liveL y.2.1 y.2.2)
 x_1.1)))
 (domsE (capN y.1)
 (liveL y.2.1 y.2.2) x_1.1)
 (List.take x_1.2
 (ofE (capN y.1)
 (liveL y.2.1 y.2.2) x_1.1)))
 CItem.enc =
 SV.lst CItem
 (domsE (capN y.1)
 (liveL y.2.1 y.2.2) y_5)
 CItem.enc ∧
 SV.lst Bs
 (domainsL (liveL y.2.1 y.2.2))
 encTx =
 SV.lst Bs
 (domainsL (liveL y.2.1 y.2.2))
 encTx ∧
 eqI
 (Int.ofNat
 (List.length
 (domainsL
 (liveL y.2.1 y.2.2))))
 (Int.ofNat
 (List.length
 (domainsL
 (liveL y.2.1 y.2.2)))) ∧
 eqI (↑x_1.1 + 1) ↑y_5 ∧ True) ∧
 (True ∧
 (eqI y.1.devices y.1.devices ∧
 eqI y.1.domain y.1.domain ∧
 eqI y.1.total y.1.total ∧
 SV.lst Bs y.1.rules encTx =
 SV.lst Bs y.1.rules encTx ∧
 True) ∧
 True) ∧
 True)))
 (∃ (y_4 : List CItem × Int),
 SV.lst CItem
 (domsE (capN y.1) (liveL y.2.1 y.2.2) x)
 CItem.enc =
 SV.lst CItem y_4.1 CItem.enc ∧
 eqI y.1.total y_4.2 ∧
 (y_4.1.length ≤ 10000 ∧
 List.Pairwise (fun (x1 x2 : CKey) => x1 ≠ x2)
 (List.map (fun (x : CItem) => x.key) y_4.1) ∧
 0 ≤ y_4.2) ∧
 SV.lst CItem (trimA y_4.2.toNat y_4.1) CItem.enc =
 SV.lst CItem (Prod.fst (evL y)) CItem.enc ∧
 eqI 0 (Prod.snd (evL y)) ∧ True))))) := by kernel_rfl
theorem vcGone : (askY (fun (y : Con.Y cGone) => cfgI conG3 (annAt F.evict_Gone 6 (aGone y))) 800 F.evict_Gone) = (∀ (y : CConfig × List CItem × Int),
 ((y.1.rules.length ≤ 100000 ∧ ∀ (s : Bs), s ∈ y.1.rules → s.length ≤ 100000) ∧
 y.2.1.length ≤ 10000 ∧ ∀ (x : CItem), x ∈ y.2.1 → x.key.domain.length ≤ 1000000) →
 ∃ (y_1 : CConfig × List CItem × Int),
 eqI y.1.devices y_1.1.devices ∧
 eqI y.1.domain y_1.1.domain ∧
 eqI y.1.total y_1.1.total ∧
 SV.lst Bs y.1.rules encTx = SV.lst Bs y_1.1.rules encTx ∧
 SV.lst CItem y.2.1 CItem.enc = SV.lst CItem y_1.2.1 CItem.enc ∧
 eqI y.2.2 y_1.2.2 ∧
 ((y_1.1.rules.length ≤ 100000 ∧ ∀ (s : Bs), s ∈ y_1.1.rules → s.length ≤ 100000) ∧
 y_1.2.1.length ≤ 10000 ∧
 ∀ (x : CItem), x ∈ y_1.2.1 → x.key.domain.length ≤ 1000000) ∧
 br (!Prod.snd (evL y_1) == 0) (Prod.fst (evG y) = [] ∧ eqI (Prod.snd (evL y_1)) (Prod.snd (evG y)) ∧ True)
 ((∃ (x : Nat),
 x ≤ y.2.1.length ∧
 (True ∧
 eqI 0 0 ∧
 SV.lst CItem (Prod.fst (evL y_1)) CItem.enc =
 SV.lst CItem (Prod.fst (evL y)) CItem.enc ∧
 True ∧
 SV.lst CItem y.2.1 CItem.enc =
 SV.lst CItem y.2.1 CItem.enc ∧
 eqI (Int.ofNat y.2.1.length) (Int.ofNat y.2.1.length) ∧ eqI 0 ↑x ∧ True) ∧
 ((goneL (List.take x y.2.1) (Prod.fst (evL y)) = [] ∧
 ∀ (x : CItem), List.length (CItem.enc x) = 11) ∧
 (eqI y.1.devices y.1.devices ∧
 eqI y.1.domain y.1.domain ∧
 eqI y.1.total y.1.total ∧
 SV.lst Bs y.1.rules encTx =
 SV.lst Bs y.1.rules encTx ∧
 True) ∧
 True) ∧
 True) ∧
 ∀ (x : Nat),
 x ≤ y.2.1.length →
 br (ltI (↑x) (Int.ofNat y.2.1.length))
 (so y.2.1[Int.toNat ↑x]? fun (val : CItem) =>
 ∃ (y_2 : List CItem × CItem),
 SV.lst CItem (Prod.fst (evL y)) CItem.enc = SV.lst CItem y_2.1 CItem.enc ∧
 val.key.name = y_2.2.key.name ∧
 val.key.domain = y_2.2.key.domain ∧
 val.key.path = y_2.2.key.path ∧
 val.cookie.value = y_2.2.cookie.value ∧
 val.cookie.hostOnly = y_2.2.cookie.hostOnly ∧
 val.cookie.secure = y_2.2.cookie.secure ∧
 val.cookie.httpOnly = y_2.2.cookie.httpOnly ∧
 val.cookie.persistent = y_2.2.cookie.persistent ∧
 eqI val.cookie.expiry
 y_2.2.cookie.expiry ∧
 eqI val.cookie.creation
 y_2.2.cookie.creation ∧
 eqI val.cookie.access
 y_2.2.cookie.access ∧
 y_2.1.length ≤ 10000 ∧
 br (!Decidable.decide (y_2.2 ∈ y_2.1))
 (∃ (x_1 : CItem),
 (CItem.enc x_1) =
 (CItem.enc val) ∧
 ck
 (Nat.ble
 ((List.length (goneL (List.take x y.2.1) (Prod.fst (evL y))) +
 List.length [x_1]) *
 96)
 16777216 &&
 Nat.ble
 (List.length (goneL (List.take x y.2.1) (Prod.fst (evL y))) +
 List.length [x_1])
 16777216)
 (ck (inR Go.IntKind.i64 (↑x + 1))
 (∃ (y_3 : Nat),
 y_3 ≤ y.2.1.length ∧
 Ann.μ (aGone y) y_3 < Ann.μ (aGone y) x ∧
 (True ∧
 eqI 0 0 ∧
 SV.lst CItem (Prod.fst (evL y)) CItem.enc =
 SV.lst CItem (Prod.fst (evL y)) CItem.enc ∧
 True ∧
 SV.lst CItem y.2.1 CItem.enc =
 SV.lst CItem y.2.1 CItem.enc ∧
 eqI (Int.ofNat y.2.1.length)
 (Int.ofNat y.2.1.length) ∧
 eqI (↑x + 1) ↑y_3 ∧ True) ∧
 (SV.lst CItem
 (goneL (List.take x y.2.1) (Prod.fst (evL y)) ++ [x_1])
 CItem.enc =
 SV.lst CItem
 (goneL (List.take y_3 y.2.1) (Prod.fst (evL y)))
 CItem.enc ∧
 (eqI y.1.devices y.1.devices ∧
 eqI y.1.domain y.1.domain ∧
 eqI y.1.total y.1.total ∧
 SV.lst Bs y.1.rules encTx =
 SV.lst Bs y.1.rules encTx ∧
 True) ∧
 True) ∧
 True)))
 (ck (inR Go.IntKind.i64 (↑x + 1))
 (∃ (y_3 : Nat),
 y_3 ≤ y.2.1.length ∧
 Ann.μ (aGone y) y_3 < Ann.μ (aGone y) x ∧
 (True ∧
 eqI 0 0 ∧
 SV.lst CItem (Prod.fst (evL y)) CItem.enc =
 SV.lst CItem (Prod.fst (evL y)) CItem.enc ∧
 True ∧
 SV.lst CItem y.2.1 CItem.enc =
 SV.lst CItem y.2.1 CItem.enc ∧
 eqI (Int.ofNat y.2.1.length)
 (Int.ofNat y.2.1.length) ∧
 eqI (↑x + 1) ↑y_3 ∧ True) ∧
 (SV.lst CItem
 (goneL (List.take x y.2.1) (Prod.fst (evL y)))
 CItem.enc =
 SV.lst CItem
 (goneL (List.take y_3 y.2.1) (Prod.fst (evL y)))
 CItem.enc ∧
 (eqI y.1.devices y.1.devices ∧
 eqI y.1.domain y.1.domain ∧
 eqI y.1.total y.1.total ∧
 SV.lst Bs y.1.rules encTx =
 SV.lst Bs y.1.rules encTx ∧
 True) ∧
 True) ∧
 True)))
 (SV.lst CItem (goneL (List.take x y.2.1) (Prod.fst (evL y))) CItem.enc =
 SV.lst CItem (Prod.fst (evG y)) CItem.enc ∧
 eqI 0 (Prod.snd (evG y)) ∧ True))) := by kernel_rfl
theorem vcShown : (askY (fun (y : Con.Y cShown) => cfgI conG3 (noAnn y)) 400 F.evict_Shown) = (∀ (y : CConfig × List CItem × Int),
 ((y.1.rules.length ≤ 100000 ∧ ∀ (s : Bs), s ∈ y.1.rules → s.length ≤ 100000) ∧
 y.2.1.length ≤ 10000 ∧ ∀ (x : CItem), x ∈ y.2.1 → x.key.domain.length ≤ 1000000) →
 ∃ (y_1 : CConfig × List CItem × Int),
 eqI y.1.devices y_1.1.devices ∧
 eqI y.1.domain y_1.1.domain ∧
 eqI y.1.total y_1.1.total ∧
 SV.lst Bs y.1.rules encTx = SV.lst Bs y_1.1.rules encTx ∧
 SV.lst CItem y.2.1 CItem.enc = SV.lst CItem y_1.2.1 CItem.enc ∧
 eqI y.2.2 y_1.2.2 ∧
 ((y_1.1.rules.length ≤ 100000 ∧ ∀ (s : Bs), s ∈ y_1.1.rules → s.length ≤ 100000) ∧
 y_1.2.1.length ≤ 10000 ∧
 ∀ (x : CItem), x ∈ y_1.2.1 → x.key.domain.length ≤ 1000000) ∧
 SV.lst CItem (Prod.fst (evL y_1)) CItem.enc =
 SV.lst CItem (Prod.fst (evL y)) CItem.enc ∧
 True) := by kernel_rfl
theorem vcLight26 : (askY (fun (y : Con.Y cLight) => cfgI con0 (annMore F.law26_light 4 (aLight1 y) (annAt F.law26_light 9 (aLight2 y)))) 800 F.law26_light) = (∀ (y : CConfig × List CItem),
 True →
 br (ltI 40 (Int.ofNat y.2.length)) (Bool.false = lightB y.1 y.2 ∧ True)
 (br (ltI 20 (Int.ofNat y.1.rules.length))
 (br (leI (Int.ofNat y.1.rules.length) 256) (Bool.false = lightB y.1 y.2 ∧ True)
 (br (ltI 300 (Int.ofNat y.1.rules.length)) (Bool.false = lightB y.1 y.2 ∧ True)
 ((∃ (x : Nat),
 (x ≤ y.1.rules.length ∧
 ∀ (j : Nat) (h : j < y.1.rules.length), j < x → List.length y.1.rules[j] ≤ 300) ∧
 (SV.lst CItem y.2 CItem.enc = SV.lst CItem y.2 CItem.enc ∧
 True ∧ Bool.false = Bool.false ∧ eqI 0 ↑x ∧ True) ∧
 ((eqI y.1.devices y.1.devices ∧
 eqI y.1.domain y.1.domain ∧
 eqI y.1.total y.1.total ∧
 SV.lst Bs y.1.rules encTx =
 SV.lst Bs y.1.rules encTx ∧
 True) ∧
 True) ∧
 True) ∧
 ∀ (x : Nat),
 (x ≤ y.1.rules.length ∧
 ∀ (j : Nat) (h : j < y.1.rules.length), j < x → List.length y.1.rules[j] ≤ 300) →
 br (ltI (↑x) (Int.ofNat y.1.rules.length))
 (so y.1.rules[Int.toNat ↑x]? fun (val : Bs) =>
 br (ltI 300 (Int.ofNat val.length)) (Bool.false = lightB y.1 y.2 ∧ True)
 (ck (inR Go.IntKind.i64 (↑x + 1))
 (∃ (y_1 : Nat),
 (y_1 ≤ y.1.rules.length ∧
 ∀ (j : Nat) (h : j < y.1.rules.length), j < y_1 → List.length y.1.rules[j] ≤ 300) ∧
 Ann.μ (aLight1 y) y_1 < Ann.μ (aLight1 y) x ∧
 (SV.lst CItem y.2 CItem.enc = SV.lst CItem y.2 CItem.enc ∧
 True ∧ Bool.false = Bool.false ∧ eqI (↑x + 1) ↑y_1 ∧ True) ∧
 ((eqI y.1.devices y.1.devices ∧
 eqI y.1.domain y.1.domain ∧
 eqI y.1.total y.1.total ∧
 SV.lst Bs y.1.rules encTx =
 SV.lst Bs y.1.rules encTx ∧
 True) ∧
 True) ∧
 True)))
 ((∃ (x : Nat),
 (x ≤ y.2.length ∧ ∀ (j : Nat) (h : j < y.2.length), j < x → shortB y.2[j] = Bool.true) ∧
 (SV.lst CItem y.2 CItem.enc = SV.lst CItem y.2 CItem.enc ∧
 True ∧ Bool.false = Bool.false ∧ eqI 0 ↑x ∧ True) ∧
 ((eqI y.1.devices y.1.devices ∧
 eqI y.1.domain y.1.domain ∧
 eqI y.1.total y.1.total ∧
 SV.lst Bs y.1.rules encTx =
 SV.lst Bs y.1.rules encTx ∧
 True) ∧
 True) ∧
 True) ∧
 ∀ (x : Nat),
 (x ≤ y.2.length ∧ ∀ (j : Nat) (h : j < y.2.length), j < x → shortB y.2[j] = Bool.true) →
 br (ltI (↑x) (Int.ofNat y.2.length))
 (so y.2[Int.toNat ↑x]? fun (val : CItem) =>
 br (ltI 300 (Int.ofNat val.key.name.length))
 (Bool.false = lightB y.1 y.2 ∧ True)
 (so y.2[Int.toNat ↑x]? fun (val : CItem) =>
 br (ltI 300 (Int.ofNat val.key.domain.length))
 (Bool.false = lightB y.1 y.2 ∧ True)
 (so y.2[Int.toNat ↑x]? fun (val : CItem) =>
 br (ltI 300 (Int.ofNat val.key.path.length))
 (Bool.false = lightB y.1 y.2 ∧ True)
 (so y.2[Int.toNat ↑x]? fun (val : CItem) =>
 br (ltI 300 (Int.ofNat val.cookie.value.length))
 (Bool.false = lightB y.1 y.2 ∧ True)
 (ck (inR Go.IntKind.i64 (↑x + 1))
 (∃ (y_1 : Nat),
 (y_1 ≤ y.2.length ∧
 ∀ (j : Nat) (h : j < y.2.length), j < y_1 → shortB y.2[j] = Bool.true) ∧
 Ann.μ (aLight2 y) y_1 < Ann.μ (aLight2 y) x ∧
 (SV.lst CItem y.2 CItem.enc = SV.lst CItem y.2 CItem.enc ∧
 True ∧ Bool.false = Bool.false ∧ eqI (↑x + 1) ↑y_1 ∧ True) ∧
 ((eqI y.1.devices y.1.devices ∧
 eqI y.1.domain y.1.domain ∧
 eqI y.1.total y.1.total ∧
 SV.lst Bs y.1.rules encTx =
 SV.lst Bs y.1.rules encTx ∧
 True) ∧
 True) ∧
 True))))))
 (Bool.true = lightB y.1 y.2 ∧ True)))))
 (br (ltI 300 (Int.ofNat y.1.rules.length)) (Bool.false = lightB y.1 y.2 ∧ True)
 ((∃ (x : Nat),
 (x ≤ y.1.rules.length ∧
 ∀ (j : Nat) (h : j < y.1.rules.length), j < x → List.length y.1.rules[j] ≤ 300) ∧
 (SV.lst CItem y.2 CItem.enc = SV.lst CItem y.2 CItem.enc ∧
 True ∧ Bool.false = Bool.false ∧ eqI 0 ↑x ∧ True) ∧
 ((eqI y.1.devices y.1.devices ∧
 eqI y.1.domain y.1.domain ∧
 eqI y.1.total y.1.total ∧
 SV.lst Bs y.1.rules encTx =
 SV.lst Bs y.1.rules encTx ∧
 True) ∧
 True) ∧
 True) ∧
 ∀ (x : Nat),
 (x ≤ y.1.rules.length ∧
 ∀ (j : Nat) (h : j < y.1.rules.length), j < x → List.length y.1.rules[j] ≤ 300) →
 br (ltI (↑x) (Int.ofNat y.1.rules.length))
 (so y.1.rules[Int.toNat ↑x]? fun (val : Bs) =>
 br (ltI 300 (Int.ofNat val.length)) (Bool.false = lightB y.1 y.2 ∧ True)
 (ck (inR Go.IntKind.i64 (↑x + 1))
 (∃ (y_1 : Nat),
 (y_1 ≤ y.1.rules.length ∧
 ∀ (j : Nat) (h : j < y.1.rules.length), j < y_1 → List.length y.1.rules[j] ≤ 300) ∧
 Ann.μ (aLight1 y) y_1 < Ann.μ (aLight1 y) x ∧
 (SV.lst CItem y.2 CItem.enc = SV.lst CItem y.2 CItem.enc ∧
 True ∧ Bool.false = Bool.false ∧ eqI (↑x + 1) ↑y_1 ∧ True) ∧
 ((eqI y.1.devices y.1.devices ∧
 eqI y.1.domain y.1.domain ∧
 eqI y.1.total y.1.total ∧
 SV.lst Bs y.1.rules encTx =
 SV.lst Bs y.1.rules encTx ∧
 True) ∧
 True) ∧
 True)))
 ((∃ (x : Nat),
 (x ≤ y.2.length ∧ ∀ (j : Nat) (h : j < y.2.length), j < x → shortB y.2[j] = Bool.true) ∧
 (SV.lst CItem y.2 CItem.enc = SV.lst CItem y.2 CItem.enc ∧
 True ∧ Bool.false = Bool.false ∧ eqI 0 ↑x ∧ True) ∧
 ((eqI y.1.devices y.1.devices ∧
 eqI y.1.domain y.1.domain ∧
 eqI y.1.total y.1.total ∧
 SV.lst Bs y.1.rules encTx =
 SV.lst Bs y.1.rules encTx ∧
 True) ∧
 True) ∧
 True) ∧
 ∀ (x : Nat),
 (x ≤ y.2.length ∧ ∀ (j : Nat) (h : j < y.2.length), j < x → shortB y.2[j] = Bool.true) →
 br (ltI (↑x) (Int.ofNat y.2.length))
 (so y.2[Int.toNat ↑x]? fun (val : CItem) =>
 br (ltI 300 (Int.ofNat val.key.name.length))
 (Bool.false = lightB y.1 y.2 ∧ True)
 (so y.2[Int.toNat ↑x]? fun (val : CItem) =>
 br (ltI 300 (Int.ofNat val.key.domain.length))
 (Bool.false = lightB y.1 y.2 ∧ True)
 (so y.2[Int.toNat ↑x]? fun (val : CItem) =>
 br (ltI 300 (Int.ofNat val.key.path.length))
 (Bool.false = lightB y.1 y.2 ∧ True)
 (so y.2[Int.toNat ↑x]? fun (val : CItem) =>
 br (ltI 300 (Int.ofNat val.cookie.value.length))
 (Bool.false = lightB y.1 y.2 ∧ True)
 (ck (inR Go.IntKind.i64 (↑x + 1))
 (∃ (y_1 : Nat),
 (y_1 ≤ y.2.length ∧
 ∀ (j : Nat) (h : j < y.2.length), j < y_1 → shortB y.2[j] = Bool.true) ∧
 Ann.μ (aLight2 y) y_1 < Ann.μ (aLight2 y) x ∧
 (SV.lst CItem y.2 CItem.enc = SV.lst CItem y.2 CItem.enc ∧
 True ∧ Bool.false = Bool.false ∧ eqI (↑x + 1) ↑y_1 ∧ True) ∧
 ((eqI y.1.devices y.1.devices ∧
 eqI y.1.domain y.1.domain ∧
 eqI y.1.total y.1.total ∧
 SV.lst Bs y.1.rules encTx =
 SV.lst Bs y.1.rules encTx ∧
 True) ∧
 True) ∧
 True))))))
 (Bool.true = lightB y.1 y.2 ∧ True)))))) := by kernel_rfl
end Go.Proofs

set_option maxRecDepth 100000
namespace Go.Proofs
open Go Go.Am Go.RowKit Go.Sy
variable [Inhabited DrP]
theorem gt_of_ltI {m : Int} {n : Nat} (h : ltI m (Int.ofNat n) = true) (h0 : 0 ≤ m) : m.toNat < n := by
  rw [ltI_eq, decide_eq_true_eq, Int.ofNat_eq_natCast] at h
  omega
theorem le_of_ltI {m : Int} {n : Nat} (h : ltI m (Int.ofNat n) = false) : n ≤ m.toNat := by
  rw [ltI_eq, decide_eq_false_iff_not, Int.ofNat_eq_natCast] at h
  omega
theorem live_len (l : List CItem) (now : Int) : (liveL l now).length ≤ l.length := List.length_filter_le _ _
theorem domsI_sub (cap : Nat) (l : List CItem) (i : Nat) : (domsI cap l i).Sublist l := domsF_sub cap _ l
theorem domsI_next {cap : Nat} {l : List CItem} {i : Nat} (h : i < (domainsL l).length) : domsI cap l (i + 1) = trimD cap (domainsL l)[i] false (domsI cap l i) := fold_next _ _ h
theorem domsI_len (cap : Nat) (l : List CItem) (now : Int) (i : Nat) : (domsI cap (liveL l now) i).length ≤ l.length := Nat.le_trans (domsI_sub cap _ i).length_le (live_len l now)
theorem without_len (l : List CItem) (k : CKey) : (withoutL l k).length ≤ l.length := List.length_filter_le _ _
theorem okLeftR (hG : ∀ g C, conG1 g = some C → Go.Sy.ConOK Tryz.prog Tryz.tab g C) : Go.Sy.ConOK Tryz.prog Tryz.tab F.ref26_Left cLeftR := askY_ok (cfg := fun y => cfgI conG1 (annLeftR y)) Tryz.prOk (fun _ => rfl) (fun _ => hG) (n := 800) (by
  rw [vcLeftR]
  rintro ⟨c, l, now⟩ ⟨hd, ht, hl⟩
  have hd : 0 ≤ c.domain := hd
  have ht : 0 ≤ c.total := ht
  have hl : l.length ≤ 10000 := hl
  refine ⟨⟨0, Nat.zero_le _, ?_⟩, ?_⟩
  · (repeat' (first | exact trivial | exact rfl | exact (fun _ => rfl) | refine And.intro ?_ ?_))
  intro x hx
  refine br_iff.2 ⟨fun hlt => ?_, fun hge => ?_⟩
  · have hlt' : x < l.length := lt_of_ltI hlt
    have hlen := filter_len (l := l) (x := x) (p := fun z : CItem => !overC z.cookie now)
    have hf := filter_next (p := fun z : CItem => !overC z.cookie now) hlt'
    have hmu : l.length - (x + 1) < l.length - x := by omega
    refine so_iff.2 ⟨_, get_ok hlt', (l[x].cookie, now), rfl, rfl, rfl, rfl, rfl, rfl, rfl, rfl, rfl, trivial, br_iff.2 ⟨fun h1 => so_iff.2 ⟨_, get_ok hlt', l[x], rfl, ck_iff.2 ⟨by simp only [Bool.and_eq_true, Nat.ble_eq, List.length_cons, List.length_nil]; omega, ck_iff.2 ⟨inR_nat x (by omega), x + 1, hlt', hmu, ?_⟩⟩⟩, fun h1 => ck_iff.2 ⟨inR_nat x (by omega), x + 1, hlt', hmu, ?_⟩⟩⟩
    · have h1 : (!overC l[x].cookie now) = true := h1
      simp only [h1, if_true] at hf
      (repeat' (first | exact trivial | exact rfl | exact (fun _ => rfl) | refine And.intro ?_ ?_))
      all_goals (rw [hf])
    · have h1 : (!overC l[x].cookie now) = false := h1
      simp only [h1, Bool.false_eq_true, if_false, List.append_nil] at hf
      (repeat' (first | exact trivial | exact rfl | exact (fun _ => rfl) | refine And.intro ?_ ?_))
      all_goals (rw [hf])
  have hall : (l.take x).filter (fun z : CItem => !overC z.cookie now) = liveL l now := filter_all (ge_of_ltI hge)
  have hlive := live_len l now
  refine ⟨liveL l now, by rw [hall], by omega, ⟨0, Nat.zero_le _, ?_⟩, ?_⟩
  · (repeat' (first | exact trivial | exact rfl | exact (fun _ => rfl) | refine And.intro ?_ ?_))
    all_goals (rw [hall]; rfl)
  clear hall hge hx x
  intro x hx
  have hdl := domsI_len (capN c) l now
  refine br_iff.2 ⟨fun hlt => ?_, fun hge => ?_⟩
  · have hlt' : x < (domainsL (liveL l now)).length := lt_of_ltI hlt
    refine ⟨(x, domsI (capN c) (liveL l now) x), ⟨(x, domsI (capN c) (liveL l now) x), ⟨⟨hlt', hdl x, (domsI_next hlt').symm⟩, rfl⟩, ?_⟩, ?_⟩
    · (repeat' (first | exact trivial | exact rfl | exact (fun _ => rfl) | refine And.intro ?_ ?_))
    rintro ⟨i, a⟩ ⟨⟨h1, h2, h3⟩, hi⟩
    have hi : i = x := hi
    subst hi
    have h2 : a.length ≤ l.length := h2
    have h3 : trimD (capN c) (domainsL (liveL l now))[i] false a = domsI (capN c) (liveL l now) (i + 1) := h3
    refine so_iff.2 ⟨_, get_ok hlt', (a, (domainsL (liveL l now))[i]), rfl, rfl, by show a.length ≤ 10000; omega, br_iff.2 ⟨fun hgt => ?_, fun hle => ?_⟩⟩
    · have hgt : capN c < (ofL a (domainsL (liveL l now))[i] false).length := by rw [ofL_false]; exact gt_of_ltI hgt hd
      have hw := without_len a (stalestL a (domainsL (liveL l now))[i] false)
      refine so_iff.2 ⟨_, get_ok hlt', (a, (domainsL (liveL l now))[i], false), rfl, rfl, rfl, by show a.length ≤ 10000; omega, (a, stalestL a (domainsL (liveL l now))[i] false), rfl, rfl, rfl, rfl, by show a.length ≤ 10000; omega, (i, withoutL a (stalestL a (domainsL (liveL l now))[i] false)), ⟨⟨h1, by show (withoutL a _).length ≤ l.length; omega, ?_⟩, rfl⟩, stalest_lt hgt, ?_⟩
      · rw [← h3]; exact (trimD_more hgt).symm
      · (repeat' (first | exact trivial | exact rfl | exact (fun _ => rfl) | refine And.intro ?_ ?_))
    · have hle := le_of_ltI hle
      have hle : (ofL a (domainsL (liveL l now))[i] false).length ≤ capN c := by rw [ofL_false]; exact hle
      rw [trimD_done hle] at h3
      refine ck_iff.2 ⟨inR_nat i (by have := domains_len (liveL l now) []; simp only [domainsL] at hlt'; simp at this; omega), i + 1, hlt', by show (domainsL (liveL l now)).length - (i + 1) < (domainsL (liveL l now)).length - i; omega, ?_⟩
      (repeat' (first | exact trivial | exact rfl | exact (fun _ => rfl) | refine And.intro ?_ ?_))
      all_goals (rw [← h3])
  have hfull : domsI (capN c) (liveL l now) x = domsF (capN c) (liveL l now) (domainsL (liveL l now)) := by unfold domsI; rw [take_done (ge_of_ltI hge)]
  refine ⟨⟨domsI (capN c) (liveL l now) x, ⟨hdl x, by rw [hfull]; rfl⟩, ?_⟩, ?_⟩
  · (repeat' (first | exact trivial | exact rfl | exact (fun _ => rfl) | refine And.intro ?_ ?_))
  rintro a ⟨h1, h2⟩
  have h1 : a.length ≤ l.length := h1
  have h2 : trimA (totN c) a = leftL (capN c) (totN c) l now := h2
  refine br_iff.2 ⟨fun hgt => ?_, fun hle => ?_⟩
  · have hgt : totN c < a.length := gt_of_ltI hgt ht
    have hw := without_len a (stalestL a [] true)
    refine ⟨(a, [], true), rfl, rfl, rfl, by show a.length ≤ 10000; omega, (a, stalestL a [] true), rfl, rfl, rfl, rfl, by show a.length ≤ 10000; omega, withoutL a (stalestL a [] true), ⟨by show (withoutL a _).length ≤ l.length; omega, ?_⟩, stalest_lt (m := totN c) (by rw [ofL_true]; exact hgt), ?_⟩
    · rw [← trimA_more hgt]; exact h2
    · (repeat' (first | exact trivial | exact rfl | exact (fun _ => rfl) | refine And.intro ?_ ?_))
  · have hle : a.length ≤ totN c := le_of_ltI hle
    rw [trimA_done hle] at h2
    refine ⟨?_, trivial⟩
    rw [h2])
theorem conG2_ok (hG : ∀ g C, conG1 g = some C → Go.Sy.ConOK Tryz.prog Tryz.tab g C) : ∀ g C, conG2 g = some C → Go.Sy.ConOK Tryz.prog Tryz.tab g C := con_step (okLeftR hG) hG
theorem left_len (cap total : Nat) (l : List CItem) (now : Int) : (leftL cap total l now).length ≤ l.length := (left_sub _ _ _ _).length_le
theorem okGoneR (hG : ∀ g C, conG2 g = some C → Go.Sy.ConOK Tryz.prog Tryz.tab g C) : Go.Sy.ConOK Tryz.prog Tryz.tab F.ref26_Gone cGoneR := askY_ok (cfg := fun y => cfgI conG2 (annAt F.ref26_Gone 4 (aGoneR y))) Tryz.prOk (fun _ => rfl) (fun _ => hG) (n := 800) (by
  rw [vcGoneR]
  rintro ⟨c, l, now⟩ ⟨hd, ht, hl⟩
  have hl : l.length ≤ 10000 := hl
  have hk := left_len (capN c) (totN c) l now
  refine ⟨(c, l, now), rfl, rfl, rfl, rfl, rfl, rfl, ⟨hd, ht, hl⟩, ⟨0, Nat.zero_le _, ?_⟩, ?_⟩
  · (repeat' (first | exact trivial | exact rfl | exact (fun _ => rfl) | refine And.intro ?_ ?_))
  intro x hx
  refine br_iff.2 ⟨fun hlt => ?_, fun hge => ⟨by rw [filter_all (ge_of_ltI hge)], trivial⟩⟩
  have hlt' : x < l.length := lt_of_ltI hlt
  have hlen := filter_len (l := l) (x := x) (p := fun z : CItem => !(findL (leftL (capN c) (totN c) l now) z.key).2)
  have hf := filter_next (p := fun z : CItem => !(findL (leftL (capN c) (totN c) l now) z.key).2) hlt'
  have hmu : l.length - (x + 1) < l.length - x := by omega
  refine so_iff.2 ⟨_, get_ok hlt', (leftL (capN c) (totN c) l now, l[x].key), rfl, rfl, rfl, rfl, by show (leftL (capN c) (totN c) l now).length ≤ 10000; omega, br_iff.2 ⟨fun h1 => so_iff.2 ⟨_, get_ok hlt', l[x], rfl, ck_iff.2 ⟨by simp only [Bool.and_eq_true, Nat.ble_eq, List.length_cons, List.length_nil]; omega, ck_iff.2 ⟨inR_nat x (by omega), x + 1, hlt', hmu, ?_⟩⟩⟩, fun h1 => ck_iff.2 ⟨inR_nat x (by omega), x + 1, hlt', hmu, ?_⟩⟩⟩
  · have h1 : (!(findL (leftL (capN c) (totN c) l now) l[x].key).2) = true := h1
    simp only [h1, if_true] at hf
    (repeat' (first | exact trivial | exact rfl | exact (fun _ => rfl) | refine And.intro ?_ ?_))
    all_goals (rw [hf])
  · have h1 : (!(findL (leftL (capN c) (totN c) l now) l[x].key).2) = false := h1
    simp only [h1, Bool.false_eq_true, if_false, List.append_nil] at hf
    (repeat' (first | exact trivial | exact rfl | exact (fun _ => rfl) | refine And.intro ?_ ?_))
    all_goals (rw [hf]))
theorem domsE_eq {l : List CItem} (hk : KN l) (cap i : Nat) : domsE cap l i = domsI cap l i := doms_eq hk cap _
theorem domsE_next {cap : Nat} {l : List CItem} {i : Nat} (h : i < (domainsL l).length) : domsE cap l (i + 1) = (ofE cap l i).foldl (stepF (trimA cap (ofE cap l i))) (domsE cap l i) := by
  have h1 := fold_next (fun b d => (domainL b d).foldl (stepF (trimA cap (domainL b d))) b) l h
  unfold ofE
  rw [List.getElem?_eq_getElem h]
  exact h1
theorem okLeft (hG : ∀ g C, conG2 g = some C → Go.Sy.ConOK Tryz.prog Tryz.tab g C) : Go.Sy.ConOK Tryz.prog Tryz.tab F.evict_Left cLeft := askY_ok (cfg := fun y => cfgI conG2 (annLeft y)) Tryz.prOk (fun _ => rfl) (fun _ => hG) (n := 800) (by
  rw [vcLeft]
  rintro ⟨c, l, now⟩ ⟨hr, hl, hsh⟩
  have hl : l.length ≤ 10000 := hl
  refine ⟨c, rfl, rfl, rfl, rfl, hr, br_iff.2 ⟨fun hc => ?_, fun hc => ?_⟩⟩
  · have hc : checkC c ≠ 0 := by simpa using hc
    have he : evL (c, l, now) = ([], checkC c) := by unfold evL; rw [if_pos hc]
    exact ⟨by rw [he], by show checkC c = _; rw [he], trivial⟩
  have hc : ¬ checkC c ≠ 0 := by simpa using hc
  refine ⟨l, rfl, hl, br_iff.2 ⟨fun hri => ?_, fun hri => ?_⟩⟩
  · have hri : risingL l = false := by simpa using hri
    have he : evL (c, l, now) = ([], 6) := by unfold evL; rw [if_neg hc]; simp [hri]
    exact ⟨by rw [he], by show (6 : Int) = _; rw [he], trivial⟩
  have hri : risingL l = true := by simpa using hri
  have he : evL (c, l, now) = (leftL (capN c) (totN c) l now, 0) := by unfold evL; rw [if_neg hc]; simp [hri]
  have hchk : 1 ≤ c.domain ∧ 1 ≤ c.total := by
    have hc : checkC c = 0 := Classical.byContradiction hc
    unfold checkC at hc
    split at hc
    · cases hc
    · omega
  have hkn := rising_KN hri
  refine ⟨⟨0, Nat.zero_le _, ?_⟩, ?_⟩
  · (repeat' (first | exact trivial | exact rfl | exact (fun _ => rfl) | refine And.intro ?_ ?_))
  intro x hx
  refine br_iff.2 ⟨fun hlt => ?_, fun hge => ?_⟩
  · have hlt' : x < l.length := lt_of_ltI hlt
    have hlen := filter_len (l := l) (x := x) (p := fun z : CItem => !overC z.cookie now)
    have hf := filter_next (p := fun z : CItem => !overC z.cookie now) hlt'
    have hmu : l.length - (x + 1) < l.length - x := by omega
    refine so_iff.2 ⟨_, get_ok hlt', (l[x].cookie, now), rfl, rfl, rfl, rfl, rfl, rfl, rfl, rfl, rfl, trivial, br_iff.2 ⟨fun h1 => ck_iff.2 ⟨inR_nat x (by omega), x + 1, hlt', hmu, ?_⟩, fun h1 => ⟨l[x], rfl, ck_iff.2 ⟨by simp only [Bool.and_eq_true, Nat.ble_eq, List.length_cons, List.length_nil]; omega, ck_iff.2 ⟨inR_nat x (by omega), x + 1, hlt', hmu, ?_⟩⟩⟩⟩⟩
    · have h1 : overC l[x].cookie now = true := h1
      simp only [h1, Bool.not_true, Bool.false_eq_true, if_false, List.append_nil] at hf
      (repeat' (first | exact trivial | exact rfl | exact (fun _ => rfl) | refine And.intro ?_ ?_))
      all_goals (rw [hf])
    · have h1 : overC l[x].cookie now = false := h1
      simp only [h1, Bool.not_false, if_true] at hf
      (repeat' (first | exact trivial | exact rfl | exact (fun _ => rfl) | refine And.intro ?_ ?_))
      all_goals (rw [hf])
  have hall : (l.take x).filter (fun z : CItem => !overC z.cookie now) = liveL l now := filter_all (ge_of_ltI hge)
  have hlive := live_len l now
  have hkl : KN (liveL l now) := hkn.sub List.filter_sublist
  refine ⟨liveL l now, by rw [hall], ⟨by omega, fun z hz => hsh z (List.mem_filter.1 hz).1⟩, ⟨0, Nat.zero_le _, ?_⟩, ?_⟩
  · (repeat' (first | exact trivial | exact rfl | exact (fun _ => rfl) | refine And.intro ?_ ?_))
    all_goals (rw [hall]; rfl)
  clear hall hge hx x
  have hdl : ∀ i, (domsE (capN c) (liveL l now) i).Sublist (liveL l now) := fun i => by rw [domsE_eq hkl]; exact domsI_sub _ _ _
  have hdoms : (domainsL (liveL l now)).length ≤ 10000 := by
    have := domains_len (liveL l now) []
    unfold domainsL
    simp at this
    omega
  intro x hx
  refine br_iff.2 ⟨fun hlt => ?_, fun hge => ?_⟩
  · have hlt' : x < (domainsL (liveL l now)).length := lt_of_ltI hlt
    have hof : ofE (capN c) (liveL l now) x = domainL (domsE (capN c) (liveL l now) x) (domainsL (liveL l now))[x] := by unfold ofE; rw [List.getElem?_eq_getElem hlt']; rfl
    refine so_iff.2 ⟨_, get_ok hlt', (domsE (capN c) (liveL l now) x, (domainsL (liveL l now))[x]), rfl, rfl, by have := (hdl x).length_le; show (domsE (capN c) (liveL l now) x).length ≤ 10000; omega, (x, 0), ⟨(x, 0), ⟨⟨hlt', Nat.zero_le _⟩, rfl⟩, ?_⟩, ?_⟩
    · (repeat' (first | exact trivial | exact rfl | exact (fun _ => rfl) | refine And.intro ?_ ?_))
      all_goals (simp only [hof])
      all_goals rfl
    rintro ⟨i, j⟩ ⟨⟨h1, h2⟩, hi⟩
    have hi : i = x := hi
    subst hi
    have h2 : j ≤ (ofE (capN c) (liveL l now) i).length := h2
    have hofs : (ofE (capN c) (liveL l now) i).Sublist (liveL l now) := List.filter_sublist.trans (hdl i)
    have hofl := hofs.length_le
    have hmu : (domainsL (liveL l now)).length - (i + 1) < (domainsL (liveL l now)).length - i := by omega
    have hcur : ∀ j, (((ofE (capN c) (liveL l now) i).take j).foldl (stepF (trimA (capN c) (ofE (capN c) (liveL l now) i))) (domsE (capN c) (liveL l now) i)).length ≤ 10000 := by
      intro j
      rw [stepF_fold]
      have h3 := List.length_filter_le (fun y => decide (∀ x ∈ (ofE (capN c) (liveL l now) i).take j, x ∉ trimA (capN c) (ofE (capN c) (liveL l now) i) → y.key ≠ x.key)) (domsE (capN c) (liveL l now) i)
      have h4 := (hdl i).length_le
      omega
    refine br_iff.2 ⟨fun hlt2 => ?_, fun hge2 => ?_⟩
    · have hlt2' : j < (ofE (capN c) (liveL l now) i).length := lt_of_ltI hlt2
      have hn := fold_next (stepF (trimA (capN c) (ofE (capN c) (liveL l now) i))) (domsE (capN c) (liveL l now) i) hlt2'
      have hmu2 : (ofE (capN c) (liveL l now) i).length - (j + 1) < (ofE (capN c) (liveL l now) i).length - j := by omega
      have htl : (trimA (capN c) (ofE (capN c) (liveL l now) i)).length ≤ 10000 := Nat.le_trans (trim_sub (capN c) [] true (ofE (capN c) (liveL l now) i)).length_le (by omega)
      refine so_iff.2 ⟨_, get_ok hlt2', (ofE (capN c) (liveL l now) i, c.domain), rfl, rfl, ⟨by show (ofE (capN c) (liveL l now) i).length ≤ 10000; omega, hkl.sub hofs, by show 0 ≤ c.domain; omega⟩, (trimA (capN c) (ofE (capN c) (liveL l now) i), (ofE (capN c) (liveL l now) i)[j]), rfl, rfl, rfl, rfl, rfl, rfl, rfl, rfl, rfl, rfl, rfl, rfl, htl, br_iff.2 ⟨fun hin => ?_, fun hin => ?_⟩⟩
      · have hin : (ofE (capN c) (liveL l now) i)[j] ∉ trimA (capN c) (ofE (capN c) (liveL l now) i) := by simpa using hin
        unfold stepF at hn
        rw [if_neg hin] at hn
        refine ⟨(_, (ofE (capN c) (liveL l now) i)[j].key), rfl, rfl, rfl, rfl, hcur j, ck_iff.2 ⟨inR_nat j (by omega), (i, j + 1), ⟨⟨h1, hlt2'⟩, rfl⟩, hmu2, ?_⟩⟩
        (repeat' (first | exact trivial | exact rfl | exact (fun _ => rfl) | refine And.intro ?_ ?_))
        all_goals (exact congrArg (fun a => SV.lst CItem a CItem.enc) hn.symm)
      · have hin : (ofE (capN c) (liveL l now) i)[j] ∈ trimA (capN c) (ofE (capN c) (liveL l now) i) := by simpa using hin
        unfold stepF at hn
        rw [if_pos hin] at hn
        refine ck_iff.2 ⟨inR_nat j (by omega), (i, j + 1), ⟨⟨h1, hlt2'⟩, rfl⟩, hmu2, ?_⟩
        (repeat' (first | exact trivial | exact rfl | exact (fun _ => rfl) | refine And.intro ?_ ?_))
        all_goals (exact congrArg (fun a => SV.lst CItem a CItem.enc) hn.symm)
    · have hn := domsE_next (cap := capN c) hlt'
      refine ck_iff.2 ⟨inR_nat i (by omega), i + 1, hlt', hmu, ?_⟩
      (repeat' (first | exact trivial | exact rfl | exact (fun _ => rfl) | refine And.intro ?_ ?_))
      all_goals (show SV.lst CItem (((ofE (capN c) (liveL l now) i).take j).foldl (stepF (trimA (capN c) (ofE (capN c) (liveL l now) i))) (domsE (capN c) (liveL l now) i)) CItem.enc = SV.lst CItem (domsE (capN c) (liveL l now) (i + 1)) CItem.enc; rw [take_done (ge_of_ltI hge2), hn])
  have hfull : domsE (capN c) (liveL l now) x = domsF (capN c) (liveL l now) (domainsL (liveL l now)) := by
    rw [domsE_eq hkl]
    unfold domsI
    rw [take_done (ge_of_ltI hge)]
  refine ⟨(domsE (capN c) (liveL l now) x, c.total), rfl, rfl, ⟨by have := (hdl x).length_le; show (domsE (capN c) (liveL l now) x).length ≤ 10000; omega, hkl.sub (hdl x), by show 0 ≤ c.total; omega⟩, ?_, ?_, trivial⟩
  · rw [he]
    show SV.lst CItem (trimA (totN c) (domsE (capN c) (liveL l now) x)) CItem.enc = _
    rw [hfull]
    rfl
  · rw [he])
end Go.Proofs

set_option maxRecDepth 100000
set_option maxHeartbeats 4000000
namespace Go.Proofs
open Go Go.Am Go.RowKit Go.Sy
theorem vcLawLimits : (askY (fun (y : Con.Y cLawE) => cfgI conG4 (annAt F.law26_EvictLimits 7 (aLimits y))) 800 F.law26_EvictLimits) = (∀ (y : CConfig × List CItem × Int),
 True →
 ∃ (y_1 : CConfig × List CItem),
 eqI y.1.devices y_1.1.devices ∧
 eqI y.1.domain y_1.1.domain ∧
 eqI y.1.total y_1.1.total ∧
 SV.lst Bs y.1.rules encTx = SV.lst Bs y_1.1.rules encTx ∧
 SV.lst CItem y.2.1 CItem.enc = SV.lst CItem y_1.2 CItem.enc ∧
 True ∧
 br (!lightB y_1.1 y_1.2) (∃ (y : Unit), True ∧ Bool.true = Bool.true ∧ True)
 (∃ (y_2 : List CItem),
 SV.lst CItem y.2.1 CItem.enc = SV.lst CItem y_2 CItem.enc ∧
 y_2.length ≤ 1000 ∧
 ∃ (y_3 : CConfig × List CItem × Int),
 eqI y.1.devices y_3.1.devices ∧
 eqI y.1.domain y_3.1.domain ∧
 eqI y.1.total y_3.1.total ∧
 SV.lst Bs y.1.rules encTx =
 SV.lst Bs y_3.1.rules encTx ∧
 SV.lst CItem (byKeysL y_2) CItem.enc =
 SV.lst CItem y_3.2.1 CItem.enc ∧
 eqI y.2.2 y_3.2.2 ∧
 ((y_3.1.rules.length ≤ 100000 ∧
 ∀ (s : Bs), s ∈ y_3.1.rules → s.length ≤ 100000) ∧
 y_3.2.1.length ≤ 10000 ∧
 ∀ (x : CItem), x ∈ y_3.2.1 → x.key.domain.length ≤ 1000000) ∧
 br (!Prod.snd (evL y_3) == 0)
 (∃ (y_4 : CConfig),
 eqI y.1.devices y_4.devices ∧
 eqI y.1.domain y_4.domain ∧
 eqI y.1.total y_4.total ∧
 SV.lst Bs y.1.rules encTx =
 SV.lst Bs y_4.rules encTx ∧
 (y_4.rules.length ≤ 100000 ∧
 ∀ (s : Bs), s ∈ y_4.rules → s.length ≤ 100000) ∧
 br (Prod.snd (evL y_3) == checkC y_4) (∃ (y : Unit), True ∧ Bool.true = Bool.true ∧ True)
 (Bool.false = Bool.true ∧ True))
 ((∃ (x : Nat),
 x ≤ List.length (Prod.fst (evL (y.1, byKeysL y.2.1, y.2.2))) ∧
 (eqI y.2.2 y.2.2 ∧
 True ∧
 Bool.false = Bool.false ∧
 SV.lst CItem (Prod.fst (evL y_3)) CItem.enc =
 SV.lst CItem
 (Prod.fst (evL (y.1, byKeysL y.2.1, y.2.2)))
 CItem.enc ∧
 eqI 0 ↑x ∧ True) ∧
 ((eqI y.1.devices y.1.devices ∧
 eqI y.1.domain y.1.domain ∧
 eqI y.1.total y.1.total ∧
 SV.lst Bs y.1.rules encTx =
 SV.lst Bs y.1.rules encTx ∧
 True) ∧
 True) ∧
 True) ∧
 ∀ (x : Nat),
 x ≤ List.length (Prod.fst (evL (y.1, byKeysL y.2.1, y.2.2))) →
 br
 (ltI (↑x)
 (Int.ofNat
 (List.length (Prod.fst (evL (y.1, byKeysL y.2.1, y.2.2))))))
 (so
 (Prod.fst (evL (y.1, byKeysL y.2.1, y.2.2)))[Int.toNat ↑x]?
 fun (val : CItem) =>
 ∃ (y_4 : CCookie × Int),
 val.cookie.value = y_4.1.value ∧
 val.cookie.hostOnly = y_4.1.hostOnly ∧
 val.cookie.secure = y_4.1.secure ∧
 val.cookie.httpOnly = y_4.1.httpOnly ∧
 val.cookie.persistent = y_4.1.persistent ∧
 eqI val.cookie.expiry y_4.1.expiry ∧
 eqI val.cookie.creation
 y_4.1.creation ∧
 eqI val.cookie.access y_4.1.access ∧
 eqI y.2.2 y_4.2 ∧
 True ∧
 br (overC y_4.1 y_4.2) (Bool.false = Bool.true ∧ True)
 (so
 (Prod.fst
 (evL
 (y.1, byKeysL y.2.1,
 y.2.2)))[Int.toNat ↑x]?
 fun (val : CItem) =>
 ∃ (y_5 : List CItem × Bs),
 SV.lst CItem
 (Prod.fst
 (evL
 (y.1, byKeysL y.2.1, y.2.2)))
 CItem.enc =
 SV.lst CItem y_5.1 CItem.enc ∧
 val.key.domain = y_5.2 ∧
 y_5.1.length ≤ 10000 ∧
 br
 (ltI y.1.domain
 (Int.ofNat (List.length (domainL y_5.1 y_5.2))))
 (Bool.false = Bool.true ∧ True)
 (ck (inR Go.IntKind.i64 (↑x + 1))
 (∃ (y_6 : Nat),
 y_6 ≤
 List.length
 (Prod.fst
 (evL
 (y.1, byKeysL y.2.1,
 y.2.2))) ∧
 Ann.μ (aLimits y) y_6 < Ann.μ (aLimits y) x ∧
 (eqI y.2.2 y.2.2 ∧
 True ∧
 Bool.false = Bool.false ∧
 SV.lst CItem
 (Prod.fst
 (evL
 (y.1, byKeysL y.2.1,
 y.2.2)))
 CItem.enc =
 SV.lst CItem
 (Prod.fst
 (evL
 (y.1, byKeysL y.2.1,
 y.2.2)))
 CItem.enc ∧
 eqI (↑x + 1) ↑y_6 ∧ True) ∧
 ((eqI y.1.devices
 y.1.devices ∧
 eqI y.1.domain
 y.1.domain ∧
 eqI y.1.total
 y.1.total ∧
 SV.lst Bs y.1.rules
 encTx =
 SV.lst Bs y.1.rules
 encTx ∧
 True) ∧
 True) ∧
 True))))
 (∃ (y_4 : CConfig × List CItem × Int),
 eqI y.1.devices y_4.1.devices ∧
 eqI y.1.domain y_4.1.domain ∧
 eqI y.1.total y_4.1.total ∧
 SV.lst Bs y.1.rules encTx =
 SV.lst Bs y_4.1.rules encTx ∧
 SV.lst CItem
 (Prod.fst (evL (y.1, byKeysL y.2.1, y.2.2)))
 CItem.enc =
 SV.lst CItem y_4.2.1 CItem.enc ∧
 eqI y.2.2 y_4.2.2 ∧
 ((y_4.1.rules.length ≤ 100000 ∧
 ∀ (s : Bs), s ∈ y_4.1.rules → s.length ≤ 100000) ∧
 y_4.2.1.length ≤ 10000 ∧
 ∀ (x : CItem),
 x ∈ y_4.2.1 → x.key.domain.length ≤ 1000000) ∧
 br
 (leI
 (Int.ofNat
 (List.length
 (Prod.fst
 (evL (y.1, byKeysL y.2.1, y.2.2)))))
 y.1.total)
 (br (Prod.snd (evG y_4) == 0)
 (br (Int.ofNat (List.length (Prod.fst (evG y_4))) == 0)
 (∃ (y : Unit), True ∧ Bool.true = Bool.true ∧ True) (Bool.false = Bool.true ∧ True))
 (Bool.false = Bool.true ∧ True))
 (Bool.false = Bool.true ∧ True))))) := by kernel_rfl
end Go.Proofs

set_option maxRecDepth 100000
namespace Go.Proofs
open Go Go.Am Go.RowKit Go.Sy
variable [Inhabited DrP]
theorem evL_bad {c : CConfig} {l : List CItem} {now : Int} (h : checkC c ≠ 0) : evL (c, l, now) = ([], checkC c) := by unfold evL; rw [if_pos h]
theorem evL_ok {c : CConfig} {l : List CItem} {now : Int} (h : checkC c = 0) (hr : risingL l = true) : evL (c, l, now) = (leftL (capN c) (totN c) l now, 0) := by unfold evL; rw [if_neg (by simpa using h)]; simp [hr]
theorem evL_len (c : CConfig) (l : List CItem) (now : Int) : (evL (c, l, now)).1.length ≤ l.length := by
  unfold evL
  split
  · simp
  · split
    · exact left_len _ _ _ _
    · simp
theorem check_one {c : CConfig} (h : checkC c = 0) : 1 ≤ c.domain ∧ 1 ≤ c.total := by
  unfold checkC at h
  split at h
  · cases h
  · omega
theorem evG_bad {y : CConfig × List CItem × Int} (h : (evL y).2 ≠ 0) : evG y = ([], (evL y).2) := by unfold evG; rw [if_pos h]
theorem evG_ok {y : CConfig × List CItem × Int} (h : (evL y).2 = 0) : evG y = (goneL y.2.1 (evL y).1, 0) := by unfold evG; rw [if_neg (by simpa using h)]
theorem gone_self (l : List CItem) : goneL l l = [] := by
  unfold goneL
  rw [List.filter_eq_nil_iff]
  intro x hx
  simp [hx]
theorem gone_le (l k : List CItem) : (goneL l k).length ≤ l.length := List.length_filter_le _ _
theorem okGone (hG : ∀ g C, conG3 g = some C → Go.Sy.ConOK Tryz.prog Tryz.tab g C) : Go.Sy.ConOK Tryz.prog Tryz.tab F.evict_Gone cGone := askY_ok (cfg := fun y => cfgI conG3 (annAt F.evict_Gone 6 (aGone y))) Tryz.prOk (fun _ => rfl) (fun _ => hG) (n := 800) (by
  rw [vcGone]
  rintro ⟨c, l, now⟩ ⟨hr, hl, hsh⟩
  have hl : l.length ≤ 10000 := hl
  have hk := evL_len c l now
  refine ⟨(c, l, now), rfl, rfl, rfl, rfl, rfl, rfl, ⟨hr, hl, hsh⟩, br_iff.2 ⟨fun hc => ?_, fun hc => ?_⟩⟩
  · have hc : (evL (c, l, now)).2 ≠ 0 := by simpa using hc
    have he := evG_bad hc
    exact ⟨by rw [he], by show (evL (c, l, now)).2 = _; rw [he], trivial⟩
  have hc : (evL (c, l, now)).2 = 0 := by simpa using hc
  have he := evG_ok hc
  refine ⟨⟨0, Nat.zero_le _, ?_⟩, ?_⟩
  · (repeat' (first | exact trivial | exact rfl | exact (fun _ => rfl) | refine And.intro ?_ ?_))
  intro x hx
  refine br_iff.2 ⟨fun hlt => ?_, fun hge => ⟨?_, by rw [he], trivial⟩⟩
  · have hlt' : x < l.length := lt_of_ltI hlt
    have hlen := gone_le (l.take x) (evL (c, l, now)).1
    have hx2 : (l.take x).length ≤ x := by simp; omega
    have hf : goneL (l.take (x + 1)) (evL (c, l, now)).1 = goneL (l.take x) (evL (c, l, now)).1 ++ if decide (l[x] ∉ (evL (c, l, now)).1) then [l[x]] else [] := filter_next (p := fun z => decide (z ∉ (evL (c, l, now)).1)) hlt'
    have hmu : l.length - (x + 1) < l.length - x := by omega
    refine so_iff.2 ⟨_, get_ok hlt', ((evL (c, l, now)).1, l[x]), rfl, rfl, rfl, rfl, rfl, rfl, rfl, rfl, rfl, rfl, rfl, rfl, by show (evL (c, l, now)).1.length ≤ 10000; omega, br_iff.2 ⟨fun h1 => ⟨l[x], rfl, ck_iff.2 ⟨by simp only [Bool.and_eq_true, Nat.ble_eq, List.length_cons, List.length_nil]; omega, ck_iff.2 ⟨inR_nat x (by omega), x + 1, hlt', hmu, ?_⟩⟩⟩, fun h1 => ck_iff.2 ⟨inR_nat x (by omega), x + 1, hlt', hmu, ?_⟩⟩⟩
    · have h1 : l[x] ∉ (evL (c, l, now)).1 := by simpa using h1
      simp only [h1, not_false_eq_true, decide_true, if_true] at hf
      (repeat' (first | exact trivial | exact rfl | exact (fun _ => rfl) | refine And.intro ?_ ?_))
      all_goals (rw [hf])
    · have h1 : l[x] ∈ (evL (c, l, now)).1 := by simpa using h1
      simp only [h1, not_true_eq_false, decide_false, Bool.false_eq_true, if_false, List.append_nil] at hf
      (repeat' (first | exact trivial | exact rfl | exact (fun _ => rfl) | refine And.intro ?_ ?_))
      all_goals (rw [hf])
  · rw [he]
    show SV.lst CItem (goneL (l.take x) (evL (c, l, now)).1) CItem.enc = SV.lst CItem (goneL l (evL (c, l, now)).1) CItem.enc
    rw [take_done (ge_of_ltI hge)])
theorem okShown (hG : ∀ g C, conG3 g = some C → Go.Sy.ConOK Tryz.prog Tryz.tab g C) : Go.Sy.ConOK Tryz.prog Tryz.tab F.evict_Shown cShown := askY_ok (cfg := fun y => cfgI conG3 (noAnn y)) Tryz.prOk (fun _ => rfl) (fun _ => hG) (n := 400) (by
  rw [vcShown]
  rintro ⟨c, l, now⟩ ⟨hr, hl⟩
  exact ⟨(c, l, now), rfl, rfl, rfl, rfl, rfl, rfl, ⟨hr, hl⟩, rfl, trivial⟩)
theorem light_iff (c : CConfig) (l : List CItem) : lightB c l = true ↔ l.length ≤ 40 ∧ ¬ (20 < c.rules.length ∧ c.rules.length ≤ 256) ∧ c.rules.length ≤ 300 ∧ (∀ s ∈ c.rules, s.length ≤ 300) ∧ ∀ x ∈ l, shortB x = true := by
  unfold lightB
  simp only [Bool.and_eq_true, decide_eq_true_eq, Bool.not_eq_true', Bool.and_eq_false_iff, decide_eq_false_iff_not, List.all_eq_true]
  constructor
  · rintro ⟨⟨⟨⟨h1, h2⟩, h3⟩, h4⟩, h5⟩
    exact ⟨h1, fun h => by rcases h2 with h2 | h2 <;> omega, h3, h4, h5⟩
  · rintro ⟨h1, h2, h3, h4, h5⟩
    refine ⟨⟨⟨⟨h1, ?_⟩, h3⟩, h4⟩, h5⟩
    by_cases h : 20 < c.rules.length
    · exact .inr fun h' => h2 ⟨h, h'⟩
    · exact .inl h
theorem light_false {c : CConfig} {l : List CItem} (h : ¬ (l.length ≤ 40 ∧ ¬ (20 < c.rules.length ∧ c.rules.length ≤ 256) ∧ c.rules.length ≤ 300 ∧ (∀ s ∈ c.rules, s.length ≤ 300) ∧ ∀ x ∈ l, shortB x = true)) : false = lightB c l := (Bool.eq_false_iff.2 fun e => h ((light_iff c l).1 e)).symm
theorem long_of {n : Nat} (h : ltI 300 (Int.ofNat n) = true) : ¬ n ≤ 300 := by rw [ltI_eq, decide_eq_true_eq, Int.ofNat_eq_natCast] at h; omega
theorem short_of {n : Nat} (h : ltI 300 (Int.ofNat n) = false) : n ≤ 300 := by rw [ltI_eq, decide_eq_false_iff_not, Int.ofNat_eq_natCast] at h; omega
theorem okLight : Go.Sy.ConOK Tryz.prog Tryz.tab F.law26_light cLight := askY_ok (cfg := fun y => cfgI con0 (annMore F.law26_light 4 (aLight1 y) (annAt F.law26_light 9 (aLight2 y)))) Tryz.prOk (fun _ => rfl) (fun _ => con0_ok) (n := 800) (by
  rw [vcLight26]
  rintro ⟨c, l⟩ -
  refine br_iff.2 ⟨fun h => ⟨light_false fun h' => ?_, trivial⟩, fun h40 => br_iff.2 ⟨fun h20 => br_iff.2 ⟨fun h256 => ⟨light_false fun h' => ?_, trivial⟩, fun h256 => br_iff.2 ⟨fun h300 => ⟨light_false fun h' => long_of h300 h'.2.2.1, trivial⟩, fun h300 => ?_⟩⟩, fun h20 => br_iff.2 ⟨fun h300 => ⟨light_false fun h' => long_of h300 h'.2.2.1, trivial⟩, fun h300 => ?_⟩⟩⟩
  · rw [ltI_eq, decide_eq_true_eq, Int.ofNat_eq_natCast] at h
    have h : (40 : Int) < (l.length : Int) := h
    have := h'.1
    omega
  · rw [ltI_eq, decide_eq_true_eq, Int.ofNat_eq_natCast] at h20
    rw [leI_eq, decide_eq_true_eq, Int.ofNat_eq_natCast] at h256
    have h20 : (20 : Int) < (c.rules.length : Int) := h20
    have h256 : (c.rules.length : Int) ≤ 256 := h256
    exact h'.2.1 ⟨by omega, by omega⟩
  all_goals (
    have hl : l.length ≤ 40 := by
      rw [ltI_eq, decide_eq_false_iff_not, Int.ofNat_eq_natCast] at h40
      have h40 : ¬ (40 : Int) < (l.length : Int) := h40
      omega
    have hm : ¬ (20 < c.rules.length ∧ c.rules.length ≤ 256) := by
      first
        | (rw [leI_eq, decide_eq_false_iff_not, Int.ofNat_eq_natCast] at h256
           have h256 : ¬ (c.rules.length : Int) ≤ 256 := h256
           omega)
        | (rw [ltI_eq, decide_eq_false_iff_not, Int.ofNat_eq_natCast] at h20
           have h20 : ¬ (20 : Int) < (c.rules.length : Int) := h20
           omega)
    have hr : c.rules.length ≤ 300 := short_of h300
    refine ⟨⟨0, ⟨Nat.zero_le _, fun j h hj => absurd hj (Nat.not_lt_zero _)⟩, ?_⟩, ?_⟩
    · (repeat' (first | exact trivial | exact rfl | exact (fun _ => rfl) | refine And.intro ?_ ?_))
    rintro x ⟨hx, hx2⟩
    refine br_iff.2 ⟨fun hlt => ?_, fun hge => ?_⟩
    · have hlt' : x < c.rules.length := lt_of_ltI hlt
      refine so_iff.2 ⟨_, get_ok hlt', br_iff.2 ⟨fun hs => ⟨light_false fun h' => long_of hs (h'.2.2.2.1 _ (List.getElem_mem hlt')), trivial⟩, fun hs => ck_iff.2 ⟨inR_nat x (by omega), x + 1, ⟨hlt', fun j h hj => ?_⟩, by show c.rules.length - (x + 1) < c.rules.length - x; omega, ?_⟩⟩⟩
      · by_cases e : j = x
        · subst e; exact short_of hs
        · exact hx2 j h (by omega)
      · (repeat' (first | exact trivial | exact rfl | exact (fun _ => rfl) | refine And.intro ?_ ?_))
    have hrall : ∀ s ∈ c.rules, s.length ≤ 300 := by
      intro s hs
      obtain ⟨j, hj, rfl⟩ := List.getElem_of_mem hs
      exact hx2 j hj (by have := ge_len hge; have : c.rules.length ≤ x := this; have hj : j < c.rules.length := hj; omega)
    clear hge hx hx2 x
    refine ⟨⟨0, ⟨Nat.zero_le _, fun j h hj => absurd hj (Nat.not_lt_zero _)⟩, ?_⟩, ?_⟩
    · (repeat' (first | exact trivial | exact rfl | exact (fun _ => rfl) | refine And.intro ?_ ?_))
    rintro x ⟨hx, hx2⟩
    refine br_iff.2 ⟨fun hlt => ?_, fun hge => ⟨?_, trivial⟩⟩
    · have hlt' : x < l.length := lt_of_ltI hlt
      have hsh : ∀ {p : Prop}, (shortB l[x] = true → p) → ¬ p → false = lightB c l := fun hp hn => light_false fun h' => hn (hp (h'.2.2.2.2 _ (List.getElem_mem hlt')))
      have hsp : shortB l[x] = true ↔ l[x].key.name.length ≤ 300 ∧ l[x].key.domain.length ≤ 300 ∧ l[x].key.path.length ≤ 300 ∧ l[x].cookie.value.length ≤ 300 := by
        unfold shortB
        simp only [Bool.and_eq_true, decide_eq_true_eq, and_assoc]
      refine so_iff.2 ⟨_, get_ok hlt', br_iff.2 ⟨fun hs => ⟨hsh (fun h => (hsp.1 h).1) (long_of hs), trivial⟩, fun hs1 => so_iff.2 ⟨_, get_ok hlt', br_iff.2 ⟨fun hs => ⟨hsh (fun h => (hsp.1 h).2.1) (long_of hs), trivial⟩, fun hs2 => so_iff.2 ⟨_, get_ok hlt', br_iff.2 ⟨fun hs => ⟨hsh (fun h => (hsp.1 h).2.2.1) (long_of hs), trivial⟩, fun hs3 => so_iff.2 ⟨_, get_ok hlt', br_iff.2 ⟨fun hs => ⟨hsh (fun h => (hsp.1 h).2.2.2) (long_of hs), trivial⟩, fun hs4 => ck_iff.2 ⟨inR_nat x (by omega), x + 1, ⟨hlt', fun j h hj => ?_⟩, by show l.length - (x + 1) < l.length - x; omega, ?_⟩⟩⟩⟩⟩⟩⟩⟩⟩
      · by_cases e : j = x
        · subst e; exact hsp.2 ⟨short_of hs1, short_of hs2, short_of hs3, short_of hs4⟩
        · exact hx2 j h (by omega)
      · (repeat' (first | exact trivial | exact rfl | exact (fun _ => rfl) | refine And.intro ?_ ?_))
    refine ((light_iff c l).2 ⟨hl, hm, hr, hrall, fun y hy => ?_⟩).symm
    obtain ⟨j, hj, rfl⟩ := List.getElem_of_mem hy
    exact hx2 j hj (by have := ge_len hge; have : l.length ≤ x := this; have hj : j < l.length := hj; omega)))
theorem light_rules {c : CConfig} {l : List CItem} (h : lightB c l = true) : okRules c ∧ l.length ≤ 40 ∧ shorts l := by
  obtain ⟨h1, _, h3, h4, h5⟩ := (light_iff c l).1 h
  refine ⟨⟨by omega, fun s hs => by have := h4 s hs; omega⟩, h1, fun x hx => ?_⟩
  have := h5 x hx
  unfold shortB at this
  simp only [Bool.and_eq_true, decide_eq_true_eq] at this
  omega
theorem mem_put {l : List CItem} {x z : CItem} (h : z ∈ putL l x) : z = x ∨ z ∈ l := by
  unfold putL at h
  rcases List.mem_append.1 h with h | h
  · exact .inr (List.mem_filter.1 h).1
  · rcases List.mem_cons.1 h with h | h
    · exact .inl h
    · exact .inr (List.mem_filter.1 h).1
theorem mem_byKeys {l : List CItem} {z : CItem} (h : z ∈ byKeysL l) : z ∈ l := by
  have : ∀ (l a : List CItem), z ∈ l.foldl putL a → z ∈ a ∨ z ∈ l := by
    intro l
    induction l with
    | nil => intro a h; exact .inl h
    | cons x l ih =>
      intro a h
      rcases ih _ h with h | h
      · rcases mem_put h with rfl | h
        · exact .inr List.mem_cons_self
        · exact .inl h
      · exact .inr (List.mem_cons_of_mem _ h)
  rcases this l [] h with h | h
  · cases h
  · exact h
theorem conG3_ok (hG : ∀ g C, conG1 g = some C → Go.Sy.ConOK Tryz.prog Tryz.tab g C) : ∀ g C, conG3 g = some C → Go.Sy.ConOK Tryz.prog Tryz.tab g C := con_step (okGoneR (conG2_ok hG)) (con_step (okLeft (conG2_ok hG)) (conG2_ok hG))
theorem conG4_ok (hG : ∀ g C, conG1 g = some C → Go.Sy.ConOK Tryz.prog Tryz.tab g C) : ∀ g C, conG4 g = some C → Go.Sy.ConOK Tryz.prog Tryz.tab g C := con_step (okGone (conG3_ok hG)) (con_step (okShown (conG3_ok hG)) (con_step okLight (conG3_ok hG)))
theorem okLawLimits (hG : ∀ g C, conG4 g = some C → Go.Sy.ConOK Tryz.prog Tryz.tab g C) : Go.Sy.ConOK Tryz.prog Tryz.tab F.law26_EvictLimits cLawE := askY_ok (cfg := fun y => cfgI conG4 (annAt F.law26_EvictLimits 7 (aLimits y))) Tryz.prOk (fun _ => rfl) (fun _ => hG) (n := 800) (by
  rw [vcLawLimits]
  rintro ⟨c, l, now⟩ -
  refine ⟨(c, l), rfl, rfl, rfl, rfl, rfl, trivial, br_iff.2 ⟨fun _ => ⟨(), trivial, rfl, trivial⟩, fun hL => ?_⟩⟩
  have hL : lightB c l = true := by simpa using hL
  obtain ⟨hr, hl, hsh⟩ := light_rules hL
  have hbl : (byKeysL l).length ≤ l.length := by have := byKeys_len l []; simpa [byKeysL] using this
  have hbr := rising_byKeys l
  have hb4 : (byKeysL l).length ≤ 10000 := by omega
  have hbs : shorts (byKeysL l) := fun z hz => hsh z (mem_byKeys hz)
  refine ⟨l, rfl, by show l.length ≤ 1000; omega, (c, byKeysL l, now), rfl, rfl, rfl, rfl, rfl, rfl, ⟨hr, hb4, hbs⟩, br_iff.2 ⟨fun he => ?_, fun he => ?_⟩⟩
  · have he : (evL (c, byKeysL l, now)).2 ≠ 0 := by simpa using he
    have hc : checkC c ≠ 0 := fun hc => he (by rw [evL_ok hc hbr])
    refine ⟨c, rfl, rfl, rfl, rfl, hr, br_iff.2 ⟨fun _ => ⟨(), trivial, rfl, trivial⟩, fun h => absurd h ?_⟩⟩
    rw [evL_bad hc]
    simp
  have he : (evL (c, byKeysL l, now)).2 = 0 := by simpa using he
  have hc : checkC c = 0 := Classical.byContradiction fun hc => hc (by rw [evL_bad hc] at he; exact he)
  have eL := evL_ok (now := now) hc hbr
  dsimp only
  rw [eL]
  have hd := check_one hc
  have hlim := left_limits (cap := capN c) (total := totN c) (l := byKeysL l) (now := now)
  have hkr := rising_sub hbr (left_sub (capN c) (totN c) (byKeysL l) now)
  have hkl := left_len (capN c) (totN c) (byKeysL l) now
  have hks : shorts (leftL (capN c) (totN c) (byKeysL l) now) := fun z hz => hbs z ((left_sub _ _ _ _).subset hz)
  generalize leftL (capN c) (totN c) (byKeysL l) now = K at *
  have hfew := left_few (cap := capN c) (total := totN c) (l := K) (now := now) (fun x hx => (hlim.2 x hx).1) (fun x hx => (hlim.2 x hx).2) hlim.1
  have eK := evL_ok (now := now) hc hkr
  rw [hfew] at eK
  have eG : evG (c, K, now) = ([], 0) := by rw [evG_ok (by rw [eK]), eK]; show (goneL K K, (0 : Int)) = _; rw [gone_self]
  refine ⟨⟨0, Nat.zero_le _, ?_⟩, ?_⟩
  · (repeat' (first | exact trivial | exact rfl | exact (fun _ => rfl) | refine And.intro ?_ ?_))
  intro x hx
  refine br_iff.2 ⟨fun hlt => ?_, fun hge => ?_⟩
  · have hlt' : x < K.length := lt_of_ltI hlt
    have hx1 := hlim.2 K[x] (List.getElem_mem hlt')
    refine so_iff.2 ⟨_, get_ok hlt', (K[x].cookie, now), rfl, rfl, rfl, rfl, rfl, rfl, rfl, rfl, rfl, trivial, br_iff.2 ⟨fun h => absurd h (by show ¬ overC K[x].cookie now = true; rw [hx1.1]; simp), fun _ => so_iff.2 ⟨_, get_ok hlt', (K, K[x].key.domain), rfl, rfl, by show K.length ≤ 10000; omega, br_iff.2 ⟨fun h => ?_, fun _ => ck_iff.2 ⟨inR_nat x (by omega), x + 1, hlt', ?_, ?_⟩⟩⟩⟩⟩
    · have h := gt_of_ltI h (by show 0 ≤ c.domain; omega)
      have h : capN c < (domainL K K[x].key.domain).length := h
      omega
    · show (evL (c, byKeysL l, now)).1.length - (x + 1) < (evL (c, byKeysL l, now)).1.length - x
      rw [eL]
      show K.length - (x + 1) < K.length - x
      omega
    · (repeat' (first | exact trivial | exact rfl | exact (fun _ => rfl) | refine And.intro ?_ ?_))
  · refine ⟨(c, K, now), rfl, rfl, rfl, rfl, rfl, rfl, ⟨hr, by show K.length ≤ 10000; omega, hks⟩, ?_⟩
    rw [eG]
    refine br_iff.2 ⟨fun _ => br_iff.2 ⟨fun _ => br_iff.2 ⟨fun _ => ⟨(), trivial, rfl, trivial⟩, fun h => absurd h (by simp)⟩, fun h => absurd h (by simp)⟩, fun h => absurd h ?_⟩
    rw [leI_eq, decide_eq_false_iff_not, Int.ofNat_eq_natCast]
    show ¬ ¬ (K.length : Int) ≤ c.total
    have := hlim.1
    have h2 : totN c = c.total.toNat := rfl
    omega)
end Go.Proofs

set_option maxRecDepth 100000
namespace Go.Proofs
open Go Go.Am Go.RowKit Go.Sy
abbrev strV (s : Bs) : Value := .string ⟨s.toArray⟩
def encIt (x : CItem) : List Value := [strV x.key.name, strV x.key.domain, strV x.key.path, strV x.cookie.value, .bool x.cookie.hostOnly, .bool x.cookie.secure, .bool x.cookie.httpOnly, .bool x.cookie.persistent, .int .i64 x.cookie.expiry, .int .i64 x.cookie.creation, .int .i64 x.cookie.access]
theorem encIt_len (x : CItem) : (encIt x).length = 11 := rfl
def rowAt (w : World) (b off : Nat) (l : List CItem) : Prop := ∀ (i : Nat) x (j : Nat) v, l[i]? = some x → (encIt x)[j]? = some v → w.cell? ⟨b, off + i * 11 + j, none⟩ = some v
theorem rowAt.range {w : World} {b off : Nat} {l : List CItem} (h : rowAt w b off l) {i : Nat} {x : CItem} (hx : l[i]? = some x) : w.rangeAt b (off + i * 11) (encIt x) := fun j v hv => h i x j v hx hv
theorem rowAt.below {w w' : World} {b off : Nat} {l : List CItem} (h : rowAt w b off l) {B : Nat} (hb : Below B w w') (hlt : b < B) : rowAt w' b off l := fun i x j v hx hv => by
  have h1 := h i x j v hx hv
  unfold World.cell? at h1 ⊢
  rw [hb.block b hlt]
  exact h1
theorem rd_str {w : World} {p : Nat → Prop} {a : Bool} {s : Bs} {v : Value} (h : Rd w p a (.str s) v) : v = strV s := by cases h; rfl
theorem rd_bool {w : World} {p : Nat → Prop} {a : Bool} {b : Bool} {v : Value} (h : Rd w p a (.bool b) v) : v = .bool b := by cases h; rfl
theorem rd_int {w : World} {p : Nat → Prop} {a : Bool} {k : IntKind} {n : Int} {v : Value} (h : Rd w p a (.int k n) v) : v = .int k n := by cases h; rfl
theorem rd_cell {w : World} {p : Nat → Prop} {a : Bool} {x : CItem} {j : Nat} {s : SV} {v u : Value} (hs : x.enc[j]? = some s) (hv : (encIt x)[j]? = some v) (h : Rd w p a s u) : u = v := by
  unfold CItem.enc at hs
  unfold encIt at hv
  have hj : j < 11 := (List.getElem?_eq_some_iff.1 hv).1
  match j, hj with
  | 0, _ | 1, _ | 2, _ | 3, _ => cases hs; cases hv; exact rd_str h
  | 4, _ | 5, _ | 6, _ | 7, _ => cases hs; cases hv; exact rd_bool h
  | 8, _ | 9, _ | 10, _ => cases hs; cases hv; exact rd_int h
theorem enc_get {x : CItem} {j : Nat} (h : j < 11) : ∃ s, x.enc[j]? = some s := ⟨_, List.getElem?_eq_getElem (by exact h)⟩
theorem rd_items {w : World} {p : Nat → Prop} {l : List CItem} {v : Value} (h : Rd w p true (items l) v) :
    (l = [] ∧ ∃ a c, v = .slice a 0 c) ∨ ∃ b off cap, v = .slice (some ⟨b, off, none⟩) l.length cap ∧ b < w.heap.size ∧ rowAt w b off l ∧ l.length ≤ cap ∧ ∃ arr e fz, w.heap[b]? = some (.cells arr e fz) ∧ off + l.length * 11 ≤ arr.size := by
  unfold items at h
  cases h with
  | lstn h0 => exact .inl ⟨List.length_eq_zero_iff.1 h0, none, 0, rfl⟩
  | lst0 _ h0 a c => exact .inl ⟨List.length_eq_zero_iff.1 h0, a, c, rfl⟩
  | lst b off cap arr e fz sz u hp hb hs hl hn hc h1 h2 =>
    refine .inr ⟨b, off, cap, rfl, (Array.getElem?_eq_some_iff.1 hb).1, fun i x j v hx hv => ?_, hc, arr, e, fz, hb, ?_⟩
    rotate_left
    · cases hL : l with
      | nil => simp; omega
      | cons x l' =>
        have : sz = 11 := (hn 0 x (by rw [hL]; rfl)).symm
        rw [← hL]
        rw [← this]; exact hl
    have hj : j < 11 := (List.getElem?_eq_some_iff.1 hv).1
    obtain ⟨s, hs'⟩ := enc_get (x := x) hj
    have hsz : sz = 11 := (hn i x hx).symm
    subst hsz
    have e1 := h1 i x j s hx hs'
    have e2 := rd_cell hs' hv (h2 i x j s hx hs')
    unfold World.cell?
    simp only [hb, Option.isSome_none, Bool.false_eq_true, if_false]
    rw [e1, e2]
theorem up_strs {w : World} {base : Nat} {e : TypeId} {v : Value} {l : List Bs} (h : w.ownsRow base e 1 v l.length (l.map strV)) : Up w base (strs l) v := by
  obtain ⟨h1, ⟨rfl, h0⟩ | ⟨g, cap, cur, rfl, hb, hg, hn, _, hcs, htk⟩⟩ := h
  · exact .lstn h0
  · have hl : l.length ≤ cur.size := by omega
    refine .lst g 0 cap cur e (0, 0) 1 (fun i _ => strV (l[i]?.getD [])) hb hg (by omega) (by omega) (fun _ _ _ => rfl) hn (fun i x j s _ hs => ?_) (fun i x j s hx hs => ?_) (fun i x j s hx hs => ?_)
    · cases j with
      | zero => cases hs; rfl
      | succ j => cases hs
    · cases j with
      | zero =>
        have h2 := congrArg (fun l => l[i]?) htk
        have hi := (List.getElem?_eq_some_iff.1 hx).1
        simp only [Nat.mul_one, List.getElem?_take, if_pos hi, List.getElem?_map, hx, Option.map_some] at h2
        rw [show 0 + i * 1 + 0 = i by omega, ← Array.getElem?_toList, h2, hx]
        rfl
      | succ j => cases hs
    · cases j with
      | zero => cases hs; rw [hx]; exact .str _
      | succ j => cases hs
theorem up_items {w : World} {n b off cap : Nat} {arr : Array Value} {e : TypeId} {fz : Nat × Nat} {l : List CItem} (hp : n ≤ b) (hb : w.heap[b]? = some (.cells arr e fz)) (hc : l.length ≤ cap) (hl : off + l.length * 11 ≤ arr.size)
    (h : ∀ (i : Nat) x (j : Nat) v, l[i]? = some x → (encIt x)[j]? = some v → arr[off + i * 11 + j]? = some v) : Up w n (items l) (.slice (some ⟨b, off, none⟩) l.length cap) := by
  refine .lst b off cap arr e fz 11 (fun i j => ((l[i]?.map encIt).getD [])[j]?.getD (.bool false)) hp hb (by omega) hl (fun _ _ _ => rfl) hc (fun i x j s hx hs => ?_) (fun i x j s hx hs => ?_) (fun i x j s hx hs => ?_)
  · have hj : j < 11 := (List.getElem?_eq_some_iff.1 hs).1
    unfold CItem.enc at hs
    match j, hj with
    | 0, _ | 1, _ | 2, _ | 3, _ | 4, _ | 5, _ | 6, _ | 7, _ | 8, _ | 9, _ | 10, _ => cases hs; rfl
  · have hj : j < 11 := (List.getElem?_eq_some_iff.1 hs).1
    have hv : (encIt x)[j]? = some ((encIt x)[j]'hj) := List.getElem?_eq_getElem hj
    rw [h i x j _ hx hv, hx]
    simp [hv]
  · have hj : j < 11 := (List.getElem?_eq_some_iff.1 hs).1
    rw [hx]
    unfold CItem.enc at hs
    match j, hj with
    | 0, _ | 1, _ | 2, _ | 3, _ => cases hs; exact .str _
    | 4, _ | 5, _ | 6, _ | 7, _ => cases hs; exact .bool _
    | 8, _ | 9, _ | 10, _ => cases hs; exact .int _ _
variable [Inhabited DrP]
theorem sim_items {tab : Tab} {w : World} {b off cap : Nat} {l : List CItem} (hc : l.length ≤ cap) (hb : ∃ arr e fz, w.heap[b]? = some (.cells arr e fz) ∧ off + l.length * 11 ≤ arr.size) (h : rowAt w b off l) :
    SimP (rowH tab w).get (items l) (absV w.heap.size (.slice (some ⟨b, off, none⟩) l.length cap)) := by
  obtain ⟨arr, e, fz, hb, hl⟩ := hb
  refine rows_lst hb (sz := 11) (by omega) (fun _ _ => rfl) hl rfl hc fun i x j s hx hs => ?_
  have hj : j < 11 := (List.getElem?_eq_some_iff.1 hs).1
  have hv : (encIt x)[j]? = some ((encIt x)[j]'hj) := List.getElem?_eq_getElem hj
  have h1 := h i x j _ hx hv
  unfold World.cell? at h1
  simp only [hb, Option.isSome_none, Bool.false_eq_true, if_false] at h1
  refine ⟨_, h1, ?_⟩
  unfold CItem.enc at hs
  match j, hj with
  | 0, _ | 1, _ | 2, _ | 3, _ => cases hs; exact .str _
  | 4, _ | 5, _ | 6, _ | 7, _ => cases hs; exact .bool _
  | 8, _ | 9, _ | 10, _ => cases hs; exact .int _ _
end Go.Proofs

set_option maxRecDepth 100000
namespace Go.Proofs
open Go Go.Am Go.RowKit Go.Sy
variable [Inhabited DrP]
theorem lt_lex : ∀ a b : Bs, lt a b = decide (a < b)
  | [], [] => by decide
  | [], b :: l => by simp [lt, Op.bytesLess]
  | a :: l, [] => by simp [lt, Op.bytesLess]
  | a :: l, b :: m => by
    have := lt_lex l m
    rw [Bool.eq_iff_iff]
    simp only [lt, Op.bytesLess, Bool.or_eq_true, decide_eq_true_eq, Bool.and_eq_true, beq_iff_eq, List.cons_lt_cons_iff] at this ⊢
    rw [this]
    simp
def SK {H : Type} (D : DataW H) (L : List Bs) : Prop := ∃ es, D = .map es ∧ (∀ p ∈ es, ∃ x, p.1 = .string x) ∧ (es.map fun p => strOf p.1).Nodup ∧ ∀ x, x ∈ es.map (fun p => strOf p.1) ↔ x ∈ L
theorem mem_ins {H : Type} {x p : Lit × DataW H} : ∀ {es : List (Lit × DataW H)}, p ∈ DataW.insert x es ↔ p = x ∨ p ∈ es
  | [] => by simp [DataW.insert]
  | y :: r => by
    unfold DataW.insert
    split
    · simp
    · rw [List.mem_cons, mem_ins (es := r), List.mem_cons]
      constructor
      · rintro (h | h | h)
        · exact .inr (.inl h)
        · exact .inl h
        · exact .inr (.inr h)
      · rintro (h | h | h)
        · exact .inr (.inl h)
        · exact .inl h
        · exact .inr (.inr h)
theorem ins_perm {H : Type} {x : Lit × DataW H} : ∀ {es : List (Lit × DataW H)}, (DataW.insert x es).Perm (x :: es)
  | [] => List.Perm.refl _
  | y :: r => by
    unfold DataW.insert
    split
    · exact List.Perm.refl _
    · exact ((ins_perm (es := r)).cons y).trans (List.Perm.swap x y r)
theorem SK.start {H : Type} : SK (.map [] : DataW H) [] := ⟨[], rfl, by simp, by simp, by simp⟩
theorem SK.put {H : Type} {D : DataW H} {L : List Bs} (h : SK D L) (k : Bs) (d : DataW H) {L' : List Bs} (hL : ∀ x, x ∈ L' ↔ x = k ∨ x ∈ L) : SK (D.put (.string k) d) L' := by
  obtain ⟨es, rfl, h1, h2, h3⟩ := h
  refine ⟨_, rfl, fun p hp => ?_, ?_, fun x => ?_⟩
  · rcases mem_ins.1 hp with rfl | hp
    · exact ⟨k, rfl⟩
    · exact h1 p (List.mem_filter.1 hp).1
  · have hp := (ins_perm (x := (.string k, d)) (es := es.filter fun p => !p.1.sameKey (.string k))).map (fun p : Lit × DataW H => strOf p.1)
    rw [hp.nodup_iff, List.map_cons, List.nodup_cons]
    refine ⟨fun hm => ?_, List.Sublist.nodup (List.filter_sublist.map _) h2⟩
    obtain ⟨p, hp, he⟩ := List.mem_map.1 hm
    obtain ⟨hp1, hp2⟩ := List.mem_filter.1 hp
    obtain ⟨y, hy⟩ := h1 p hp1
    rw [hy] at hp2 he
    have he : y = k := he
    subst he
    simp [Lit.sameKey] at hp2
  · rw [hL, ← h3, (ins_perm.map (fun p : Lit × DataW H => strOf p.1)).mem_iff, List.map_cons, List.mem_cons]
    constructor
    · rintro (h | h)
      · exact .inl h
      · obtain ⟨p, hp, he⟩ := List.mem_map.1 h
        exact .inr (List.mem_map.2 ⟨p, (List.mem_filter.1 hp).1, he⟩)
    · rintro (h | h)
      · exact .inl h
      · by_cases e : x = k
        · exact .inl e
        · obtain ⟨p, hp, he⟩ := List.mem_map.1 h
          refine .inr (List.mem_map.2 ⟨p, List.mem_filter.2 ⟨hp, ?_⟩, he⟩)
          obtain ⟨y, hy⟩ := h1 p hp
          rw [hy] at he ⊢
          have he : y = x := he
          subst he
          simp [Lit.sameKey, e]
theorem SK.keys {H : Type} {D : DataW H} {L : List Bs} (h : SK D L) : (strKeys D).Nodup ∧ ∀ x, x ∈ strKeys D ↔ x ∈ L := by
  obtain ⟨es, rfl, _, h2, h3⟩ := h
  exact ⟨h2, h3⟩
theorem SK.size {H : Type} {D : DataW H} {L : List Bs} (h : SK D L) : Maps.size D = (strKeys D).length := by
  obtain ⟨es, rfl, _⟩ := h
  simp [Maps.size, strKeys]
theorem insD_sorted {L : List Bs} {d : Bs} (h : L.Pairwise (fun a b => lt a b = true)) : (insD L d).Pairwise (fun a b => lt a b = true) := by
  unfold insD
  split
  · exact h
  · rename_i hne
    have hd : ∀ x ∈ L.drop (posD L d), lt d x = true := by
      intro x hx
      have hlt : posD L d < L.length := by
        apply Decidable.byContradiction
        intro hn
        rw [List.drop_eq_nil_of_le (by omega)] at hx
        cases hx
      have h0 : lt L[posD L d] d = false := tw_at (p := fun x => lt x d) (l := L) hlt
      have h1 : lt d L[posD L d] = true := by
        rcases lt_tri L[posD L d] d with h | h | h
        · rw [h0] at h; cases h
        · exact absurd (by rw [List.getElem?_eq_getElem hlt, h]) hne
        · exact h
      rw [List.drop_eq_getElem_cons hlt] at hx
      rcases List.mem_cons.1 hx with rfl | hx
      · exact h1
      · have h2 : (L.drop (posD L d)).Pairwise (fun a b => lt a b = true) := h.sublist (List.drop_sublist _ _)
        rw [List.drop_eq_getElem_cons hlt] at h2
        exact lt_trans _ _ _ h1 ((List.pairwise_cons.1 h2).1 x hx)
    have ht : ∀ x ∈ L.take (posD L d), lt x d = true := by
      intro x hx
      obtain ⟨j, hj, rfl⟩ := List.getElem_of_mem hx
      have hj2 : j < posD L d := by simp at hj; omega
      obtain ⟨g1, g2⟩ := tw_get (p := fun x => lt x d) (l := L) (j := j) hj2
      simpa using g2
    rw [List.pairwise_append]
    refine ⟨h.sublist (List.take_sublist _ _), List.pairwise_cons.2 ⟨hd, h.sublist (List.drop_sublist _ _)⟩, fun a ha b hb => ?_⟩
    rcases List.mem_cons.1 hb with rfl | hb
    · exact ht a ha
    · exact lt_trans _ _ _ (ht a ha) (hd b hb)
theorem domains_sorted (l : List CItem) : (domainsL l).Pairwise (fun a b => lt a b = true) := by
  have : ∀ (l : List CItem) (a : List Bs), a.Pairwise (fun a b => lt a b = true) → (l.foldl (fun a x => insD a x.key.domain) a).Pairwise (fun a b => lt a b = true) := by
    intro l
    induction l with
    | nil => intro a h; exact h
    | cons x l ih => intro a h; exact ih _ (insD_sorted h)
  exact this l [] List.Pairwise.nil
theorem sorted_domains {H : Type} {D : DataW H} {l : List CItem} (h : SK D (l.map fun x => x.key.domain)) {ss : List Bs} (hs : ss.Perm (strKeys D)) : ss.mergeSort (fun x y => decide (x ≤ y)) = domainsL l := by
  obtain ⟨h1, h2⟩ := h.keys
  have hdn : (domainsL l).Nodup := by
    rw [List.nodup_iff_pairwise_ne]
    exact (domains_sorted l).imp fun hab e => by rw [e, lt_irrefl] at hab; cases hab
  have hp : ss.Perm (domainsL l) := hs.trans ((List.perm_ext_iff_of_nodup h1 hdn).2 fun x => by rw [h2, mem_domainsL, List.mem_map])
  rw [show (ss.mergeSort fun x y => decide (x ≤ y)) = (domainsL l).mergeSort leB from mergeSort_of_perm hp]
  apply List.mergeSort_of_pairwise
  refine (domains_sorted l).imp fun hab => ?_
  rw [lt_lex, decide_eq_true_eq] at hab
  simp only [leB, decide_eq_true_eq]
  exact List.le_of_lt hab
end Go.Proofs

/-
  DERIVED: THE SHELF's CONTRACTS AT THIS DUMP, IN PLAIN WORDS (tools/lay-plain.mjs out of 'TryzLay.lean', which tools/lay-shelf.mjs wrote): THE SAME DECLARATIONS UNDER THE SAME NAMES: 'import', 'namespace', 'open', 'def', 'theorem' AND NOTHING ELSE: no command of the shelf's: FOR A HAND-IN. Each laying: the table of numbers ('.._ren') and one theorem, a field a fact of the dump's own or the kernel's comparison; each contract: ONE APPLICATION.
-/
namespace Go.Proofs
open Go.Shelf
def Tryz.sort130_ren : Go.Shelf.Ren := ⟨fun | 6 => 130 | 15 => 159 | 14 => 161 | 28 => 193 | 29 => 194 | 20 => 195 | 21 => 196 | 22 => 197 | 23 => 198 | 24 => 199 | 25 => 200 | 26 => 201 | 27 => 202 | 46 => 237 | 47 => 233 | 48 => 234 | 49 => 238 | 50 => 239 | 57 => 256 | n => n, fun | 22 => 52 | 24 => 48 | 25 => 164 | 3 => 3 | 39 => 187 | 0 => 0 | 53 => 215 | 55 => 217 | 4 => 4 | 46 => 209 | 45 => 208 | 50 => 153 | 5 => 5 | 9 => 9 | 66 => 235 | 70 => 239 | 76 => 251 | 77 => 252 | n => n, fun | n => n⟩
theorem Tryz.sort130 : Go.Proofs.SlLaysF0.n6 Tryz.prog Tryz.sort130_ren := {
  mixed := by kernel_rfl
  f6 := ⟨Tryz.f130.name, by decide, Tryz.func130.trans (congrArg some (by kernel_rfl))⟩
  f14 := ⟨Tryz.f161.name, by decide, Tryz.func161.trans (congrArg some (by kernel_rfl))⟩
  f15 := Tryz.func159.trans (congrArg some (by kernel_rfl))
  f20 := ⟨Tryz.f195.name, by decide, Tryz.func195.trans (congrArg some (by kernel_rfl))⟩
  f21 := ⟨Tryz.f196.name, by decide, Tryz.func196.trans (congrArg some (by kernel_rfl))⟩
  f22 := ⟨Tryz.f197.name, by decide, Tryz.func197.trans (congrArg some (by kernel_rfl))⟩
  f23 := ⟨Tryz.f198.name, by decide, Tryz.func198.trans (congrArg some (by kernel_rfl))⟩
  f24 := ⟨Tryz.f199.name, by decide, Tryz.func199.trans (congrArg some (by kernel_rfl))⟩
  f25 := ⟨Tryz.f200.name, by decide, Tryz.func200.trans (congrArg some (by kernel_rfl))⟩
  f26 := ⟨Tryz.f201.name, by decide, Tryz.func201.trans (congrArg some (by kernel_rfl))⟩
  f27 := ⟨Tryz.f202.name, by decide, Tryz.func202.trans (congrArg some (by kernel_rfl))⟩
  f28 := Tryz.func193.trans (congrArg some (by kernel_rfl))
  f29 := Tryz.func194.trans (congrArg some (by kernel_rfl))
  f46 := ⟨Tryz.f237.name, by decide, Tryz.func237.trans (congrArg some (by kernel_rfl))⟩
  f47 := Tryz.func233.trans (congrArg some (by kernel_rfl))
  f48 := Tryz.func234.trans (congrArg some (by kernel_rfl))
  f49 := ⟨Tryz.f238.name, by decide, Tryz.func238.trans (congrArg some (by kernel_rfl))⟩
  f50 := ⟨Tryz.f239.name, by decide, Tryz.func239.trans (congrArg some (by kernel_rfl))⟩
  f57 := ⟨Tryz.f256.name, by decide, Tryz.func256.trans (congrArg some (by kernel_rfl))⟩
  t0 := Tryz.underlying0
  a0 := Tryz.isAgg0
  z0 := Tryz.sizeOf0
  v0 := Tryz.zeroValue0
  t3 := Tryz.underlying3
  a3 := Tryz.isAgg3
  z3 := Tryz.sizeOf3
  v3 := Tryz.zeroValue3
  t4 := Tryz.underlying4
  a4 := Tryz.isAgg4
  z4 := Tryz.sizeOf4
  v4 := Tryz.zeroValue4
  t5 := Tryz.underlying5
  a5 := Tryz.isAgg5
  z5 := Tryz.sizeOf5
  v5 := Tryz.zeroValue5
  t9 := Tryz.underlying9
  a9 := Tryz.isAgg9
  z9 := Tryz.sizeOf9
  v9 := Tryz.zeroValue9
  t22 := Tryz.underlying52
  a22 := Tryz.isAgg52
  z22 := Tryz.sizeOf52
  v22 := Tryz.zeroValue52
  t25 := Tryz.underlying164
  a25 := Tryz.isAgg164
  z25 := Tryz.sizeOf164
  v25 := Tryz.zeroValue164
  t39 := Tryz.underlying187
  a39 := Tryz.isAgg187
  z39 := Tryz.sizeOf187
  v39 := Tryz.zeroValue187
  t45 := Tryz.underlying208
  a45 := Tryz.isAgg208
  z45 := Tryz.sizeOf208
  v45 := Tryz.zeroValue208
  t46 := Tryz.underlying209
  a46 := Tryz.isAgg209
  z46 := Tryz.sizeOf209
  v46 := Tryz.zeroValue209
  t50 := Tryz.underlying153
  a50 := Tryz.isAgg153
  z50 := Tryz.sizeOf153
  v50 := Tryz.zeroValue153
  t53 := Tryz.underlying215
  a53 := Tryz.isAgg215
  z53 := Tryz.sizeOf215
  v53 := Tryz.zeroValue215
  t55 := Tryz.underlying217
  a55 := Tryz.isAgg217
  z55 := Tryz.sizeOf217
  v55 := Tryz.zeroValue217
  t66 := Tryz.underlying235
  a66 := Tryz.isAgg235
  z66 := Tryz.sizeOf235
  v66 := Tryz.zeroValue235
  t70 := Tryz.underlying239
  a70 := Tryz.isAgg239
  z70 := Tryz.sizeOf239
  v70 := Tryz.zeroValue239
  t76 := Tryz.underlying251
  a76 := Tryz.isAgg251
  z76 := Tryz.sizeOf251
  v76 := Tryz.zeroValue251
  t77 := Tryz.underlying252
  a77 := Tryz.isAgg252
  z77 := Tryz.sizeOf252
  v77 := Tryz.zeroValue252 }
def Tryz.clone129_ren : Go.Shelf.Ren := ⟨fun | 41 => 129 | n => n, fun | 22 => 52 | 23 => 48 | 4 => 4 | n => n, fun | n => n⟩
theorem Tryz.clone129 : Go.Proofs.SlLaysE0.n41 Tryz.prog Tryz.clone129_ren := {
  mixed := by kernel_rfl
  f41 := ⟨Tryz.f129.name, by decide, Tryz.func129.trans (congrArg some (by kernel_rfl))⟩
  t4 := Tryz.underlying4
  a4 := Tryz.isAgg4
  z4 := Tryz.sizeOf4
  v4 := Tryz.zeroValue4
  t22 := Tryz.underlying52
  a22 := Tryz.isAgg52
  z22 := Tryz.sizeOf52
  v22 := Tryz.zeroValue52 }
def Tryz.keys101_ren : Go.Shelf.Ren := ⟨fun | 7 => 101 | 10 => 140 | n => n, fun | 23 => 135 | 26 => 9 | 3 => 3 | 28 => 138 | 0 => 0 | 27 => 137 | 33 => 167 | 4 => 4 | n => n, fun | n => n⟩
theorem Tryz.keys101 : Go.Proofs.SlLaysZ.n7 Tryz.prog Tryz.keys101_ren := {
  mixed := by kernel_rfl
  f7 := ⟨Tryz.f101.name, by decide, Tryz.func101.trans (congrArg some (by kernel_rfl))⟩
  f10 := ⟨Tryz.f140.name, by decide, Tryz.func140.trans (congrArg some (by kernel_rfl))⟩
  t0 := Tryz.underlying0
  a0 := Tryz.isAgg0
  z0 := Tryz.sizeOf0
  v0 := Tryz.zeroValue0
  t4 := Tryz.underlying4
  a4 := Tryz.isAgg4
  z4 := Tryz.sizeOf4
  v4 := Tryz.zeroValue4
  t23 := Tryz.underlying135
  a23 := Tryz.isAgg135
  z23 := Tryz.sizeOf135
  v23 := Tryz.zeroValue135
  t26 := Tryz.underlying9
  a26 := Tryz.isAgg9
  z26 := Tryz.sizeOf9
  v26 := Tryz.zeroValue9
  t27 := Tryz.underlying137
  a27 := Tryz.isAgg137
  z27 := Tryz.sizeOf137
  v27 := Tryz.zeroValue137
  t28 := Tryz.underlying138
  a28 := Tryz.isAgg138
  z28 := Tryz.sizeOf138
  v28 := Tryz.zeroValue138
  t33 := Tryz.underlying167
  a33 := Tryz.isAgg167
  z33 := Tryz.sizeOf167
  v33 := Tryz.zeroValue167 }
def Tryz.sorted100_ren : Go.Shelf.Ren := ⟨fun | 6 => 100 | 8 => 138 | 9 => 139 | 11 => 169 | 13 => 159 | 12 => 170 | 23 => 193 | 24 => 194 | 14 => 210 | 15 => 211 | 16 => 212 | 17 => 213 | 18 => 214 | 19 => 215 | 20 => 216 | 21 => 217 | 22 => 218 | 25 => 245 | 26 => 233 | 27 => 234 | 28 => 246 | 29 => 247 | 30 => 248 | 31 => 257 | n => n, fun | 26 => 9 | 28 => 138 | 24 => 70 | 0 => 0 | 3 => 3 | 37 => 187 | 48 => 215 | 50 => 217 | 4 => 4 | 40 => 209 | 39 => 208 | 45 => 153 | 5 => 5 | 9 => 9 | 51 => 235 | 55 => 239 | 57 => 251 | 58 => 252 | 33 => 167 | n => n, fun | n => n⟩
theorem Tryz.sorted100 : Go.Proofs.SlLaysZ.n6 Tryz.prog Tryz.sorted100_ren := {
  mixed := by kernel_rfl
  f6 := ⟨Tryz.f100.name, by decide, Tryz.func100.trans (congrArg some (by kernel_rfl))⟩
  f8 := ⟨Tryz.f138.name, by decide, Tryz.func138.trans (congrArg some (by kernel_rfl))⟩
  f11 := ⟨Tryz.f169.name, by decide, Tryz.func169.trans (congrArg some (by kernel_rfl))⟩
  t0 := Tryz.underlying0
  a0 := Tryz.isAgg0
  z0 := Tryz.sizeOf0
  v0 := Tryz.zeroValue0
  t24 := Tryz.underlying70
  a24 := Tryz.isAgg70
  z24 := Tryz.sizeOf70
  v24 := Tryz.zeroValue70
  t26 := Tryz.underlying9
  a26 := Tryz.isAgg9
  z26 := Tryz.sizeOf9
  v26 := Tryz.zeroValue9
  t28 := Tryz.underlying138
  a28 := Tryz.isAgg138
  z28 := Tryz.sizeOf138
  v28 := Tryz.zeroValue138
  i26 := by kernel_rfl }
def Tryz.sort139_ren : Go.Shelf.Ren := ⟨fun | 6 => 139 | 8 => 159 | 9 => 170 | 19 => 193 | 20 => 194 | 21 => 210 | 22 => 211 | 23 => 212 | 24 => 213 | 25 => 214 | 26 => 215 | 27 => 216 | 28 => 217 | 29 => 218 | 36 => 245 | 31 => 233 | 32 => 234 | 37 => 246 | 38 => 247 | 39 => 248 | 41 => 257 | n => n, fun | 27 => 70 | 29 => 9 | 3 => 3 | 32 => 187 | 26 => 70 | 0 => 0 | 44 => 215 | 46 => 217 | 4 => 4 | 36 => 209 | 35 => 208 | 41 => 153 | 5 => 5 | 9 => 9 | 53 => 235 | 57 => 239 | 63 => 251 | 64 => 252 | n => n, fun | n => n⟩
theorem Tryz.sort139 : Go.Proofs.SlLaysM.n6 Tryz.prog Tryz.sort139_ren := {
  mixed := by kernel_rfl
  f6 := ⟨Tryz.f139.name, by decide, Tryz.func139.trans (congrArg some (by kernel_rfl))⟩
  f8 := Tryz.func159.trans (congrArg some (by kernel_rfl))
  f9 := ⟨Tryz.f170.name, by decide, Tryz.func170.trans (congrArg some (by kernel_rfl))⟩
  f19 := Tryz.func193.trans (congrArg some (by kernel_rfl))
  f20 := Tryz.func194.trans (congrArg some (by kernel_rfl))
  f21 := ⟨Tryz.f210.name, by decide, Tryz.func210.trans (congrArg some (by kernel_rfl))⟩
  f22 := ⟨Tryz.f211.name, by decide, Tryz.func211.trans (congrArg some (by kernel_rfl))⟩
  f23 := ⟨Tryz.f212.name, by decide, Tryz.func212.trans (congrArg some (by kernel_rfl))⟩
  f24 := ⟨Tryz.f213.name, by decide, Tryz.func213.trans (congrArg some (by kernel_rfl))⟩
  f25 := ⟨Tryz.f214.name, by decide, Tryz.func214.trans (congrArg some (by kernel_rfl))⟩
  f26 := ⟨Tryz.f215.name, by decide, Tryz.func215.trans (congrArg some (by kernel_rfl))⟩
  f27 := ⟨Tryz.f216.name, by decide, Tryz.func216.trans (congrArg some (by kernel_rfl))⟩
  f28 := ⟨Tryz.f217.name, by decide, Tryz.func217.trans (congrArg some (by kernel_rfl))⟩
  f29 := ⟨Tryz.f218.name, by decide, Tryz.func218.trans (congrArg some (by kernel_rfl))⟩
  f31 := Tryz.func233.trans (congrArg some (by kernel_rfl))
  f32 := Tryz.func234.trans (congrArg some (by kernel_rfl))
  f36 := ⟨Tryz.f245.name, by decide, Tryz.func245.trans (congrArg some (by kernel_rfl))⟩
  f37 := ⟨Tryz.f246.name, by decide, Tryz.func246.trans (congrArg some (by kernel_rfl))⟩
  f38 := ⟨Tryz.f247.name, by decide, Tryz.func247.trans (congrArg some (by kernel_rfl))⟩
  f39 := ⟨Tryz.f248.name, by decide, Tryz.func248.trans (congrArg some (by kernel_rfl))⟩
  f41 := ⟨Tryz.f257.name, by decide, Tryz.func257.trans (congrArg some (by kernel_rfl))⟩
  t0 := Tryz.underlying0
  a0 := Tryz.isAgg0
  z0 := Tryz.sizeOf0
  v0 := Tryz.zeroValue0
  t3 := Tryz.underlying3
  a3 := Tryz.isAgg3
  z3 := Tryz.sizeOf3
  v3 := Tryz.zeroValue3
  t4 := Tryz.underlying4
  a4 := Tryz.isAgg4
  z4 := Tryz.sizeOf4
  v4 := Tryz.zeroValue4
  t5 := Tryz.underlying5
  a5 := Tryz.isAgg5
  z5 := Tryz.sizeOf5
  v5 := Tryz.zeroValue5
  t9 := Tryz.underlying9
  a9 := Tryz.isAgg9
  z9 := Tryz.sizeOf9
  v9 := Tryz.zeroValue9
  t26 := Tryz.underlying70
  a26 := Tryz.isAgg70
  z26 := Tryz.sizeOf70
  v26 := Tryz.zeroValue70
  t27 := Tryz.underlying70
  a27 := Tryz.isAgg70
  z27 := Tryz.sizeOf70
  v27 := Tryz.zeroValue70
  t29 := Tryz.underlying9
  a29 := Tryz.isAgg9
  z29 := Tryz.sizeOf9
  v29 := Tryz.zeroValue9
  t32 := Tryz.underlying187
  a32 := Tryz.isAgg187
  z32 := Tryz.sizeOf187
  v32 := Tryz.zeroValue187
  t35 := Tryz.underlying208
  a35 := Tryz.isAgg208
  z35 := Tryz.sizeOf208
  v35 := Tryz.zeroValue208
  t36 := Tryz.underlying209
  a36 := Tryz.isAgg209
  z36 := Tryz.sizeOf209
  v36 := Tryz.zeroValue209
  t41 := Tryz.underlying153
  a41 := Tryz.isAgg153
  z41 := Tryz.sizeOf153
  v41 := Tryz.zeroValue153
  t44 := Tryz.underlying215
  a44 := Tryz.isAgg215
  z44 := Tryz.sizeOf215
  v44 := Tryz.zeroValue215
  t46 := Tryz.underlying217
  a46 := Tryz.isAgg217
  z46 := Tryz.sizeOf217
  v46 := Tryz.zeroValue217
  t53 := Tryz.underlying235
  a53 := Tryz.isAgg235
  z53 := Tryz.sizeOf235
  v53 := Tryz.zeroValue235
  t57 := Tryz.underlying239
  a57 := Tryz.isAgg239
  z57 := Tryz.sizeOf239
  v57 := Tryz.zeroValue239
  t63 := Tryz.underlying251
  a63 := Tryz.isAgg251
  z63 := Tryz.sizeOf251
  v63 := Tryz.zeroValue251
  t64 := Tryz.underlying252
  a64 := Tryz.isAgg252
  z64 := Tryz.sizeOf252
  v64 := Tryz.zeroValue252 }
end Go.Proofs

/-
  DERIVED. MADE BY PROGRAM (lay-iter.mjs) off ytmfohfbdddlilaagreat.cut.gsa: THE SHELF's CONTRACTS ON 'slices.Sorted(maps.Keys(m))' LAID AT THIS DUMP: 1 map type. NO WALK OF THE LIBRARY's TEXT: each is one application of a contract over any P and ρ (Derived/Shelf/SlIter/, Derived/Shelf/SortM/).
-/
namespace Go.Proofs
open Go.RowKit Go.Maps Go.Sort Go.Shelf

-- maps.Keys[map[string]int,string,int] (function 101; its iterator 140) · slices.Sorted[string] (100) · slices.Sort[[]string,string] (139) · the map's type 135, the keys' 9

theorem Tryz.sorts100 (m : Nat) : AnyZ.SortsIn Tryz.prog Tryz.sorted100_ren Fence.wide m :=
  ⟨fun blk off cap ss W hH hblk hsz => callsIn_wide.2 (AnyM.slices_Sort_string Tryz.sort139 blk off cap ss W hH hblk hsz),
   fun p cap W => callsIn_wide.2 (AnyM.slices_Sort_string_none Tryz.sort139 p cap W)⟩

theorem Tryz.maps_Keys_101 (mb : Option Nat) (W : World) : CallsIn Fence.wide 5 Tryz.prog 101 #[.map mb] W fun e w' => e = .returned (.func (.func 140) #[] #[.pointer (some ⟨W.heap.size, 0, none⟩)]) ∧ w' = W.alloc (.cells #[.map mb] 135) :=
  AnyZ.keys_in Tryz.keys101 Fence.wide 5 trivial rfl mb W

set_option maxHeartbeats 1000000 in
theorem Tryz.slices_Sorted_keys_100_101 {H : Type} (b nn : Nat) (D0 : DataW H) (R : Value → Option (DataW H × List MemPlace)) (w : World) (hown : w.ownsMap Tryz.prog 9 R b nn D0) (hmax : Maps.size D0 ≤ maxLen) (hbytes : Maps.size D0 * 16 ≤ 140737488355328) :
    CallsIn Fence.wide 5 Tryz.prog 100 #[.func (.func 140) #[] #[.pointer (some ⟨w.heap.size, 0, none⟩)]] (w.alloc (.cells #[.map (some b)] 135)) fun e w' => ∃ (v : Value) (ss : List (List UInt8)), e = .returned v ∧ ss.Perm (strKeys D0) ∧
      w'.ownsRow (w.alloc (.cells #[.map (some b)] 135)).heap.size 9 1 v ss.length ((ss.mergeSort (fun x y => decide (x ≤ y))).map encStr) ∧ (v = .slice none 0 0 ↔ ss = []) ∧ Below (w.alloc (.cells #[.map (some b)] 135)).heap.size (w.alloc (.cells #[.map (some b)] 135)) w' := by
  have hbl := hown.lt
  have hseq : SeqGives Fence.wide 2 Tryz.prog 140 #[.pointer (some ⟨w.heap.size, 0, none⟩)] encStr (fun ss => ss.Perm (strKeys D0)) (Maps.size D0) (w.alloc (.cells #[.map (some b)] 135)) :=
    AnyZ.keys_gives (ρ := Tryz.keys101_ren) { Tryz.keys101 with } Fence.wide _ trivial rfl (by omega) w.heap.size b nn D0 _ (by simp) (by simp) (by
      obtain ⟨es, clock, hb, Ft, hs, hD⟩ := hown
      exact ⟨es, clock, (Below.heap_alloc _ _ b hbl).trans hb, Ft, hs, hD⟩)
  exact AnyZ.sorted_in Tryz.sorted100 Fence.wide 5 trivial trivial trivial trivial rfl (by omega) (Tryz.sorts100 _) (enters_of Tryz.func139 (by kernel_rfl) rfl) 140 #[.pointer (some ⟨w.heap.size, 0, none⟩)] trivial (enters_of Tryz.func140 (by kernel_rfl) rfl) _ _ hmax hbytes _ hseq

-- THE CALLER's WALK over 'slices.Sorted(maps.Keys(m))' (inside '(callsIn_wide (n := 6)).1'; 'have hfK : Fence.wide.fn 101 := trivial', 'have hfS : Fence.wide.fn 100 := trivial' ahead): THE TWO ARMS TO PASTE:
--   gi_wp2_with (first
--     | (gi_at_call 101; refine (Tryz.maps_Keys_101 _ _).mono ?_; rintro e w' ⟨rfl, rfl⟩)
--     | (gi_at_call 100; refine (Tryz.slices_Sorted_keys_100_101 b nn D0 R w hown hmax hbytes).mono ?_; rintro e w' ⟨v, ss, rfl, hS, hrow, hnil, hb⟩))

-- maps.Keys[map[biscotti/api.Dot]int,biscotti/api.Dot,int]: its keys are of no string's kind: not laid by this program
end Go.Proofs

