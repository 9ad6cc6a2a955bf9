/- An evaluator over symbolic values, proved sound over the model's machine, and its use at this seat; no condition. Part 6. -/
import Derived.DataReads
import Derived.ChangeArms
import Derived.KernelRfl
import Derived.Test.YtdaiajmdadepbaaGreatDoorRows
import Derived.Test.YtdaiajmdadepbaaGreatDoorCards
import Derived.Test.YtdaiajmdadepbaaGreatDoorTie
import Derived.WalkKit
import Derived.ProofKit
import Derived.LaidMore
import Derived.OpenShut
import Derived.Stop.Joined
import Derived.SevenTiedAt
import Derived.Below
import Derived.Test.YtdaiajmdadepbaaGreatDoorP5
set_option linter.unusedSimpArgs false
set_option linter.unusedVariables false
set_option linter.unusedSectionVars false
set_option linter.deprecated false
namespace Go.Sy
open Go.Am Go.RowKit
universe u v

section
variable {H : Type} {enc : TypeId × Value → H} {P : Program} {w : World} {base : Nat} {spare : Nat → Bool} {held : Bool} {Fz : Nat → Option AO} {N : Nat}
/-- Cells that stand for values. -/
def Lies (Fz : Nat → Option AO) (N : Nat) (l : List SV) (cs : List Value) : Prop := l.length = cs.length ∧ ∀ (j : Nat) v u, l[j]? = some v → cs[j]? = some u → SimP Fz v (absV N u)
theorem Lies.nil : Lies Fz N [] [] := ⟨rfl, fun j v u h => by simp at h⟩
theorem Lies.cons {s : SV} {v : Value} {l : List SV} {m : List Value} (h : SimP Fz s (absV N v)) (t : Lies Fz N l m) : Lies Fz N (s :: l) (v :: m) := by
  refine ⟨by simp [t.1], fun i a b ha hb => ?_⟩
  cases i with
  | zero => simp at ha hb; subst ha; subst hb; exact h
  | succ i => exact t.2 i a b (by simpa using ha) (by simpa using hb)
theorem Lies.append {l l' : List SV} {m m' : List Value} (h : Lies Fz N l m) (h' : Lies Fz N l' m') : Lies Fz N (l ++ l') (m ++ m') := by
  refine ⟨by simp [h.1, h'.1], fun i a b ha hb => ?_⟩
  by_cases hi : i < l.length
  · rw [List.getElem?_append_left hi] at ha
    rw [List.getElem?_append_left (by rw [← h.1]; exact hi)] at hb
    exact h.2 i a b ha hb
  · rw [List.getElem?_append_right (by omega)] at ha
    rw [List.getElem?_append_right (by rw [← h.1]; omega), ← h.1] at hb
    exact h'.2 _ a b ha hb

/-- Whatever reads at a type is one of X. -/
structure Dec (P : Program) (w : World) (base : Nat) (spare : Nat → Bool) (held : Bool) {H : Type} (henc : TypeId × Value → H) (Fz : Nat → Option AO) (N : Nat) (t : TypeId) (X : Type) (enc : X → List SV) : Prop where
  one : ∀ fuel cs x, DataW.trod henc P w base spare held fuel t cs = some x → ∃ y : X, Lies Fz N (enc y) cs
variable (enc) in
abbrev Dec' (P : Program) (w : World) (base : Nat) (spare : Nat → Bool) (held : Bool) (Fz : Nat → Option AO) (N : Nat) (t : TypeId) (X : Type) (e : X → List SV) : Prop := Dec P w base spare held enc Fz N t X e
theorem Dec.bool {t : TypeId} (ht : P.underlying t = some .bool) : Dec' enc P w base spare held Fz N t Bool (fun b => [.bool b]) := by
  refine ⟨fun fuel cs x h => ?_⟩
  obtain ⟨b, rfl, _⟩ := DataW.trod_bool ht h
  exact ⟨b, .cons (.bool b) .nil⟩
theorem Dec.int {t : TypeId} {k : IntKind} (ht : P.underlying t = some (.int k)) : Dec' enc P w base spare held Fz N t Int (fun b => [.int k b]) := by
  refine ⟨fun fuel cs x h => ?_⟩
  obtain ⟨b, rfl, _⟩ := DataW.trod_int ht h
  exact ⟨b, .cons (.int k b) .nil⟩
theorem Dec.str {t : TypeId} (ht : P.underlying t = some .string) : Dec' enc P w base spare held Fz N t (List UInt8) (fun b => [.str b]) := by
  refine ⟨fun fuel cs x h => ?_⟩
  obtain ⟨s, rfl, _⟩ := DataW.trod_string ht h
  exact ⟨s.data.toList, .cons (.str _) .nil⟩
theorem Dec.map {t : TypeId} {X Y : Type} {e : X → List SV} {e' : Y → List SV} (h : Dec' enc P w base spare held Fz N t X e) (f : X → Y) (hf : ∀ x, e' (f x) = e x) : Dec' enc P w base spare held Fz N t Y e' := by
  refine ⟨fun fuel cs x hx => ?_⟩
  obtain ⟨y, hy⟩ := h.one fuel cs x hx
  exact ⟨f y, by rw [hf]; exact hy⟩
/-- Fields, one behind the other. -/
inductive Decs (P : Program) (w : World) (base : Nat) (spare : Nat → Bool) (held : Bool) {H : Type} (henc : TypeId × Value → H) (Fz : Nat → Option AO) (N : Nat) : Nat → List Field → (X : Type) → (X → List SV) → Prop
  | nil {o : Nat} : Decs P w base spare held henc Fz N o [] Unit (fun _ => [])
  | cons {o : Nat} {f : Field} {fs : List Field} {X Y : Type} {e : X → List SV} {e' : Y → List SV} (ho : f.offset = o) (h : Dec P w base spare held henc Fz N f.type X e) (t : Decs P w base spare held henc Fz N (o + P.cellsOf f.type) fs Y e') :
      Decs P w base spare held henc Fz N o (f :: fs) (X × Y) (fun y => e y.1 ++ e' y.2)
/-- The cells of fields. -/
def sumC (P : Program) : List Field → Nat
  | [] => 0
  | f :: fs => P.cellsOf f.type + sumC P fs
theorem Decs.run {o : Nat} {fs : List Field} {X : Type} {e : X → List SV} (h : Decs P w base spare held enc Fz N o fs X e) : ∀ (cs : List Value) (n : Nat), cs.length = o + sumC P fs →
    (∀ f ∈ fs, ∃ x, DataW.trod enc P w base spare held n f.type ((cs.drop f.offset).take (P.cellsOf f.type)) = some x) → ∃ y : X, Lies Fz N (e y) (cs.drop o) := by
  induction h with
  | nil =>
    intro cs n hl _
    refine ⟨(), ?_⟩
    simp only [sumC] at hl
    rw [List.drop_of_length_le (by omega)]
    exact .nil
  | @cons o f fs X Y e e' ho h t ih =>
    intro cs n hl hf
    simp only [sumC] at hl
    obtain ⟨x, hx⟩ := hf f List.mem_cons_self
    obtain ⟨y, hy⟩ := h.one n _ _ hx
    obtain ⟨z, hz⟩ := ih cs n (by omega) (fun g hg => hf g (List.mem_cons_of_mem _ hg))
    refine ⟨(y, z), ?_⟩
    have := hy.append hz
    rw [ho] at this
    rw [show List.drop o cs = List.take (P.cellsOf f.type) (List.drop o cs) ++ List.drop (o + P.cellsOf f.type) cs by rw [← List.drop_drop, List.take_append_drop]]
    exact this
theorem Dec.struct {t : TypeId} {fs : Array Field} {X : Type} {e : X → List SV} (ht : P.underlying t = some (.struct fs)) (hc : P.cellsOf t = sumC P fs.toList) (h : Decs P w base spare held enc Fz N 0 fs.toList X e) : Dec' enc P w base spare held Fz N t X e := by
  refine ⟨fun fuel cs x hx => ?_⟩
  obtain ⟨xs, n, _, _, hl, hn, hg⟩ := DataW.trod_struct ht hx
  have := h.run cs n (by rw [hl, hc]; simp) (fun f hf => by
    obtain ⟨i, hi⟩ := List.getElem?_of_mem hf
    have h1 := hg i f (by simpa using hi)
    have hlt : i < fs.size := by
      have := (List.getElem?_eq_some_iff.1 hi).1
      simpa using this
    rw [List.getElem?_eq_getElem (by omega)] at h1
    exact ⟨_, h1⟩)
  simpa using this
end
end Go.Sy
namespace Go.Sy
open Go.Am Go.RowKit
/-- A struct that came in. -/
theorem simA_agg {Fz : Nat → Option AO} {N : Nat} {l : List SV} {cs : Array Value} (h : Lies Fz N l cs.toList) : SimP Fz (.agg l) (absA N (.agg cs)) := by
  unfold absA
  refine .agg (by simpa using h.1) (fun i c v hc hv => ?_)
  rw [List.getElem?_map] at hv
  obtain ⟨u, hu, rfl⟩ := Option.map_eq_some_iff.1 hv
  exact h.2 i c u hc hu
end Go.Sy
namespace Go.Sy
open Go.Am Go.RowKit
section
variable {H : Type} {enc : TypeId × Value → H} {P : Program} {tab : Tab} {w : World} {base : Nat} {spare : Nat → Bool} {held : Bool}
theorem cell_at {a : Addr} {k : Nat} {u : Value} (hs : a.spot = none) (h : w.cell? (a.add k) = some u) : ∃ arr e fz, w.heap[a.block]? = some (.cells arr e fz) ∧ arr[a.off + k]? = some u := by
  obtain ⟨b, o, s⟩ := a
  simp only at hs
  subst hs
  have e2 : (⟨b, o, none⟩ : Addr).add k = ⟨b, o + k, none⟩ := by unfold Addr.add; split <;> simp_all
  rw [e2] at h
  unfold World.cell? at h
  split at h
  · rename_i arr e fz hb
    simp only [Option.isSome_none, Bool.false_eq_true, if_false] at h
    exact ⟨arr, e, fz, hb, h⟩
  · cases h
/-- A slice of whatever. -/
theorem Dec.slice {t e n : Nat} (ht : P.underlying t = some (.slice e)) (hn : P.cellsOf e = n) (h0 : 0 < n) {X : Type} {ex : X → List SV} (hx : ∀ x, (ex x).length = n)
    (h : Dec' enc P w base spare held (rowH tab w).get w.heap.size e X ex) : Dec' enc P w base spare held (rowH tab w).get w.heap.size t (List X) (fun L => [.lst X L ex]) := by
  refine ⟨fun fuel cs x hd => ?_⟩
  rcases DataW.trod_slice ht hd with ⟨rfl, _⟩ | ⟨a, len, cap, elems, rest, m, _, rfl, _, hb, hle, hc, hel, hi, _, _⟩
  · exact ⟨[], .cons (.lst0 rfl (.inl rfl)) .nil⟩
  · have each : ∀ i : Fin len, ∃ y : X, ∃ cs', w.cells? base (a.add (i.val * n)) n = some cs' ∧ Lies (rowH tab w).get w.heap.size (ex y) cs' := by
      intro i
      have h1 := hi i.val i.isLt
      rw [List.getElem?_eq_getElem (by rw [hel]; exact i.isLt)] at h1
      obtain ⟨cs', h2, h3⟩ := Option.bind_eq_some_iff.1 h1
      rw [hn] at h2
      obtain ⟨y, hy⟩ := h.one _ _ _ h3
      exact ⟨y, cs', h2, hy⟩
    obtain ⟨f, hf⟩ := Classical.skolem.1 each
    by_cases hl : len = 0
    · subst hl
      exact ⟨[], .cons (.lst0 rfl (.inr (.inr ⟨some a, cap, absV_raw _ _ _⟩))) .nil⟩
    · have cell : ∀ (i : Fin len) (j : Nat) v, (ex (f i))[j]? = some v → ∃ u, w.cell? ((a.add (i.val * n)).add j) = some u ∧ SimP (rowH tab w).get v (absV w.heap.size u) := by
        intro i j v hv
        obtain ⟨cs', h2, h3⟩ := hf i
        have hj : j < n := by rw [← hx (f i)]; exact (List.getElem?_eq_some_iff.1 hv).1
        unfold World.cells? at h2
        split at h2
        · have h4 := mapM_some_get h2 j j (by simp [hj])
          have hlt : j < cs'.length := by rw [← h3.1, hx]; exact hj
          rw [List.getElem?_eq_getElem hlt] at h4
          exact ⟨_, h4, h3.2 j v _ hv (List.getElem?_eq_getElem hlt)⟩
        · cases h2
      have hadd : ∀ i j, (a.add i).add j = a.add (i + j) := by
        intro i j
        unfold Addr.add
        by_cases hi : i = 0
        · subst hi; simp
        · by_cases hj : j = 0
          · subst hj; simp [hi]
          · simp [hi, hj, Nat.add_assoc]
      have hl0 : 0 < (ex (f ⟨0, by omega⟩)).length := by rw [hx (f ⟨0, by omega⟩)]; exact h0
      obtain ⟨v0, hv0⟩ : ∃ v, (ex (f ⟨0, by omega⟩))[0]? = some v := ⟨_, List.getElem?_eq_getElem hl0⟩
      obtain ⟨u0, hu0, _⟩ := cell ⟨0, by omega⟩ 0 v0 hv0
      rw [hadd] at hu0
      have hspot : a.spot = none := by
        have := World.cell?_spot hu0
        simpa [Addr.add] using this
      obtain ⟨arr, et, fz, hblk, _⟩ := cell_at hspot hu0
      have hcell : ∀ (i : Nat) x (j : Nat) v, (List.ofFn f)[i]? = some x → (ex x)[j]? = some v → ∃ u, arr[a.off + i * n + j]? = some u ∧ SimP (rowH tab w).get v (absV w.heap.size u) := by
        intro i x j v hx' hv
        have hil : i < len := by have := (List.getElem?_eq_some_iff.1 hx').1; simpa using this
        have hxe : x = f ⟨i, hil⟩ := by
          rw [List.getElem?_eq_getElem (by simpa using hil)] at hx'
          simpa using (Option.some.inj hx').symm
        subst hxe
        obtain ⟨u, hu, hs⟩ := cell ⟨i, hil⟩ j v hv
        rw [hadd] at hu
        obtain ⟨arr', et', fz', hblk', hu'⟩ := cell_at hspot hu
        rw [hblk] at hblk'
        cases hblk'
        exact ⟨u, by rw [Nat.add_assoc]; exact hu', hs⟩
      refine ⟨List.ofFn f, .cons ?_ .nil⟩
      have hspec : (⟨a.block, a.off, none⟩ : Addr) = a := by obtain ⟨b, o, s⟩ := a; simp only at hspot; subst hspot; rfl
      rw [← hspec]
      have hlast : a.off + (List.ofFn f).length * n ≤ arr.size := by
        have hl1 : n - 1 < (ex (f ⟨len - 1, by omega⟩)).length := by rw [hx (f ⟨len - 1, by omega⟩)]; omega
        obtain ⟨v1, hv1⟩ : ∃ v, (ex (f ⟨len - 1, by omega⟩))[n - 1]? = some v := ⟨_, List.getElem?_eq_getElem hl1⟩
        obtain ⟨u1, hu1, _⟩ := hcell (len - 1) (f ⟨len - 1, by omega⟩) (n - 1) v1 (by rw [List.getElem?_eq_getElem (by simp; omega)]; simp) hv1
        have := (Array.getElem?_eq_some_iff.1 hu1).1
        simp only [List.length_ofFn]
        have e3 : len * n = (len - 1) * n + n := by
          conv => lhs; rw [show len = (len - 1) + 1 by omega]
          rw [Nat.add_mul, Nat.one_mul]
        omega
      exact rows_lst hblk h0 (fun x _ => hx x) hlast (by simp) hle hcell
end
end Go.Sy

set_option maxRecDepth 100000
namespace Go.Proofs
open Go Go.Am Go.RowKit Go.Sy
/-! Messages, as they came in. -/
structure CDot where
  dev : Int
  inc : Int
  seq : Int
structure CEvent where
  dot : CDot
  wall : Int
  count : Int
  sdev : Int
  kind : Int
  name : List UInt8
  domain : List UInt8
  path : List UInt8
  value : List UInt8
  b1 : Bool
  b2 : Bool
  b3 : Bool
  b4 : Bool
  expiry : Int
  creation : Int
  access : Int
  over : List CDot
structure CMsg where
  d1 : Int
  d2 : Int
  d3 : Int
  marks : List CDot
  events : List CEvent
def CDot.enc (x : CDot) : List SV := [.int .i64 x.dev, .int .i64 x.inc, .int .i64 x.seq]
def CEvent.enc (x : CEvent) : List SV := [.int .i64 x.dot.dev, .int .i64 x.dot.inc, .int .i64 x.dot.seq, .int .i64 x.wall, .int .i64 x.count, .int .i64 x.sdev, .int .i64 x.kind, .str x.name, .str x.domain, .str x.path, .str x.value, .bool x.b1, .bool x.b2, .bool x.b3, .bool x.b4, .int .i64 x.expiry, .int .i64 x.creation, .int .i64 x.access, .lst CDot x.over CDot.enc]
def CMsg.enc (x : CMsg) : List SV := [.int .i64 x.d1, .int .i64 x.d2, .int .i64 x.d3, .lst CDot x.marks CDot.enc, .lst CEvent x.events CEvent.enc]
def aLightAll (y : CMsg) : Ann := { α := Nat, ok := fun i => i ≤ y.events.length, μ := fun i => y.events.length - i, keep := [], slots := fun i => [(0, .lst CEvent y.events CEvent.enc), (5, .int .i64 i)], objs := fun _ => [] }
noncomputable def cfgP (y : CMsg) : Cfg := { tab := Tryz.tab, view := fun _ => none, con := fun _ => none, ann := fun f r => bif Nat.beq f 12 && Nat.beq r 4 then some (aLightAll y) else none }
end Go.Proofs

set_option maxRecDepth 100000
set_option maxHeartbeats 4000000
namespace Go.Proofs
open Go Go.Am Go.RowKit Go.Sy
theorem vcLight : (∀ (y : CMsg), Sy.ask (cfgP y) 400 4 [SV.agg (CMsg.enc y)] isB) = (∀ (y : CMsg),
  br (leI (Int.ofNat (List.length (CMsg.marks y))) 100)
    (br (ltI 30 (Int.ofNat (List.length (CMsg.events y)))) True
      ((∃ (x : Nat),
          x ≤ List.length (CMsg.events y) ∧
            (SV.lst CEvent (CMsg.events y) CEvent.enc = SV.lst CEvent (CMsg.events y) CEvent.enc ∧
                eqI 0 ↑x ∧ True) ∧
              ((eqI (CMsg.d1 y) (CMsg.d1 y) ∧
                    eqI (CMsg.d2 y) (CMsg.d2 y) ∧
                      eqI (CMsg.d3 y) (CMsg.d3 y) ∧
                        SV.lst CDot (CMsg.marks y) CDot.enc = SV.lst CDot (CMsg.marks y) CDot.enc ∧
                        SV.lst CEvent (CMsg.events y) CEvent.enc =
                        SV.lst CEvent (CMsg.events y) CEvent.enc ∧
                        True) ∧
                  True) ∧
                True) ∧
        ∀ (x : Nat),
          x ≤ List.length (CMsg.events y) →
            br (ltI (↑x) (Int.ofNat (List.length (CMsg.events y))))
              (so (CMsg.events y)[Int.toNat ↑x]? fun (val : CEvent) =>
                br (leI (Int.ofNat (List.length (CEvent.over val))) 100)
                  (br (leI (Int.ofNat (List.length (CEvent.name val))) 2000)
                    (br (leI (Int.ofNat (List.length (CEvent.domain val))) 2000)
                      (br (leI (Int.ofNat (List.length (CEvent.path val))) 2000)
                        (br (!leI (Int.ofNat (List.length (CEvent.value val))) 2000) True
                        (ck (inR Go.IntKind.i64 (↑x + 1))
                        (∃ (y_1 : Nat),
                        y_1 ≤ List.length (CMsg.events y) ∧
                        Ann.μ (aLightAll y) y_1 < Ann.μ (aLightAll y) x ∧
                        (SV.lst CEvent (CMsg.events y) CEvent.enc =
                        SV.lst CEvent (CMsg.events y) CEvent.enc ∧
                        eqI (↑x + 1) ↑y_1 ∧ True) ∧
                        ((eqI (CMsg.d1 y) (CMsg.d1 y) ∧
                        eqI (CMsg.d2 y) (CMsg.d2 y) ∧
                        eqI (CMsg.d3 y) (CMsg.d3 y) ∧
                        SV.lst CDot (CMsg.marks y) CDot.enc =
                        SV.lst CDot (CMsg.marks y) CDot.enc ∧
                        SV.lst CEvent (CMsg.events y) CEvent.enc =
                        SV.lst CEvent (CMsg.events y) CEvent.enc ∧
                        True) ∧
                        True) ∧
                        True)))
                        True)
                      True)
                    True)
                  True)
              True))
    True) := by kernel_rfl
end Go.Proofs

set_option maxRecDepth 100000
namespace Go.Proofs
open Go Go.Am Go.RowKit Go.Sy
theorem light_ask : ∀ y : CMsg, Sy.ask (cfgP y) 400 4 [.agg y.enc] isB := by
  rw [vcLight]
  intro y
  refine br_iff.2 ⟨fun _ => br_iff.2 ⟨fun _ => trivial, fun hl => ⟨⟨(0 : Nat), Nat.zero_le _, ⟨rfl, rfl, trivial⟩, ⟨⟨rfl, rfl, rfl, rfl, rfl, trivial⟩, trivial⟩, trivial⟩, fun (x : Nat) hx => ?_⟩⟩, fun _ => trivial⟩
  refine br_iff.2 ⟨fun hlt => ?_, fun _ => trivial⟩
  have hlt : x < y.events.length := by
    rw [ltI_eq] at hlt
    have := of_decide_eq_true hlt
    simpa using this
  have hle : y.events.length ≤ 30 := by
    rw [ltI_eq] at hl
    have := of_decide_eq_false hl
    simp only [Int.ofNat_eq_natCast] at this
    omega
  refine so_iff.2 ⟨y.events[x], by simp [hlt], ?_⟩
  refine br_iff.2 ⟨fun _ => br_iff.2 ⟨fun _ => br_iff.2 ⟨fun _ => br_iff.2 ⟨fun _ => br_iff.2 ⟨fun _ => trivial, fun _ => ck_iff.2 ⟨?_, ?_⟩⟩, fun _ => trivial⟩, fun _ => trivial⟩, fun _ => trivial⟩, fun _ => trivial⟩
  · rw [inR64]; omega
  · refine ⟨x + 1, by omega, ?_, ⟨rfl, by simp, trivial⟩, ⟨⟨rfl, rfl, rfl, rfl, rfl, trivial⟩, trivial⟩, trivial⟩
    show y.events.length - (x + 1) < y.events.length - x
    omega
end Go.Proofs

/- ProtoNils' walk: the law answers true and keeps what was there. -/
set_option maxRecDepth 100000
namespace Go.Proofs.YtdaiajmdadepbaaGreatDoor.protoNils
open Go.ChangeShapes Go.WideShapes Go.ChangeAt Go.RowKit
open Go.Sy hiding ask
open Go.Am (run3 allTrue3 made3 law_of_run3 ConAt)
set_option linter.unusedVariables false

theorem own : ownKnob Tryz.prog.godebug = none := by kernel_rfl
theorem laidOut : laidOutB Tryz.prog = true := by kernel_rfl
abbrev laid1 {H : Type} : List (String × DataW H) := [("biscotti/date.months", Rows.laid_biscotti_date_months)]

section
variable {H : Type} {enc : TypeId × Value → H} {w : World} {base : Nat} {spare : Nat → Bool} {held : Bool} {Fz : Nat → Option Go.Am.AO} {N : Nat}
theorem dActor : Dec Tryz.prog w base spare held enc Fz N 77 (Int × Int) (fun x => [.int .i64 x.1, .int .i64 x.2]) :=
  Dec.map (Dec.struct Tryz.underlying77 (by kernel_rfl) (.cons (by kernel_rfl) (Dec.int Tryz.underlying3) (.cons (by kernel_rfl) (Dec.int Tryz.underlying3) .nil))) (fun x => ⟨x.1, x.2.1⟩) (fun x => rfl)
theorem dDot : Dec Tryz.prog w base spare held enc Fz N 79 CDot CDot.enc :=
  Dec.map (Dec.struct Tryz.underlying79 (by kernel_rfl) (.cons (by kernel_rfl) dActor (.cons (by kernel_rfl) (Dec.int Tryz.underlying3) .nil))) (fun x => ⟨x.1.1, x.1.2, x.2.1⟩) (fun x => rfl)
theorem dMark : Dec Tryz.prog w base spare held enc Fz N 120 CDot CDot.enc :=
  Dec.map (Dec.struct Tryz.underlying120 (by kernel_rfl) (.cons (by kernel_rfl) dActor (.cons (by kernel_rfl) (Dec.int Tryz.underlying3) .nil))) (fun x => ⟨x.1.1, x.1.2, x.2.1⟩) (fun x => rfl)
theorem dStamp : Dec Tryz.prog w base spare held enc Fz N 81 (Int × Int × Int) (fun x => [.int .i64 x.1, .int .i64 x.2.1, .int .i64 x.2.2]) :=
  Dec.map (Dec.struct Tryz.underlying81 (by kernel_rfl) (.cons (by kernel_rfl) (Dec.int Tryz.underlying3) (.cons (by kernel_rfl) (Dec.int Tryz.underlying3) (.cons (by kernel_rfl) (Dec.int Tryz.underlying3) .nil)))) (fun x => ⟨x.1, x.2.1, x.2.2.1⟩) (fun x => rfl)
theorem dKey : Dec Tryz.prog w base spare held enc Fz N 83 (List UInt8 × List UInt8 × List UInt8) (fun x => [.str x.1, .str x.2.1, .str x.2.2]) :=
  Dec.map (Dec.struct Tryz.underlying83 (by kernel_rfl) (.cons (by kernel_rfl) (Dec.str Tryz.underlying9) (.cons (by kernel_rfl) (Dec.str Tryz.underlying9) (.cons (by kernel_rfl) (Dec.str Tryz.underlying9) .nil)))) (fun x => ⟨x.1, x.2.1, x.2.2.1⟩) (fun x => rfl)
theorem dCookie : Dec Tryz.prog w base spare held enc Fz N 85 (List UInt8 × Bool × Bool × Bool × Bool × Int × Int × Int) (fun x => [.str x.1, .bool x.2.1, .bool x.2.2.1, .bool x.2.2.2.1, .bool x.2.2.2.2.1, .int .i64 x.2.2.2.2.2.1, .int .i64 x.2.2.2.2.2.2.1, .int .i64 x.2.2.2.2.2.2.2]) :=
  Dec.map (Dec.struct Tryz.underlying85 (by kernel_rfl)
    (.cons (by kernel_rfl) (Dec.str Tryz.underlying9) (.cons (by kernel_rfl) (Dec.bool Tryz.underlying4) (.cons (by kernel_rfl) (Dec.bool Tryz.underlying4) (.cons (by kernel_rfl) (Dec.bool Tryz.underlying4) (.cons (by kernel_rfl) (Dec.bool Tryz.underlying4)
      (.cons (by kernel_rfl) (Dec.int Tryz.underlying3) (.cons (by kernel_rfl) (Dec.int Tryz.underlying3) (.cons (by kernel_rfl) (Dec.int Tryz.underlying3) .nil))))))))) (fun x => ⟨x.1, x.2.1, x.2.2.1, x.2.2.2.1, x.2.2.2.2.1, x.2.2.2.2.2.1, x.2.2.2.2.2.2.1, x.2.2.2.2.2.2.2.1⟩) (fun x => rfl)
end
section
variable {H : Type} {enc : TypeId × Value → H} {w : World} {base : Nat} {spare : Nat → Bool} {held : Bool}
theorem dDots : Dec Tryz.prog w base spare held enc (rowH Tryz.tab w).get w.heap.size 86 (List CDot) (fun L => [.lst CDot L CDot.enc]) := Dec.slice Tryz.underlying86 (show Tryz.prog.cellsOf 79 = 3 by kernel_rfl) (by omega) (fun _ => rfl) dDot
theorem dMarks : Dec Tryz.prog w base spare held enc (rowH Tryz.tab w).get w.heap.size 22 (List CDot) (fun L => [.lst CDot L CDot.enc]) := Dec.slice Tryz.underlying22 (show Tryz.prog.cellsOf 120 = 3 by kernel_rfl) (by omega) (fun _ => rfl) dMark
theorem dEvent : Dec Tryz.prog w base spare held enc (rowH Tryz.tab w).get w.heap.size 88 CEvent CEvent.enc :=
  Dec.map (Dec.struct Tryz.underlying88 (by kernel_rfl) (.cons (by kernel_rfl) dDot (.cons (by kernel_rfl) dStamp (.cons (by kernel_rfl) (Dec.int Tryz.underlying3) (.cons (by kernel_rfl) dKey (.cons (by kernel_rfl) dCookie (.cons (by kernel_rfl) dDots .nil)))))))
    (fun x => ⟨x.1, x.2.1.1, x.2.1.2.1, x.2.1.2.2, x.2.2.1, x.2.2.2.1.1, x.2.2.2.1.2.1, x.2.2.2.1.2.2, x.2.2.2.2.1.1, x.2.2.2.2.1.2.1, x.2.2.2.2.1.2.2.1, x.2.2.2.2.1.2.2.2.1, x.2.2.2.2.1.2.2.2.2.1, x.2.2.2.2.1.2.2.2.2.2.1, x.2.2.2.2.1.2.2.2.2.2.2.1, x.2.2.2.2.1.2.2.2.2.2.2.2, x.2.2.2.2.2.1⟩) (fun x => rfl)
theorem dEvents : Dec Tryz.prog w base spare held enc (rowH Tryz.tab w).get w.heap.size 23 (List CEvent) (fun L => [.lst CEvent L CEvent.enc]) := Dec.slice Tryz.underlying23 (show Tryz.prog.cellsOf 88 = 19 by kernel_rfl) (by omega) (fun _ => rfl) dEvent
theorem dMsg : Dec Tryz.prog w base spare held enc (rowH Tryz.tab w).get w.heap.size 25 CMsg CMsg.enc :=
  Dec.map (Dec.struct Tryz.underlying25 (by kernel_rfl) (.cons (by kernel_rfl) (Dec.int Tryz.underlying3) (.cons (by kernel_rfl) (Dec.int Tryz.underlying3) (.cons (by kernel_rfl) (Dec.int Tryz.underlying3) (.cons (by kernel_rfl) dMarks (.cons (by kernel_rfl) dEvents .nil))))))
    (fun x => ⟨x.1, x.2.1, x.2.2.1, x.2.2.2.1, x.2.2.2.2.1⟩) (fun x => rfl)
/-- Light, of whatever reads as a message. -/
theorem light_walk {cs : Array Value} {d : DataW H} {p : List MemPlace} (h : DataW.Trod enc Tryz.prog w base spare held 25 (.agg cs) d p) : Calls Tryz.prog 4 #[.agg cs] w (fun e w' => (∃ v, (∃ b, v = .bool b) ∧ e = .returned v) ∧ Below w.heap.size w w') := by
  obtain ⟨fuel, hf⟩ := h
  obtain ⟨y, hy⟩ := dMsg.one _ _ _ hf
  exact calls_of_ask (cfg := cfgP y) (args := [.agg cs]) Tryz.prOk rfl (fun _ _ h => by cases h) (show Tryz.tab.fns.get 4 = some Tryz.f4 by kernel_rfl) (light_ask y) (SimL.cons (.pure (simA_agg hy)) SimL.nil) (fun sv s hq C av E hv => isB_ok hq hv)
/-- What a message is made of. -/
theorem msg_form {b0 : Nat} {r : Reach} {v : Value} {d : DataW H} {p : List MemPlace} (hv : Value.okWide Tryz.prog w r b0 25 v) (h : DataW.Trod enc Tryz.prog w base spare held 25 v d p) :
    ∃ d1 d2 d3 a n c b k e, v = .agg #[.int .i64 d1, .int .i64 d2, .int .i64 d3, .slice a n c, .slice b k e] := by
  obtain ⟨cs, rfl, hsz⟩ := okWide_struct Tryz.underlying25 hv
  have hsz : cs.size = 5 := hsz.trans (by kernel_rfl)
  obtain ⟨l⟩ := cs
  obtain ⟨c0, c1, c2, c3, c4, rfl⟩ : ∃ c0 c1 c2 c3 c4, l = [c0, c1, c2, c3, c4] := by
    match l, hsz with
    | [c0, c1, c2, c3, c4], _ => exact ⟨c0, c1, c2, c3, c4, rfl⟩
  obtain ⟨fuel, hf⟩ := h
  obtain ⟨xs, n, _, _, _, hlen, hx⟩ := DataW.trod_struct Tryz.underlying25 hf
  have hlen : xs.length = 5 := hlen
  have g0 : DataW.trod enc Tryz.prog w base spare held n 3 (List.take (Tryz.prog.cellsOf 3) (List.drop 0 [c0, c1, c2, c3, c4])) = xs[0]? := hx 0 _ rfl
  have g1 : DataW.trod enc Tryz.prog w base spare held n 3 (List.take (Tryz.prog.cellsOf 3) (List.drop 1 [c0, c1, c2, c3, c4])) = xs[1]? := hx 1 _ rfl
  have g2 : DataW.trod enc Tryz.prog w base spare held n 3 (List.take (Tryz.prog.cellsOf 3) (List.drop 2 [c0, c1, c2, c3, c4])) = xs[2]? := hx 2 _ rfl
  have g3 : DataW.trod enc Tryz.prog w base spare held n 22 (List.take (Tryz.prog.cellsOf 22) (List.drop 3 [c0, c1, c2, c3, c4])) = xs[3]? := hx 3 _ rfl
  have g4 : DataW.trod enc Tryz.prog w base spare held n 23 (List.take (Tryz.prog.cellsOf 23) (List.drop 4 [c0, c1, c2, c3, c4])) = xs[4]? := hx 4 _ rfl
  have k3 : Tryz.prog.cellsOf 3 = 1 := by kernel_rfl
  have k22 : Tryz.prog.cellsOf 22 = 1 := by kernel_rfl
  have k23 : Tryz.prog.cellsOf 23 = 1 := by kernel_rfl
  rw [k3, List.getElem?_eq_getElem (by omega)] at g0 g1 g2
  rw [k22, List.getElem?_eq_getElem (by omega)] at g3
  rw [k23, List.getElem?_eq_getElem (by omega)] at g4
  obtain ⟨d1, e0, _⟩ := DataW.trod_int Tryz.underlying3 g0
  obtain ⟨d2, e1, _⟩ := DataW.trod_int Tryz.underlying3 g1
  obtain ⟨d3, e2, _⟩ := DataW.trod_int Tryz.underlying3 g2
  have one : ∀ {t e : TypeId} {c : Value} {x}, Tryz.prog.underlying t = some (.slice e) → DataW.trod enc Tryz.prog w base spare held n t [c] = some x → ∃ a n k, c = .slice a n k := by
    intro t e c x ht hd
    rcases DataW.trod_slice ht hd with ⟨h1, _⟩ | ⟨a, len, cap, _, _, _, _, h1, _⟩
    · simp only [List.cons.injEq, and_true] at h1
      exact ⟨_, _, _, h1⟩
    · simp only [List.cons.injEq, and_true] at h1
      exact ⟨_, _, _, h1⟩
  obtain ⟨a, m, c, rfl⟩ := one Tryz.underlying22 g3
  obtain ⟨b, k, e, rfl⟩ := one Tryz.underlying23 g4
  simp only [List.drop_zero, List.take_succ_cons, List.take_zero, List.drop_succ_cons, List.cons.injEq, and_true] at e0 e1 e2
  subst e0 e1 e2
  exact ⟨d1, d2, d3, a, m, c, b, k, e, rfl⟩
end
theorem awake_calls (w : World) : Calls Tryz.prog 5 #[] w (fun e w' => e = .returned (.bool true) ∧ Below w.heap.size w w') :=
  AGo.calls (avs := []) Tryz.prOk Tryz.fn5 (show Tryz.f5.body = some (Tryz.f5.body.getD .skip) by kernel_rfl) Tryz.awakeGo (fun _ => rfl)
theorem walk {H : Type} {enc : TypeId × Value → H} {spare : Nat → Bool} (d1 d2 d3 : Int) (a : Option Addr) (n c : Nat) (b : Option Addr) (k e : Nat) (to : Int) (w : World)
    (hT : ∀ w', Below w.heap.size w w' → ∃ (d : DataW H) (p : List MemPlace), DataW.Trod enc Tryz.prog w' 0 spare true 25 (.agg #[.int .i64 d1, .int .i64 d2, .int .i64 d3, .slice a n c, .slice b k e]) d p) :
    Calls Tryz.prog 3 #[.agg #[.int .i64 d1, .int .i64 d2, .int .i64 d3, .slice a n c, .slice b k e], .int .i64 to] w fun e w' => e = .returned (.bool true) ∧ Below w.heap.size w w' := by
  refine law_of_run3 Tryz.tabOk Tryz.extOk Tryz.mix Tryz.fn3 (by kernel_rfl) (Tryz.lawRun d1 d2 d3 a n c b k e to) (fun _ => rfl) (Tryz.lawMade d1 d2 d3 a n c b k e to) ?_
  intro x hx
  simp only [List.mem_cons, List.not_mem_nil, or_false] at hx
  have h5 : ConAt Tryz.prog Tryz.tab con4 (Below w.heap.size w) (Go.Am.KS.old w.heap.size) (5, []) := by
    refine Go.Am.ConAt.of (argsC := #[]) (vs := [.bool true]) (fun _ => rfl) ?_ ?_ ?_
    · intro h outs ho v hv
      have h2 : con4 5 [] h = some [(.bool true, h)] := rfl
      rw [h2] at ho
      cases ho
      rw [List.mem_singleton] at hv
      subst hv
      exact List.mem_cons_self
    · intro v hv E E'
      rw [List.mem_singleton] at hv
      subst hv
      rfl
    · intro w1 hb
      exact (awake_calls w1).mono fun e w' ⟨h1, h2⟩ => ⟨⟨.bool true, List.mem_cons_self, h1⟩, h2⟩
  rcases hx with rfl | rfl | rfl
  · refine Go.Am.ConAt.of (argsC := #[.agg #[.int .i64 d1, .int .i64 d2, .int .i64 d3, .slice a n c, .slice b k e]]) (vs := [.bool true, .bool false]) (fun _ => rfl) ?_ ?_ ?_
    · intro h outs ho v hv
      have h2 : con4 4 [msgA d1 d2 d3 a n c b k e] h = some [(.bool true, h), (.bool false, h)] := rfl
      rw [h2] at ho
      cases ho
      simp only [List.mem_cons, List.not_mem_nil, or_false] at hv ⊢
      rcases hv with rfl | rfl
      · exact .inl rfl
      · exact .inr rfl
    · intro v hv E E'
      simp only [List.mem_cons, List.not_mem_nil, or_false] at hv
      rcases hv with rfl | rfl <;> rfl
    · intro w1 hb
      obtain ⟨d, p, hd⟩ := hT w1 hb
      refine (light_walk hd).mono fun e w' ⟨⟨v, ⟨b, hv⟩, he⟩, h2⟩ => ⟨⟨.bool b, ?_, ?_⟩, h2⟩
      · cases b <;> simp
      · rw [he, hv]; rfl
  · exact h5
  · exact h5

end Go.Proofs.YtdaiajmdadepbaaGreatDoor.protoNils

/- ProtoNils' row's step, of the walk. -/
set_option maxRecDepth 100000
namespace Go.Proofs.YtdaiajmdadepbaaGreatDoor.protoNils
open Go.ChangeShapes Go.WideShapes Go.ChangeAt Go.RowKit
open Go.Sy hiding ask
open Go.Am (run3 allTrue3 made3 law_of_run3 ConAt)
set_option linter.unusedVariables false

/-- The door's own heap meets the condition. -/
theorem door_met (os : Os) (args : Array Value) : laidMetH Tryz.prog laid1 ((World.doorLaid Tryz.prog 14 os).forCall (fun _ _ => 0) ⟨#[], args, []⟩).memory :=
  laidMetH_of_parts3 (fuel := 8) (laidMet_of_run' 8 (by kernel_rfl) (by kernel_rfl)) (by kernel_rfl) (by kernel_rfl)

/-! ### THE ROW's STEP -/
set_option maxRecDepth 100000 in
theorem lifted (os : Os) (started : os.Started) (H : Type) (enc : TypeId × Value → H) :
    ReturnsInHanded {} Tryz.checked os 3 .any (fun w args => (Rows.protoNilsSpec.pre enc Tryz.prog Tryz.f3 [] false w args ∧ laidMetH Tryz.prog laid1 w) ∧ sizedMet enc Tryz.prog Tryz.f3 (OpenSpec.ofChange Rows.protoNilsSpec) false w args)
      (Rows.protoNilsSpec.post enc Tryz.prog Tryz.f3 false true false false) := by
  refine returnsInHanded_of_change_and (C := Tryz.checked) (X := fun w _ => laidMetH Tryz.prog laid1 w) (fun _ _ _ hh h => h.of_heap hh) own started (by kernel_rfl) Tryz.func3
    (ChangeSpec.witness_shaped (enc := enc) (C := Tryz.checked) (os := os) (X := fun w _ => laidMetH Tryz.prog laid1 w) false (World.doorLaid Tryz.prog 14 os) #[.agg #[.int .i64 0, .int .i64 0, .int .i64 0, .slice none 0 0, .slice none 0 0], .int .i64 0] 8 rfl (World.shaped_of_RefB (by kernel_rfl) (by kernel_rfl)) (by kernel_rfl) (by kernel_rfl) (by kernel_rfl) (door_met os _)) ?_
  intro W base args ds gs before hval0 hW _ _ hL _
  have hval : ∀ (j : Nat) t v, Tryz.f3.params[j]? = some t → args[j]? = some v → Value.okWide Tryz.prog W .any base t v := hval0
  have hW' := hW
  obtain ⟨p, q, hA0, hV, rfl, hfz, hnd⟩ := hW
  have hA : DataW.TrodAll enc Tryz.prog W 0 (fun _ => true) true Tryz.f3.params.toList args.toList ds p := hA0
  rw [Tryz.params3] at hA hval
  obtain ⟨v0, vs0, d0, ds0, p0, q0, hargs, rfl, rfl, h0, r0⟩ := trodAll_cons hA
  obtain ⟨v1, vs1, d1, ds1, p1, q1, rfl, rfl, rfl, h1, r1⟩ := trodAll_cons r0
  obtain ⟨rfl, rfl, rfl⟩ := trodAll_nil r1
  obtain rfl : args = #[v0, v1] := by cases args; simp_all
  obtain ⟨rfl, rfl⟩ := trodVars_none hV
  have k0 := h0
  have lt0 : ∀ x ∈ p0, x.block < W.heap.size := by obtain ⟨m, hm⟩ := k0; exact DataW.trod_lt m _ _ _ hm
  obtain ⟨m1, m2, m3, a, n, c, b, k, e, rfl⟩ := msg_form (hval 0 25 v0 rfl rfl) h0
  obtain ⟨to, rfl, rfl, rfl, w1⟩ := open_int Tryz.underlying3 (hval 1 3 v1 rfl rfl) h1
  clear hA0 hval0
  have keep : ∀ W', Below W.heap.size W W' → DataW.Trod enc Tryz.prog W' 0 (fun b => decide (b < W.heap.size)) true 25 (.agg #[.int .i64 m1, .int .i64 m2, .int .i64 m3, .slice a n c, .slice b k e]) d0 p0 := fun W' bel =>
    Below.trod laidOut (by kernel_rfl) (of_decide_eq_true (by kernel_rfl)) k0 bel lt0
  refine (walk m1 m2 m3 a n c b k e to W (fun W' bel => ⟨d0, p0, keep W' bel⟩)).mono fun e W' ⟨he, bel⟩ => ?_
  subst he
  exact ⟨_, rfl, _, _, _, [], _, [], hW', trodAll_mk1 (shut_bool Tryz.underlying4 _), (trodAll_cons_mk (keep W' bel) (trodAll_cons_mk (shut_int Tryz.underlying3 w1) trodAll_mk0)), rfl, bel.frame _, fun h => by cases h⟩

end Go.Proofs.YtdaiajmdadepbaaGreatDoor.protoNils

