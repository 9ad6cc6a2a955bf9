/- An evaluator over abstract values, proved sound over the model's machine; no condition. Part: Ops8. -/
import Derived.Test.YthgcpbkifhnlpaaGreatAmOps7
set_option linter.unusedSimpArgs false
set_option linter.unusedVariables false
set_option linter.unusedSectionVars false
set_option linter.deprecated false
namespace Go.Am
open Go.RowKit

section
variable {P : Program} {tab : Tab} (ok : TabOK P tab) {E : Env} {h : AH} {K : Nat → Prop} {w : World}

theorem evs_run {ts : T AV} {ρ : Operand → Value} (hρ : ∀ x v, ev ts x = .ok v → ρ x = conc E v) : ∀ (l : List Operand) (vs : List AV), evs ts l = .ok vs → l.map ρ = concL E vs := by
  intro l
  induction l with
  | nil => intro vs h; simp only [evs] at h; cases h; rfl
  | cons x l ih =>
    intro vs h
    simp only [evs] at h
    obtain ⟨v, hv, h⟩ := R.bind_ok.1 h
    obtain ⟨vs', hvs, h⟩ := R.bind_ok.1 h
    cases h
    simp [hρ x v hv, ih vs' hvs]
theorem evParts_run {ts : T AV} {ρ : Operand → Value} (hρ : ∀ x v, ev ts x = .ok v → ρ x = conc E v) : ∀ (l : List (Nat × Operand)) (vs : List (Nat × AV)), evParts ts l = .ok vs →
    l.map (fun p => (p.1, ρ p.2)) = vs.map fun p => (p.1, conc E p.2) := by
  intro l
  induction l with
  | nil => intro vs h; simp only [evParts] at h; cases h; rfl
  | cons x l ih =>
    intro vs h
    obtain ⟨i, x⟩ := x
    simp only [evParts] at h
    obtain ⟨v, hv, h⟩ := R.bind_ok.1 h
    obtain ⟨vs', hvs, h⟩ := R.bind_ok.1 h
    cases h
    simp [hρ x v hv, ih vs' hvs]

theorem find_born {n : Nat} {x : AV × AV × Nat} : ∀ (es : List (AV × AV × Nat)), es.find? (fun x => Nat.beq x.2.2 n) = some x → (es.map (concE E)).find? (fun e => e.born == n) = some (concE E x) := by
  intro es
  induction es with
  | nil => intro hx; simp at hx
  | cons e es ih =>
    intro hx
    simp only [List.find?_cons] at hx
    simp only [List.map_cons, List.find?_cons]
    by_cases hb : Nat.beq e.2.2 n = true
    · rw [hb] at hx
      cases hx
      have : ((concE E x).born == n) = true := by simpa [concE] using Nat.eq_of_beq_eq_true hb
      rw [this]
    · have hb' : Nat.beq e.2.2 n = false := Bool.eq_false_iff.2 hb
      rw [hb'] at hx
      have : ((concE E e).born == n) = false := by
        simp only [concE, beq_eq_false_iff_ne, ne_eq]
        intro e'; exact hb (by rw [e']; exact Nat.beq_refl n)
      rw [this]
      exact ih hx
theorem entryOp_run (H : HOK E h K w) {it v : AV} (he : entryOp h it = .ok v) : (Instr.entry (conc E it)).run P w = .ok (conc E v) w := by
  unfold entryOp at he
  split at he
  · rename_i r
    split at he
    · rename_i m since seen stepped hr
      obtain ⟨⟨es, c⟩, hm, he⟩ := R.bind_ok.1 he
      obtain ⟨_, hck, he⟩ := R.bind_ok.1 he
      obtain ⟨n, hn, he⟩ := R.bind_ok.1 he
      obtain ⟨x, hx, he⟩ := R.bind_ok.1 he
      cases he
      have hw := H.map (mapAt_ok hm)
      obtain ⟨o, ho, hoo⟩ := H.obj r _ hr
      simp only [OOK] at hoo
      subst hoo
      have hc := Nat.eq_of_beq_eq_true (R.check_ok.1 hck)
      subst hc
      have hn := R.of_ok.1 hn
      have hx := R.of_ok.1 hx
      have hget : (getObj (E.blk r)).run P w = .ok (.mapIter (some (E.blk m)) since seen.toArray c) w := by
        simp [getObj, Sem.run, ho]
      have hb : seen.toArray.back? = some n := by simpa using hn
      have hf : (es.map (concE E)).toArray.find? (fun e => e.born == n) = some (concE E x) := by
        rw [List.find?_toArray]
        exact find_born es hx
      unfold Instr.entry
      simp only [conc, Sem.run_bind, hget, Result.andThen_ok, hb, run_getMap hw, bne_self_eq_false, Bool.false_eq_true, if_false, hf, Sem.run_pure]
      rfl
    · cases he
  · cases he

theorem minInt_run {k : IntKind} : ∀ (l : List AV) (x : Int) (v : AV), minInt k x l = .ok v → ((concL E l).foldlM Builtin.min2 (.int k x)).run P w = .ok (conc E v) w := by
  intro l
  induction l with
  | nil => intro x v h; simp only [minInt] at h; cases h; rfl
  | cons a l ih =>
    intro x v h
    cases a <;> simp only [minInt] at h <;> (try cases h)
    simp only [concL_cons, List.foldlM_cons, Sem.run_bind, conc, Builtin.min2, Sem.run_pure, Result.andThen_ok]
    exact ih _ v h
theorem maxInt_run {k : IntKind} : ∀ (l : List AV) (x : Int) (v : AV), maxInt k x l = .ok v → ((concL E l).foldlM Builtin.max2 (.int k x)).run P w = .ok (conc E v) w := by
  intro l
  induction l with
  | nil => intro x v h; simp only [maxInt] at h; cases h; rfl
  | cons a l ih =>
    intro x v h
    cases a <;> simp only [maxInt] at h <;> (try cases h)
    simp only [concL_cons, List.foldlM_cons, Sem.run_bind, conc, Builtin.max2, Sem.run_pure, Result.andThen_ok]
    exact ih _ v h

theorem sliceData_run (H : HOK E h K w) {argTypes : Array TypeId} {type : TypeId} {x v : AV} {h' : AH} (hs : sliceData h x = .ok (v, h')) :
    h' = h ∧ (Builtin.unsafeSliceData_ argTypes type #[conc E x]).run P w = .ok (conc E v) w := by
  unfold sliceData at hs
  split at hs
  · cases hs; exact ⟨rfl, rfl⟩
  · rename_i b off n cap
    obtain ⟨c, hc, hs⟩ := R.bind_ok.1 hs
    obtain ⟨_, h0, hs⟩ := R.bind_ok.1 hs
    cases hs
    refine ⟨rfl, ?_⟩
    have hcap := capLow_ok H hc
    have h0 := R.check_ok.1 h0
    have : cap.val (E.cap b) ≠ 0 := by
      intro e
      rw [e] at hcap
      have : c = 0 := by omega
      subst this
      simp at h0
    obtain ⟨k, hk⟩ : ∃ k, cap.val (E.cap b) = k + 1 := ⟨cap.val (E.cap b) - 1, by omega⟩
    simp only [conc]
    rw [hk]
    rfl
  · cases hs

theorem loadBytes_run : ∀ (cs : List AV) (s acc : List UInt8) (b off : Nat), bytesOf cs = .ok s → (∀ j v, (concL E cs)[j]? = some v → w.cell? ⟨b, off + j, none⟩ = some v) →
    (Go.loadBytes ⟨b, off, none⟩ ⟨acc.toArray⟩ cs.length).run P w = .ok ⟨(acc ++ s).toArray⟩ w := by
  intro cs
  induction cs with
  | nil => intro s acc b off hs _; simp only [bytesOf] at hs; cases hs; simp [Go.loadBytes]
  | cons c cs ih =>
    intro s acc b off hs hc
    unfold bytesOf at hs
    split at hs
    · rename_i e; cases e
    · rename_i n l e
      cases e
      obtain ⟨r, hr, hs⟩ := R.bind_ok.1 hs
      cases hs
      have h0 := hc 0 (.int .u8 n) rfl
      simp only [Nat.add_zero] at h0
      simp only [List.length_cons, Go.loadBytes, Sem.run_bind, run_load, h0, Result.andThen_ok, add_lit]
      have hp : (⟨acc.toArray⟩ : ByteArray).push ((Int.toNat (n : Int)).toUInt8) = ⟨(acc ++ [UInt8.ofNat n]).toArray⟩ := by
        apply ByteArray.ext
        simp [ByteArray.push]
      have hp' : (⟨acc.toArray⟩ : ByteArray).push ((Int.ofNat n).toNat.toUInt8) = ⟨(acc ++ [UInt8.ofNat n]).toArray⟩ := hp
      rw [show ((n : Int).toNat.toUInt8) = (Int.ofNat n).toNat.toUInt8 from rfl, hp']
      rw [ih r (acc ++ [UInt8.ofNat n]) b (off + 1) hr (fun j v hv => by
        rw [show off + 1 + j = off + (j + 1) from by omega]
        exact hc (j + 1) v (by simpa using hv))]
      simp
    · cases hs

theorem depth_pos (P : Program) : ∃ d, P.depth = d + 1 := ⟨2 * (P.types.size + Made.depth) + 1, rfl⟩

theorem liesAt_self {e count off n : Nat} (hs : P.cellsOf e = 1) (hl : off + n ≤ count) : liesAt P P.depth e count off e n = true := by
  obtain ⟨d, hd⟩ := depth_pos P
  have h1 : sameLayout P P.depth e e = true := by
    rw [hd]; simp [sameLayout]
  have h2 : rowAt P (sameLayout P P.depth · e) P.depth e count off n = true := by
    conv => lhs; arg 3; rw [hd]
    unfold rowAt
    simp [hs, Nat.mod_one, h1, hl]
  conv => lhs; arg 2; rw [hd]
  unfold liesAt
  simp only [Bool.or_eq_true]
  exact Or.inl h2

theorem us_def (argTypes : Array TypeId) (ty : TypeId) (p : Option Addr) (y : Value) : Builtin.unsafeString_ argTypes ty #[.pointer p, y] = (do
    let n ← Go.asInt y
    let some pt := argTypes[0]? | stuck "unsafe.String: no argument types"
    if n < 0 then runtimePanic (.error "unsafe.String: len out of range")
    if n > IntKind.i64.max then unsupported (.unsafePointer "String: a length above the largest int")
    match p with
    | none =>
      if n = 0 then pure (.string .empty)
      else runtimePanic (.error "unsafe.String: ptr is nil and len is not zero")
    | some a =>
      if n = 0 then pure (.string .empty)
      else if ← variablesAt a (← elemOf pt) n.toNat then do
        let s ← loadBytes a .empty n.toNat
        freeze a n.toNat
        pure (.string s)
      else unsupported (.unsafePointer "String: not so many bytes at ptr")) := rfl
theorem us_nil {argTypes : Array TypeId} {t ty : TypeId} (h0 : argTypes[0]? = some t) (p : Option Addr) (k : IntKind) : (Builtin.unsafeString_ argTypes ty #[.pointer p, .int k (0 : Nat)]).run P w = .ok (.string .empty) w := by
  rw [us_def]
  have : ¬ ((0 : Int) > IntKind.i64.max) := by decide
  cases p <;> simp [h0, Go.asInt, Go.asIntOf, this]
theorem us_some {argTypes : Array TypeId} {t ty u : TypeId} (h0 : argTypes[0]? = some t) (ht : P.underlying t = some (.pointer u)) (a : Addr) (k : IntKind) {n : Nat} (hn : n ≠ 0) (hl : n ≤ 1048576)
    (hv : (variablesAt a u n).run P w = .ok true w) {s : ByteArray} (hs : (Go.loadBytes a .empty n).run P w = .ok s w) :
    (Builtin.unsafeString_ argTypes ty #[.pointer (some a), .int k (n : Nat)]).run P w = .ok (.string s) (w.freeze a n) := by
  rw [us_def]
  have h1 : ¬ ((n : Int) > IntKind.i64.max) := by
    have : IntKind.i64.max = 9223372036854775807 := by decide
    rw [this]; omega
  have h2 : ¬ ((n : Int) < 0) := by omega
  have h3 : ¬ ((n : Int) = 0) := by omega
  simp [h0, Go.asInt, Go.asIntOf, hn, elemOf, underlying, ht, hv, hs, Go.freeze, Sem.run]
  rw [if_neg h2, if_neg (by omega)]

include ok in
theorem unsafeString_run (H : HOK E h K w) {argTypes : Array TypeId} {t ty : TypeId} (h0 : argTypes[0]? = some t) {x y v : AV} {h' : AH} (hs : unsafeString tab h t x y = .ok (v, h')) :
    h'.next = h.next ∧ ∃ w', (Builtin.unsafeString_ argTypes ty #[conc E x, conc E y]).run P w = .ok (conc E v) w' ∧ HOK E h' K w' ∧ Kept K w w' := by
  unfold unsafeString at hs
  obtain ⟨n, hn, hs1⟩ := R.bind_ok.1 hs
  obtain ⟨_, hl, hs2⟩ := R.bind_ok.1 hs1
  clear hs hs1
  have hl := Nat.le_of_ble_eq_true (R.check_ok.1 hl)
  obtain ⟨k, rfl⟩ := asNat_ok hn
  split at hs2
  · obtain ⟨_, hz, hs3⟩ := R.bind_ok.1 hs2
    clear hs2
    cases hs3
    have hz := Nat.eq_of_beq_eq_true (R.check_ok.1 hz)
    subst hz
    exact ⟨rfl, w, us_nil h0 none k, H, Kept.refl K w⟩
  · rename_i b off
    by_cases hn0 : n = 0
    · subst hn0
      cases hs2
      exact ⟨rfl, w, us_nil h0 _ k, H, Kept.refl K w⟩
    · have hnb : Nat.beq n 0 = false := by
        cases hb : Nat.beq n 0
        · rfl
        · exact absurd (Nat.eq_of_beq_eq_true hb) hn0
      simp only [hnb, cond_false] at hs2
      obtain ⟨d, hd, hs3⟩ := R.bind_ok.1 hs2
      clear hs2
      have hP := ok.und t d (R.of_ok.1 hd)
      split at hs3
      · rename_i u
        obtain ⟨⟨cs, e, sz, ext, bk⟩, hca, hs4⟩ := R.bind_ok.1 hs3
        obtain ⟨n1, hn1, hs5⟩ := R.bind_ok.1 hs4
        obtain ⟨_, hck, hs6⟩ := R.bind_ok.1 hs5
        obtain ⟨l, hr, hs7⟩ := R.bind_ok.1 hs6
        obtain ⟨s, hbytes, hs8⟩ := R.bind_ok.1 hs7
        clear hs3 hs4 hs5 hs6 hs7
        cases hs8
        have hck := R.check_ok.1 hck
        simp only [Bool.and_eq_true] at hck
        obtain ⟨⟨he, h1⟩, hbk⟩ := hck
        have he := Nat.eq_of_beq_eq_true he
        have h1 := Nat.eq_of_beq_eq_true h1
        subst he h1
        obtain ⟨i, hi, hi1⟩ := ok.siz e 1 (R.of_ok.1 hn1)
        have hcells : P.cellsOf e = 1 := by simp [Program.cellsOf, hi, hi1]
        have hc := cellsAt_ok hca
        obtain ⟨arr, fz, hw, hrest, hext, hmk⟩ := H.cells hc
        have hnr : ¬ (AO.cells cs e sz ext bk).ro := by cases bk <;> simp_all [AO.ro]
        obtain ⟨hll, hlc⟩ := H.readN_cells hr
        have hlen : l.length = n := by simpa using hll
        have hsz : off + n ≤ arr.size := by
          have h3 := hlc (n - 1) ((concL E l)[n-1]'(by omega)) (by simp)
          rw [add_lit, cell_of_row w _ _ arr e fz hw] at h3
          have := (Array.getElem?_eq_some_iff.1 h3).1
          omega
        have hat : (variablesAt ⟨E.blk b, off, none⟩ e n).run P w = .ok true w := by
          simp only [variablesAt, Sem.run_bind, run_program, Result.andThen_ok, run_shape, World.shape?, hw, Sem.run_pure, hcells, Nat.div_one]
          rw [liesAt_self hcells hsz]
        have hld := loadBytes_run (P := P) (w := w) (E := E) l s [] (E.blk b) off hbytes (fun j v hv => by rw [← add_lit]; exact hlc j v hv)
        rw [hlen] at hld
        have hfz : w.freeze ⟨E.blk b, off, none⟩ n = w.put (E.blk b) (.cells arr e (if fz.1 == fz.2 then (off, off + n) else (min fz.1 off, max fz.2 (off + n)))) := by
          obtain ⟨lo, hi'⟩ := fz
          unfold World.freeze World.put
          rw [if_neg hn0]
          congr 1
          apply Array.ext_getElem?
          intro j
          rw [Array.getElem?_modify, Array.getElem?_setIfInBounds]
          by_cases hj : E.blk b = j
          · subst hj
            have := (Array.getElem?_eq_some_iff.1 hw).1
            have hw' := hw
            rw [Array.getElem?_eq_getElem this] at hw'
            simp only [Option.some.injEq] at hw'
            simp [this, hw']
          · simp [hj]
        refine ⟨rfl, _, us_some h0 hP _ k hn0 hl hat hld, ?_, ?_⟩
        · rw [hfz]; exact H.put hc hnr ⟨arr, _, rfl, hrest, hext, trivial⟩
        · rw [hfz]; exact H.kept_put hc hnr _
      · cases hs3
  · cases hs2

/-- The new block of an operation's result: where it lies, how many elements it may have. -/
def bnew (P : Program) (w : World) (b : Builtin) (argTypes : Array TypeId) (X : Value) (m : Nat) : Nat × Nat :=
  match b with
  | .append => appNew w X m (P.elem (argTypes.getD 0 0))
  | _ => (w.heap.size, 0)
def srcLen : List AV → Nat
  | [_, .str s] => s.length
  | [_, .sl _ _ n _] => n
  | [_, .int _ (.ofNat n)] => n
  | _ => 0

include ok
theorem builtin_run (H : HOK E h K w) {b : Builtin} {argTypes : Array TypeId} {args : List AV} {v : AV} {h' : AH} (hb : builtin tab b argTypes args h = .ok (v, h'))
    (hE : h.next < h'.next → E.blk h.next = (bnew P w b argTypes (((concL E args)[0]?).getD undef) (srcLen args)).1 ∧ E.cap h.next = (bnew P w b argTypes (((concL E args)[0]?).getD undef) (srcLen args)).2)
    (ty : TypeId) (consts : Array Bool) :
    (h.next ≤ h'.next ∧ h'.next ≤ h.next + 1) ∧ ∃ w', (Go.builtin b argTypes ty consts (concL E args).toArray).run P w = .ok (.value (conc E v)) w' ∧ HOK E h' K w' ∧ Kept K w w' := by
  unfold builtin at hb
  split at hb
  · -- len
    rename_i x
    obtain ⟨t, ht, hb⟩ := R.bind_ok.1 hb
    obtain ⟨u, hu, hb⟩ := R.bind_ok.1 hb
    have ht := R.of_ok.1 ht
    have hP := ok.und t u (R.of_ok.1 hu)
    have hgo : ∀ (n : Nat), (Builtin.len_ argTypes ty (concL E [x]).toArray).run P w = .ok (Go.goInt n) w →
        (Go.builtin .len argTypes ty consts (concL E [x]).toArray).run P w = .ok (.value (conc E (goInt n))) w := by
      intro n hn
      simp only [Go.builtin, Sem.run_bind, hn, Result.andThen_ok, Sem.run_pure]
      rfl
    split at hb
    · rename_i e
      obtain ⟨d, hd, hb⟩ := R.bind_ok.1 hb
      have hPe := ok.und e d (R.of_ok.1 hd)
      split at hb
      · cases hb
        refine ⟨by omega, w, hgo _ ?_, H, Kept.refl K w⟩
        unfold Builtin.len_
        simp [ht, underlying, hP, hPe]
      · cases hb
    · obtain ⟨n, hn, hb⟩ := R.bind_ok.1 hb
      cases hb
      refine ⟨by omega, w, hgo _ ?_, H, Kept.refl K w⟩
      unfold Builtin.len_
      unfold lenOf at hn
      split at hn <;> (try cases hn)
      case h_6 =>
        obtain ⟨⟨es, c⟩, hm, hn⟩ := R.bind_ok.1 hn
        cases hn
        have hw := H.map (mapAt_ok hm)
        simp [ht, underlying, hP, conc, run_getMap hw]
      all_goals simp [ht, underlying, hP, conc, size_mk]
  · -- cap
    rename_i x
    obtain ⟨t, ht, hb⟩ := R.bind_ok.1 hb
    obtain ⟨u, hu, hb⟩ := R.bind_ok.1 hb
    have ht := R.of_ok.1 ht
    have hP := ok.und t u (R.of_ok.1 hu)
    split at hb
    · cases hb
      refine ⟨by omega, w, ?_, H, Kept.refl K w⟩
      simp [Go.builtin, Builtin.cap_, ht, underlying, hP, conc, goInt, Go.goInt]
    · cases hb
      refine ⟨by omega, w, ?_, H, Kept.refl K w⟩
      simp [Go.builtin, Builtin.cap_, ht, underlying, hP, conc, goInt, Go.goInt, Cap.val]
    · cases hb
  · -- append
    rename_i x y
    obtain ⟨t, ht, hb⟩ := R.bind_ok.1 hb
    obtain ⟨u, hu, hb⟩ := R.bind_ok.1 hb
    have ht := R.of_ok.1 ht
    have hu := R.of_ok.1 hu
    obtain ⟨du, hdu, hb⟩ := R.bind_ok.1 hb
    have hPu := ok.und u du (R.of_ok.1 hdu)
    split at hb
    · rename_i ki _
      obtain ⟨dt, hdt, hb⟩ := R.bind_ok.1 hb
      have hPt := ok.und t dt (R.of_ok.1 hdt)
      split at hb
      · rename_i e
        unfold appendMake at hb
        obtain ⟨n, hn, hb⟩ := R.bind_ok.1 hb
        obtain ⟨by_, hby, hb⟩ := R.bind_ok.1 hb
        obtain ⟨_, hnz, hb⟩ := R.bind_ok.1 hb
        obtain ⟨m, hm, hb⟩ := R.bind_ok.1 hb
        obtain ⟨_, hlim, hb⟩ := R.bind_ok.1 hb
        obtain ⟨z, hz, hb⟩ := R.bind_ok.1 hb
        obtain ⟨zc, hzc, hb⟩ := R.bind_ok.1 hb
        obtain ⟨_, hzl, hb⟩ := R.bind_ok.1 hb
        have hnz : n ≠ 0 := by
          have := R.check_ok.1 hnz
          rintro rfl; simp at this
        have hlim := R.check_ok.1 hlim
        rw [Bool.and_eq_true] at hlim
        have hl1 := Nat.le_of_ble_eq_true hlim.1
        have hl2 := Nat.le_of_ble_eq_true hlim.2
        have hzl := Nat.eq_of_beq_eq_true (R.check_ok.1 hzl)
        obtain ⟨i, hi, hin⟩ := ok.siz _ _ (R.of_ok.1 hn)
        obtain ⟨i', hi', hiby⟩ := ok.byt _ _ (R.of_ok.1 hby)
        rw [hi] at hi'; cases hi'
        obtain ⟨i', hi', hzi⟩ := ok.zer _ _ (R.of_ok.1 hz)
        rw [hi] at hi'; cases hi'
        have hsl : srcLen [x, y] = m := by
          obtain ⟨k, rfl⟩ := asNat_ok hm
          rfl
        have hel : P.elem (argTypes.getD 0 0) = e := by
          have : argTypes.getD 0 0 = t := by
            rw [Array.getD_eq_getD_getElem?, ht]; rfl
          rw [this]; simp [Program.elem, hPt]
        have hE' : h.next < h'.next → E.blk h.next = (appNew w (conc E x) m e).1 ∧ E.cap h.next = (appNew w (conc E x) m e).2 := by
          intro hlt
          have := hE hlt
          simp only [bnew, hsl, hel, concL_cons, List.getElem?_cons_zero, Option.getD_some] at this
          exact this
        obtain ⟨h1, w', h2, h3, h4⟩ := appendOp_run ok H (ty := ty) (argTypes := argTypes) (Y := conc E y) hn hnz (R.of_ok.1 hby)
          (fun i' hi' => by
            rw [hi] at hi'; cases hi'
            exact AppSrc.of_make ht hu hPt hPu hi (hzi E) hzc (by rw [hzl, hin]) (by rw [hin]; exact hnz) hm hl1 (by rw [hiby]; exact hl2)) hb hE'
        refine ⟨h1, w', ?_, h3, h4⟩
        simp only [Go.builtin, Sem.run_bind]
        have : (concL E [x, y]).toArray = #[conc E x, conc E y] := rfl
        rw [this, h2]
        rfl
      · cases hb
    · rename_i hni
      obtain ⟨dt, hdt, hb⟩ := R.bind_ok.1 hb
      have hPt := ok.und t dt (R.of_ok.1 hdt)
      split at hb
      · rename_i e
        obtain ⟨n, hn, hb⟩ := R.bind_ok.1 hb
        obtain ⟨by_, hby, hb⟩ := R.bind_ok.1 hb
        obtain ⟨_, hnz, hb⟩ := R.bind_ok.1 hb
        obtain ⟨⟨m, news⟩, hs, hb⟩ := R.bind_ok.1 hb
        have hnz : n ≠ 0 := by
          have := R.check_ok.1 hnz
          rintro rfl; simp at this
        have hm : srcLen [x, y] = m := by
          cases y <;> simp only [source] at hs <;> (try cases hs) <;> (try rfl)
          · obtain ⟨_, _, hs⟩ := R.bind_ok.1 hs
            cases hs; rfl
          · obtain ⟨_, _, hs⟩ := R.bind_ok.1 hs
            cases hs; rfl
        have hel : P.elem (argTypes.getD 0 0) = e := by
          have : argTypes.getD 0 0 = t := by
            rw [Array.getD_eq_getD_getElem?, ht]; rfl
          rw [this]; simp [Program.elem, hPt]
        have hE' : h.next < h'.next → E.blk h.next = (appNew w (conc E x) m e).1 ∧ E.cap h.next = (appNew w (conc E x) m e).2 := by
          intro hlt
          have := hE hlt
          simp only [bnew, hm, hel, concL_cons, List.getElem?_cons_zero, Option.getD_some] at this
          exact this
        obtain ⟨h1, w', h2, h3, h4⟩ := appendOp_run ok H (ty := ty) (argTypes := argTypes) (Y := conc E y) hn hnz (R.of_ok.1 hby)
          (fun i hi => by
            obtain ⟨i', hi', hin⟩ := ok.siz _ _ (R.of_ok.1 hn)
            rw [hi] at hi'; cases hi'
            exact AppSrc.of_source ht hu hPt hPu (fun k e => hni k e) hi hin hs) hb hE'
        refine ⟨h1, w', ?_, h3, h4⟩
        simp only [Go.builtin, Sem.run_bind]
        have : (concL E [x, y]).toArray = #[conc E x, conc E y] := rfl
        rw [this, h2]
        rfl
      · cases hb
  · -- copy
    rename_i x y
    obtain ⟨t, ht, hb⟩ := R.bind_ok.1 hb
    obtain ⟨u, hu, hb⟩ := R.bind_ok.1 hb
    have ht := R.of_ok.1 ht
    have hP := ok.und t u (R.of_ok.1 hu)
    split at hb
    · rename_i e
      obtain ⟨n, hn, hb⟩ := R.bind_ok.1 hb
      obtain ⟨⟨m, cs⟩, hs, hb⟩ := R.bind_ok.1 hb
      obtain ⟨hnl, hlen, hf⟩ := source_run (P := P) (E := E) (K := K) hs
      have hgo : ∀ (base : Option Addr) (dLen c : Nat), conc E x = .slice base dLen c → (Builtin.copy_ argTypes ty (concL E [x, y]).toArray).run P w =
          ((match base with
            | none => (Result.ok () w : Result Unit)
            | some a => (storeCells a (concL E (cs.take (Nat.min m dLen * n)))).run P w).andThen fun _ w' => .ok (Go.goInt (Nat.min m dLen)) w') := by
        intro base dLen c hx
        unfold Builtin.copy_
        have h2 : (concL E [x, y]).toArray = #[conc E x, conc E y] := rfl
        rw [h2]
        simp only [ht, List.getElem?_toArray, List.getElem?_cons_zero, List.getElem?_cons_succ, Sem.run_bind, underlying, run_program, Result.andThen_ok, hP, Sem.run_pure, hx, hlen, siz_run ok hn,
          hf w H (Nat.min m dLen) (Nat.min_le_left _ _)]
        cases base <;> simp [Result.andThen]
      cases x with
      | nils =>
        simp only at hb
        cases hb
        refine ⟨by omega, w, ?_, H, Kept.refl K w⟩
        simp only [Go.builtin, Sem.run_bind]
        rw [hgo none 0 0 rfl]
        simp [Result.andThen, goInt, conc, Go.goInt]
      | emp b off l n' k =>
        simp only at hb
        cases hb
        refine ⟨by omega, w, ?_, H, Kept.refl K w⟩
        simp only [Go.builtin, Sem.run_bind]
        rw [hgo _ 0 _ rfl]
        simp [Result.andThen, goInt, conc, Go.goInt, storeCells]
      | sl b off len cap =>
        simp only at hb
        obtain ⟨h2, hw, hb⟩ := R.bind_ok.1 hb
        cases hb
        obtain ⟨w', hst, H', hk⟩ := writeN_run (P := P) H hw
        refine ⟨by rw [writeN_next hw]; omega, w', ?_, H', hk⟩
        simp only [Go.builtin, Sem.run_bind]
        rw [hgo _ len _ rfl]
        simp only [hst, Result.andThen_ok]
        rfl
      | _ => cases hb
    · cases hb
  · -- clear
    rename_i x
    obtain ⟨t, ht, hb⟩ := R.bind_ok.1 hb
    obtain ⟨u, hu, hb⟩ := R.bind_ok.1 hb
    have ht := R.of_ok.1 ht
    have hP := ok.und t u (R.of_ok.1 hu)
    have h2 : (concL E [x]).toArray = #[conc E x] := rfl
    split at hb
    · cases hb
      refine ⟨by omega, w, ?_, H, Kept.refl K w⟩
      simp [Go.builtin, Builtin.clear_, ht, underlying, hP, conc]
    · cases hb
      refine ⟨by omega, w, ?_, H, Kept.refl K w⟩
      simp [Go.builtin, Builtin.clear_, ht, underlying, hP, conc]
    · cases hb
      refine ⟨by omega, w, ?_, H, Kept.refl K w⟩
      simp [Go.builtin, Builtin.clear_, ht, underlying, hP, conc]
    · obtain ⟨⟨es, c⟩, hm, hb⟩ := R.bind_ok.1 hb
      cases hb
      have hm := mapAt_ok hm
      have hw := H.map hm
      have hnr : ¬ (AO.mp es c).ro := fun h => h
      refine ⟨by simp, _, ?_, H.put hm hnr (c := .map #[] c) rfl, H.kept_put hm hnr _⟩
      simp only [Go.builtin, Builtin.clear_, h2, ht, List.getElem?_toArray, List.getElem?_cons_zero, Sem.run_bind, underlying, run_program, Result.andThen_ok, hP, Sem.run_pure, conc, run_getMap hw, run_setMap hw]
      rfl
    · rename_i e b off len cap _ _
      obtain ⟨z, hz, hb⟩ := R.bind_ok.1 hb
      obtain ⟨zc, hzc, hb⟩ := R.bind_ok.1 hb
      obtain ⟨h2', hw, hb⟩ := R.bind_ok.1 hb
      cases hb
      obtain ⟨w', hst, H', hk⟩ := writeN_run (P := P) H hw
      refine ⟨by rw [writeN_next hw]; omega, w', ?_, H', hk⟩
      have hzz : Builtin.zeroCells (conc E z).cells len = (concL E (rep len zc)).toArray := by
        rw [cells_ok hzc, concL_rep]
        by_cases h0 : 0 < zc.length
        · exact zeroCells_eq len _ (by simpa using h0)
        · have : zc = [] := List.eq_nil_of_length_eq_zero (by omega)
          subst this
          have : repV len [] = [] := List.eq_nil_of_length_eq_zero (by simp [repV_length])
          simp [Builtin.zeroCells, this]
      simp only [Go.builtin, Builtin.clear_, h2, ht, List.getElem?_toArray, List.getElem?_cons_zero, Sem.run_bind, underlying, run_program, Result.andThen_ok, hP, Sem.run_pure, conc]
      cases len with
      | zero =>
        simp only [rep, concL_nil, storeCells] at hst
        cases hst
        rfl
      | succ len =>
        simp only [Sem.run_bind, zero_run ok hz E, Result.andThen_ok, hzz, List.toList_toArray, hst, Sem.run_pure]
        rfl
    · cases hb
  · -- delete
    rename_i m k
    obtain ⟨t, ht, hb⟩ := R.bind_ok.1 hb
    obtain ⟨h2, hd, hb⟩ := R.bind_ok.1 hb
    cases hb
    obtain ⟨h3, w', h4, h5, h6⟩ := delete_run ok H (ty := ty) (R.of_ok.1 ht) hd
    refine ⟨by omega, w', ?_, h5, h6⟩
    have : (concL E [m, k]).toArray = #[conc E m, conc E k] := rfl
    simp only [Go.builtin, Sem.run_bind, this, h4, Result.andThen_ok, Sem.run_pure]
    rfl
  · -- unsafe.SliceData
    obtain ⟨h1, h2⟩ := sliceData_run (P := P) H (type := ty) (argTypes := argTypes) hb
    subst h1
    refine ⟨by omega, w, ?_, H, Kept.refl K w⟩
    simp only [Go.builtin, Sem.run_bind]
    rw [show ∀ x : AV, (concL E [x]).toArray = #[conc E x] from fun _ => rfl, h2]
    rfl
  · -- unsafe.String
    obtain ⟨t, ht, hb⟩ := R.bind_ok.1 hb
    obtain ⟨h1, w', h2, h3, h4⟩ := unsafeString_run ok H (ty := ty) (R.of_ok.1 ht) hb
    refine ⟨by omega, w', ?_, h3, h4⟩
    simp only [Go.builtin, Sem.run_bind]
    rw [show ∀ x y : AV, (concL E [x, y]).toArray = #[conc E x, conc E y] from fun _ _ => rfl, h2]
    rfl
  · -- min
    obtain ⟨v', hv, hb⟩ := R.bind_ok.1 hb
    cases hb
    refine ⟨by omega, w, ?_, H, Kept.refl K w⟩
    simp only [Go.builtin, Sem.run_bind, Builtin.min_, List.toList_toArray, concL_cons, conc]
    rw [minInt_run _ _ _ hv]
    rfl
  · obtain ⟨v', hv, hb⟩ := R.bind_ok.1 hb
    cases hb
    refine ⟨by omega, w, ?_, H, Kept.refl K w⟩
    simp only [Go.builtin, Sem.run_bind, Builtin.max_, List.toList_toArray, concL_cons, conc]
    rw [maxInt_run _ _ _ hv]
    rfl
  · cases hb
end
end Go.Am
