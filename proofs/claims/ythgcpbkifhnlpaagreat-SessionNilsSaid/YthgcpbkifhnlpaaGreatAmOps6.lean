/- An evaluator over abstract values, proved sound over the model's machine; no condition. Part: Ops6. -/
import Derived.Test.YthgcpbkifhnlpaaGreatAmOps5
set_option linter.unusedSimpArgs false
set_option linter.unusedVariables false
set_option linter.unusedSectionVars false
set_option linter.deprecated false
namespace Go.Am
open Go.RowKit

section
variable {P : Program} {tab : Tab} (ok : TabOK P tab) {E : Env} {h : AH} {K : Nat → Prop} {w : World}

/-! ## append, copy -/
theorem source_run {n m : Nat} {y : AV} {news : List AV} (hs : source h n y = .ok (m, news)) :
    news.length = m * n ∧ (∀ w : World, (Builtin.lenOf (conc E y)).run P w = .ok m w) ∧
    ∀ w : World, HOK E h K w → ∀ k, k ≤ m → (Builtin.firstCells n k (conc E y)).run P w = .ok (concL E (news.take (k * n))).toArray w := by
  cases y <;> simp only [source] at hs <;> (try cases hs)
  case str s =>
    obtain ⟨_, h1, hsz⟩ := R.bind_ok.1 hs
    clear hs; have hs := hsz; clear hsz
    cases hs
    have h1 := Nat.eq_of_beq_eq_true (R.check_ok.1 h1)
    subst h1
    refine ⟨by simp [ofBytes], fun w => by simp [conc, Builtin.lenOf, size_mk], fun w _ k hk => ?_⟩
    simp only [conc, Builtin.firstCells, extract_mk, Sem.run_pure, Nat.mul_one, List.drop_zero, Nat.sub_zero, concL_take, concL_ofBytes]
    simp [List.map_take]
  case nils =>
    refine ⟨by simp, fun w => by simp [conc, Builtin.lenOf], fun w _ k hk => by simp [conc, Builtin.firstCells]⟩
  case sl b off len cap =>
    obtain ⟨cs, hcs, hsz⟩ := R.bind_ok.1 hs
    clear hs; have hs := hsz; clear hsz
    cases hs
    obtain ⟨cs0, e, sz, ext, bk, hc, hl, rfl⟩ := readN_ok hcs
    refine ⟨by simp; omega, fun w => by simp [conc, Builtin.lenOf], fun w H k hk => ?_⟩
    simp only [conc, Builtin.firstCells]
    have hk' : k * n ≤ m * n := Nat.mul_le_mul_right _ hk
    have hr : readN h b off (k * n) = .ok ((cs0.drop off).take (k * n)) := by
      unfold readN cellsAt
      rw [hc]
      simp only [R.bind_ok]
      exact ⟨_, rfl, (), by rw [R.check_ok]; exact Nat.ble_eq_true_of_le (show off + k * n ≤ cs0.length by omega), rfl⟩
    rw [H.run_readN hr]
    congr 2
    rw [List.take_take]
    congr 1
    rw [Nat.min_eq_left hk']
  case emp b off l n' k' =>
    refine ⟨by simp, fun w => by simp [conc, Builtin.lenOf], fun w _ k hk => ?_⟩
    have : k = 0 := by omega
    subst this
    simp [conc, Builtin.firstCells, loadCells, loadCellsFrom]

theorem notInt : ∀ d : TypeDesc, (∀ k, d ≠ .int k) → (match d with | .int _ => true | _ => false) = false := by
  intro d hd
  cases d <;> first | rfl | exact absurd rfl (hd _)
theorem append_room {argTypes : Array TypeId} {t u ty e : TypeId} {du : TypeDesc} {i : TypeInfo} (h0 : argTypes[0]? = some t) (h1 : argTypes[1]? = some u)
    (ht : P.underlying t = some (.slice e)) (hu : P.underlying u = some du) (hnz : ∀ k, du ≠ .int k) (hi : P.info? e = some i)
    {base : Option Addr} {sLen sCap m : Nat} {Y : Value} {news : Array Value} (hlen : (Builtin.lenOf Y).run P w = .ok m w)
    (hf : (Builtin.firstCells i.size m Y).run P w = .ok news w) (hroom : sLen + m ≤ sCap) :
    (Builtin.append_ argTypes ty #[.slice base sLen sCap, Y]).run P w =
      (match base with
        | none => (Result.ok () w : Result Unit)
        | some a => (storeCells (a.add (sLen * i.size)) news.toList).run P w).andThen fun _ w' => .ok (.slice base (sLen + m) sCap) w' := by
  unfold Builtin.append_
  simp only [h0, h1, List.getElem?_toArray, List.getElem?_cons_zero, List.getElem?_cons_succ]
  simp only [Sem.run_bind, underlying, run_program, Result.andThen_ok, ht, hu, Sem.run_pure, sizeOf, typeInfo, hi, Bool.false_eq_true, if_false, hlen, Bool.not_false, if_true, if_pos hroom, hf]
  cases base <;> simp [Result.andThen]

theorem append_grow {argTypes : Array TypeId} {t u ty e : TypeId} {du : TypeDesc} {i : TypeInfo} {z : Value} (h0 : argTypes[0]? = some t) (h1 : argTypes[1]? = some u)
    (ht : P.underlying t = some (.slice e)) (hu : P.underlying u = some du) (hnz : ∀ k, du ≠ .int k) (hi : P.info? e = some i) (hzero : i.zero = some z)
    {base : Option Addr} {sLen sCap m : Nat} {Y : Value} {olds news : Array Value} (hlen : (Builtin.lenOf Y).run P w = .ok m w)
    (hf : (Builtin.firstCells i.size m Y).run P w.drew = .ok news w.drew) (ho : (Builtin.firstCells i.size sLen (.slice base sLen sCap)).run P w.drew = .ok olds w.drew)
    (hroom : ¬ sLen + m ≤ sCap) (h63 : sLen + m ≤ 16777216) (hb : (sLen + m) * i.bytes ≤ 16777216) :
    (Builtin.append_ argTypes ty #[.slice base sLen sCap, Y]).run P w =
      .ok (.slice (some ⟨w.heap.size, 0, none⟩) (sLen + m) (grownCap w (sLen + m) sCap e))
        (w.drew.alloc (.cells (olds ++ news ++ Builtin.zeroCells z.cells (grownCap w (sLen + m) sCap e - (sLen + m))) e)) := by
  have hfit := growslice_fits (need := sLen + m) (old := sCap) (bytes := i.bytes) (by omega) (by omega)
  have h63' : ¬ (((sLen + m : Nat) : Int) > IntKind.i64.max ∧ (False ∨ i.bytes = 0)) := by
    have : IntKind.i64.max = 9223372036854775807 := by decide
    rw [this]; omega
  have hfit' : ¬ (Builtin.nextslicecap (sLen + m) sCap * i.bytes > 2 ^ 48) := by
    have : (2 : Nat) ^ 48 = 281474976710656 := by decide
    rw [this]; omega
  have hq : (Question.appendCap (sLen + m) sCap e).cut (w.tape w.drawn (.appendCap (sLen + m) sCap e)) = grownCap w (sLen + m) sCap e := rfl
  unfold Builtin.append_
  simp only [h0, h1, List.getElem?_toArray, List.getElem?_cons_zero, List.getElem?_cons_succ]
  simp only [Sem.run_bind, underlying, run_program, Result.andThen_ok, ht, hu, Sem.run_pure, sizeOf, typeInfo, hi, Bool.false_eq_true, if_false, hlen, Bool.not_false, if_true, if_neg hroom]
  rw [if_neg (by simpa using h63')]
  simp only [Sem.run_bind, run_program, Result.andThen_ok, hi, Sem.run_pure]
  rw [if_neg hfit']
  simp only [Sem.run_bind, run_choose, Question.forced, Bool.false_eq_true, if_false, Result.andThen_ok, hq, World.drew_eq, run_askRoom, ho, hf, zeroValue, typeInfo, run_program, hi, hzero, Sem.run_pure, run_newRow, World.size_drew]

theorem zeroOk_ok (ok : TabOK P tab) {e : TypeId} {n : Nat} {u : Unit} (hz : zeroOk tab e n = .ok u) :
    ∃ z, (∀ E, ∀ i, P.info? e = some i → i.zero = some (conc E z)) ∧ ∀ E, (conc E z).cells.size = n := by
  unfold zeroOk at hz
  obtain ⟨z, h1, hzz⟩ := R.bind_ok.1 hz
  clear hz; have hz := hzz; clear hzz
  obtain ⟨zc, h2, hzz⟩ := R.bind_ok.1 hz
  clear hz; have hz := hzz; clear hzz
  have h3 := Nat.eq_of_beq_eq_true (R.check_ok.1 hz)
  obtain ⟨i, hi, hzz⟩ := ok.zer _ _ (R.of_ok.1 h1)
  refine ⟨z, fun E i' hi' => ?_, fun E => ?_⟩
  · rw [hi] at hi'; cases hi'; exact hzz E
  · rw [cells_ok h2]; simpa using h3
/-- A new block of these cells and of more, of which nothing is known. -/
theorem new_ext (H : HOK E h K w) (hE : E.blk h.next = w.heap.size) (cs : List AV) (e : TypeId) (n c : Nat) {zs : Array Value} (hc : E.cap h.next = c)
    (hs : cs.length + zs.size = c * n) :
    HOK E (h.new (.cells cs e n true .rw)) K (w.alloc (.cells ((concL E cs).toArray ++ zs) e)) ∧ Kept K w (w.alloc (.cells ((concL E cs).toArray ++ zs) e)) :=
  ⟨H.new hE ⟨_, _, rfl, ⟨zs.toList, by simp⟩, by simp [hc]; exact hs, rfl⟩, Kept.alloc H.kb _⟩

theorem new_ext' (H : HOK E h K w) (hE : E.blk h.next = w.heap.size) (cs : List AV) (e : TypeId) (n c : Nat) (bk : BK) (hbk : ∀ n, marks bk (0, 0) n) {zs : Array Value} (hc : E.cap h.next = c)
    (hs : cs.length + zs.size = c * n) :
    HOK E (h.new (.cells cs e n true bk)) K (w.alloc (.cells ((concL E cs).toArray ++ zs) e)) ∧ Kept K w (w.alloc (.cells ((concL E cs).toArray ++ zs) e)) :=
  ⟨H.new hE ⟨_, _, rfl, ⟨zs.toList, by simp⟩, by simp [hc]; exact hs, hbk _⟩, Kept.alloc H.kb _⟩

/-- What the new abstract block of an append stands for, by the concrete slice that is appended to. -/
def appNew (w : World) (X : Value) (m : Nat) (e : TypeId) : Nat × Nat :=
  match X with
  | .slice base n c => if n + m ≤ c then ((base.map (·.block)).getD 0, c) else (w.heap.size, grownCap w (n + m) c e)
  | _ => (0, 0)

/-- What is appended. -/
structure AppSrc (P : Program) (E : Env) (h : AH) (K : Nat → Prop) (argTypes : Array TypeId) (ty e : TypeId) (i : TypeInfo) (Y : Value) (m : Nat) (news : List AV) : Prop where
  len : news.length = m * i.size
  room : ∀ (w : World), HOK E h K w → ∀ (base : Option Addr) (sLen sCap : Nat), sLen + m ≤ sCap →
    (Builtin.append_ argTypes ty #[.slice base sLen sCap, Y]).run P w =
      (match base with
        | none => (Result.ok () w : Result Unit)
        | some a => (storeCells (a.add (sLen * i.size)) (concL E news)).run P w).andThen fun _ w' => .ok (.slice base (sLen + m) sCap) w'
  grow : ∀ (w : World), HOK E h K w → ∀ (base : Option Addr) (sLen sCap : Nat) (olds : Array Value) (z : Value), i.zero = some z →
    (Builtin.firstCells i.size sLen (.slice base sLen sCap)).run P w.drew = .ok olds w.drew →
    ¬ sLen + m ≤ sCap → sLen + m ≤ 16777216 → (sLen + m) * i.bytes ≤ 16777216 →
    (Builtin.append_ argTypes ty #[.slice base sLen sCap, Y]).run P w =
      .ok (.slice (some ⟨w.heap.size, 0, none⟩) (sLen + m) (grownCap w (sLen + m) sCap e))
        (w.drew.alloc (.cells (olds ++ (concL E news).toArray ++ Builtin.zeroCells z.cells (grownCap w (sLen + m) sCap e - (sLen + m))) e))

theorem AppSrc.of_source {argTypes : Array TypeId} {t u ty e : TypeId} {du : TypeDesc} {i : TypeInfo} (h0 : argTypes[0]? = some t) (h1 : argTypes[1]? = some u)
    (ht : P.underlying t = some (.slice e)) (hu : P.underlying u = some du) (hnz : ∀ k, du ≠ .int k) (hi : P.info? e = some i) {n m : Nat} (hin : i.size = n)
    {y : AV} {news : List AV} (hs : source h n y = .ok (m, news)) : AppSrc P E h K argTypes ty e i (conc E y) m news := by
  obtain ⟨hnl, hlen, hf⟩ := source_run (P := P) (E := E) (K := K) hs
  have hfm : ∀ w : World, HOK E h K w → (Builtin.firstCells i.size m (conc E y)).run P w = .ok (concL E news).toArray w := by
    intro w H
    have := hf w H m (Nat.le_refl _)
    rw [List.take_of_length_le (by omega)] at this
    rw [hin]; exact this
  refine ⟨by rw [hin]; exact hnl, ?_, ?_⟩
  · intro w H base sLen sCap hr
    rw [append_room h0 h1 ht hu hnz hi (hlen w) (hfm w H) hr]
  · intro w H base sLen sCap olds z hz ho hr h63 hb
    exact append_grow h0 h1 ht hu hnz hi hz (hlen w) (hfm w.drew H.drew) ho hr h63 hb

theorem AppSrc.of_make {argTypes : Array TypeId} {t u ty e : TypeId} {k : IntKind} {i : TypeInfo} (h0 : argTypes[0]? = some t) (h1 : argTypes[1]? = some u)
    (ht : P.underlying t = some (.slice e)) (hu : P.underlying u = some (.int k)) (hi : P.info? e = some i) {z : AV} (hz : i.zero = some (conc E z)) {zc : List AV} (hzc : z.cells = .ok zc)
    (hzl : zc.length = i.size) (hi0 : i.size ≠ 0) {y : AV} {m : Nat} (hy : asNat y = .ok m) (hm : m ≤ 1048576) (hmb : m * i.bytes ≤ 16777216) : AppSrc P E h K argTypes ty e i (conc E y) m (rep m zc) := by
  obtain ⟨ky, rfl⟩ := asNat_ok hy
  have hzz : Builtin.zeroCells (conc E z).cells m = (concL E (rep m zc)).toArray := by
    rw [cells_ok hzc, concL_rep]
    exact zeroCells_eq m _ (by simp; omega)
  have hrl : (rep m zc).length = m * i.size := by
    have := congrArg List.length (concL_rep E m zc)
    rw [concL_length, repV_length, concL_length, hzl] at this
    exact this
  have hwrap : IntKind.i64.wrap (m : Int) = m := by rw [IntKind.wrap_i64]; omega
  have hb48 : ¬ ((m : Int) * (i.bytes : Int) > 2 ^ 48) := by
    have h3 : ((m * i.bytes : Nat) : Int) ≤ ((16777216 : Nat) : Int) := Int.ofNat_le.2 hmb
    rw [Int.natCast_mul] at h3
    omega
  have happ : ∀ w : World, (if m * i.size = 0 then pure #[] else do pure (Builtin.zeroCells (← zeroValue e).cells m) : Sem (Array Value)).run P w = .ok (concL E (rep m zc)).toArray w := by
    intro w
    by_cases h00 : m * i.size = 0
    · rw [if_pos h00]
      have : rep m zc = [] := List.eq_nil_of_length_eq_zero (by rw [hrl, h00])
      rw [this]; rfl
    · rw [if_neg h00]
      simp only [Sem.run_bind, zeroValue, typeInfo, run_program, Result.andThen_ok, hi, hz, Sem.run_pure, hzz]
  refine ⟨hrl, ?_, ?_⟩
  · intro w H base sLen sCap hr
    unfold Builtin.append_
    simp only [h0, h1, List.getElem?_toArray, List.getElem?_cons_zero, List.getElem?_cons_succ]
    simp only [Sem.run_bind, underlying, run_program, Result.andThen_ok, ht, hu, Sem.run_pure, sizeOf, typeInfo, hi, if_true, conc, Go.asInt, Go.asIntOf, hwrap]
    rw [if_neg (by omega)]
    simp only [Sem.run_bind, run_program, Result.andThen_ok, hi, Sem.run_pure]
    rw [if_neg hb48]
    simp only [Sem.run_bind, Sem.run_pure, Result.andThen_ok, Int.toNat_natCast, if_pos hr, Bool.not_true, Bool.false_eq_true, if_false]
    have := happ w
    simp only [zeroValue, typeInfo] at this
    simp only [zeroValue, typeInfo]
    rw [this]
    cases base <;> simp [Result.andThen]
  · intro w H base sLen sCap olds z' hz' ho hr h63 hb
    rw [hz] at hz'
    cases hz'
    have hfit := growslice_fits (need := sLen + m) (old := sCap) (bytes := i.bytes) (by omega) (by omega)
    have h63' : ¬ (((sLen + m : Nat) : Int) > IntKind.i64.max ∧ (True ∨ i.bytes = 0)) := by
      have : IntKind.i64.max = 9223372036854775807 := by decide
      rw [this]; omega
    have hfit' : ¬ (Builtin.nextslicecap (sLen + m) sCap * i.bytes > 2 ^ 48) := by
      have : (2 : Nat) ^ 48 = 281474976710656 := by decide
      rw [this]; omega
    have hq : (Question.appendCap (sLen + m) sCap e).cut (w.tape w.drawn (.appendCap (sLen + m) sCap e)) = grownCap w (sLen + m) sCap e := rfl
    unfold Builtin.append_
    simp only [h0, h1, List.getElem?_toArray, List.getElem?_cons_zero, List.getElem?_cons_succ]
    simp only [Sem.run_bind, underlying, run_program, Result.andThen_ok, ht, hu, Sem.run_pure, sizeOf, typeInfo, hi, if_true, conc, Go.asInt, Go.asIntOf, hwrap]
    rw [if_neg (by omega)]
    simp only [Sem.run_bind, run_program, Result.andThen_ok, hi, Sem.run_pure]
    rw [if_neg hb48]
    simp only [Sem.run_bind, Sem.run_pure, Result.andThen_ok, Int.toNat_natCast, if_neg hr, Bool.not_true, Bool.false_eq_true, if_false, run_program, hi]
    rw [if_neg h63']
    simp only [Sem.run_bind, run_program, Result.andThen_ok, hi, Sem.run_pure]
    rw [if_neg hfit']
    simp only [Sem.run_bind, run_choose, Question.forced, Bool.false_eq_true, if_false, Result.andThen_ok, hq, World.drew_eq, run_program, hi, Sem.run_pure, run_askRoom, ho]
    have := happ w.drew
    simp only [zeroValue, typeInfo] at this
    simp only [zeroValue, typeInfo]
    rw [this]
    simp only [Sem.run_bind, Result.andThen_ok, run_program, hi, hz, Sem.run_pure, run_newRow, World.size_drew]

include ok
theorem appendOp_run (H : HOK E h K w) {argTypes : Array TypeId} {ty e : TypeId}
    {n by_ m : Nat} (hn : siz tab e = .ok n) (hn0 : n ≠ 0) (hby : tab.byt.get e = some by_)
    {x v : AV} {Y : Value} {news : List AV} {h' : AH} (hsrc : ∀ i, P.info? e = some i → AppSrc P E h K argTypes ty e i Y m news) (ha : appendOp tab h e n by_ x m news = .ok (v, h'))
    (hE : h.next < h'.next → E.blk h.next = (appNew w (conc E x) m e).1 ∧ E.cap h.next = (appNew w (conc E x) m e).2) :
    (h.next ≤ h'.next ∧ h'.next ≤ h.next + 1) ∧ ∃ w', (Builtin.append_ argTypes ty #[conc E x, Y]).run P w = .ok (conc E v) w' ∧ HOK E h' K w' ∧ Kept K w w' := by
  obtain ⟨i, hi, hin⟩ := ok.siz _ _ (R.of_ok.1 hn)
  obtain ⟨i', hi', hiby⟩ := ok.byt _ _ hby
  rw [hi] at hi'; cases hi'
  have hS := hsrc i hi
  have hnl : news.length = m * n := by rw [← hin]; exact hS.len
  unfold appendOp at ha
  split at ha
  · -- nil
    by_cases hm : Nat.beq m 0 = true
    · rw [hm] at ha
      cases ha
      have := Nat.eq_of_beq_eq_true hm
      subst this
      refine ⟨by omega, w, ?_, H, Kept.refl K w⟩
      simp only [conc]
      rw [hS.room w H _ _ _ (by omega)]
      rfl
    · have hm' : Nat.beq m 0 = false := Bool.eq_false_iff.2 hm
      rw [hm'] at ha
      simp only [cond_false] at ha
      obtain ⟨_, hc, haz⟩ := R.bind_ok.1 ha
      clear ha; have ha := haz; clear haz
      obtain ⟨_, hzo, haz⟩ := R.bind_ok.1 ha
      clear ha; have ha := haz; clear haz
      obtain ⟨⟨h2, b2⟩, hr, haz⟩ := R.bind_ok.1 ha
      clear ha; have ha := haz; clear haz
      cases ha
      obtain ⟨n', hn', rfl, rfl⟩ := newRow_ok hr
      rw [hn] at hn'; cases hn'
      have hc := R.check_ok.1 hc
      rw [Bool.and_eq_true] at hc
      have hc1 := Nat.le_of_ble_eq_true hc.1
      have hc2 := Nat.le_of_ble_eq_true hc.2
      have hm0 : ¬ m ≤ 0 := fun h => hm (by rw [Nat.le_zero.1 h]; rfl)
      obtain ⟨z, hz, hzl⟩ := zeroOk_ok ok hzo
      have hzi := hz E i hi
      obtain ⟨hE1, hE2⟩ := hE (by simp)
      simp only [conc, appNew, Nat.zero_add, if_neg hm0] at hE1 hE2
      have hrun := hS.grow w H none 0 0 #[] _ hzi
        (by simp [Builtin.firstCells]) (by omega) (by omega) (by rw [hiby]; simpa using hc1)
      simp only [Nat.zero_add, Array.empty_append] at hrun
      obtain ⟨H', hk⟩ := new_ext (w := w.drew) H.drew (by simpa using hE1) news e n (grownCap w m 0 e) (zs := Builtin.zeroCells (conc E z).cells (grownCap w m 0 e - m))
        (by rw [hE2]) (by
          have := grownCap_ge w m 0 e
          rw [size_zeroCells, hzl E, hnl, ← Nat.add_mul]
          congr 1
          omega)
      refine ⟨by simp, _, ?_, H', (Kept.drew K w).trans hk⟩
      simp only [conc, Cap.val, hE1, hE2, Nat.sub_zero]
      exact hrun
  · rename_i b off len cap
    obtain ⟨c, hc, haz⟩ := R.bind_ok.1 ha
    clear ha; have ha := haz; clear haz
    obtain ⟨⟨cs, e', sz, ext, bk⟩, hcs, haz⟩ := R.bind_ok.1 ha
    clear ha; have ha := haz; clear haz
    obtain ⟨_, hty, haz⟩ := R.bind_ok.1 ha
    clear ha; have ha := haz; clear haz
    obtain ⟨_, hsz, haz⟩ := R.bind_ok.1 ha
    clear ha; have ha := haz; clear haz
    have hcap := capLow_ok H hc
    have hcs := cellsAt_ok hcs
    have hty := R.check_ok.1 hty
    rw [Bool.and_eq_true] at hty
    have hty1 := Nat.eq_of_beq_eq_true hty.1
    have hty2 := Nat.eq_of_beq_eq_true hty.2
    subst hty1 hty2
    have hsz := R.check_ok.1 hsz
    rw [Bool.and_eq_true] at hsz
    have hsz1 := Nat.le_of_ble_eq_true hsz.1
    have hsz2 := Nat.le_of_ble_eq_true hsz.2
    by_cases hroom : Nat.ble (len + m) c = true
    · -- there is room
      rw [hroom] at ha
      simp only [cond_true] at ha
      obtain ⟨h2, hw, haz⟩ := R.bind_ok.1 ha
      clear ha; have ha := haz; clear haz
      cases ha
      have hle := Nat.le_of_ble_eq_true hroom
      obtain ⟨w', hst, H', hk⟩ := writeN_run (P := P) H hw
      refine ⟨by rw [writeN_next hw]; omega, w', ?_, H', hk⟩
      simp only [conc]
      rw [hS.room w H _ _ _ (by omega)]
      simp only [add_lit, hin]
      rw [hst]
      rfl
    · have hroom' : Nat.ble (len + m) c = false := Bool.eq_false_iff.2 hroom
      rw [hroom'] at ha
      simp only [cond_false] at ha
      obtain ⟨_, hold, haz⟩ := R.bind_ok.1 ha
      clear ha; have ha := haz; clear haz
      obtain ⟨_, hzo, haz⟩ := R.bind_ok.1 ha
      clear ha; have ha := haz; clear haz
      have hold := Nat.le_of_ble_eq_true (R.check_ok.1 hold)
      obtain ⟨z, hz, hzl⟩ := zeroOk_ok ok hzo
      have hzi := hz E i hi
      have hnr : ¬ len + m ≤ c := fun h => hroom (Nat.ble_eq_true_of_le h)
      have hro : ∀ w : World, HOK E h K w → (Builtin.firstCells i.size len (.slice (some ⟨E.blk b, off, none⟩) len (cap.val (E.cap b)))).run P w = .ok (concL E ((cs.drop off).take (len * sz))).toArray w := by
        intro w H
        rw [hin]
        have hr : readN h b off (len * sz) = .ok ((cs.drop off).take (len * sz)) := by
          unfold readN cellsAt
          rw [hcs]
          simp only [R.bind_ok]
          exact ⟨_, rfl, (), by rw [R.check_ok]; exact Nat.ble_eq_true_of_le (show off + len * sz ≤ cs.length by omega), rfl⟩
        exact H.run_readN hr
      have hol : ((cs.drop off).take (len * sz)).length = len * sz := by simp; omega
      cases cap with
      | lit cn =>
        simp only at ha
        obtain ⟨⟨h2, b2⟩, hr, haz⟩ := R.bind_ok.1 ha
        clear ha; have ha := haz; clear haz
        cases ha
        obtain ⟨n', hn', rfl, rfl⟩ := newRow_ok hr
        rw [hn] at hn'; cases hn'
        have hcn : c = cn := by simp only [capLow] at hc; cases hc; rfl
        subst hcn
        obtain ⟨hE1, hE2⟩ := hE (by simp)
        simp only [conc, appNew, Cap.val, if_neg hnr] at hE1 hE2
        have hrun := hS.grow w H (some ⟨E.blk b, off, none⟩) len c _ _ hzi
          (hro w.drew H.drew) hnr hsz2 (by rw [hiby]; exact hsz1)
        obtain ⟨H', hk⟩ := new_ext (w := w.drew) H.drew (by simpa using hE1) ((cs.drop off).take (len * sz) ++ news) e sz (grownCap w (len + m) c e) (zs := Builtin.zeroCells (conc E z).cells (grownCap w (len + m) c e - (len + m)))
          (by rw [hE2]) (by
            have := grownCap_ge w (len + m) c e
            rw [size_zeroCells, hzl E, List.length_append, hol, hnl, ← Nat.add_mul, ← Nat.add_mul]
            congr 1
            omega)
        refine ⟨by simp, _, ?_, H', (Kept.drew K w).trans hk⟩
        simp only [conc, Cap.val, hE1, hE2, Nat.sub_zero]
        rw [hrun]
        simp
      | tail k =>
        simp only at ha
        obtain ⟨_, htl, haz⟩ := R.bind_ok.1 ha
        clear ha; have ha := haz; clear haz
        obtain ⟨⟨h2, b2⟩, hr, haz⟩ := R.bind_ok.1 ha
        clear ha; have ha := haz; clear haz
        cases ha
        obtain ⟨n', hn', rfl, rfl⟩ := newRow_ok hr
        rw [hn] at hn'; cases hn'
        have htl := R.check_ok.1 htl
        simp only [Bool.and_eq_true] at htl
        obtain ⟨⟨⟨⟨htl1, htl2⟩, hext⟩, hbk⟩, hone⟩ := htl
        have htl1 := Nat.eq_of_beq_eq_true htl1
        have htl2 := Nat.eq_of_beq_eq_true htl2
        subst htl1 htl2
        have hbk : bk ≠ .ro := by simpa using hbk
        have hnro : ¬ (AO.cells cs e sz ext bk).ro := by cases bk <;> simp_all [AO.ro]
        obtain ⟨arr, fz, hh, ⟨rest, harr⟩, hasz, hm⟩ := H.cells hcs
        rw [if_pos hext] at hasz
        have hcl : cs.length ≤ arr.size := by
          have := congrArg List.length harr
          simp at this; omega
        obtain ⟨hE1, hE2⟩ := hE (by simp)
        simp only [conc, appNew, Cap.val, Nat.sub_zero] at hE1 hE2
        by_cases hfit : len + m ≤ E.cap b
        · rw [if_pos hfit] at hE1 hE2
          simp only [Option.map_some, Option.getD_some] at hE1 hE2
          have hbound : (len + m) * sz ≤ arr.size := by rw [hasz]; exact Nat.mul_le_mul_right _ hfit
          rw [Nat.add_mul] at hbound
          have hst := run_storeCells_fz (P := P) (E.blk b) (len * sz) e fz (concL E news) 0 arr w hh (marks_free hm hbk) (by simp; omega)
            (by
              intro v hv
              rw [concL_eq] at hv
              obtain ⟨u, hu, rfl⟩ := List.mem_map.1 hv
              exact oneCell_conc (List.all_eq_true.1 hone u hu))
          have e1 : (arr.toList.take (len * sz + 0) ++ concL E news ++ arr.toList.drop (len * sz + 0 + (concL E news).length)).length = arr.size := by
            simp; omega
          refine ⟨by simp, _, ?_, H.rename (c := .cells (arr.toList.take (len * sz + 0) ++ concL E news ++ arr.toList.drop (len * sz + 0 + (concL E news).length)).toArray e fz) hcs hnro hE1 ?_, H.kept_put hcs hnro _⟩
          · simp only [conc, Cap.val, Nat.sub_zero]
            rw [hS.room w H _ _ _ (by omega)]
            simp only [add_lit, hin, Nat.zero_add]
            rw [hst, AH.next_kill, hE1, hE2]
            rfl
          · refine ⟨_, fz, rfl, ⟨arr.toList.drop (len * sz + 0 + (concL E news).length), ?_⟩, ?_, ?_⟩
            · simp only [Nat.add_zero, concL_append, concL_take, harr]
              rw [List.take_append_of_le_length (by simp; omega)]
            · rw [if_pos rfl, List.size_toArray, e1, hE2]; exact hasz
            · rw [List.size_toArray, e1]
              cases bk with
              | rw => exact hm
              | mark => exact .inr hm
              | any => exact hm
              | ro => exact absurd rfl hbk
        · rw [if_neg hfit] at hE1 hE2
          have hrun := hS.grow w H (some ⟨E.blk b, 0, none⟩) len (E.cap b) _ _ hzi
            (by have := hro w.drew H.drew; simpa [Cap.val] using this) hfit hsz2 (by rw [hiby]; exact hsz1)
          obtain ⟨H', hk⟩ := new_ext' (w := w.drew) (h := h.kill b) (H.drew.kill b) (by simpa using hE1) (cs.take (len * sz) ++ news) e sz (grownCap w (len + m) (E.cap b) e)
            bk.grown (by cases bk <;> simp_all [marks, BK.grown])
            (zs := Builtin.zeroCells (conc E z).cells (grownCap w (len + m) (E.cap b) e - (len + m)))
            (by simpa using hE2) (by
              have := grownCap_ge w (len + m) (E.cap b) e
              rw [size_zeroCells, hzl E, List.length_append, hnl, List.length_take, Nat.min_eq_left (by omega), ← Nat.add_mul, ← Nat.add_mul]
              congr 1
              omega)
          refine ⟨by simp, _, ?_, H', (Kept.drew K w).trans hk⟩
          simp only [conc, Cap.val, AH.next_kill, hE1, hE2, Nat.sub_zero]
          rw [hrun]
          simp
  · cases ha
end
end Go.Am
