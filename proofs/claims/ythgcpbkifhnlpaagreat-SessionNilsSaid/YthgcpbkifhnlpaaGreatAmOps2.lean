/- An evaluator over abstract values, proved sound over the model's machine; no condition. Part: Ops2. -/
import Derived.Test.YthgcpbkifhnlpaaGreatAmOps1
set_option linter.unusedSimpArgs false
set_option linter.unusedVariables false
set_option linter.unusedSectionVars false
set_option linter.deprecated false
namespace Go.Am
open Go.RowKit

section
variable {P : Program} {tab : Tab} (ok : TabOK P tab) {E : Env} {h : AH} {K : Nat → Prop} {w : World}
include ok

theorem eqFields_run (d : Nat) (eq : TypeId → AV → AV → R Bool)
    (heq : ∀ t x y b, eq t x y = .ok b → ∀ w, (Op.equalIn d t (conc E x) (conc E y)).run P w = .ok b w) (xs ys : List AV) :
    ∀ (fs : List Field) (b : Bool), eqFields tab eq xs ys fs = .ok b → ∀ w, (Op.eqFields d (concL E xs).toArray (concL E ys).toArray fs).run P w = .ok b w := by
  intro fs
  induction fs with
  | nil => intro b hb w; simp only [eqFields] at hb; cases hb; rfl
  | cons f fs ih =>
    intro b hb w
    simp only [eqFields] at hb
    by_cases hn : f.name ≠ "_"
    · rw [if_pos hn] at hb
      obtain ⟨a, ha, hb⟩ := R.bind_ok.1 hb
      obtain ⟨c, hc, hb⟩ := R.bind_ok.1 hb
      obtain ⟨r, hr, hb⟩ := R.bind_ok.1 hb
      simp only [Op.eqFields, if_pos hn, Sem.run_bind, part_run ok ha, part_run ok hc, heq _ _ _ _ hr, Result.andThen_ok]
      cases r with
      | true => simp only [if_true] at hb; simpa using ih b hb w
      | false => simp only [Bool.false_eq_true, if_false] at hb; cases hb; simp
    · rw [if_neg hn] at hb
      simp only [Op.eqFields, if_neg hn]
      exact ih b hb w

theorem eqT_run : ∀ (d : Nat) (t : TypeId) (x y : AV) (b : Bool), eqT tab d t x y = .ok b → ∀ (k : Nat) (w : World),
    (Op.equalIn (d + k) t (conc E x) (conc E y)).run P w = .ok b w := by
  intro d
  induction d with
  | zero => intro t x y b hb; cases hb
  | succ d ih =>
    intro t x y b hb k w
    simp only [eqT] at hb
    obtain ⟨u, hu, hb⟩ := R.bind_ok.1 hb
    have hP := ok.und t u (R.of_ok.1 hu)
    rw [show d + 1 + k = (d + k) + 1 from by omega]
    have hagg : ∀ xs ys fs, x = .agg xs → y = .agg ys → u = .struct fs → tab.held.get t = some false → eqFields tab (eqT tab d) xs ys fs.toList = .ok b →
        (Op.equalIn (d + k + 1) t (conc E x) (conc E y)).run P w = .ok b w := by
      intro xs ys fs hx hy hu' hheld hb2
      subst hx hy hu'
      have hf : P.fieldsOf t = fs := by simp [Program.fieldsOf, hP]
      simp only [conc]
      rw [run_equalIn_struct w (d + k) t _ _ (by rw [hf]; exact hP) (ok.held t false hheld), hf]
      exact eqFields_run ok (d + k) (eqT tab d) (fun t x y b h w => ih t x y b h k w) xs ys fs.toList b hb2 w
    split at hb
    case h_20 =>
      split at hb
      · exact hagg _ _ _ rfl rfl rfl (by assumption) hb
      · cases hb
    all_goals
      clear hagg ih
      simp only [Op.equalIn, underlying, Sem.run_bind, run_program, Result.andThen_ok, hP, Sem.run_pure, conc]
    all_goals
      first
      | (cases hb; done)
      | (cases hb; rfl)
      | (split at hb
         · cases hb
           rename_i e
           subst e
           rw [if_pos rfl]
           try rfl
         · cases hb)
      | (cases hb
         rw [beq_toListBytes, toList_mk, toList_mk])

omit ok in
theorem eqT_rawl {d : Nat} (t : TypeId) (v : Value) (y : AV) (b : Bool) : eqT tab (d + 1) t (.raw v) y ≠ .ok b := by
  intro hb
  simp only [eqT] at hb
  obtain ⟨u, hu, hb⟩ := R.bind_ok.1 hb
  cases hb
omit ok in
theorem eqT_rawr {d : Nat} (t : TypeId) (v : Value) (x : AV) (b : Bool) : eqT tab (d + 1) t x (.raw v) ≠ .ok b := by
  intro hb
  simp only [eqT] at hb
  obtain ⟨u, hu, hb⟩ := R.bind_ok.1 hb
  cases x <;> cases hb

omit ok in
theorem rw_frozen (H : HOK E h K w) {b : Nat} {cs : List AV} {e : TypeId} {sz : Nat} {ext : Bool} (hc : h.get b = some (.cells cs e sz ext .rw)) (i : Nat) :
    w.frozen? ⟨E.blk b, i, none⟩ = false := by
  obtain ⟨arr, fz, h1, _, _, hm⟩ := H.cells hc
  simp only [marks] at hm
  subst hm
  simp [World.frozen?, h1]
omit ok in
theorem rw_shape (H : HOK E h K w) {b : Nat} {cs : List AV} {e : TypeId} {sz : Nat} {ext : Bool} {bk : BK} (hc : h.get b = some (.cells cs e sz ext bk)) :
    ∃ n, w.shape? (E.blk b) = some (e, n) := by
  obtain ⟨arr, fz, h1, _⟩ := H.cells hc
  exact ⟨arr.size, by simp [World.shape?, h1]⟩
omit ok in
theorem noView_run (H : HOK E h K w) {b : Nat} {cs : List AV} {e : TypeId} {sz : Nat} {ext : Bool} {bk : BK} (hc : h.get b = some (.cells cs e sz ext bk)) (i : Nat) :
    (noView ⟨E.blk b, i, none⟩).run P w = .ok () w := by
  obtain ⟨n, hn⟩ := rw_shape H hc
  simp [noView, viewAt, hn]
omit ok in
theorem stringish_run (H : HOK E h K w) {b : Nat} {cs : List AV} {e : TypeId} {sz : Nat} {ext : Bool} (hc : h.get b = some (.cells cs e sz ext .rw)) (i : Nat) :
    (stringish ⟨E.blk b, i, none⟩).run P w = .ok false w := by
  obtain ⟨n, hn⟩ := rw_shape H hc
  simp [stringish, hn, rw_frozen H hc]
omit ok in
theorem mayBeOne_run (H : HOK E h K w) {b b' : Nat} {cs cs' : List AV} {e e' : TypeId} {sz sz' : Nat} {ext ext' : Bool}
    (hc : h.get b = some (.cells cs e sz ext .rw)) (hc' : h.get b' = some (.cells cs' e' sz' ext' .rw)) (i i' : Nat) :
    (mayBeOne ⟨E.blk b, i, none⟩ ⟨E.blk b', i', none⟩).run P w = .ok false w := by
  obtain ⟨n, hn⟩ := rw_shape H hc
  obtain ⟨n', hn'⟩ := rw_shape H hc'
  simp [mayBeOne, stringish_run H hc, stringish_run H hc', hn']

theorem eqOp_run (H : HOK E h K w) {t : TypeId} {x y : AV} {b : Bool} (hb : eqOp tab h t x y = .ok b) :
    (Op.equal t (conc E x) (conc E y)).run P w = .ok b w ∧
    (∀ op ox oy, (op = .eql ∨ op = .neq) → (eqGuard op t ox oy (conc E x) (conc E y)).run P w = .ok () w) := by
  unfold eqOp at hb
  split at hb
  · rename_i a i c j
    obtain ⟨u, hu, hb⟩ := R.bind_ok.1 hb
    have hP := ok.und t u (R.of_ok.1 hu)
    split at hb
    · rename_i e
      obtain ⟨n, hn, hb⟩ := R.bind_ok.1 hb
      obtain ⟨_, hz, hb⟩ := R.bind_ok.1 hb
      have hz := R.check_ok.1 hz
      have hn0 : n ≠ 0 := by
        rintro rfl; simp at hz
      refine ⟨?_, fun op ox oy ho => by rcases ho with rfl | rfl <;> simp [eqGuard, conc]⟩
      have hstep : (Op.equal t (conc E (.ptr a i)) (conc E (.ptr c j))).run P w = (sameAddr ⟨E.blk a, i, none⟩ ⟨E.blk c, j, none⟩).run P w := by
        have key : ∀ n, (Op.equalIn (n + 1) t (conc E (.ptr a i)) (conc E (.ptr c j))).run P w = (sameAddr ⟨E.blk a, i, none⟩ ⟨E.blk c, j, none⟩).run P w := by
          intro n
          simp only [Op.equalIn, underlying, Sem.run_bind, run_program, Result.andThen_ok, hP, Sem.run_pure, conc, siz_run ok hn, ne_eq, hn0, not_false_eq_true, if_true]
        exact key 9999
      rw [hstep]
      by_cases hac : Nat.beq a c = true
      · rw [if_pos hac] at hb
        cases hb
        have := Nat.eq_of_beq_eq_true hac
        subst this
        simp only [sameAddr, beq_self_eq_true, if_true, Sem.run_pure]
        congr 1
        rw [Bool.eq_iff_iff]
        simp [Nat.beq_eq]
      · rw [if_neg hac] at hb
        split at hb
        · rename_i h1 h2
          cases hb
          have hne : E.blk a ≠ E.blk c := fun e' => hac (by rw [H.inj a c _ _ h1 h2 (by simp [AO.ro]) e']; exact Nat.beq_refl c)
          simp [sameAddr, hne, rw_frozen H h1, noView_run H h1, noView_run H h2, mayBeOne_run H h1 h2]
        · cases hb
    · cases hb
  · rename_i xs ys
    split at hb
    · rename_i hg
      refine ⟨?_, fun op ox oy ho => ?_⟩
      · have := eqT_run ok (E := E) 8 t _ _ b hb 9992 w
        exact this
      · simp only [conc]
        exact run_eqGuard_agg w op t ox oy _ _ (ok.grd t false hg)
    · cases hb
  · cases hb
  · rename_i h1 h2 h3
    refine ⟨eqT_run ok (E := E) 8 t _ _ b hb 9992 w, fun op ox oy ho => ?_⟩
    have hrx : ∀ v, x ≠ .raw v := by
      rintro v rfl
      exact eqT_rawl t v y b hb
    have hry : ∀ v, y ≠ .raw v := by
      rintro v rfl
      exact eqT_rawr t v x b hb
    have hne : ∀ cs, conc E x = .agg cs → ∀ ds, conc E y = .agg ds → False := by
      intro cs hx ds hy
      cases x <;> simp only [conc] at hx <;> (try cases hx)
      · cases y <;> simp only [conc] at hy <;> (try cases hy)
        · exact h2 _ _ rfl rfl
        · exact hry _ rfl
      · exact hrx _ rfl
    have hni : conc E x = .nilIface → conc E y = .nilIface → False := by
      intro hx hy
      cases x <;> simp only [conc] at hx <;> (try cases hx)
      · cases y <;> simp only [conc] at hy <;> (try cases hy)
        · exact h3 rfl rfl
        · exact hry _ rfl
      · exact hrx _ rfl
    generalize conc E x = a at hne hni
    generalize conc E y = b at hne hni
    rcases ho with rfl | rfl <;> (unfold eqGuard; split)
    all_goals first
      | (exact absurd rfl (by simp))
      | skip
    all_goals simp_all

omit ok in
theorem guard_no {op : BinOp} (h1 : op ≠ .eql) (h2 : op ≠ .neq) (t : TypeId) (ox oy : Operand) (a b : Value) : (eqGuard op t ox oy a b).run P w = .ok () w := by
  cases op <;> simp_all [eqGuard]
omit ok in
theorem guard_int (op : BinOp) (t : TypeId) (ox oy : Operand) (k j : IntKind) (a b : Int) : (eqGuard op t ox oy (.int k a) (.int j b)).run P w = .ok () w := by
  cases op <;> simp [eqGuard]
omit ok in
theorem guard_str (op : BinOp) (t : TypeId) (ox oy : Operand) (a b : ByteArray) : (eqGuard op t ox oy (.string a) (.string b)).run P w = .ok () w := by
  cases op <;> simp [eqGuard]

omit ok in
theorem eqOp_raw {t : TypeId} {x y : AV} {b : Bool} (hb : eqOp tab h t x y = .ok b) : (∀ v, x ≠ .raw v) ∧ (∀ v, y ≠ .raw v) := by
  constructor
  · rintro v rfl
    unfold eqOp at hb
    exact eqT_rawl t v y b hb
  · rintro v rfl
    unfold eqOp at hb
    cases x <;> exact eqT_rawr t v _ b hb
omit ok in
theorem conc_other {x : AV} (hx : ∀ v, x ≠ .raw v) : (∀ k b, conc E x ≠ .float k b) ∧ (∀ k a b, conc E x ≠ .complex k a b) ∧
    (∀ k a, conc E x = .int k a → x = .int k a) ∧ (∀ s, conc E x = .string s → ∃ l, x = .str l) := by
  cases x <;> simp_all [conc]
omit ok in
theorem binOp_falls (t : TypeId) (x y : AV) (hi : ∀ k j a b, x = .int k a → y = .int j b → False) (hs : ∀ a b, x = .str a → y = .str b → False)
    (hx : ∀ v, x ≠ .raw v) (hy : ∀ v, y ≠ .raw v) :
    Go.binOp .eql t (conc E x) (conc E y) = (do pure (.bool (← Op.equal t (conc E x) (conc E y)))) ∧
    Go.binOp .neq t (conc E x) (conc E y) = (do pure (.bool (!(← Op.equal t (conc E x) (conc E y))))) := by
  obtain ⟨x1, x2, x3, x4⟩ := conc_other (E := E) hx
  obtain ⟨y1, y2, y3, y4⟩ := conc_other (E := E) hy
  generalize conc E x = X at *
  generalize conc E y = Y at *
  constructor
  · unfold Go.binOp
    split <;> simp_all
    · exact (hi _ _ _ _ rfl rfl rfl rfl).elim
    · obtain ⟨l, rfl⟩ := x4
      obtain ⟨m, rfl⟩ := y4
      exact (hs _ _ rfl rfl).elim
  · unfold Go.binOp
    split <;> simp_all
    · exact (hi _ _ _ _ rfl rfl rfl rfl).elim
    · obtain ⟨l, rfl⟩ := x4
      obtain ⟨m, rfl⟩ := y4
      exact (hs _ _ rfl rfl).elim

theorem binOp_run (H : HOK E h K w) {op : BinOp} {t : TypeId} {x y v : AV} (hb : binOp tab h op t x y = .ok v) (ox oy : Operand) :
    (do eqGuard op t ox oy (conc E x) (conc E y); Go.binOp op t (conc E x) (conc E y)).run P w = .ok (conc E v) w := by
  unfold binOp at hb
  split at hb
  · simp only [conc]
    rw [Sem.run_bind, guard_int]
    exact shiftOp_run (yk := .i64) hb
  · simp only [conc]
    rw [Sem.run_bind, guard_int]
    exact shiftOp_run (yk := .i64) hb
  · rename_i hs1 hs2
    split at hb
    · rename_i e
      subst e
      simp only [conc]
      rw [Sem.run_bind, guard_int]
      exact intOp_run hb t ⟨fun e => hs1 e, fun e => hs2 e⟩
    · cases hb
  · simp only [conc]
    rw [Sem.run_bind, guard_str]
    cases op <;> exact strOp_run (P := P) hb
  · obtain ⟨b, hb', hb⟩ := R.bind_ok.1 hb
    cases hb
    obtain ⟨h1, h2⟩ := eqOp_run ok H hb'
    rw [Sem.run_bind, h2 .eql ox oy (.inl rfl), Result.andThen_ok]
    rw [(binOp_falls (E := E) t x y (fun k j a b e1 e2 => by subst e1 e2; simp_all; exact ‹∀ (k_1 : IntKind) (a_1 : Int) (j_1 : IntKind) (b_1 : Int), k = k_1 → a = a_1 → j = j_1 → ¬ b = b_1› _ _ _ _ rfl rfl rfl rfl) (fun a b e1 e2 => by subst e1 e2; simp_all) (eqOp_raw hb').1 (eqOp_raw hb').2).1, Sem.run_bind, h1]
    simp [conc]
  · obtain ⟨b, hb', hb⟩ := R.bind_ok.1 hb
    cases hb
    obtain ⟨h1, h2⟩ := eqOp_run ok H hb'
    rw [Sem.run_bind, h2 .neq ox oy (.inr rfl), Result.andThen_ok]
    rw [(binOp_falls (E := E) t x y (fun k j a b e1 e2 => by subst e1 e2; simp_all; exact ‹∀ (k_1 : IntKind) (a_1 : Int) (j_1 : IntKind) (b_1 : Int), k = k_1 → a = a_1 → j = j_1 → ¬ b = b_1› _ _ _ _ rfl rfl rfl rfl) (fun a b e1 e2 => by subst e1 e2; simp_all) (eqOp_raw hb').1 (eqOp_raw hb').2).2, Sem.run_bind, h1]
    simp [conc]
  · cases hb
end
end Go.Am
