/- An evaluator over symbolic values, proved sound over the model's machine, and its use at this seat; no condition. Part 3. -/
import Derived.KernelRfl
import Derived.Lib.Bytealg
import Derived.WalkKit
import Derived.Laws.IdiomStrings
import Derived.Test.YtmfohfbdddlilaaGreatP2
set_option linter.unusedSimpArgs false
set_option linter.unusedVariables false
set_option linter.unusedSectionVars false
set_option linter.deprecated false
set_option maxRecDepth 100000
namespace Go.Proofs
open Go Go.Am Go.RowKit Go.Sy
variable [Inhabited DrP]
abbrev CO (f : FuncId) (C : Con) : Prop := Go.Sy.ConOK  Tryz.prog Tryz.tab f C
theorem qbE : ∀ g C, con0 g = some C -> CO g C := fun _ _ h => by cases h
theorem qam (i : Nat) (h : i < 1000000000) : inR .i64 ((i : Int) + 1) = true := by rw [qcv]; omega
theorem qrD (b : UInt8) : Int.ofNat b.toNat = nB b := rfl
theorem qqA (b : UInt8) : 0 <= nB b /\ nB b <= 255 := by
 have := b.toNat_lt; unfold nB; constructor
 · exact Int.natCast_nonneg _
 · show ((b.toNat : Nat) : Int) <= 255
   omega
theorem qlR {s : Bs} {c : Int} {i : Nat} (h : i < s.length) (h1 : nB s[i] = c) (h2 : ∀ (j : Nat) (h : j < s.length), j < i -> nB s[j] = c -> False) : qct s c = i := by
 have : posB s c = some i := posB_some.2 ⟨h, h1, fun j hj => h2 j (by omega) hj⟩; unfold qct; rw [this]
theorem qqc {s : Bs} {c : Int} (h2 : ∀ (j : Nat) (h : j < s.length), nB s[j] = c -> False) : qct s c = -1 := by
 have : posB s c = none := posB_none.2 h2; unfold qct; rw [this]
theorem qhO (s : Bs) (c : Int) (i : Nat) (hall : ∀ (j : Nat) (h : j < s.length), j < i -> nB s[j] = c -> False) (hi : i <= s.length) (h : ¬ (i : Int) < Int.ofNat s.length) : qct s c = -1 :=
 qqc fun j hj => hall j hj (by simp only [Int.ofNat_eq_natCast] at h; omega)
theorem quq : CO zz27 qmw := qae (cfg := fun y => cfgS con0 (qaL zz27 3 (qpn y))) zz1 (fun _ => rfl) (fun _ => qbE) (n := 400) (by
 rw [quZ]; rintro ⟨s, c⟩ hpre; simp only at hpre; refine ⟨⟨0, ⟨by simp, fun j h hj => by omega⟩, ⟨rfl, rfl, rfl, rfl, rfl, trivial⟩, trivial, trivial⟩, ?_⟩; rintro i ⟨hi, hall⟩; simp only [br_iff, so_iff, ck_iff, qan, decide_eq_true_eq, decide_eq_false_iff_not, and_true] at hi hall ⊢; refine ⟨fun hlt => ?_, fun hge => (qhO s c i hall hi hge).symm⟩; have hlt' : i < s.length := by simp only [Int.ofNat_eq_natCast] at hlt; omega
 refine ⟨s[i], by simp [hlt'], fun h1 => (qlR hlt' (by simpa [nB] using h1) hall).symm, fun h1 => ⟨qam i (by omega), i + 1, ⟨by omega, fun j h hj he => ?_⟩, ?_, by simp [eqI]⟩⟩
 · by_cases hji : j = i
   · subst hji; exact absurd he (by simpa [nB] using h1)
   · exact hall j h (by omega) he
 · show s.length - (i + 1) < s.length - i
   omega)
theorem qsN : CO zz29 qmw := qae (cfg := fun y => cfgS con0 (qaL zz29 2 (qlb y))) zz1 (fun _ => rfl) (fun _ => qbE) (n := 400) (by
 rw [qtl]; rintro ⟨s, c⟩ hpre; simp only at hpre; refine ⟨⟨0, ⟨by simp, fun j h hj => by omega⟩, ⟨rfl, rfl, rfl, trivial⟩, trivial, trivial⟩, ?_⟩; rintro i ⟨hi, hall⟩; simp only [br_iff, so_iff, ck_iff, qan, decide_eq_true_eq, decide_eq_false_iff_not, and_true] at hi hall ⊢; refine ⟨fun hlt => ?_, fun hge => (qhO s c i hall hi hge).symm⟩; have hlt' : i < s.length := by simp only [Int.ofNat_eq_natCast] at hlt; omega
 refine ⟨s[i], by simp [hlt'], fun h1 => (qlR hlt' (by simpa [nB] using h1) hall).symm, fun h1 => ⟨qam i (by omega), i + 1, ⟨by omega, fun j h hj he => ?_⟩, ?_, by simp [eqI]⟩⟩
 · by_cases hji : j = i
   · subst hji; exact absurd he (by simpa [nB] using h1)
   · exact hall j h (by omega) he
 · show s.length - (i + 1) < s.length - i
   omega)
theorem qls : ∀ g C, qpC g = some C -> CO g C := qab quq qeK
theorem qgI (s : Bs) (c : Int) : (∃ i, posB s c = some i /\ qct s c = (i : Int) /\ i < s.length) \/ (posB s c = none /\ qct s c = -1) := by
 unfold qct
 cases h : posB s c with
 | none => exact .inr ⟨rfl, rfl⟩
 | some i =>
  obtain ⟨h1, _⟩ := posB_some.1 h; exact .inl ⟨i, rfl, rfl, h1⟩
theorem qvR : CO zz89 cCut := qae (cfg := fun y => cfgS qpC (qaQ y)) zz1 (fun _ => rfl) (fun _ => qls) (n := 400) (by
 rw [qvV]; rintro ⟨s, c⟩ hpre; refine ⟨(s, c), rfl, rfl, hpre, ?_⟩; simp only at hpre ⊢; rcases qgI s c with ⟨i, h1, h2, h3⟩ | ⟨h1, h2⟩
 · simp only [br_iff, ck_iff, h2, cutB, h1, qan, qhs, decide_eq_true_eq, decide_eq_false_iff_not]; refine ⟨fun h => by omega, fun _ => ⟨by omega, ?_, ?_, by omega, ?_, ?_⟩⟩
   · rw [Nat.ble_eq]; simp; omega
   · exact qam i (by omega)
   · rw [Nat.ble_eq]; omega
   · rw [show ((i : Int) + 1).toNat = i + 1 by omega]; simp
 · simp only [br_iff, ck_iff, h2, cutB, h1, qan, qhs, decide_eq_true_eq, decide_eq_false_iff_not]; exact ⟨fun _ => by simp, fun h => absurd (by decide) h⟩)
theorem qlt : ∀ g C, qpD g = some C -> CO g C := qab qvR qls
theorem qs4 : CO zz20 qhA := qae (cfg := fun y => cfgS qpD (qaL zz20 2 (qle y))) zz1 (fun _ => rfl) (fun _ => qlt) (n := 400) (by
 rw [qts]; rintro ⟨s, c⟩ hpre; simp only at hpre; refine ⟨⟨(s, []), ⟨by simp, by simp⟩, ⟨rfl, rfl, trivial, trivial⟩, ⟨⟨rfl, fun _ => rfl⟩, trivial⟩, trivial⟩, ?_⟩; rintro ⟨t, l⟩ ⟨h1, h2⟩; simp only at h1 h2; refine ⟨(t, c), rfl, rfl, by simp only; omega, (cutB t c).1, rfl, ?_⟩; simp only [br_iff, ck_iff]; refine ⟨by simp; omega, fun h => ⟨?_, trivial⟩, fun h => ⟨((cutB t c).2.1, l ++ [(cutB t c).1]), ⟨?_, ?_⟩, ?_, by simp [eqI]⟩⟩
 · have h3 := qd7 t c
   cases hp : posB t c with
   | none => rw [hp] at h3; simp only at h3; simp only [cutB, hp]; rw [h1, h3]
   | some i => simp [cutB, hp] at h
 · have h3 := qd7 t c
   cases hp : posB t c with
   | none => simp [cutB, hp] at h
   | some i => rw [hp] at h3; simp only at h3; simp only [cutB, hp]; rw [h1, h3]; simp
 · cases hp : posB t c with
   | none => simp [cutB, hp] at h
   | some i =>
    obtain ⟨h4, _⟩ := posB_some.1 hp; simp [cutB, hp]; omega
 · show (cutB t c).2.1.length < t.length
   cases hp : posB t c with
   | none => simp [cutB, hp] at h
   | some i =>
    obtain ⟨h4, _⟩ := posB_some.1 hp; simp [cutB, hp]; omega)
theorem qvS : CO zz58 cDig := qae (cfg := fun y => cfgS con0 (qaQ y)) zz1 (fun _ => rfl) (fun _ => qbE) (n := 400) (by
 rw [qvW]; intro y _; simp only [br_iff, qaX, qaJ, and_true]; constructor <;> intro h <;> simp [h])
theorem qlu : ∀ g C, qpE g = some C -> CO g C := qab qs4 (qab qvS qlt)
theorem qul : CO zz13 qmv := qae (cfg := fun y => cfgS qpE (qaL zz13 2 (qpm y))) zz1 (fun _ => rfl) (fun _ => qlu) (n := 400) (by
 rw [quY]; intro s hpre; refine ⟨⟨0, by simp, ⟨rfl, rfl, trivial⟩, trivial, trivial⟩, ?_⟩; intro i hi; have hle := qf4 s; simp only [br_iff, so_iff, ck_iff, qan, decide_eq_true_eq, decide_eq_false_iff_not, and_true]; refine ⟨fun hlt => ?_, fun hge => ?_⟩
 · have hlt' : i < s.length := by simp only [Int.ofNat_eq_natCast] at hlt; omega
   refine ⟨s[i], by simp [hlt'], s[i], rfl, trivial, fun h => ⟨qam i (by omega), i + 1, ?_, ?_, by simp [eqI]⟩, fun h => ?_⟩
   · apply Decidable.byContradiction; intro hn; have : qaD s = i := by omega
     have h2 := qio (s := s) (by omega); simp only [this] at h2; rw [h] at h2
     cases h2
   · show s.length - (i + 1) < s.length - i
     omega
   · apply Decidable.byContradiction; intro hn; have hlt2 : i < qaD s := by simp only [eqI] at hn; omega
     obtain ⟨_, h2⟩ := qjh hlt2; rw [h2] at h
     cases h
 · simp only [Int.ofNat_eq_natCast] at hge; simp only [eqI]; omega)
theorem qj9 (n : Int) (h : -9223372036854775808 <= n /\ n <= 9223372036854775807) : Go.IntKind.wrap Go.IntKind.i64 n = n := by rw [IntKind.wrap_i64]; omega
theorem qnT {b : UInt8} (h : qaJ b = true) : Go.IntKind.wrap Go.IntKind.i64 (Go.IntKind.wrap Go.IntKind.u8 (Int.ofNat (UInt8.toNat b) - 48)) = nB b - 48 /\ Go.IntKind.wrap Go.IntKind.i64 (Int.ofNat (UInt8.toNat b)) = nB b /\ 0 <= nB b - 48 /\ nB b - 48 <= 9 := by
 rw [qb9] at h; rw [qrD]; have h1 : Go.IntKind.wrap Go.IntKind.u8 (nB b - 48) = nB b - 48 := by simp only [IntKind.wrap, IntKind.signed, IntKind.bits, Bool.false_and, Bool.false_eq_true, if_false]; omega
 rw [h1, qj9 _ (by omega), qj9 _ (by omega)]; exact ⟨rfl, rfl, by omega, by omega⟩
theorem qjn (s : Bs) (x : Nat) (h : x < s.length) : (s.take (x + 1)).foldl qap 0 = qap ((s.take x).foldl qap 0) s[x] := by
 rw [List.take_succ_eq_append_getElem h, List.foldl_append]; rfl
theorem qjo (s : Bs) (h : ∀ b ∈ s, qaJ b = true) (x : Nat) : 0 <= (s.take x).foldl qap 0 /\ (s.take x).foldl qap 0 <= 1099511627776 :=
 qgJ _ (fun b hb => h b (List.mem_of_mem_take hb)) 0 (by omega) (by omega)
theorem qkP {y : Bs} (hne : absN y ≠ []) (hd : ∀ b ∈ absN y, qaJ b = true) : numB y = ((if negB y then -1 else 1) * (absN y).foldl qap 0, true) := by
 have h1 : ¬ qaD (absN y) < (absN y).length := by
  intro h; have h2 := qio h; rw [hd _ (List.getElem_mem h)] at h2
  cases h2
 unfold numB; rw [if_neg (by rintro (h | h); exact hne h; exact h1 h)]
theorem qhN {y : Bs} (h : absN y = [] \/ qaD (absN y) < (absN y).length) : numB y = (0, false) := by
 unfold numB; rw [if_pos h]
theorem ql7 (y t : Bs) (K : Int) (ht : t = absN y) (hK : K = if negB y = true then -1 else 1) (hne : absN y ≠ []) (hd : ∀ b ∈ absN y, qaJ b = true) (hl : (absN y).length <= 1000000) : ((∃ (x : Nat),
      (x <= List.length (absN y) /\ ∀ (b : UInt8), b ∈ absN y -> qaJ b = Bool.true) /\
      (t = absN y /\
      eqI K (if negB y = Bool.true then -1 else 1) /\
      eqI 0 (List.foldl qap 0 (List.take x (absN y))) /\
      eqI (Int.ofNat (List.length t)) (Int.ofNat (List.length (absN y))) /\ eqI 0 ↑x /\ True) /\
      True /\ True) /\
      ∀ (x : Nat),
      (x <= List.length (absN y) /\ ∀ (b : UInt8), b ∈ absN y -> qaJ b = Bool.true) ->
      br (ltI (↑x) (Int.ofNat (List.length (absN y))))
      (ck (inR Go.IntKind.i64 (List.foldl qap 0 (List.take x (absN y)) * 10))
      (so (absN y)[Int.toNat ↑x]? fun (val : UInt8) =>
      ck
      (inR Go.IntKind.i64
      (List.foldl qap 0 (List.take x (absN y)) * 10 +
      Go.IntKind.wrap Go.IntKind.i64 (Go.IntKind.wrap Go.IntKind.u8 (Int.ofNat (UInt8.toNat val) - 48))))
      (ck (inR Go.IntKind.i64 (↑x + 1))
      (∃ (y_2 : Nat),
      (y_2 <= List.length (absN y) /\ ∀ (b : UInt8), b ∈ absN y -> qaJ b = Bool.true) /\
      Ann.μ (aNum y) y_2 < Ann.μ (aNum y) x /\
      (absN y = absN y /\
      eqI (if negB y = Bool.true then -1 else 1) (if negB y = Bool.true then -1 else 1) /\
      eqI
      (if
      1099511627776 <
      List.foldl qap 0 (List.take x (absN y)) * 10 +
      Go.IntKind.wrap Go.IntKind.i64 (Go.IntKind.wrap Go.IntKind.u8 (Int.ofNat (UInt8.toNat val) - 48)) then
      1099511627776
      else
      List.foldl qap 0 (List.take x (absN y)) * 10 +
      Go.IntKind.wrap Go.IntKind.i64 (Go.IntKind.wrap Go.IntKind.u8 (Int.ofNat (UInt8.toNat val) - 48)))
      (List.foldl qap 0 (List.take y_2 (absN y))) /\
      eqI (Int.ofNat (List.length (absN y))) (Int.ofNat (List.length (absN y))) /\
      eqI (↑x + 1) ↑y_2 /\ True) /\
      True /\ True))))
      (ck
      (inR Go.IntKind.i64 ((if negB y = Bool.true then -1 else 1) * List.foldl qap 0 (List.take x (absN y))))
      (eqI ((if negB y = Bool.true then -1 else 1) * List.foldl qap 0 (List.take x (absN y)))
      (Prod.fst (numB y)) /\
      Bool.true = Prod.snd (numB y) /\ True))) := by
 refine ⟨⟨0, ⟨by simp, hd⟩, ⟨ht, hK, by simp [eqI], by rw [ht], by simp [eqI], trivial⟩, trivial, trivial⟩, ?_⟩; rintro x ⟨hx, _⟩; obtain ⟨r1, r2⟩ := qjo _ hd x; simp only [br_iff, so_iff, ck_iff, qan, decide_eq_true_eq, decide_eq_false_iff_not, and_true]; refine ⟨fun hlt => ?_, fun hge => ?_⟩
 · have hlt' : x < (absN y).length := by simp only [Int.ofNat_eq_natCast] at hlt; omega
   obtain ⟨d1, _, d3, d4⟩ := qnT (hd _ (List.getElem_mem hlt')); refine ⟨by rw [qcv]; omega, (absN y)[x], by simp [hlt'], ?_, qam x (by omega), x + 1, ⟨by omega, hd⟩, ?_, ?_⟩
   · rw [d1, qcv]; omega
   · show (absN y).length - (x + 1) < (absN y).length - x
     omega
   · refine ⟨trivial, trivial, ?_, trivial, by simp [eqI]⟩; rw [qjn _ _ hlt', d1]; simp only [qap, eqI]; omega
 · have he : x = (absN y).length := by simp only [Int.ofNat_eq_natCast] at hge; omega
   subst he; rw [List.take_length, qkP hne hd] at *; refine ⟨?_, by simp [eqI]⟩; rw [qcv]; split <;> omega
theorem qjK (y : Bs) (K : Int) (hK : K = Int.ofNat (qao y)) (hne : absN y ≠ []) (hd : ∀ b ∈ absN y, qaJ b = true) (hl : y.length <= 1000000) : ((∃ (x : Nat),
        (qao y <= x /\ x <= List.length y /\ ∀ (b : UInt8), b ∈ absN y -> qaJ b = Bool.true) /\
        (y = y /\
        eqI K (Int.ofNat (qao y)) /\
        eqI 0 (List.foldl qap 0 (List.take (x - qao y) (absN y))) /\ eqI K ↑x /\ True) /\
        True /\ True) /\
        ∀ (x : Nat),
        (qao y <= x /\ x <= List.length y /\ ∀ (b : UInt8), b ∈ absN y -> qaJ b = Bool.true) ->
        br (ltI (↑x) (Int.ofNat (List.length y)))
        (ck (inR Go.IntKind.i64 (List.foldl qap 0 (List.take (x - qao y) (absN y)) * 10))
        (so y[Int.toNat ↑x]? fun (val : UInt8) =>
        ck
        (inR Go.IntKind.i64
        (List.foldl qap 0 (List.take (x - qao y) (absN y)) * 10 +
        Go.IntKind.wrap Go.IntKind.i64 (Int.ofNat (UInt8.toNat val))))
        (ck
        (inR Go.IntKind.i64
        (List.foldl qap 0 (List.take (x - qao y) (absN y)) * 10 +
        Go.IntKind.wrap Go.IntKind.i64 (Int.ofNat (UInt8.toNat val)) -
        48))
        (br
        (ltI 1099511627776
        (List.foldl qap 0 (List.take (x - qao y) (absN y)) * 10 +
        Go.IntKind.wrap Go.IntKind.i64 (Int.ofNat (UInt8.toNat val)) -
        48))
        (ck (inR Go.IntKind.i64 (↑x + 1))
        (∃ (y_2 : Nat),
        (qao y <= y_2 /\ y_2 <= List.length y /\ ∀ (b : UInt8), b ∈ absN y -> qaJ b = Bool.true) /\
        Ann.μ (qcR y) y_2 < Ann.μ (qcR y) x /\
        (y = y /\
        eqI (Int.ofNat (qao y)) (Int.ofNat (qao y)) /\
        eqI 1099511627776 (List.foldl qap 0 (List.take (y_2 - qao y) (absN y))) /\
        eqI (↑x + 1) ↑y_2 /\ True) /\
        True /\ True))
        (ck (inR Go.IntKind.i64 (↑x + 1))
        (∃ (y_2 : Nat),
        (qao y <= y_2 /\ y_2 <= List.length y /\ ∀ (b : UInt8), b ∈ absN y -> qaJ b = Bool.true) /\
        Ann.μ (qcR y) y_2 < Ann.μ (qcR y) x /\
        (y = y /\
        eqI (Int.ofNat (qao y)) (Int.ofNat (qao y)) /\
        eqI
        (List.foldl qap 0 (List.take (x - qao y) (absN y)) * 10 +
        Go.IntKind.wrap Go.IntKind.i64 (Int.ofNat (UInt8.toNat val)) -
        48)
        (List.foldl qap 0 (List.take (y_2 - qao y) (absN y))) /\
        eqI (↑x + 1) ↑y_2 /\ True) /\
        True /\ True))))))
        (br (Int.ofNat (qao y) == 1)
        (ck (inR Go.IntKind.i64 (0 - List.foldl qap 0 (List.take (x - qao y) (absN y))))
        (eqI (0 - List.foldl qap 0 (List.take (x - qao y) (absN y))) (Prod.fst (numB y)) /\
        Bool.true = Prod.snd (numB y) /\ True))
        (eqI (List.foldl qap 0 (List.take (x - qao y) (absN y))) (Prod.fst (numB y)) /\
        Bool.true = Prod.snd (numB y) /\ True))) := by
 have hlen : (absN y).length = y.length - qao y := by unfold absN qao; split <;> simp
 have hpos : 0 < (absN y).length := List.length_pos_iff.2 hne; have hget : ∀ x (h : x < y.length), qao y <= x -> y[x] = (absN y)[x - qao y]'(by omega) := by
   intro x h h2; have e : (absN y)[x - qao y]? = y[x]? := by
     unfold absN qao; unfold qao at h2; split
     · rename_i hn; rw [if_pos hn] at h2; rw [List.getElem?_drop]; congr 1
       omega
     · simp
   rw [List.getElem?_eq_getElem h, List.getElem?_eq_getElem (by omega)] at e; exact (Option.some.inj e).symm
 refine ⟨⟨qao y, ⟨Nat.le_refl _, by omega, hd⟩, ⟨rfl, hK, by simp [eqI], by simp [eqI, hK], trivial⟩, trivial, trivial⟩, ?_⟩; rintro x ⟨hx0, hx, _⟩; obtain ⟨r1, r2⟩ := qjo _ hd (x - qao y); simp only [br_iff, so_iff, ck_iff, qan, decide_eq_true_eq, decide_eq_false_iff_not, and_true]; refine ⟨fun hlt => ?_, fun hge => ?_⟩
 · have hlt' : x < y.length := by simp only [Int.ofNat_eq_natCast] at hlt; omega
   have hg := hget x hlt' hx0; have hdx : qaJ y[x] = true := by rw [hg]; exact hd _ (List.getElem_mem _)
   obtain ⟨_, d1, d3, d4⟩ := qnT hdx; have hs : List.foldl qap 0 (List.take (x + 1 - qao y) (absN y)) = qap (List.foldl qap 0 (List.take (x - qao y) (absN y))) y[x] := by
     rw [show x + 1 - qao y = (x - qao y) + 1 by omega, qjn _ _ (by omega), hg]
   have hm : Ann.μ (qcR y) (x + 1) < Ann.μ (qcR y) x := by
     show y.length - (x + 1) < y.length - x
     omega
   refine ⟨by rw [qcv]; omega, y[x], by simp [hlt'], ?_, ?_, fun h1 => ⟨qam x (by omega), x + 1, ⟨by omega, by omega, hd⟩, hm, ?_⟩, fun h1 => ⟨qam x (by omega), x + 1, ⟨by omega, by omega, hd⟩, hm, ?_⟩⟩
   · rw [d1, qcv]; omega
   · rw [d1, qcv]; omega
   · refine ⟨trivial, trivial, ?_, by simp [eqI]⟩; rw [d1] at h1; rw [hs]; simp only [qap, eqI]; omega
   · refine ⟨trivial, trivial, ?_, by simp [eqI]⟩; rw [d1] at h1; rw [hs, d1]; simp only [qap, eqI]; omega
 · have he : x = y.length := by simp only [Int.ofNat_eq_natCast] at hge; omega
   subst he; rw [show y.length - qao y = (absN y).length by omega, List.take_length] at *; rw [qkP hne hd]; unfold qao
   cases hn : negB y
   · simp [eqI]
   · simp only [if_true]; refine ⟨fun _ => ⟨by rw [qcv]; omega, by simp [eqI]⟩, fun h => by simp at h⟩
theorem qsI : CO zz16 qmv := qae (cfg := fun y => cfgS con0 (qaL zz16 3 (qdq y))) zz1 (fun _ => rfl) (fun _ => qbE) (n := 400) (by
 rw [qtj]; intro s hpre; refine ⟨⟨0, by simp, ⟨rfl, by simp [eqI], rfl, trivial⟩, trivial, trivial⟩, ?_⟩; intro i hi; have hle := qf4 s; simp only [br_iff, so_iff, ck_iff, qan, qaX, decide_eq_true_eq, decide_eq_false_iff_not, and_true]; refine ⟨fun hlt => ?_, fun hge => ?_⟩
 · have hlt' : i < s.length := by simp only [Int.ofNat_eq_natCast] at hlt; omega
   have hm : Ann.μ (qdq s) (i + 1) < Ann.μ (qdq s) i := by
     show s.length - (i + 1) < s.length - i
     omega
   have no : qaJ s[i] = false -> qaD s <= i := by
     intro h; apply Decidable.byContradiction; intro hn; obtain ⟨_, h2⟩ := qjh (show i < qaD s by omega); rw [h2] at h
     cases h
   have step : ∀ (n : Int), n = Int.ofNat (min (i + 1) (qaD s)) -> n = Int.ofNat (min (i + 1) (qaD s)) := fun _ h => h
   refine ⟨fun hq => ⟨s[i], by simp [hlt'], fun h1 => ⟨s[i], by simp [hlt'], fun h2 => ⟨by rw [qcv]; simp only [Int.ofNat_eq_natCast]; omega, qam i (by omega), i + 1, by omega, hm, trivial, ?_, by simp [eqI]⟩, fun h2 => ⟨qam i (by omega), i + 1, by omega, hm, trivial, ?_, by simp [eqI]⟩⟩, fun h1 => ⟨qam i (by omega), i + 1, by omega, hm, trivial, ?_, by simp [eqI]⟩⟩, fun hq => ⟨qam i (by omega), i + 1, by omega, hm, trivial, ?_, by simp [eqI]⟩⟩
   · have hd : qaJ s[i] = true := by rw [qb9]; exact ⟨h1, h2⟩
     have : ¬ qaD s <= i := by
      intro hn; simp only [Int.ofNat_eq_natCast, beq_iff_eq] at hq; have he : qaD s = i := by omega
      have h3 := qio (s := s) (by omega); simp only [he] at h3; rw [hd] at h3
      cases h3
     simp only [eqI, Int.ofNat_eq_natCast]; omega
   · have hd : qaJ s[i] = false := by rw [Bool.eq_false_iff]; intro h; rw [qb9] at h; exact h2 h.2
     have := no hd; simp only [eqI, Int.ofNat_eq_natCast]; omega
   · have hd : qaJ s[i] = false := by rw [Bool.eq_false_iff]; intro h; rw [qb9] at h; exact h1 h.1
     have := no hd; simp only [eqI, Int.ofNat_eq_natCast]; omega
   · simp only [Int.ofNat_eq_natCast, beq_eq_false_iff_ne] at hq; simp only [eqI, Int.ofNat_eq_natCast]; omega
 · simp only [Int.ofNat_eq_natCast] at hge; simp only [eqI, Int.ofNat_eq_natCast]; omega)
theorem qk4 {s : Bs} {c : Int} {a i : Nat} (hai : a <= i) (h : i < s.length) (h1 : nB s[i] = c) (h2 : ∀ (j : Nat) (h : j < s.length), a <= j -> j < i -> nB s[j] = c -> False) : qaa (s.drop a) c = (s.drop a).take (i - a) :: qaa (s.drop (i + 1)) c := by
 have hp : posB (s.drop a) c = some (i - a) := posB_some.2 ⟨by simp; omega, by rw [List.getElem_drop]; simp only [show a + (i - a) = i by omega]; exact h1, fun j hj => by
  rw [List.getElem_drop]; exact fun e => h2 (a + j) (by omega) (by omega) (by omega) e⟩
 rw [qd7, hp]; simp only [List.drop_drop]; rw [show a + (i - a + 1) = i + 1 by omega]
theorem qk5 {s : Bs} {c : Int} {a : Nat} (h2 : ∀ (j : Nat) (h : j < s.length), a <= j -> nB s[j] = c -> False) : qaa (s.drop a) c = [s.drop a] := by
 have hp : posB (s.drop a) c = none := posB_none.2 (fun j hj => by
  rw [List.getElem_drop]; exact fun e => h2 (a + j) (by simp at hj; omega) (by omega) e)
 rw [qd7, hp]
theorem qqS : CO zz22 qhA := qae (cfg := fun y => cfgS con0 (qaL zz22 4 (qfk y))) zz1 (fun _ => rfl) (fun _ => qbE) (n := 400) (by
 rw [qrf]; rintro ⟨s, c⟩ hpre; simp only at hpre; refine ⟨⟨(0, 0, []), ⟨by simp, by simp, by simp, by simp, fun j h _ hj => by simp at hj⟩, ⟨rfl, rfl, trivial, rfl, rfl, trivial⟩, ⟨rfl, trivial⟩, trivial⟩, ?_⟩; rintro ⟨a, i, l⟩ ⟨h1, h2, h3, h4, h5⟩; simp only at h1 h2 h3 h4 h5; simp only [br_iff, so_iff, ck_iff, qan, decide_eq_true_eq, decide_eq_false_iff_not, and_true, Int.toNat_natCast]; refine ⟨fun hlt => ?_, fun hge => ?_⟩
 · have hlt' : i < s.length := by simp only [Int.ofNat_eq_natCast] at hlt; omega
   refine ⟨s[i], by simp [hlt'], fun hc => ?_, fun hc => ⟨qam i (by omega), (a, i + 1, l), ⟨by simp only; omega, by simp only; omega, h3, h4, fun j hj ha hji he => ?_⟩, ?_, by simp [eqI]⟩⟩
   · have hc' : nB s[i] = c := by simpa [nB] using hc
     have hs := qk4 h1 hlt' hc' h5; refine ⟨by simp; omega, _, rfl, by simp; omega, qam i (by omega), qam i (by omega), (i + 1, i + 1, l ++ [(s.drop a).take (i - a)]), ⟨by simp, by simp only; omega, ?_, by simp; omega, fun j hj ha hji => by simp only at ha hji; omega⟩, ?_, by simp [eqI]⟩
     · rw [h3, hs]; simp
     · show s.length - (i + 1) < s.length - i
       omega
   · by_cases hji2 : j = i
     · subst hji2; exact absurd he (by simpa [nB] using hc)
     · exact h5 j hj ha (by simp only at hji; omega) he
   · show s.length - (i + 1) < s.length - i
     omega
 · have he : i = s.length := by simp only [Int.ofNat_eq_natCast] at hge; omega
   subst he; refine ⟨by simpa using h1, _, rfl, by simp; omega, ?_⟩; rw [h3, qk5 (fun j hj ha => h5 j hj ha hj)])
theorem qdR {y : Bs} (h : negB y = true) : absN y = y.drop 1 := by unfold absN; rw [if_pos h]
theorem qeC {y : Bs} (h : negB y = false) : absN y = y := by unfold absN; rw [if_neg (by simp [h])]
theorem qcP {b : UInt8} {y : Bs} : negB (b :: y) = (Int.ofNat b.toNat == 45) := rfl
theorem qd2 {y : Bs} (h : ¬ (↑(qaD y) : Int) < Int.ofNat y.length) : ∀ b ∈ y, qaJ b = true := qeM (by simp only [Int.ofNat_eq_natCast] at h; omega)
theorem qic : ∀ g C, qmA g = some C -> CO g C := qab qul (qab qsI qlu)
theorem qvT : CO zz14 cNum := qae (cfg := fun y => cfgS qmA (qaL zz14 8 (aNum y))) zz1 (fun _ => rfl) (fun _ => qic) (n := 400) (by
 rw [qvX]; intro y hpre
 cases y with
 | nil =>
  have hn : numB [] = (0, false) := rfl; refine br_iff.2 ⟨fun h => by simp at h, fun _ => br_iff.2 ⟨fun _ => by rw [hn]; exact ⟨rfl, rfl, trivial⟩, fun h => by simp at h⟩⟩
 | cons b s =>
  refine br_iff.2 ⟨fun _ => so_iff.2 ⟨b, rfl, br_iff.2 ⟨fun hb => ck_iff.2 ⟨by simp, br_iff.2 ⟨fun h => ?_, fun h => ⟨s, rfl, by simp at hpre; omega, br_iff.2 ⟨fun hd => ?_, fun hd => ?_⟩⟩⟩⟩, fun hb => br_iff.2 ⟨fun h => by simp at h, fun _ => ⟨b :: s, rfl, hpre, br_iff.2 ⟨fun hd => ?_, fun hd => ?_⟩⟩⟩⟩⟩, fun h => by simp at h⟩
  · have hg : negB (b :: s) = true := by rw [qcP]; exact hb
    have he : absN (b :: s) = [] := by rw [qdR hg]; simpa using h
    rw [qhN (.inl he)]; exact ⟨rfl, rfl, trivial⟩
  · have hg : negB (b :: s) = true := by rw [qcP]; exact hb
    rw [qan, decide_eq_true_eq] at hd; rw [qhN (.inr (by rw [qdR hg]; simp only [Int.ofNat_eq_natCast] at hd; simp at hd ⊢; omega))]; exact ⟨rfl, rfl, trivial⟩
  · have hg : negB (b :: s) = true := by rw [qcP]; exact hb
    rw [qan, decide_eq_false_iff_not] at hd; have ha := qdR hg; exact ql7 _ _ _ ha.symm (by rw [if_pos hg]) (by rw [ha]; simpa using h) (by rw [ha]; exact qd2 hd) (by rw [ha]; simp at hpre ⊢; omega)
  · have hg : negB (b :: s) = false := by rw [qcP]; exact hb
    rw [qan, decide_eq_true_eq] at hd; rw [qhN (.inr (by rw [qeC hg]; simp only [Int.ofNat_eq_natCast] at hd; omega))]; exact ⟨rfl, rfl, trivial⟩
  · have hg : negB (b :: s) = false := by rw [qcP]; exact hb
    rw [qan, decide_eq_false_iff_not] at hd; have ha := qeC hg; exact ql7 _ _ _ ha.symm (by rw [if_neg (by simp [hg])]) (by rw [ha]; simp) (by rw [ha]; exact qd2 hd) (by rw [ha]; exact hpre))
theorem quB : CO zz17 cNum := qae (cfg := fun y => cfgS qmA (qaL zz17 8 (qcR y))) zz1 (fun _ => rfl) (fun _ => qic) (n := 400) (by
 rw [qu4]; intro y hpre
 cases y with
 | nil =>
  have hn : numB [] = (0, false) := rfl; refine br_iff.2 ⟨fun h => by simp [qan] at h, fun _ => br_iff.2 ⟨fun _ => by rw [hn]; exact ⟨rfl, rfl, trivial⟩, fun h => by simp at h⟩⟩
 | cons b s =>
  have hbig : s.length + 1 <= 1000000 := by simpa using hpre
  have hln : Int.ofNat (b :: s).length = (s.length : Int) + 1 := by simp
  rw [hln]; refine br_iff.2 ⟨fun _ => so_iff.2 ⟨b, rfl, br_iff.2 ⟨fun hb => br_iff.2 ⟨fun h => ?_, fun h => ck_iff.2 ⟨by simp, s, rfl, by omega, ck_iff.2 ⟨by rw [qcv]; omega, br_iff.2 ⟨fun hd => ?_, fun hd => ?_⟩⟩⟩⟩, fun hb => br_iff.2 ⟨fun h => by simp at h; omega, fun _ => ⟨b :: s, rfl, hpre, ck_iff.2 ⟨by rw [qcv]; omega, br_iff.2 ⟨fun hd => ?_, fun hd => ?_⟩⟩⟩⟩⟩⟩, fun h => by rw [qan] at h; simp at h <;> omega⟩
  · have hg : negB (b :: s) = true := by rw [qcP]; exact hb
    have hs : s = [] := by simp at h; exact List.eq_nil_of_length_eq_zero (by omega)
    rw [qhN (.inl (by rw [qdR hg]; simpa using hs))]; exact ⟨rfl, rfl, trivial⟩
  · have hg : negB (b :: s) = true := by rw [qcP]; exact hb
    rw [qan, decide_eq_true_eq] at hd; rw [qhN (.inr (by rw [qdR hg]; simp at hd ⊢; omega))]; exact ⟨rfl, rfl, trivial⟩
  · have hg : negB (b :: s) = true := by rw [qcP]; exact hb
    rw [qan, decide_eq_false_iff_not] at hd; have ha := qdR hg; have := qjK (b :: s) 1 (by unfold qao; rw [if_pos hg]; rfl) (by rw [ha]; intro e; simp at e; subst e; simp at h) (by rw [ha]; exact qd2 (by simp at hd ⊢; omega)) hpre; rw [hln] at this; exact this
  · have hg : negB (b :: s) = false := by rw [qcP]; exact hb
    rw [qan, decide_eq_true_eq] at hd; rw [qhN (.inr (by rw [qeC hg]; simp at hd ⊢; omega))]; exact ⟨rfl, rfl, trivial⟩
  · have hg : negB (b :: s) = false := by rw [qcP]; exact hb
    rw [qan, decide_eq_false_iff_not] at hd; have ha := qeC hg; have := qjK (b :: s) 0 (by unfold qao; rw [if_neg (by simp [hg])]; rfl) (by rw [ha]; simp) (by rw [ha]; exact qd2 (by simp at hd ⊢; omega)) hpre; rw [hln] at this; exact this)
theorem qmk (k n : Nat) (h : n <= 9) : qfF (k + 1) n = [UInt8.ofNat (48 + n)] := by simp [qfF, h]
theorem quG : CO zz30 qr1 := qae (cfg := fun y => cfgS con0 (qaL zz30 6 (qpp y))) zz1 (fun _ => rfl) (fun _ => qbE) (n := 400) (by
 rw [qu7]; intro n hpre; have hpre : n <= 1099511627776 := hpre; refine ⟨⟨(30, n, []), ⟨by simp, by simp, by simp [qdl], by simp, ?_, Nat.le_refl _⟩, ⟨rfl, rfl, trivial⟩, trivial, trivial⟩, ?_⟩
 · exact Nat.lt_of_le_of_lt hpre (by show 1099511627776 < 10 ^ 31; decide)
 rintro ⟨k, m, s⟩ ⟨h1, h2, h3, h4, h5, h6⟩; simp only at h1 h2 h3 h4 h5 h6; have wr : ∀ d : Nat, d <= 9 -> [SV.int Go.IntKind.u8 (Go.IntKind.wrap Go.IntKind.u8 (48 + (d : Int)))] = qky [UInt8.ofNat (48 + d)] := by
   intro d hd; have : Go.IntKind.wrap Go.IntKind.u8 (48 + (d : Int)) = Int.ofNat (UInt8.ofNat (48 + d)).toNat := by
    simp only [IntKind.wrap, IntKind.signed, IntKind.bits, Bool.false_and, Bool.false_eq_true, if_false, UInt8.toNat_ofNat', Int.ofNat_eq_natCast]; omega
   rw [this]; rfl
 have hk : 9 < m -> 1 <= k := by
   intro hm; apply Decidable.byContradiction; intro hn; have : k = 0 := by omega
   subst this; simp at h5; omega
 have tm : Int.tmod (m : Int) 10 = ((m % 10 : Nat) : Int) := rfl; have td : Int.tdiv (m : Int) 10 = ((m / 10 : Nat) : Int) := rfl; simp only [tm, td]; refine br_iff.2 ⟨fun h => ck_iff.2 ⟨?_, [UInt8.ofNat (48 + m % 10)], wr _ (by omega), ck_iff.2 ⟨by simp; omega, ck_iff.2 ⟨?_, (k - 1, m / 10, UInt8.ofNat (48 + m % 10) :: s), ⟨by simp only; omega, ?_, ?_, ?_, ?_, ?_⟩, ?_, ⟨rfl, rfl, trivial⟩, trivial, trivial⟩⟩⟩, fun h => ck_iff.2 ⟨?_, [UInt8.ofNat (48 + m)], wr _ ?_, ck_iff.2 ⟨by simp; omega, ?_, trivial⟩⟩⟩
 · rw [qcv]; omega
 · rw [qcv]; omega
 all_goals (simp only [qan, decide_eq_true_eq, decide_eq_false_iff_not] at h)
 · have := hk (by omega); simp; omega
 · have := hk (by omega); rw [h3, show 10 + k = (10 + (k - 1)) + 1 by omega]; have hm : ¬ m <= 9 := by omega
   simp only [qfF, if_neg hm]; simp
 · have := hk (by omega); simp; omega
 · have := hk (by omega); simp only; rw [show k - 1 + 1 = k by omega]; rw [Nat.pow_succ] at h5; omega
 · simp only; omega
 · show m / 10 < m
   omega
 · rw [qcv]; omega
 · omega
 · rw [h3, show 10 + k = (9 + k) + 1 by omega, qmk _ _ (by omega)])
theorem qpF : ∀ g C, qtX g = some C -> CO g C := qab qvT (qab quB (qab qsN (qab qqS (qab quG qic))))
end Go.Proofs
namespace Go.Proofs
open Go Go.Am Go.RowKit Go.Sy
variable [Inhabited DrP]
def qnI : Con := { Y := UInt8 × Bool, pre := fun _ => True, args := fun y => [.int .u8 (nB y.1), .bool y.2], res := fun y => .bool (qbQ (nB y.1) y.2) }
def qr0 : Con := { Y := UInt8, pre := fun _ => True, args := fun y => [.int .u8 (nB y)], res := fun y => .bool (qck y) }
def cBs (p : Bs -> Bool) : Con := { Y := Bs, pre := fun y => y.length <= 100000, args := fun y => [.str y], res := fun y => .bool (p y) }
def qfI (y : Bs) : Ann := { α := Nat, ok := fun i => i <= y.length /\ ∀ j (h : j < y.length), j < i -> qbQ (nB y[j]) (j == 0 || j == y.length - 1) = true, μ := fun i => y.length - i, keep := [], slots := fun i => [(0, .str y), (12, i64 (Int.ofNat y.length)), (13, i64 i)], objs := fun _ => [] }
def qiT (y : Bs) : Ann := { α := Nat, ok := fun i => i <= (qaa y 46).length /\ ∀ j (h : j < (qaa y 46).length), j < i -> qcb (qaa y 46)[j] = true, μ := fun i => (qaa y 46).length - i, keep := [], slots := fun i => [(13, strs (qaa y 46)), (14, i64 (Int.ofNat (qaa y 46).length)), (15, i64 i)], objs := fun _ => [] }
def qbn (y : Bs) : Ann := let l := (y.drop 1).take (y.length - 2); { α := Nat, ok := fun i => i <= l.length /\ ∀ j (h : j < l.length), j < i -> hexB l[j] = true, μ := fun i => l.length - i, keep := [], slots := fun i => [(31, .lst UInt8 l encB), (32, i64 (Int.ofNat l.length)), (33, i64 i)], objs := fun _ => [] }
def qaZ (y : Bs) : Ann := { α := Nat, ok := fun i => 1 <= i /\ i + 1 <= y.length /\ ∀ j (h : j < y.length), 1 <= j -> j < i -> hexB y[j] = true, μ := fun i => y.length - i, keep := [], slots := fun i => [(0, .str y), (3, i64 i)], objs := fun _ => [] }
def qpo (y : Bs) : Ann := { α := Nat, ok := fun i => i <= (qaa y 46).length /\ ∀ j (h : j < (qaa y 46).length), j < i -> qaE (qaa y 46)[j] = true, μ := fun i => (qaa y 46).length - i, keep := [], slots := fun i => [(13, strs (qaa y 46)), (14, i64 (Int.ofNat (qaa y 46).length)), (15, i64 i)], objs := fun _ => [] }
def qh4 (y : Bs) : Ann := { α := Nat, ok := fun i => i <= y.length /\ ∀ j (h : j < y.length), j < i -> qck y[j] = true, μ := fun i => y.length - i, keep := [], slots := fun i => [(0, .str y), (3, i64 i)], objs := fun _ => [] }
def qlc (y : Bs) : Ann := { α := Nat, ok := fun i => i <= 4 /\ ∀ j (h : j < (qaa y 46).length), j < i -> qcb (qaa y 46)[j] = true, μ := fun i => 4 - i, keep := [], slots := fun i => [(3, strs (qaa y 46)), (4, i64 i)], objs := fun _ => [] }
def qld (y : Bs) : Ann := { α := Nat, ok := fun i => i <= (qaa y 46).length /\ ∀ j (h : j < (qaa y 46).length), j < i -> qaE (qaa y 46)[j] = true, μ := fun i => (qaa y 46).length - i, keep := [], slots := fun i => [(3, strs (qaa y 46)), (4, i64 i)], objs := fun _ => [] }
noncomputable def qfW (f : FuncId) : Option Con := bif Nat.beq f zz90 then some qnI else bif Nat.beq f zz75 then some qr0 else qtX f
noncomputable def qjc (f : FuncId) : Option Con := bif Nat.beq f zz28 then some (cBs qaE) else bif Nat.beq f zz23 then some (cBs qaE) else bif Nat.beq f zz41 then some (cBs qbr) else bif Nat.beq f zz32 then some (cBs qbr) else bif Nat.beq f zz15 then some (cBs qaM) else bif Nat.beq f zz10 then some (cBs qaM) else qfW f
noncomputable def qpI (f : FuncId) : Option Con := bif Nat.beq f zz51 then some (cBs qcg) else bif Nat.beq f zz45 then some (cBs qcg) else bif Nat.beq f zz31 then some (cBs qbB) else qjc f
noncomputable def qtY (f : FuncId) : Option Con := bif Nat.beq f zz42 then some (cBs qbB) else qpI f
noncomputable def qtZ (f : FuncId) : Option Con := qtY f
noncomputable def qt0 (f : FuncId) : Option Con := qtZ f
noncomputable def qt1 (f : FuncId) : Option Con := qt0 f
end Go.Proofs
set_option maxHeartbeats 4000000
namespace Go.Proofs
open Go Go.Am Go.RowKit Go.Sy
variable [Inhabited DrP]
theorem qtr : (askY (fun (y : Con.Y qnI) => cfgS con0 (qaQ y)) 400 zz90) = (∀ (y : UInt8 × Bool),
 True ->
 br (nB y.1 == 45)
 (br y.2 (Bool.false = qbQ (nB y.1) y.2 /\ True)
 (Bool.true = qbQ (nB y.1) y.2 /\ True))
 (br (leI 97 (nB y.1))
 (br (leI (nB y.1) 122) (Bool.true = qbQ (nB y.1) y.2 /\ True)
 (br (leI 48 (nB y.1))
 (br (leI (nB y.1) 57) (Bool.true = qbQ (nB y.1) y.2 /\ True)
 (br (nB y.1 == 95) (Bool.true = qbQ (nB y.1) y.2 /\ True)
 (Bool.false = qbQ (nB y.1) y.2 /\ True)))
 (br (nB y.1 == 95) (Bool.true = qbQ (nB y.1) y.2 /\ True)
 (Bool.false = qbQ (nB y.1) y.2 /\ True))))
 (br (leI 48 (nB y.1))
 (br (leI (nB y.1) 57) (Bool.true = qbQ (nB y.1) y.2 /\ True)
 (br (nB y.1 == 95) (Bool.true = qbQ (nB y.1) y.2 /\ True)
 (Bool.false = qbQ (nB y.1) y.2 /\ True)))
 (br (nB y.1 == 95) (Bool.true = qbQ (nB y.1) y.2 /\ True)
 (Bool.false = qbQ (nB y.1) y.2 /\ True))))) := by kernel_rfl
theorem qu6 : (askY (fun (y : Con.Y qr0) => cfgS con0 (qaQ y)) 400 zz75) = (∀ (y : UInt8),
 True ->
 br (leI 97 (nB y))
 (br (leI (nB y) 122) (Bool.true = qck y /\ True)
 (br (leI 48 (nB y))
 (br (leI (nB y) 57) (Bool.true = qck y /\ True)
 (br (nB y == 45) (Bool.true = qck y /\ True) ((nB y == 95) = qck y /\ True)))
 (br (nB y == 45) (Bool.true = qck y /\ True) ((nB y == 95) = qck y /\ True))))
 (br (leI 48 (nB y))
 (br (leI (nB y) 57) (Bool.true = qck y /\ True)
 (br (nB y == 45) (Bool.true = qck y /\ True) ((nB y == 95) = qck y /\ True)))
 (br (nB y == 45) (Bool.true = qck y /\ True) ((nB y == 95) = qck y /\ True)))) := by kernel_rfl
theorem qtn : (askY (fun (y : Con.Y (cBs qaE)) => cfgS qfW (qaL zz28 4 (qfI y))) 400 zz28) = (∀ (y : List UInt8),
 y.length <= 100000 ->
 br (y == Array.toList (ByteArray.data { data := #[] })) (Bool.false = qaE y /\ True)
 (br (ltI 63 (Int.ofNat y.length)) (Bool.false = qaE y /\ True)
 ((∃ (x : Nat),
 (x <= y.length /\ ∀ (j : Nat) (h : j < y.length), j < x -> qbQ (nB y[j]) (j == 0 || j == y.length - 1) = Bool.true) /\
 (y = y /\ eqI (Int.ofNat y.length) (Int.ofNat y.length) /\ eqI 0 ↑x /\ True) /\ True /\ True) /\
 ∀ (x : Nat),
 (x <= y.length /\ ∀ (j : Nat) (h : j < y.length), j < x -> qbQ (nB y[j]) (j == 0 || j == y.length - 1) = Bool.true) ->
 br (ltI (↑x) (Int.ofNat y.length))
 (so y[Int.toNat ↑x]? fun (val : UInt8) =>
 br ((↑x : Int) == 0)
 (∃ (y_1 : UInt8 × Bool),
 eqI (Int.ofNat (UInt8.toNat val)) (nB y_1.1) /\
 Bool.true = y_1.2 /\
 True /\
 br (!qbQ (nB y_1.1) y_1.2) (Bool.false = qaE y /\ True)
 (ck (inR .i64 (↑x + 1))
 (∃ (y_2 : Nat),
 (y_2 <= y.length /\
 ∀ (j : Nat) (h : j < y.length), j < y_2 -> qbQ (nB y[j]) (j == 0 || j == y.length - 1) = Bool.true) /\
 Ann.μ (qfI y) y_2 < Ann.μ (qfI y) x /\
 (y = y /\ eqI (Int.ofNat y.length) (Int.ofNat y.length) /\ eqI (↑x + 1) ↑y_2 /\ True) /\ True /\ True)))
 (ck (inR .i64 (Int.ofNat y.length - 1))
 (∃ (y_1 : UInt8 × Bool),
 eqI (Int.ofNat (UInt8.toNat val)) (nB y_1.1) /\
 ((↑x : Int) == Int.ofNat y.length - 1) = y_1.2 /\
 True /\
 br (!qbQ (nB y_1.1) y_1.2) (Bool.false = qaE y /\ True)
 (ck (inR .i64 (↑x + 1))
 (∃ (y_2 : Nat),
 (y_2 <= y.length /\
 ∀ (j : Nat) (h : j < y.length), j < y_2 -> qbQ (nB y[j]) (j == 0 || j == y.length - 1) = Bool.true) /\
 Ann.μ (qfI y) y_2 < Ann.μ (qfI y) x /\
 (y = y /\ eqI (Int.ofNat y.length) (Int.ofNat y.length) /\ eqI (↑x + 1) ↑y_2 /\ True) /\ True /\ True)))))
 (Bool.true = qaE y /\ True)))) := by kernel_rfl
theorem qre : (askY (fun (y : Con.Y (cBs qaE)) => cfgS qfW (qaL zz23 4 (qh4 y))) 400 zz23) = (∀ (y : List UInt8),
 y.length <= 100000 ->
 br (ltI (Int.ofNat y.length) 1) (Bool.false = qaE y /\ True)
 (br (ltI 63 (Int.ofNat y.length)) (Bool.false = qaE y /\ True)
 (so y[Int.toNat 0]? fun (val : UInt8) =>
 br (Int.ofNat (UInt8.toNat val) == 45) (Bool.false = qaE y /\ True)
 (ck (inR .i64 (Int.ofNat y.length - 1))
 (ck (nn (Int.ofNat y.length - 1))
 (so y[Int.toNat (Int.ofNat y.length - 1)]? fun (val : UInt8) =>
 br (Int.ofNat (UInt8.toNat val) == 45) (Bool.false = qaE y /\ True)
 ((∃ (x : Nat),
 (x <= y.length /\ ∀ (j : Nat) (h : j < y.length), j < x -> qck y[j] = Bool.true) /\ (y = y /\ eqI 0 ↑x /\ True) /\ True /\ True) /\
 ∀ (x : Nat),
 (x <= y.length /\ ∀ (j : Nat) (h : j < y.length), j < x -> qck y[j] = Bool.true) ->
 br (ltI (↑x) (Int.ofNat y.length))
 (so y[Int.toNat ↑x]? fun (val : UInt8) =>
 ∃ (y_1 : UInt8),
 eqI (Int.ofNat (UInt8.toNat val)) (nB y_1) /\
 True /\
 br (!qck y_1) (Bool.false = qaE y /\ True)
 (ck (inR .i64 (↑x + 1))
 (∃ (y_2 : Nat),
 (y_2 <= y.length /\ ∀ (j : Nat) (h : j < y.length), j < y_2 -> qck y[j] = Bool.true) /\
 Ann.μ (qh4 y) y_2 < Ann.μ (qh4 y) x /\ (y = y /\ eqI (↑x + 1) ↑y_2 /\ True) /\ True /\ True)))
 (Bool.true = qaE y /\ True)))))))) := by kernel_rfl
theorem qu0 : (askY (fun (y : Con.Y (cBs qbr)) => cfgS qfW (qaL zz41 5 (qiT y))) 400 zz41) = (∀ (y : List UInt8),
 y.length <= 100000 ->
 ∃ (y_1 : Bs × Int),
 y = y_1.1 /\
 eqI 46 y_1.2 /\
 y_1.1.length <= 100000 /\
 br (!Int.ofNat (List.length (qaa y_1.1 y_1.2)) == 4) (Bool.false = qbr y /\ True)
 ((∃ (x : Nat),
 (x <= List.length (qaa y 46) /\
 ∀ (j : Nat) (h : j < List.length (qaa y 46)), j < x -> qcb (qaa y 46)[j] = Bool.true) /\
 (SV.lst Bs (qaa y_1.1 y_1.2) qbb = SV.lst Bs (qaa y 46) qbb /\
 eqI (Int.ofNat (List.length (qaa y_1.1 y_1.2))) (Int.ofNat (List.length (qaa y 46))) /\
 eqI 0 ↑x /\ True) /\
 True /\ True) /\
 ∀ (x : Nat),
 (x <= List.length (qaa y 46) /\
 ∀ (j : Nat) (h : j < List.length (qaa y 46)), j < x -> qcb (qaa y 46)[j] = Bool.true) ->
 br (ltI (↑x) (Int.ofNat (List.length (qaa y 46))))
 (so (qaa y 46)[Int.toNat ↑x]? fun (val : Bs) =>
 ∃ (y_2 : List UInt8),
 val = y_2 /\
 y_2.length <= 1000000 /\
 br (val == Array.toList (ByteArray.data { data := #[] })) (Bool.false = qbr y /\ True)
 (∃ (y_3 : List UInt8),
 val = y_3 /\
 y_3.length <= 1000000 /\
 br (ltI (↑(qaD y_3)) (Int.ofNat val.length)) (Bool.false = qbr y /\ True)
 (br (ltI 255 (Prod.fst (numB y_2))) (Bool.false = qbr y /\ True)
 (br (ltI 1 (Int.ofNat val.length))
 (so val[Int.toNat 0]? fun (val : UInt8) =>
 br (Int.ofNat (UInt8.toNat val) == 48) (Bool.false = qbr y /\ True)
 (ck (inR .i64 (↑x + 1))
 (∃ (y_4 : Nat),
 (y_4 <= List.length (qaa y 46) /\
 ∀ (j : Nat) (h : j < List.length (qaa y 46)),
 j < y_4 -> qcb (qaa y 46)[j] = Bool.true) /\
 Ann.μ (qiT y) y_4 < Ann.μ (qiT y) x /\
 (SV.lst Bs (qaa y 46) qbb =
 SV.lst Bs (qaa y 46) qbb /\
 eqI (Int.ofNat (List.length (qaa y 46))) (Int.ofNat (List.length (qaa y 46))) /\
 eqI (↑x + 1) ↑y_4 /\ True) /\
 True /\ True)))
 (ck (inR .i64 (↑x + 1))
 (∃ (y_4 : Nat),
 (y_4 <= List.length (qaa y 46) /\
 ∀ (j : Nat) (h : j < List.length (qaa y 46)), j < y_4 -> qcb (qaa y 46)[j] = Bool.true) /\
 Ann.μ (qiT y) y_4 < Ann.μ (qiT y) x /\
 (SV.lst Bs (qaa y 46) qbb =
 SV.lst Bs (qaa y 46) qbb /\
 eqI (Int.ofNat (List.length (qaa y 46))) (Int.ofNat (List.length (qaa y 46))) /\
 eqI (↑x + 1) ↑y_4 /\ True) /\
 True /\ True))))))
 (Bool.true = qbr y /\ True))) := by kernel_rfl
theorem qtm : (askY (fun (y : Con.Y (cBs qbr)) => cfgS qfW (qaL zz32 5 (qlc y))) 400 zz32) = (∀ (y : List UInt8),
 y.length <= 100000 ->
 ∃ (y_1 : Bs × Int),
 y = y_1.1 /\
 eqI 46 y_1.2 /\
 y_1.1.length <= 100000 /\
 br (!Int.ofNat (List.length (qaa y_1.1 y_1.2)) == 4) (Bool.false = qbr y /\ True)
 ((∃ (x : Nat),
 (x <= 4 /\ ∀ (j : Nat) (h : j < List.length (qaa y 46)), j < x -> qcb (qaa y 46)[j] = Bool.true) /\
 (SV.lst Bs (qaa y_1.1 y_1.2) qbb = SV.lst Bs (qaa y 46) qbb /\
 eqI 0 ↑x /\ True) /\
 True /\ True) /\
 ∀ (x : Nat),
 (x <= 4 /\ ∀ (j : Nat) (h : j < List.length (qaa y 46)), j < x -> qcb (qaa y 46)[j] = Bool.true) ->
 br (ltI (↑x) 4)
 (so (qaa y 46)[Int.toNat ↑x]? fun (val : Bs) =>
 br (ltI (Int.ofNat val.length) 1) (Bool.false = qbr y /\ True)
 (so (qaa y 46)[Int.toNat ↑x]? fun (val : Bs) =>
 br (ltI 3 (Int.ofNat val.length)) (Bool.false = qbr y /\ True)
 (so (qaa y 46)[Int.toNat ↑x]? fun (val : Bs) =>
 so (qaa y 46)[Int.toNat ↑x]? fun (val_1 : Bs) =>
 ∃ (y_2 : List UInt8),
 val = y_2 /\
 y_2.length <= 1000000 /\
 br (!↑(qaD y_2) == Int.ofNat val_1.length) (Bool.false = qbr y /\ True)
 (so (qaa y 46)[Int.toNat ↑x]? fun (val : Bs) =>
 ∃ (y_3 : List UInt8),
 val = y_3 /\
 y_3.length <= 1000000 /\
 br (ltI 255 (Prod.fst (numB y_3))) (Bool.false = qbr y /\ True)
 (so (qaa y 46)[Int.toNat ↑x]? fun (val : Bs) =>
 ∃ (y_4 : Nat),
 eqI (Prod.fst (numB y_3)) ↑y_4 /\
 y_4 <= 1099511627776 /\
 br (!qdl y_4 == val) (Bool.false = qbr y /\ True)
 (ck (inR .i64 (↑x + 1))
 (∃ (y_5 : Nat),
 (y_5 <= 4 /\
 ∀ (j : Nat) (h : j < List.length (qaa y 46)),
 j < y_5 -> qcb (qaa y 46)[j] = Bool.true) /\
 Ann.μ (qlc y) y_5 < Ann.μ (qlc y) x /\
 (SV.lst Bs (qaa y 46) qbb =
 SV.lst Bs (qaa y 46) qbb /\
 eqI (↑x + 1) ↑y_5 /\ True) /\
 True /\ True)))))))
 (Bool.true = qbr y /\ True))) := by kernel_rfl
theorem qti : (askY (fun (y : Con.Y (cBs qaM)) => cfgS qfW (qaL zz15 4 (qbn y))) 400 zz15) = (∀ (y : List UInt8),
 y.length <= 100000 ->
 br (ltI (Int.ofNat y.length) 4) (Bool.false = qaM y /\ True)
 (br (ltI 47 (Int.ofNat y.length)) (Bool.false = qaM y /\ True)
 (so y[Int.toNat 0]? fun (val : UInt8) =>
 br (!Int.ofNat (UInt8.toNat val) == 91) (Bool.false = qaM y /\ True)
 (ck (inR .i64 (Int.ofNat y.length - 1))
 (ck (nn (Int.ofNat y.length - 1))
 (so y[Int.toNat (Int.ofNat y.length - 1)]? fun (val : UInt8) =>
 br (!Int.ofNat (UInt8.toNat val) == 93) (Bool.false = qaM y /\ True)
 (ck (inR .i64 (Int.ofNat y.length - 1))
 (ck (nn (Int.ofNat y.length - 1))
 (ck (Nat.ble (Int.toNat 1) (Int.toNat (Int.ofNat y.length - 1)) && Nat.ble (Int.toNat (Int.ofNat y.length - 1)) y.length)
 ((∃ (x : Nat),
 (x <= List.length (List.take (y.length - 2) (List.drop 1 y)) /\
 ∀ (j : Nat) (h : j < List.length (List.take (y.length - 2) (List.drop 1 y))),
 j < x -> hexB (List.take (y.length - 2) (List.drop 1 y))[j] = Bool.true) /\
 (SV.lst UInt8 (List.take (Int.toNat (Int.ofNat y.length - 1) - Int.toNat 1) (List.drop (Int.toNat 1) y)) encB =
 SV.lst UInt8 (List.take (y.length - 2) (List.drop 1 y)) encB /\
 eqI (Int.ofNat (List.length (List.take (Int.toNat (Int.ofNat y.length - 1) - Int.toNat 1) (List.drop (Int.toNat 1) y))))
 (Int.ofNat (List.length (List.take (y.length - 2) (List.drop 1 y)))) /\
 eqI 0 ↑x /\ True) /\
 True /\ True) /\
 ∀ (x : Nat),
 (x <= List.length (List.take (y.length - 2) (List.drop 1 y)) /\
 ∀ (j : Nat) (h : j < List.length (List.take (y.length - 2) (List.drop 1 y))),
 j < x -> hexB (List.take (y.length - 2) (List.drop 1 y))[j] = Bool.true) ->
 br (ltI (↑x) (Int.ofNat (List.length (List.take (y.length - 2) (List.drop 1 y)))))
 (so (List.take (y.length - 2) (List.drop 1 y))[Int.toNat ↑x]? fun (val : UInt8) =>
 br (leI 48 (Int.ofNat (UInt8.toNat val)))
 (br (leI (Int.ofNat (UInt8.toNat val)) 57)
 (ck (inR .i64 (↑x + 1))
 (∃ (y_1 : Nat),
 (y_1 <= List.length (List.take (y.length - 2) (List.drop 1 y)) /\
 ∀ (j : Nat) (h : j < List.length (List.take (y.length - 2) (List.drop 1 y))),
 j < y_1 -> hexB (List.take (y.length - 2) (List.drop 1 y))[j] = Bool.true) /\
 Ann.μ (qbn y) y_1 < Ann.μ (qbn y) x /\
 (SV.lst UInt8 (List.take (y.length - 2) (List.drop 1 y)) encB =
 SV.lst UInt8 (List.take (y.length - 2) (List.drop 1 y)) encB /\
 eqI (Int.ofNat (List.length (List.take (y.length - 2) (List.drop 1 y))))
 (Int.ofNat (List.length (List.take (y.length - 2) (List.drop 1 y)))) /\
 eqI (↑x + 1) ↑y_1 /\ True) /\
 True /\ True))
 (br (leI 97 (Int.ofNat (UInt8.toNat val)))
 (br (leI (Int.ofNat (UInt8.toNat val)) 102)
 (ck (inR .i64 (↑x + 1))
 (∃ (y_1 : Nat),
 (y_1 <= List.length (List.take (y.length - 2) (List.drop 1 y)) /\
 ∀ (j : Nat) (h : j < List.length (List.take (y.length - 2) (List.drop 1 y))),
 j < y_1 -> hexB (List.take (y.length - 2) (List.drop 1 y))[j] = Bool.true) /\
 Ann.μ (qbn y) y_1 < Ann.μ (qbn y) x /\
 (SV.lst UInt8 (List.take (y.length - 2) (List.drop 1 y)) encB =
 SV.lst UInt8 (List.take (y.length - 2) (List.drop 1 y)) encB /\
 eqI (Int.ofNat (List.length (List.take (y.length - 2) (List.drop 1 y))))
 (Int.ofNat (List.length (List.take (y.length - 2) (List.drop 1 y)))) /\
 eqI (↑x + 1) ↑y_1 /\ True) /\
 True /\ True))
 (br (Int.ofNat (UInt8.toNat val) == 58)
 (ck (inR .i64 (↑x + 1))
 (∃ (y_1 : Nat),
 (y_1 <= List.length (List.take (y.length - 2) (List.drop 1 y)) /\
 ∀ (j : Nat) (h : j < List.length (List.take (y.length - 2) (List.drop 1 y))),
 j < y_1 -> hexB (List.take (y.length - 2) (List.drop 1 y))[j] = Bool.true) /\
 Ann.μ (qbn y) y_1 < Ann.μ (qbn y) x /\
 (SV.lst UInt8 (List.take (y.length - 2) (List.drop 1 y)) encB =
 SV.lst UInt8 (List.take (y.length - 2) (List.drop 1 y)) encB /\
 eqI (Int.ofNat (List.length (List.take (y.length - 2) (List.drop 1 y))))
 (Int.ofNat (List.length (List.take (y.length - 2) (List.drop 1 y)))) /\
 eqI (↑x + 1) ↑y_1 /\ True) /\
 True /\ True))
 (br (!Int.ofNat (UInt8.toNat val) == 46) (Bool.false = qaM y /\ True)
 (ck (inR .i64 (↑x + 1))
 (∃ (y_1 : Nat),
 (y_1 <= List.length (List.take (y.length - 2) (List.drop 1 y)) /\
 ∀ (j : Nat) (h : j < List.length (List.take (y.length - 2) (List.drop 1 y))),
 j < y_1 -> hexB (List.take (y.length - 2) (List.drop 1 y))[j] = Bool.true) /\
 Ann.μ (qbn y) y_1 < Ann.μ (qbn y) x /\
 (SV.lst UInt8 (List.take (y.length - 2) (List.drop 1 y)) encB =
 SV.lst UInt8 (List.take (y.length - 2) (List.drop 1 y)) encB /\
 eqI (Int.ofNat (List.length (List.take (y.length - 2) (List.drop 1 y))))
 (Int.ofNat (List.length (List.take (y.length - 2) (List.drop 1 y)))) /\
 eqI (↑x + 1) ↑y_1 /\ True) /\
 True /\ True)))))
 (br (Int.ofNat (UInt8.toNat val) == 58)
 (ck (inR .i64 (↑x + 1))
 (∃ (y_1 : Nat),
 (y_1 <= List.length (List.take (y.length - 2) (List.drop 1 y)) /\
 ∀ (j : Nat) (h : j < List.length (List.take (y.length - 2) (List.drop 1 y))),
 j < y_1 -> hexB (List.take (y.length - 2) (List.drop 1 y))[j] = Bool.true) /\
 Ann.μ (qbn y) y_1 < Ann.μ (qbn y) x /\
 (SV.lst UInt8 (List.take (y.length - 2) (List.drop 1 y)) encB =
 SV.lst UInt8 (List.take (y.length - 2) (List.drop 1 y)) encB /\
 eqI (Int.ofNat (List.length (List.take (y.length - 2) (List.drop 1 y))))
 (Int.ofNat (List.length (List.take (y.length - 2) (List.drop 1 y)))) /\
 eqI (↑x + 1) ↑y_1 /\ True) /\
 True /\ True))
 (br (!Int.ofNat (UInt8.toNat val) == 46) (Bool.false = qaM y /\ True)
 (ck (inR .i64 (↑x + 1))
 (∃ (y_1 : Nat),
 (y_1 <= List.length (List.take (y.length - 2) (List.drop 1 y)) /\
 ∀ (j : Nat) (h : j < List.length (List.take (y.length - 2) (List.drop 1 y))),
 j < y_1 -> hexB (List.take (y.length - 2) (List.drop 1 y))[j] = Bool.true) /\
 Ann.μ (qbn y) y_1 < Ann.μ (qbn y) x /\
 (SV.lst UInt8 (List.take (y.length - 2) (List.drop 1 y)) encB =
 SV.lst UInt8 (List.take (y.length - 2) (List.drop 1 y)) encB /\
 eqI (Int.ofNat (List.length (List.take (y.length - 2) (List.drop 1 y))))
 (Int.ofNat (List.length (List.take (y.length - 2) (List.drop 1 y)))) /\
 eqI (↑x + 1) ↑y_1 /\ True) /\
 True /\ True))))))
 (br (leI 97 (Int.ofNat (UInt8.toNat val)))
 (br (leI (Int.ofNat (UInt8.toNat val)) 102)
 (ck (inR .i64 (↑x + 1))
 (∃ (y_1 : Nat),
 (y_1 <= List.length (List.take (y.length - 2) (List.drop 1 y)) /\
 ∀ (j : Nat) (h : j < List.length (List.take (y.length - 2) (List.drop 1 y))),
 j < y_1 -> hexB (List.take (y.length - 2) (List.drop 1 y))[j] = Bool.true) /\
 Ann.μ (qbn y) y_1 < Ann.μ (qbn y) x /\
 (SV.lst UInt8 (List.take (y.length - 2) (List.drop 1 y)) encB =
 SV.lst UInt8 (List.take (y.length - 2) (List.drop 1 y)) encB /\
 eqI (Int.ofNat (List.length (List.take (y.length - 2) (List.drop 1 y))))
 (Int.ofNat (List.length (List.take (y.length - 2) (List.drop 1 y)))) /\
 eqI (↑x + 1) ↑y_1 /\ True) /\
 True /\ True))
 (br (Int.ofNat (UInt8.toNat val) == 58)
 (ck (inR .i64 (↑x + 1))
 (∃ (y_1 : Nat),
 (y_1 <= List.length (List.take (y.length - 2) (List.drop 1 y)) /\
 ∀ (j : Nat) (h : j < List.length (List.take (y.length - 2) (List.drop 1 y))),
 j < y_1 -> hexB (List.take (y.length - 2) (List.drop 1 y))[j] = Bool.true) /\
 Ann.μ (qbn y) y_1 < Ann.μ (qbn y) x /\
 (SV.lst UInt8 (List.take (y.length - 2) (List.drop 1 y)) encB =
 SV.lst UInt8 (List.take (y.length - 2) (List.drop 1 y)) encB /\
 eqI (Int.ofNat (List.length (List.take (y.length - 2) (List.drop 1 y))))
 (Int.ofNat (List.length (List.take (y.length - 2) (List.drop 1 y)))) /\
 eqI (↑x + 1) ↑y_1 /\ True) /\
 True /\ True))
 (br (!Int.ofNat (UInt8.toNat val) == 46) (Bool.false = qaM y /\ True)
 (ck (inR .i64 (↑x + 1))
 (∃ (y_1 : Nat),
 (y_1 <= List.length (List.take (y.length - 2) (List.drop 1 y)) /\
 ∀ (j : Nat) (h : j < List.length (List.take (y.length - 2) (List.drop 1 y))),
 j < y_1 -> hexB (List.take (y.length - 2) (List.drop 1 y))[j] = Bool.true) /\
 Ann.μ (qbn y) y_1 < Ann.μ (qbn y) x /\
 (SV.lst UInt8 (List.take (y.length - 2) (List.drop 1 y)) encB =
 SV.lst UInt8 (List.take (y.length - 2) (List.drop 1 y)) encB /\
 eqI (Int.ofNat (List.length (List.take (y.length - 2) (List.drop 1 y))))
 (Int.ofNat (List.length (List.take (y.length - 2) (List.drop 1 y)))) /\
 eqI (↑x + 1) ↑y_1 /\ True) /\
 True /\ True)))))
 (br (Int.ofNat (UInt8.toNat val) == 58)
 (ck (inR .i64 (↑x + 1))
 (∃ (y_1 : Nat),
 (y_1 <= List.length (List.take (y.length - 2) (List.drop 1 y)) /\
 ∀ (j : Nat) (h : j < List.length (List.take (y.length - 2) (List.drop 1 y))),
 j < y_1 -> hexB (List.take (y.length - 2) (List.drop 1 y))[j] = Bool.true) /\
 Ann.μ (qbn y) y_1 < Ann.μ (qbn y) x /\
 (SV.lst UInt8 (List.take (y.length - 2) (List.drop 1 y)) encB =
 SV.lst UInt8 (List.take (y.length - 2) (List.drop 1 y)) encB /\
 eqI (Int.ofNat (List.length (List.take (y.length - 2) (List.drop 1 y))))
 (Int.ofNat (List.length (List.take (y.length - 2) (List.drop 1 y)))) /\
 eqI (↑x + 1) ↑y_1 /\ True) /\
 True /\ True))
 (br (!Int.ofNat (UInt8.toNat val) == 46) (Bool.false = qaM y /\ True)
 (ck (inR .i64 (↑x + 1))
 (∃ (y_1 : Nat),
 (y_1 <= List.length (List.take (y.length - 2) (List.drop 1 y)) /\
 ∀ (j : Nat) (h : j < List.length (List.take (y.length - 2) (List.drop 1 y))),
 j < y_1 -> hexB (List.take (y.length - 2) (List.drop 1 y))[j] = Bool.true) /\
 Ann.μ (qbn y) y_1 < Ann.μ (qbn y) x /\
 (SV.lst UInt8 (List.take (y.length - 2) (List.drop 1 y)) encB =
 SV.lst UInt8 (List.take (y.length - 2) (List.drop 1 y)) encB /\
 eqI (Int.ofNat (List.length (List.take (y.length - 2) (List.drop 1 y))))
 (Int.ofNat (List.length (List.take (y.length - 2) (List.drop 1 y)))) /\
 eqI (↑x + 1) ↑y_1 /\ True) /\
 True /\ True))))))
 (Bool.true = qaM y /\ True))))))))))) := by kernel_rfl
theorem qrd : (askY (fun (y : Con.Y (cBs qaM)) => cfgS con0 (qaL zz10 4 (qaZ y))) 400 zz10) = (∀ (y : List UInt8),
 y.length <= 100000 ->
 br (ltI (Int.ofNat y.length) 4) (Bool.false = qaM y /\ True)
 (br (ltI 47 (Int.ofNat y.length)) (Bool.false = qaM y /\ True)
 (so y[Int.toNat 0]? fun (val : UInt8) =>
 br (!Int.ofNat (UInt8.toNat val) == 91) (Bool.false = qaM y /\ True)
 (ck (inR .i64 (Int.ofNat y.length - 1))
 (ck (nn (Int.ofNat y.length - 1))
 (so y[Int.toNat (Int.ofNat y.length - 1)]? fun (val : UInt8) =>
 br (!Int.ofNat (UInt8.toNat val) == 93) (Bool.false = qaM y /\ True)
 ((∃ (x : Nat),
 (1 <= x /\ x + 1 <= y.length /\ ∀ (j : Nat) (h : j < y.length), 1 <= j -> j < x -> hexB y[j] = Bool.true) /\
 (y = y /\ eqI 1 ↑x /\ True) /\ True /\ True) /\
 ∀ (x : Nat),
 (1 <= x /\ x + 1 <= y.length /\ ∀ (j : Nat) (h : j < y.length), 1 <= j -> j < x -> hexB y[j] = Bool.true) ->
 ck (inR .i64 (Int.ofNat y.length - 1))
 (br (ltI (↑x) (Int.ofNat y.length - 1))
 (so y[Int.toNat ↑x]? fun (val : UInt8) =>
 br (leI 48 (Int.ofNat (UInt8.toNat val)))
 (br (leI (Int.ofNat (UInt8.toNat val)) 57)
 (ck (inR .i64 (↑x + 1))
 (∃ (y_1 : Nat),
 (1 <= y_1 /\ y_1 + 1 <= y.length /\ ∀ (j : Nat) (h : j < y.length), 1 <= j -> j < y_1 -> hexB y[j] = Bool.true) /\
 Ann.μ (qaZ y) y_1 < Ann.μ (qaZ y) x /\ (y = y /\ eqI (↑x + 1) ↑y_1 /\ True) /\ True /\ True))
 (br (leI 97 (Int.ofNat (UInt8.toNat val)))
 (br (leI (Int.ofNat (UInt8.toNat val)) 102)
 (ck (inR .i64 (↑x + 1))
 (∃ (y_1 : Nat),
 (1 <= y_1 /\ y_1 + 1 <= y.length /\ ∀ (j : Nat) (h : j < y.length), 1 <= j -> j < y_1 -> hexB y[j] = Bool.true) /\
 Ann.μ (qaZ y) y_1 < Ann.μ (qaZ y) x /\ (y = y /\ eqI (↑x + 1) ↑y_1 /\ True) /\ True /\ True))
 (br (Int.ofNat (UInt8.toNat val) == 58)
 (ck (inR .i64 (↑x + 1))
 (∃ (y_1 : Nat),
 (1 <= y_1 /\ y_1 + 1 <= y.length /\ ∀ (j : Nat) (h : j < y.length), 1 <= j -> j < y_1 -> hexB y[j] = Bool.true) /\
 Ann.μ (qaZ y) y_1 < Ann.μ (qaZ y) x /\
 (y = y /\ eqI (↑x + 1) ↑y_1 /\ True) /\ True /\ True))
 (br (!Int.ofNat (UInt8.toNat val) == 46) (Bool.false = qaM y /\ True)
 (ck (inR .i64 (↑x + 1))
 (∃ (y_1 : Nat),
 (1 <= y_1 /\ y_1 + 1 <= y.length /\ ∀ (j : Nat) (h : j < y.length), 1 <= j -> j < y_1 -> hexB y[j] = Bool.true) /\
 Ann.μ (qaZ y) y_1 < Ann.μ (qaZ y) x /\
 (y = y /\ eqI (↑x + 1) ↑y_1 /\ True) /\ True /\ True)))))
 (br (Int.ofNat (UInt8.toNat val) == 58)
 (ck (inR .i64 (↑x + 1))
 (∃ (y_1 : Nat),
 (1 <= y_1 /\ y_1 + 1 <= y.length /\ ∀ (j : Nat) (h : j < y.length), 1 <= j -> j < y_1 -> hexB y[j] = Bool.true) /\
 Ann.μ (qaZ y) y_1 < Ann.μ (qaZ y) x /\ (y = y /\ eqI (↑x + 1) ↑y_1 /\ True) /\ True /\ True))
 (br (!Int.ofNat (UInt8.toNat val) == 46) (Bool.false = qaM y /\ True)
 (ck (inR .i64 (↑x + 1))
 (∃ (y_1 : Nat),
 (1 <= y_1 /\ y_1 + 1 <= y.length /\ ∀ (j : Nat) (h : j < y.length), 1 <= j -> j < y_1 -> hexB y[j] = Bool.true) /\
 Ann.μ (qaZ y) y_1 < Ann.μ (qaZ y) x /\
 (y = y /\ eqI (↑x + 1) ↑y_1 /\ True) /\ True /\ True))))))
 (br (leI 97 (Int.ofNat (UInt8.toNat val)))
 (br (leI (Int.ofNat (UInt8.toNat val)) 102)
 (ck (inR .i64 (↑x + 1))
 (∃ (y_1 : Nat),
 (1 <= y_1 /\ y_1 + 1 <= y.length /\ ∀ (j : Nat) (h : j < y.length), 1 <= j -> j < y_1 -> hexB y[j] = Bool.true) /\
 Ann.μ (qaZ y) y_1 < Ann.μ (qaZ y) x /\ (y = y /\ eqI (↑x + 1) ↑y_1 /\ True) /\ True /\ True))
 (br (Int.ofNat (UInt8.toNat val) == 58)
 (ck (inR .i64 (↑x + 1))
 (∃ (y_1 : Nat),
 (1 <= y_1 /\ y_1 + 1 <= y.length /\ ∀ (j : Nat) (h : j < y.length), 1 <= j -> j < y_1 -> hexB y[j] = Bool.true) /\
 Ann.μ (qaZ y) y_1 < Ann.μ (qaZ y) x /\ (y = y /\ eqI (↑x + 1) ↑y_1 /\ True) /\ True /\ True))
 (br (!Int.ofNat (UInt8.toNat val) == 46) (Bool.false = qaM y /\ True)
 (ck (inR .i64 (↑x + 1))
 (∃ (y_1 : Nat),
 (1 <= y_1 /\ y_1 + 1 <= y.length /\ ∀ (j : Nat) (h : j < y.length), 1 <= j -> j < y_1 -> hexB y[j] = Bool.true) /\
 Ann.μ (qaZ y) y_1 < Ann.μ (qaZ y) x /\
 (y = y /\ eqI (↑x + 1) ↑y_1 /\ True) /\ True /\ True)))))
 (br (Int.ofNat (UInt8.toNat val) == 58)
 (ck (inR .i64 (↑x + 1))
 (∃ (y_1 : Nat),
 (1 <= y_1 /\ y_1 + 1 <= y.length /\ ∀ (j : Nat) (h : j < y.length), 1 <= j -> j < y_1 -> hexB y[j] = Bool.true) /\
 Ann.μ (qaZ y) y_1 < Ann.μ (qaZ y) x /\ (y = y /\ eqI (↑x + 1) ↑y_1 /\ True) /\ True /\ True))
 (br (!Int.ofNat (UInt8.toNat val) == 46) (Bool.false = qaM y /\ True)
 (ck (inR .i64 (↑x + 1))
 (∃ (y_1 : Nat),
 (1 <= y_1 /\ y_1 + 1 <= y.length /\ ∀ (j : Nat) (h : j < y.length), 1 <= j -> j < y_1 -> hexB y[j] = Bool.true) /\
 Ann.μ (qaZ y) y_1 < Ann.μ (qaZ y) x /\
 (y = y /\ eqI (↑x + 1) ↑y_1 /\ True) /\ True /\ True))))))
 (Bool.true = qaM y /\ True))))))))) := by kernel_rfl
theorem qth : (askY (fun (y : Con.Y (cBs qcg)) => cfgS qjc (qaQ y)) 400 zz45) = (∀ (y : List UInt8),
 y.length <= 100000 ->
 ∃ (y_1 : List UInt8),
 y = y_1 /\
 y_1.length <= 100000 /\
 br (qbr y_1) (Bool.true = qcg y /\ True)
 (∃ (y_2 : List UInt8), y = y_2 /\ y_2.length <= 100000 /\ qaM y_2 = qcg y /\ True)) := by kernel_rfl
theorem quV : (askY (fun (y : Con.Y (cBs qcg)) => cfgS qjc (qaQ y)) 400 zz51) = (∀ (y : List UInt8),
 y.length <= 100000 ->
 ∃ (y_1 : List UInt8),
 y = y_1 /\
 y_1.length <= 100000 /\
 br (qbr y_1) (Bool.true = qcg y /\ True)
 (∃ (y_2 : List UInt8), y = y_2 /\ y_2.length <= 100000 /\ qaM y_2 = qcg y /\ True)) := by kernel_rfl
theorem qu3 : (askY (fun (y : Con.Y (cBs qbB)) => cfgS qpI (qaL zz42 4 (qpo y))) 400 zz42) = (∀ (y : List UInt8),
 y.length <= 100000 ->
 br (ltI 256 (Int.ofNat y.length)) (Bool.false = qbB y /\ True)
 (∃ (y_1 : List UInt8),
 y = y_1 /\
 y_1.length <= 100000 /\
 br (qcg y_1) (Bool.false = qbB y /\ True)
 (∃ (y_2 : Bs × Int),
 y = y_2.1 /\
 eqI 46 y_2.2 /\
 y_2.1.length <= 100000 /\
 (∃ (x : Nat),
 (x <= List.length (qaa y 46) /\
 ∀ (j : Nat) (h : j < List.length (qaa y 46)), j < x -> qaE (qaa y 46)[j] = Bool.true) /\
 (SV.lst Bs (qaa y_2.1 y_2.2) qbb =
 SV.lst Bs (qaa y 46) qbb /\
 eqI (Int.ofNat (List.length (qaa y_2.1 y_2.2))) (Int.ofNat (List.length (qaa y 46))) /\
 eqI 0 ↑x /\ True) /\
 True /\ True) /\
 ∀ (x : Nat),
 (x <= List.length (qaa y 46) /\
 ∀ (j : Nat) (h : j < List.length (qaa y 46)), j < x -> qaE (qaa y 46)[j] = Bool.true) ->
 br (ltI (↑x) (Int.ofNat (List.length (qaa y 46))))
 (so (qaa y 46)[Int.toNat ↑x]? fun (val : Bs) =>
 ∃ (y_3 : List UInt8),
 val = y_3 /\
 y_3.length <= 100000 /\
 br (!qaE y_3) (Bool.false = qbB y /\ True)
 (ck (inR .i64 (↑x + 1))
 (∃ (y_4 : Nat),
 (y_4 <= List.length (qaa y 46) /\
 ∀ (j : Nat) (h : j < List.length (qaa y 46)), j < y_4 -> qaE (qaa y 46)[j] = Bool.true) /\
 Ann.μ (qpo y) y_4 < Ann.μ (qpo y) x /\
 (SV.lst Bs (qaa y 46) qbb =
 SV.lst Bs (qaa y 46) qbb /\
 eqI (Int.ofNat (List.length (qaa y 46))) (Int.ofNat (List.length (qaa y 46))) /\
 eqI (↑x + 1) ↑y_4 /\ True) /\
 True /\ True)))
 (Bool.true = qbB y /\ True)))) := by kernel_rfl
theorem qtp : (askY (fun (y : Con.Y (cBs qbB)) => cfgS qjc (qaL zz31 5 (qld y))) 400 zz31) = (∀ (y : List UInt8),
 y.length <= 100000 ->
 br (ltI 256 (Int.ofNat y.length)) (Bool.false = qbB y /\ True)
 (∃ (y_1 : List UInt8),
 y = y_1 /\
 y_1.length <= 100000 /\
 br (qbr y_1) (Bool.false = qbB y /\ True)
 (∃ (y_2 : Bs × Int),
 y = y_2.1 /\
 eqI 46 y_2.2 /\
 y_2.1.length <= 100000 /\
 (∃ (x : Nat),
 (x <= List.length (qaa y 46) /\
 ∀ (j : Nat) (h : j < List.length (qaa y 46)), j < x -> qaE (qaa y 46)[j] = Bool.true) /\
 (SV.lst Bs (qaa y_2.1 y_2.2) qbb =
 SV.lst Bs (qaa y 46) qbb /\
 eqI 0 ↑x /\ True) /\
 True /\ True) /\
 ∀ (x : Nat),
 (x <= List.length (qaa y 46) /\
 ∀ (j : Nat) (h : j < List.length (qaa y 46)), j < x -> qaE (qaa y 46)[j] = Bool.true) ->
 br (ltI (↑x) (Int.ofNat (List.length (qaa y 46))))
 (so (qaa y 46)[Int.toNat ↑x]? fun (val : Bs) =>
 ∃ (y_3 : List UInt8),
 val = y_3 /\
 y_3.length <= 100000 /\
 br (!qaE y_3) (Bool.false = qbB y /\ True)
 (ck (inR .i64 (↑x + 1))
 (∃ (y_4 : Nat),
 (y_4 <= List.length (qaa y 46) /\
 ∀ (j : Nat) (h : j < List.length (qaa y 46)), j < y_4 -> qaE (qaa y 46)[j] = Bool.true) /\
 Ann.μ (qld y) y_4 < Ann.μ (qld y) x /\
 (SV.lst Bs (qaa y 46) qbb =
 SV.lst Bs (qaa y 46) qbb /\
 eqI (↑x + 1) ↑y_4 /\ True) /\
 True /\ True)))
 (Bool.true = qbB y /\ True)))) := by kernel_rfl
end Go.Proofs
namespace Go.Proofs
open Go Go.Am Go.RowKit Go.Sy
variable [Inhabited DrP]
section
variable {α : Type} {l : List α} {p : α -> Bool} {x : Nat}
theorem qdS (h : ∀ (j : Nat) (h : j < l.length), j < x -> p l[j] = true) (hx : ¬ (x : Int) < Int.ofNat l.length) : l.all p = true := by
 rw [List.all_eq_true]; intro a ha; obtain ⟨j, hj, rfl⟩ := List.getElem_of_mem ha; exact h j hj (by simp only [Int.ofNat_eq_natCast] at hx; omega)
theorem qeE (h : x < l.length) (hp : p l[x] = false) : l.all p = false := by
 rw [Bool.eq_false_iff]; intro ha; rw [List.all_eq_true] at ha; rw [ha _ (List.getElem_mem h)] at hp
 cases hp
theorem qdT (h : ∀ (j : Nat) (h : j < l.length), j < x -> p l[j] = true) (hx : x < l.length) (hp : p l[x] = true) : ∀ (j : Nat) (h : j < l.length), j < x + 1 -> p l[j] = true := by
 intro j hj hjx; by_cases e : j = x
 · subst e; exact hp
 · exact h j hj (by omega)
end
theorem qad {x n : Nat} (h : ltI (x : Int) (Int.ofNat n) = true) : x < n := by
 rw [qan, decide_eq_true_eq, Int.ofNat_eq_natCast] at h; omega
theorem qbf {x n : Nat} (h : ltI (x : Int) (Int.ofNat n) = false) : ¬ (x : Int) < Int.ofNat n := by
 rw [qan, decide_eq_false_iff_not] at h; exact h
theorem qax {α : Type} {l : List α} {x : Nat} (h : x < l.length) : l[Int.toNat (x : Int)]? = some l[x] := by simp [h]
theorem qs0 : CO zz90 qnI := qae (cfg := fun y => cfgS con0 (qaQ y)) zz1 (fun _ => rfl) (fun _ => qbE) (n := 400) (by
 rw [qtr]; rintro ⟨b, e⟩ -; simp only [br_iff, qaX, qbQ, and_true, decide_eq_true_eq, decide_eq_false_iff_not, beq_iff_eq, beq_eq_false_iff_ne]; refine ⟨fun h => ⟨fun h2 => by simp [h, h2], fun h2 => by simp [h, h2]⟩, fun h => ⟨fun h1 => ⟨fun h2 => ?_, fun h2 => ⟨fun h3 => ⟨fun h4 => ?_, fun h4 => ⟨fun h5 => ?_, fun h5 => ?_⟩⟩, fun h3 => ⟨fun h5 => ?_, fun h5 => ?_⟩⟩⟩, fun h1 => ⟨fun h3 => ⟨fun h4 => ?_, fun h4 => ⟨fun h5 => ?_, fun h5 => ?_⟩⟩, fun h3 => ⟨fun h5 => ?_, fun h5 => ?_⟩⟩⟩⟩
 all_goals (simp_all <;> omega))
theorem quF : CO zz75 qr0 := qae (cfg := fun y => cfgS con0 (qaQ y)) zz1 (fun _ => rfl) (fun _ => qbE) (n := 400) (by
 rw [qu6]; intro b _; simp only [br_iff, qaX, qck, and_true, decide_eq_true_eq, decide_eq_false_iff_not, beq_iff_eq, beq_eq_false_iff_ne]; refine ⟨fun h1 => ⟨fun h2 => ?_, fun h2 => ⟨fun h3 => ⟨fun h4 => ?_, fun h4 => ⟨fun h5 => ?_, fun h5 => ?_⟩⟩, fun h3 => ⟨fun h5 => ?_, fun h5 => ?_⟩⟩⟩, fun h1 => ⟨fun h3 => ⟨fun h4 => ?_, fun h4 => ⟨fun h5 => ?_, fun h5 => ?_⟩⟩, fun h3 => ⟨fun h5 => ?_, fun h5 => ?_⟩⟩⟩
 all_goals (simp_all <;> omega))
theorem qdV : ∀ g C, qfW g = some C -> CO g C := qab qs0 (qab quF qpF)
theorem qgj (b : UInt8) (e : Bool) : qbQ (nB b) e = (qck b && !(nB b == 45 && e)) := by
 unfold qbQ qck; by_cases h : nB b = 45
 · simp [h]
 · have : (nB b == 45) = false := by simpa using h
   simp [h, this]
theorem eq45 (b : UInt8) : b = 45 ↔ nB b = 45 := ⟨fun h => by rw [h]; rfl, fun h => qjG (h.trans rfl)⟩
theorem qjy (s : Bs) (h0 : s ≠ []) (h63 : s.length <= 63) : qaE s = true ↔ ∀ (j : Nat) (h : j < s.length), qbQ (nB s[j]) (j == 0 || j == s.length - 1) = true := by
 have hp : 0 < s.length := List.length_pos_iff.2 h0; have hhd : s.head? = some s[0] := by rw [List.head?_eq_getElem?]; simp [hp]
 have htl : s.getLast? = some (s[s.length - 1]'(by omega)) := by rw [List.getLast?_eq_getElem?]; simp [hp]
 unfold qaE; rw [hhd, htl]; simp only [Bool.and_eq_true, bne_iff_ne, ne_eq, h0, not_false_eq_true, decide_eq_true_eq, h63, true_and, List.all_eq_true, Option.some.injEq]; constructor
 · rintro ⟨⟨h1, h2⟩, h3⟩ j hj; rw [qgj, h1 _ (List.getElem_mem hj)]; by_cases e0 : j = 0
   · subst e0; rw [eq45] at h2; simp [h2]
   · by_cases e1 : j = s.length - 1
     · subst e1; rw [eq45] at h3; simp [h3]
     · simp [e0, e1]
 · intro h; refine ⟨⟨fun b hb => ?_, ?_⟩, ?_⟩
   · obtain ⟨j, hj, rfl⟩ := List.getElem_of_mem hb; have := h j hj; rw [qgj, Bool.and_eq_true] at this; exact this.1
   · have := h 0 hp; rw [qgj, Bool.and_eq_true] at this; rw [eq45]; have h2 := this.2; simpa using h2
   · have := h (s.length - 1) (by omega); rw [qgj, Bool.and_eq_true] at this; rw [eq45]; have h2 := this.2; simpa using h2
theorem qhJ {s : Bs} (h0 : s ≠ []) (h63 : s.length <= 63) {x : Nat} (h : x < s.length) (hx : qbQ (nB s[x]) (x == 0 || x == s.length - 1) = false) : qaE s = false := by
 rw [Bool.eq_false_iff]; intro hl; rw [(qjy s h0 h63).1 hl x h] at hx
 cases hx
theorem qjx {s : Bs} (h : 63 < s.length) : qaE s = false := by
 unfold qaE; have : decide (s.length <= 63) = false := by simp; omega
 simp [this]
theorem qsQ : CO zz28 (cBs qaE) := qae (cfg := fun y => cfgS qfW (qaL zz28 4 (qfI y))) zz1 (fun _ => rfl) (fun _ => qdV) (n := 400) (by
 rw [qtn]; intro s hpre; have hpre : s.length <= 100000 := hpre; refine br_iff.2 ⟨fun h => ?_, fun h => br_iff.2 ⟨fun h2 => ?_, fun h2 => ⟨⟨0, ⟨by simp, fun j h hj => by omega⟩, ⟨rfl, rfl, rfl, trivial⟩, trivial, trivial⟩, ?_⟩⟩⟩
 · have : s = [] := by simpa using h
   subst this; exact ⟨rfl, trivial⟩
 · rw [qan, decide_eq_true_eq, Int.ofNat_eq_natCast] at h2; exact ⟨(qjx (by omega)).symm, trivial⟩
 have h0 : s ≠ [] := by simpa using h
 have h63 : s.length <= 63 := by
   rw [qan, decide_eq_false_iff_not, Int.ofNat_eq_natCast] at h2; omega
 rintro x ⟨hx, hall⟩; refine br_iff.2 ⟨fun hlt => so_iff.2 ⟨_, qax (qad hlt), ?_⟩, fun hge => ⟨((qjy s h0 h63).2 fun j hj => hall j hj (by have := qbf hge; simp only [Int.ofNat_eq_natCast] at this; omega)).symm, trivial⟩⟩; have hlt' := qad hlt; have next : qbQ (nB s[x]) (x == 0 || x == s.length - 1) = true -> ∃ (y_2 : Nat), (y_2 <= s.length /\ ∀ (j : Nat) (h : j < s.length), j < y_2 -> qbQ (nB s[j]) (j == 0 || j == s.length - 1) = true) /\ (qfI s).μ y_2 < (qfI s).μ x /\ (s = s /\ eqI (Int.ofNat s.length) (Int.ofNat s.length) /\ eqI (↑x + 1) ↑y_2 /\ True) /\ True /\ True := by
   intro he; refine ⟨x + 1, ⟨by omega, fun j hj hjx => ?_⟩, ?_, ⟨rfl, rfl, by simp [eqI], trivial⟩, trivial, trivial⟩
   · by_cases e : j = x
     · subst e; exact he
     · exact hall j hj (by omega)
   · show s.length - (x + 1) < s.length - x
     omega
 refine br_iff.2 ⟨fun hx0 => ⟨(s[x], true), rfl, rfl, trivial, br_iff.2 ⟨fun hs => ?_, fun hs => ck_iff.2 ⟨qam x (by omega), next ?_⟩⟩⟩, fun hx0 => ck_iff.2 ⟨by rw [qcv, Int.ofNat_eq_natCast]; omega, (s[x], (x : Int) == Int.ofNat s.length - 1), rfl, rfl, trivial, br_iff.2 ⟨fun hs => ?_, fun hs => ck_iff.2 ⟨qam x (by omega), next ?_⟩⟩⟩⟩
 · have : x = 0 := by simpa using hx0
   subst this; exact ⟨(qhJ h0 h63 hlt' (by simpa using hs)).symm, trivial⟩
 · have : x = 0 := by simpa using hx0
   subst this; simpa using hs
 · have hx1 : ¬ x = 0 := by simpa using hx0
   have e : ((x : Int) == Int.ofNat s.length - 1) = (x == 0 || x == s.length - 1) := by
     rw [Bool.eq_iff_iff]; simp [hx1]; omega
   rw [e] at hs; exact ⟨(qhJ h0 h63 hlt' (by simpa using hs)).symm, trivial⟩
 · have hx1 : ¬ x = 0 := by simpa using hx0
   have e : ((x : Int) == Int.ofNat s.length - 1) = (x == 0 || x == s.length - 1) := by
     rw [Bool.eq_iff_iff]; simp [hx1]; omega
   rw [e] at hs; simpa using hs)
theorem qgN {s : Bs} {x : Nat} (h : x < s.length) (hx : qck s[x] = false) : qaE s = false := by
 unfold qaE; rw [qeE h hx]; simp
theorem qqN : CO zz23 (cBs qaE) := qae (cfg := fun y => cfgS qfW (qaL zz23 4 (qh4 y))) zz1 (fun _ => rfl) (fun _ => qdV) (n := 400) (by
 rw [qre]; intro s hpre; have hpre : s.length <= 100000 := hpre; refine br_iff.2 ⟨fun h => ?_, fun h => br_iff.2 ⟨fun h2 => ?_, fun h2 => ?_⟩⟩
 · rw [qan, decide_eq_true_eq, Int.ofNat_eq_natCast] at h; have : s = [] := List.eq_nil_of_length_eq_zero (by omega); subst this; exact ⟨rfl, trivial⟩
 · rw [qan, decide_eq_true_eq, Int.ofNat_eq_natCast] at h2; exact ⟨(qjx (by omega)).symm, trivial⟩
 rw [qan, decide_eq_false_iff_not, Int.ofNat_eq_natCast] at h h2; have hp : 0 < s.length := by omega
 have h0 : s ≠ [] := List.length_pos_iff.1 hp; have hhd : s.head? = some s[0] := by rw [List.head?_eq_getElem?]; simp [hp]
 have htl : s.getLast? = some (s[s.length - 1]'(by omega)) := by rw [List.getLast?_eq_getElem?]; simp [hp]
 have hlast : s[Int.toNat (Int.ofNat s.length - 1)]? = some (s[s.length - 1]'(by omega)) := by
   rw [show Int.toNat (Int.ofNat s.length - 1) = s.length - 1 by rw [Int.ofNat_eq_natCast]; omega]; simp [hp]
 refine so_iff.2 ⟨s[0], by simp [hp], br_iff.2 ⟨fun h3 => ?_, fun h3 => ck_iff.2 ⟨by rw [qcv, Int.ofNat_eq_natCast]; omega, ck_iff.2 ⟨by rw [qhs, decide_eq_true_eq, Int.ofNat_eq_natCast]; omega, so_iff.2 ⟨_, hlast, br_iff.2 ⟨fun h4 => ?_, fun h4 => ⟨⟨0, ⟨by simp, fun j h hj => by omega⟩, ⟨rfl, rfl, trivial⟩, trivial, trivial⟩, ?_⟩⟩⟩⟩⟩⟩⟩
 · have : s[0] = 45 := by rw [eq45]; simpa [nB] using h3
   refine ⟨?_, trivial⟩; unfold qaE; rw [hhd, this]; simp
 · have : s[s.length - 1]'(by omega) = 45 := by rw [eq45]; simpa [nB] using h4
   refine ⟨?_, trivial⟩; unfold qaE; rw [htl, this]; simp
 rintro x ⟨hx, hall⟩; refine br_iff.2 ⟨fun hlt => so_iff.2 ⟨_, qax (qad hlt), s[x]'(qad hlt), rfl, trivial, br_iff.2 ⟨fun hs => ⟨(qgN (qad hlt) (by simpa using hs)).symm, trivial⟩, fun hs => ck_iff.2 ⟨qam x (by have := qad hlt; omega), x + 1, ⟨qad hlt, qdT hall (qad hlt) (by simpa using hs)⟩, ?_, ⟨rfl, by simp [eqI], trivial⟩, trivial, trivial⟩⟩⟩, fun hge => ⟨?_, trivial⟩⟩
 · have := qad hlt; show s.length - (x + 1) < s.length - x
   omega
 · have ha := qdS hall (qbf hge); have n1 : s[0] ≠ 45 := by intro e; rw [eq45] at e; simp [nB] at e h3; exact h3 e
   have n2 : (s[s.length - 1]'(by omega)) ≠ 45 := by intro e; rw [eq45] at e; simp [nB] at e h4; exact h4 e
   unfold qaE; rw [ha, hhd, htl]; simp [h0, n1, n2]; omega)
theorem qoE {p : Bs} (h0 : p ≠ []) (hd : ∀ b ∈ p, qaJ b = true) : numB p = (p.foldl qap 0, true) := by
 cases p with
 | nil => exact absurd rfl h0
 | cons b s =>
  have hb := (qb9 b).1 (hd b List.mem_cons_self); have hn : negB (b :: s) = false := by
   show (nB b == 45) = false
   rw [beq_eq_false_iff_ne]; omega
  have ha := qeC hn; rw [qkP (by rw [ha]; simp) (by rw [ha]; exact hd), ha, hn]; simp
theorem qfm {b : UInt8} {n : Nat} (h : nB b = 48 + (n : Int)) : UInt8.ofNat (48 + n) = b := by
 apply qjG; have := qqA b; rw [h]; unfold nB; rw [UInt8.toNat_ofNat']; rw [Nat.mod_eq_of_lt (by omega)]; simp
theorem qcM {b : UInt8} (h : qaJ b = true) : ∃ d : Nat, d <= 9 /\ nB b = 48 + (d : Int) := by
 rw [qb9] at h; exact ⟨(nB b - 48).toNat, by omega, by omega⟩
theorem qbj {n : Int} {b : UInt8} {d : Nat} (hb : nB b = 48 + (d : Int)) (hd : d <= 9) (h0 : 0 <= n) (hn : n <= 100000) : qap n b = n * 10 + d := by
 unfold qap; rw [hb]; omega
theorem qsq (s : Bs) (hd : ∀ b ∈ s, qaJ b = true) : ∀ n : Int, 1000 <= n -> n <= 1099511627776 -> 1000 <= s.foldl qap n := by
 induction s with
 | nil => intro n h _; exact h
 | cons b s ih =>
  intro n h1 h2; have hb := (qb9 b).1 (hd b List.mem_cons_self); refine ih (fun c hc => hd c (List.mem_cons_of_mem _ hc)) _ ?_ ?_ <;> unfold qap <;> omega
theorem qtf (d : Nat) (h : d <= 9) : qdl d = [UInt8.ofNat (48 + d)] := by unfold qdl; exact qmk 39 d h
theorem quP (n : Nat) (h : 9 < n) (h2 : n <= 99) : qdl n = [UInt8.ofNat (48 + n / 10), UInt8.ofNat (48 + n % 10)] := by
 unfold qdl; show qfF (39 + 1) n = _
 have : ¬ n <= 9 := by omega
 simp only [qfF, if_neg this]; rw [if_pos (by omega)]; rfl
theorem qvU (n : Nat) (h : 99 < n) (h2 : n <= 999) : qdl n = [UInt8.ofNat (48 + n / 100), UInt8.ofNat (48 + n / 10 % 10), UInt8.ofNat (48 + n % 10)] := by
 unfold qdl; show qfF (39 + 1) n = _
 have h3 : ¬ n <= 9 := by omega
 have h4 : ¬ n / 10 <= 9 := by omega
 simp only [qfF, if_neg h3, if_neg h4]; rw [if_pos (by omega)]; rw [show n / 10 / 10 = n / 100 by omega]; rfl
theorem qqY {p : Bs} (h1 : 1 <= p.length) (hd : qaD p = p.length) : 0 <= (numB p).1 /\ (numB p).1 <= 1099511627776 := by
 have hdd : ∀ b ∈ p, qaJ b = true := qeM (by omega); rw [qoE (List.length_pos_iff.1 h1) hdd]; exact qgJ p hdd 0 (by omega) (by omega)
theorem qg2 {p : Bs} (h1 : 1 <= p.length) (hd : qaD p = p.length) (h2 : (numB p).1 <= 255) : (decide (1 < p.length) && p.head? == some 48) = false ↔ (p.length <= 3 /\ qdl (numB p).1.toNat = p) := by
 have hdd : ∀ b ∈ p, qaJ b = true := qeM (by omega); rw [qoE (List.length_pos_iff.1 h1) hdd] at h2 ⊢; simp only at h2 ⊢; have e48 : ∀ b : UInt8, b = 48 ↔ nB b = 48 := fun b => ⟨fun h => by rw [h]; rfl, fun h => qjG (h.trans rfl)⟩
 match p, h1 with
 | [a], _ =>
  obtain ⟨d, d9, hb⟩ := qcM (hdd a (by simp)); simp only [List.foldl_cons, List.foldl_nil, qbj hb d9 (Int.le_refl 0) (by omega)]; rw [show ((0 : Int) * 10 + (d : Int)).toNat = d by omega, qtf d d9, qfm hb]; simp
 | [a, b], _ =>
  obtain ⟨d, d9, hb⟩ := qcM (hdd a (by simp)); obtain ⟨d2, d29, hb2⟩ := qcM (hdd b (by simp)); simp only [List.foldl_cons, List.foldl_nil, qbj hb d9 (Int.le_refl 0) (by omega)]; rw [qbj hb2 d29 (by omega) (by omega), show (((0 : Int) * 10 + (d : Int)) * 10 + (d2 : Int)).toNat = d * 10 + d2 by omega]; by_cases hz : d = 0
  · subst hz; have : a = 48 := by rw [e48]; simpa using hb
    rw [show 0 * 10 + d2 = d2 by omega, qtf d2 d29]; simp [this]
  · have : a ≠ 48 := by intro e; rw [e48] at e; omega
    rw [quP _ (by omega) (by omega), show (d * 10 + d2) / 10 = d by omega, show (d * 10 + d2) % 10 = d2 by omega, qfm hb, qfm hb2]; simp [this]
 | [a, b, c], _ =>
  obtain ⟨d, d9, hb⟩ := qcM (hdd a (by simp)); obtain ⟨d2, d29, hb2⟩ := qcM (hdd b (by simp)); obtain ⟨d3, d39, hb3⟩ := qcM (hdd c (by simp)); simp only [List.foldl_cons, List.foldl_nil, qbj hb d9 (Int.le_refl 0) (by omega)]; rw [qbj hb2 d29 (by omega) (by omega), qbj hb3 d39 (by omega) (by omega), show ((((0 : Int) * 10 + (d : Int)) * 10 + (d2 : Int)) * 10 + (d3 : Int)).toNat = d * 100 + d2 * 10 + d3 by omega]; by_cases hz : d = 0
  · subst hz; have : a = 48 := by rw [e48]; simpa using hb
    have hlt : (qdl (0 * 100 + d2 * 10 + d3)).length < 3 := by
     by_cases h : d2 = 0
     · subst h; rw [show 0 * 100 + 0 * 10 + d3 = d3 by omega, qtf d3 d39]; simp
     · rw [quP _ (by omega) (by omega)]; simp
    have hne : qdl (0 * 100 + d2 * 10 + d3) ≠ [a, b, c] := by
     intro e; rw [e] at hlt; simp at hlt
    simp only [this, List.length_cons, List.length_nil, List.head?_cons]; rw [this] at hne; have hne2 : qdl (d2 * 10 + d3) ≠ [48, b, c] := by simpa using hne
    simp [hne2]
  · have : a ≠ 48 := by intro e; rw [e48] at e; omega
    rw [qvU _ (by omega) (by omega), show (d * 100 + d2 * 10 + d3) / 100 = d by omega, show (d * 100 + d2 * 10 + d3) / 10 % 10 = d2 by omega, show (d * 100 + d2 * 10 + d3) % 10 = d3 by omega, qfm hb, qfm hb2, qfm hb3]; simp [this]
 | a :: b :: c :: e :: s, _ =>
  obtain ⟨d, d9, hb⟩ := qcM (hdd a (by simp)); obtain ⟨d2, d29, hb2⟩ := qcM (hdd b (by simp)); obtain ⟨d3, d39, hb3⟩ := qcM (hdd c (by simp)); obtain ⟨d4, d49, hb4⟩ := qcM (hdd e (by simp)); have hz : d = 0 := by
    apply Decidable.byContradiction; intro hz; simp only [List.foldl_cons, qbj hb d9 (Int.le_refl 0) (by omega)] at h2; rw [qbj hb2 d29 (by omega) (by omega), qbj hb3 d39 (by omega) (by omega), qbj hb4 d49 (by omega) (by omega)] at h2; have := qsq s (fun x hx => hdd x (by simp [hx])) (((((0 : Int) * 10 + (d : Int)) * 10 + (d2 : Int)) * 10 + (d3 : Int)) * 10 + (d4 : Int)) (by omega) (by omega); omega
  subst hz; have : a = 48 := by rw [e48]; simpa using hb
  constructor
  · intro h; simp [this] at h
  · rintro ⟨h, _⟩; simp at h
theorem qjr {s : Bs} {x : Nat} (h : x < (qaa s 46).length) (hp : qcb (qaa s 46)[x] = false) : qbr s = false := by
 unfold qbr; rw [qeE h hp]; simp
theorem qgd {s : Bs} {x : Nat} (h : x < (qaa s 46).length) : ((qaa s 46)[x]).length <= s.length := qk6 s 46 _ (List.getElem_mem h)
theorem qur : CO zz41 (cBs qbr) := qae (cfg := fun y => cfgS qfW (qaL zz41 5 (qiT y))) zz1 (fun _ => rfl) (fun _ => qdV) (n := 400) (by
 rw [qu0]; intro s hpre; have hpre : s.length <= 100000 := hpre; have hsl := qfD s 46; refine ⟨(s, 46), rfl, rfl, hpre, br_iff.2 ⟨fun h => ?_, fun h => ⟨⟨0, ⟨by simp, fun j h hj => by omega⟩, ⟨rfl, rfl, rfl, trivial⟩, trivial, trivial⟩, ?_⟩⟩⟩
 · refine ⟨?_, trivial⟩; unfold qbr; have : ¬ (qaa s 46).length = 4 := by
     simp only [Bool.not_eq_true', beq_eq_false_iff_ne, ne_eq, Int.ofNat_eq_natCast] at h; omega
   simp [this]
 have h4 : (qaa s 46).length = 4 := by
   simp only [Bool.not_eq_false', beq_iff_eq, Int.ofNat_eq_natCast] at h; omega
 rintro x ⟨hx, hall⟩; refine br_iff.2 ⟨fun hlt => so_iff.2 ⟨_, qax (qad hlt), ?_⟩, fun hge => ⟨?_, trivial⟩⟩
 · have hx' := qad hlt; have hpl := qgd hx'; have next : qcb (qaa s 46)[x] = true -> ck (inR Go.IntKind.i64 (↑x + 1)) (∃ (y_4 : Nat), (y_4 <= (qaa s 46).length /\ ∀ (j : Nat) (h : j < (qaa s 46).length), j < y_4 -> qcb (qaa s 46)[j] = true) /\ (qiT s).μ y_4 < (qiT s).μ x /\ (SV.lst Bs (qaa s 46) qbb = SV.lst Bs (qaa s 46) qbb /\ eqI (Int.ofNat (qaa s 46).length) (Int.ofNat (qaa s 46).length) /\ eqI (↑x + 1) ↑y_4 /\ True) /\ True /\ True) := by
     intro hp; refine ck_iff.2 ⟨qam x (by omega), x + 1, ⟨hx', qdT hall hx' hp⟩, ?_, ⟨rfl, rfl, by simp [eqI], trivial⟩, trivial, trivial⟩; show (qaa s 46).length - (x + 1) < (qaa s 46).length - x
     omega
   generalize hpe : (qaa s 46)[x] = p at *
   have fail : qcb p = false -> false = qbr s := fun h => (qjr hx' (by rw [hpe]; exact h)).symm
   refine ⟨p, rfl, by omega, br_iff.2 ⟨fun h1 => ⟨fail ?_, trivial⟩, fun h1 => ⟨p, rfl, by omega, br_iff.2 ⟨fun h2 => ⟨fail ?_, trivial⟩, fun h2 => br_iff.2 ⟨fun h3 => ⟨fail ?_, trivial⟩, fun h3 => br_iff.2 ⟨fun h5 => ?_, fun h5 => next ?_⟩⟩⟩⟩⟩⟩
   · have : p = [] := by simpa using h1
     subst this; rfl
   · have := qad h2; unfold qcb; have h2' : ¬ qaD p = p.length := by omega
     simp [h2']
   · rw [qan, decide_eq_true_eq] at h3; unfold qcb; have : ¬ (numB p).1 <= 255 := by omega
     simp [this]
   all_goals (have hp0 : p ≠ [] := by simpa using h1)
   all_goals (have hd : qaD p = p.length := by have := qbf h2; have := qf4 p; simp only [Int.ofNat_eq_natCast] at *; omega)
   all_goals (have h255 : (numB p).1 <= 255 := by rw [qan, decide_eq_false_iff_not] at h3; omega)
   · rw [qan, decide_eq_true_eq, Int.ofNat_eq_natCast] at h5; have hpl1 : 1 < p.length := by omega
     refine so_iff.2 ⟨p[0], by simp [show 0 < p.length by omega], br_iff.2 ⟨fun h6 => ⟨fail ?_, trivial⟩, fun h6 => next ?_⟩⟩
     · have : p.head? = some 48 := by
        rw [List.head?_eq_getElem?, List.getElem?_eq_getElem (by omega)]; congr 1
        exact qjG (by simpa [nB] using h6)
       unfold qcb; simp [this, hpl1]
     · have : ¬ p.head? = some 48 := by
        rw [List.head?_eq_getElem?, List.getElem?_eq_getElem (by omega)]; intro e; simp only [Option.some.injEq] at e; rw [e] at h6; simp at h6
       unfold qcb; simp [this, hp0, hd, h255]
   · rw [qan, decide_eq_false_iff_not, Int.ofNat_eq_natCast] at h5; have hpl1 : ¬ 1 < p.length := by omega
     unfold qcb; simp [hpl1, hp0, hd, h255]
 · unfold qbr; rw [qdS hall (qbf hge)]; simp [h4])
theorem qsP : CO zz32 (cBs qbr) := qae (cfg := fun y => cfgS qfW (qaL zz32 5 (qlc y))) zz1 (fun _ => rfl) (fun _ => qdV) (n := 400) (by
 rw [qtm]; intro s hpre; have hpre : s.length <= 100000 := hpre; refine ⟨(s, 46), rfl, rfl, hpre, br_iff.2 ⟨fun h => ?_, fun h => ⟨⟨0, ⟨by simp, fun j h hj => by omega⟩, ⟨rfl, rfl, trivial⟩, trivial, trivial⟩, ?_⟩⟩⟩
 · refine ⟨?_, trivial⟩; unfold qbr; have : ¬ (qaa s 46).length = 4 := by
     simp only [Bool.not_eq_true', beq_eq_false_iff_ne, ne_eq, Int.ofNat_eq_natCast] at h; omega
   simp [this]
 have h4 : (qaa s 46).length = 4 := by
   simp only [Bool.not_eq_false', beq_iff_eq, Int.ofNat_eq_natCast] at h; omega
 rintro x ⟨hx, hall⟩; refine br_iff.2 ⟨fun hlt => ?_, fun hge => ⟨?_, trivial⟩⟩
 · have hx' : x < (qaa s 46).length := by rw [qan, decide_eq_true_eq] at hlt; omega
   have hpl := qgd hx'; have hget : (qaa s 46)[Int.toNat (x : Int)]? = some (qaa s 46)[x] := qax hx'; have next := qdT hall hx'; generalize hpe : (qaa s 46)[x] = p at *
   have fail : qcb p = false -> false = qbr s := fun h => (qjr hx' (by rw [hpe]; exact h)).symm
   refine so_iff.2 ⟨p, hget, br_iff.2 ⟨fun h1 => ⟨fail ?_, trivial⟩, fun h1 => so_iff.2 ⟨p, hget, br_iff.2 ⟨fun h2 => ⟨fail ?_, trivial⟩, fun h2 => so_iff.2 ⟨p, hget, so_iff.2 ⟨p, hget, p, rfl, by omega, br_iff.2 ⟨fun h3 => ⟨fail ?_, trivial⟩, fun h3 => so_iff.2 ⟨p, hget, p, rfl, by omega, br_iff.2 ⟨fun h5 => ⟨fail ?_, trivial⟩, fun h5 => so_iff.2 ⟨p, hget, (numB p).1.toNat, ?_, ?_, br_iff.2 ⟨fun h6 => ⟨fail ?_, trivial⟩, fun h6 => ck_iff.2 ⟨qam x (by omega), x + 1, ⟨by omega, next ?_⟩, ?_, ⟨rfl, by simp [eqI], trivial⟩, trivial, trivial⟩⟩⟩⟩⟩⟩⟩⟩⟩⟩⟩⟩
   · rw [qan, decide_eq_true_eq, Int.ofNat_eq_natCast] at h1; have : p = [] := List.eq_nil_of_length_eq_zero (by omega); subst this; rfl
   all_goals (have hp1 : 1 <= p.length := by rw [qan, decide_eq_false_iff_not, Int.ofNat_eq_natCast] at h1; omega)
   · rw [qan, decide_eq_true_eq, Int.ofNat_eq_natCast] at h2; rw [Bool.eq_false_iff]; intro hp; unfold qcb at hp; simp only [Bool.and_eq_true, decide_eq_true_eq, Bool.not_eq_true'] at hp; have := (qg2 hp1 hp.1.1.2 hp.1.2).1 hp.2; omega
   · have h3' : ¬ qaD p = p.length := by
      simp only [Bool.not_eq_true', beq_eq_false_iff_ne, ne_eq, Int.ofNat_eq_natCast] at h3; omega
     unfold qcb; simp [h3']
   all_goals (have hd : qaD p = p.length := by simp only [Bool.not_eq_false', beq_iff_eq, Int.ofNat_eq_natCast] at h3; omega)
   all_goals (have hnn := qqY hp1 hd)
   · rw [qan, decide_eq_true_eq] at h5; unfold qcb; have : ¬ (numB p).1 <= 255 := by omega
     simp [this]
   · simp only [eqI]; omega
   · omega
   all_goals (have h255 : (numB p).1 <= 255 := by rw [qan, decide_eq_false_iff_not] at h5; omega)
   · rw [Bool.eq_false_iff]; intro hp; unfold qcb at hp; simp only [Bool.and_eq_true, decide_eq_true_eq, Bool.not_eq_true'] at hp; have := ((qg2 hp1 hd h255).1 hp.2).2; rw [this] at h6; simp at h6
   · have hl3 : p.length <= 3 := by rw [qan, decide_eq_false_iff_not, Int.ofNat_eq_natCast] at h2; omega
     have ht : qdl (numB p).1.toNat = p := by simpa using h6
     have := (qg2 hp1 hd h255).2 ⟨hl3, ht⟩; unfold qcb; rw [this]; have hp0 : p ≠ [] := List.length_pos_iff.1 hp1; simp [hp0, hd, h255]
   · show 4 - (x + 1) < 4 - x
     omega
 · unfold qbr; rw [qan, decide_eq_false_iff_not] at hge; rw [qdS hall (by rw [h4, Int.ofNat_eq_natCast]; omega)]; simp [h4])
theorem qrA {b : UInt8} {P Q : Prop} (hp : hexB b = true -> P) (hq : hexB b = false -> Q) :
  br (leI 48 (Int.ofNat (UInt8.toNat b))) (br (leI (Int.ofNat (UInt8.toNat b)) 57) P (br (leI 97 (Int.ofNat (UInt8.toNat b))) (br (leI (Int.ofNat (UInt8.toNat b)) 102) P (br (Int.ofNat (UInt8.toNat b) == 58) P (br (!Int.ofNat (UInt8.toNat b) == 46) Q P))) (br (Int.ofNat (UInt8.toNat b) == 58) P (br (!Int.ofNat (UInt8.toNat b) == 46) Q P))))
   (br (leI 97 (Int.ofNat (UInt8.toNat b))) (br (leI (Int.ofNat (UInt8.toNat b)) 102) P (br (Int.ofNat (UInt8.toNat b) == 58) P (br (!Int.ofNat (UInt8.toNat b) == 46) Q P))) (br (Int.ofNat (UInt8.toNat b) == 58) P (br (!Int.ofNat (UInt8.toNat b) == 46) Q P))) := by
 rw [qrD]; have e : hexB b = ((leI 48 (nB b) && leI (nB b) 57) || (leI 97 (nB b) && leI (nB b) 102) || (nB b == 58) || (nB b == 46)) := by
  simp only [qaX]; rfl
 rw [e] at hp hq; generalize leI 48 (nB b) = a1 at *
 generalize leI (nB b) 57 = a2 at *
 generalize leI 97 (nB b) = a3 at *
 generalize leI (nB b) 102 = a4 at *
 generalize (nB b == 58) = a5 at *
 generalize (nB b == 46) = a6 at *
 cases a1 <;> cases a2 <;> cases a3 <;> cases a4 <;> cases a5 <;> cases a6 <;> simp_all [br]
theorem qf0 {s : Bs} (h4 : 4 <= s.length) : s.head? = some (s[0]'(by omega)) /\ s.getLast? = some (s[s.length - 1]'(by omega)) := by
 rw [List.head?_eq_getElem?, List.getLast?_eq_getElem?]; exact ⟨by simp [show 0 < s.length by omega], by simp [show 0 < s.length by omega]⟩
theorem qoz {s : Bs} {j : Nat} (h : j < ((s.drop 1).take (s.length - 2)).length) : ((s.drop 1).take (s.length - 2))[j] = s[j + 1]'(by simp at h; omega) := by
 rw [List.getElem_take, List.getElem_drop]; congr 1
 omega
theorem qgr {s : Bs} (h : s.length < 4) : qaM s = false := by
 unfold qaM; have : decide (4 <= s.length) = false := by simp; omega
 simp [this]
theorem qiY {s : Bs} (h : 47 < s.length) : qaM s = false := by
 unfold qaM; have : decide (s.length <= 47) = false := by simp; omega
 simp [this]
theorem byte_eq {b : UInt8} {n : UInt8} : (Int.ofNat b.toNat == nB n) = true ↔ b = n := by
 constructor
 · intro h; exact qjG (by simpa [nB] using h)
 · intro h; subst h; simp [nB]
theorem qgq {s : Bs} (h4 : 4 <= s.length) (h : (!Int.ofNat (UInt8.toNat (s[0]'(by omega))) == 91) = true) : qaM s = false := by
 have : s[0]'(by omega) ≠ 91 := by
  intro e; rw [Bool.not_eq_true'] at h; rw [show (91 : Int) = nB 91 from rfl, byte_eq.2 e] at h
  cases h
 unfold qaM; rw [(qf0 h4).1]; simp [this]
theorem qhy {s : Bs} (h4 : 4 <= s.length) (h : (!Int.ofNat (UInt8.toNat (s[s.length - 1]'(by omega))) == 93) = true) : qaM s = false := by
 have : s[s.length - 1]'(by omega) ≠ 93 := by
  intro e; rw [Bool.not_eq_true'] at h; rw [show (93 : Int) = nB 93 from rfl, byte_eq.2 e] at h
  cases h
 unfold qaM; rw [(qf0 h4).2]; simp [this]
theorem qiZ {s : Bs} (h4 : 4 <= s.length) (h47 : s.length <= 47) (h1 : (!Int.ofNat (UInt8.toNat (s[0]'(by omega))) == 91) = false) (h2 : (!Int.ofNat (UInt8.toNat (s[s.length - 1]'(by omega))) == 93) = false) : qaM s = ((s.drop 1).take (s.length - 2)).all hexB := by
 have e1 : s[0]'(by omega) = 91 := byte_eq.1 (by simpa [nB] using h1); have e2 : s[s.length - 1]'(by omega) = 93 := byte_eq.1 (by simpa [nB] using h2); unfold qaM; rw [(qf0 h4).1, (qf0 h4).2, e1, e2]; simp [h4, h47]
theorem qsE : CO zz15 (cBs qaM) := qae (cfg := fun y => cfgS qfW (qaL zz15 4 (qbn y))) zz1 (fun _ => rfl) (fun _ => qdV) (n := 400) (by
 rw [qti]; intro s hpre; have hpre : s.length <= 100000 := hpre; refine br_iff.2 ⟨fun h => ⟨(qgr (by rw [qan, decide_eq_true_eq, Int.ofNat_eq_natCast] at h; omega)).symm, trivial⟩, fun h => br_iff.2 ⟨fun h2 => ⟨(qiY (by rw [qan, decide_eq_true_eq, Int.ofNat_eq_natCast] at h2; omega)).symm, trivial⟩, fun h2 => ?_⟩⟩; have h4 : 4 <= s.length := by rw [qan, decide_eq_false_iff_not, Int.ofNat_eq_natCast] at h; omega
 have h47 : s.length <= 47 := by rw [qan, decide_eq_false_iff_not, Int.ofNat_eq_natCast] at h2; omega
 have hi : Int.toNat (Int.ofNat s.length - 1) = s.length - 1 := by rw [Int.ofNat_eq_natCast]; omega
 have hr : inR Go.IntKind.i64 (Int.ofNat s.length - 1) = true := by rw [qcv, Int.ofNat_eq_natCast]; omega
 have hn : nn (Int.ofNat s.length - 1) = true := by rw [qhs, decide_eq_true_eq, Int.ofNat_eq_natCast]; omega
 rw [hi]; refine so_iff.2 ⟨s[0]'(by omega), by simp [show 0 < s.length by omega], br_iff.2 ⟨fun h5 => ⟨(qgq h4 h5).symm, trivial⟩, fun h5 => ck_iff.2 ⟨hr, ck_iff.2 ⟨hn, so_iff.2 ⟨s[s.length - 1]'(by omega), by simp [show 0 < s.length by omega], br_iff.2 ⟨fun h6 => ⟨(qhy h4 h6).symm, trivial⟩, fun h6 => ck_iff.2 ⟨hr, ck_iff.2 ⟨hn, ck_iff.2 ⟨by simp; omega, ⟨0, ⟨by simp, fun j h hj => by omega⟩, ⟨?_, ?_, rfl, trivial⟩, trivial, trivial⟩, ?_⟩⟩⟩⟩⟩⟩⟩⟩⟩
 · rw [show s.length - 1 - Int.toNat 1 = s.length - 2 by simp; omega]; rfl
 · rw [show s.length - 1 - Int.toNat 1 = s.length - 2 by simp; omega]; rfl
 have hb := qiZ h4 h47 h5 h6; rintro x ⟨hx, hall⟩; refine br_iff.2 ⟨fun hlt => so_iff.2 ⟨_, qax (qad hlt), qrA (fun hh => ck_iff.2 ⟨qam x (by have := qad hlt; simp at this; omega), x + 1, ⟨qad hlt, qdT hall (qad hlt) hh⟩, ?_, ⟨rfl, rfl, by simp [eqI], trivial⟩, trivial, trivial⟩) (fun hh => ⟨?_, trivial⟩)⟩, fun hge => ⟨?_, trivial⟩⟩
 · have := qad hlt; show ((s.drop 1).take (s.length - 2)).length - (x + 1) < ((s.drop 1).take (s.length - 2)).length - x
   omega
 · rw [hb, qeE (qad hlt) hh]
 · rw [hb, qdS hall (qbf hge)])
theorem qqI : CO zz10 (cBs qaM) := qae (cfg := fun y => cfgS con0 (qaL zz10 4 (qaZ y))) zz1 (fun _ => rfl) (fun _ => qbE) (n := 400) (by
 rw [qrd]; intro s hpre; have hpre : s.length <= 100000 := hpre; refine br_iff.2 ⟨fun h => ⟨(qgr (by rw [qan, decide_eq_true_eq, Int.ofNat_eq_natCast] at h; omega)).symm, trivial⟩, fun h => br_iff.2 ⟨fun h2 => ⟨(qiY (by rw [qan, decide_eq_true_eq, Int.ofNat_eq_natCast] at h2; omega)).symm, trivial⟩, fun h2 => ?_⟩⟩; have h4 : 4 <= s.length := by rw [qan, decide_eq_false_iff_not, Int.ofNat_eq_natCast] at h; omega
 have h47 : s.length <= 47 := by rw [qan, decide_eq_false_iff_not, Int.ofNat_eq_natCast] at h2; omega
 have hi : Int.toNat (Int.ofNat s.length - 1) = s.length - 1 := by rw [Int.ofNat_eq_natCast]; omega
 have hr : inR Go.IntKind.i64 (Int.ofNat s.length - 1) = true := by rw [qcv, Int.ofNat_eq_natCast]; omega
 have hn : nn (Int.ofNat s.length - 1) = true := by rw [qhs, decide_eq_true_eq, Int.ofNat_eq_natCast]; omega
 rw [hi]; refine so_iff.2 ⟨s[0]'(by omega), by simp [show 0 < s.length by omega], br_iff.2 ⟨fun h5 => ⟨(qgq h4 h5).symm, trivial⟩, fun h5 => ck_iff.2 ⟨hr, ck_iff.2 ⟨hn, so_iff.2 ⟨s[s.length - 1]'(by omega), by simp [show 0 < s.length by omega], br_iff.2 ⟨fun h6 => ⟨(qhy h4 h6).symm, trivial⟩, fun h6 => ⟨⟨1, ⟨by omega, by omega, fun j h h1 hj => by omega⟩, ⟨rfl, rfl, trivial⟩, trivial, trivial⟩, ?_⟩⟩⟩⟩⟩⟩⟩; have hb := qiZ h4 h47 h5 h6; rintro x ⟨hx1, hx, hall⟩; refine ck_iff.2 ⟨hr, br_iff.2 ⟨fun hlt => ?_, fun hge => ⟨?_, trivial⟩⟩⟩
 · have hlt' : x + 1 < s.length := by rw [qan, decide_eq_true_eq, Int.ofNat_eq_natCast] at hlt; omega
   refine so_iff.2 ⟨s[x], qax (by omega), qrA (fun hh => ck_iff.2 ⟨qam x (by omega), x + 1, ⟨by omega, by omega, fun j hj h1 hjx => ?_⟩, ?_, ⟨rfl, by simp [eqI], trivial⟩, trivial, trivial⟩) (fun hh => ⟨?_, trivial⟩)⟩
   · by_cases e : j = x
     · subst e; exact hh
     · exact hall j hj h1 (by omega)
   · show s.length - (x + 1) < s.length - x
     omega
   · have hl : x - 1 < ((s.drop 1).take (s.length - 2)).length := by simp; omega
     rw [hb, qeE hl (by rw [qoz hl]; simp only [show x - 1 + 1 = x by omega]; exact hh)]
 · rw [qan, decide_eq_false_iff_not, Int.ofNat_eq_natCast] at hge; rw [hb]; symm; rw [List.all_eq_true]; intro b hbm; obtain ⟨j, hj, rfl⟩ := List.getElem_of_mem hbm; rw [qoz hj]; simp at hj; exact hall (j + 1) (by omega) (by omega) (by omega))
theorem qf2 : ∀ g C, qjc g = some C -> CO g C := qab qsQ (qab qqN (qab qur (qab qsP (qab qsE (qab qqI qdV)))))
theorem quh : CO zz51 (cBs qcg) := qae (cfg := fun y => cfgS qjc (qaQ y)) zz1 (fun _ => rfl) (fun _ => qf2) (n := 400) (by
 rw [quV]; intro s hpre; refine ⟨s, rfl, hpre, br_iff.2 ⟨fun h => ⟨by unfold qcg; rw [h]; rfl, trivial⟩, fun h => ⟨s, rfl, hpre, by unfold qcg; rw [h]; rfl, trivial⟩⟩⟩)
theorem qsC : CO zz45 (cBs qcg) := qae (cfg := fun y => cfgS qjc (qaQ y)) zz1 (fun _ => rfl) (fun _ => qf2) (n := 400) (by
 rw [qth]; intro s hpre; refine ⟨s, rfl, hpre, br_iff.2 ⟨fun h => ⟨by unfold qcg; rw [h]; rfl, trivial⟩, fun h => ⟨s, rfl, hpre, by unfold qcg; rw [h]; rfl, trivial⟩⟩⟩)
theorem ql5 {s : Bs} (h : 256 < s.length) : qbB s = false := by
 unfold qbB; have : decide (s.length <= 256) = false := by simp; omega
 simp [this]
theorem qjJ {s : Bs} (h : qbr s = true) : qbB s = false := by
 unfold qbB; simp [h]
theorem qm5 {s : Bs} (h : qaM s = true) : qbB s = false := by
 unfold qaM at h; simp only [Bool.and_eq_true, beq_iff_eq] at h; have h1 := h.1.1.2
 cases s with
 | nil => simp at h1
 | cons b s =>
  simp only [List.head?_cons, Option.some.injEq] at h1; subst h1; have : (qaa (91 :: s) 46).all qaE = false := by
   have hs : qaa (91 :: s) 46 = (match qaa s 46 with | h :: t => (91 :: h) :: t | [] => [[91]]) := by
    rw [qaa]; rw [if_neg (by decide)]
    try (cases qaa s 46 <;> rfl)
   rw [hs]; have hl : ∀ h : Bs, qaE (91 :: h) = false := fun h => qgN (s := 91 :: h) (x := 0) (by simp) (by simp [qck, nB])
   cases qaa s 46 with
   | nil => simp [hl]
   | cons h t => simp [hl]
  unfold qbB; rw [this]; simp
theorem qjI {s : Bs} {x : Nat} (h : x < (qaa s 46).length) (hp : qaE (qaa s 46)[x] = false) : qbB s = false := by
 unfold qbB; rw [qeE h hp]; simp
theorem qjH {s : Bs} (h1 : s.length <= 256) (h2 : qbr s = false) : qbB s = (qaa s 46).all qaE := by
 unfold qbB; simp [h1, h2]
theorem qsU : CO zz31 (cBs qbB) := qae (cfg := fun y => cfgS qjc (qaL zz31 5 (qld y))) zz1 (fun _ => rfl) (fun _ => qf2) (n := 400) (by
 rw [qtp]; intro s hpre; have hpre : s.length <= 100000 := hpre; have hsl := qfD s 46; refine br_iff.2 ⟨fun h => ⟨(ql5 (by rw [qan, decide_eq_true_eq, Int.ofNat_eq_natCast] at h; omega)).symm, trivial⟩, fun h => ⟨s, rfl, hpre, br_iff.2 ⟨fun h2 => ⟨(qjJ h2).symm, trivial⟩, fun h2 => ⟨(s, 46), rfl, rfl, hpre, ⟨0, ⟨by simp, fun j h hj => by omega⟩, ⟨rfl, rfl, trivial⟩, trivial, trivial⟩, ?_⟩⟩⟩⟩; have h256 : s.length <= 256 := by rw [qan, decide_eq_false_iff_not, Int.ofNat_eq_natCast] at h; omega
 rintro x ⟨hx, hall⟩; refine br_iff.2 ⟨fun hlt => so_iff.2 ⟨_, qax (qad hlt), _, rfl, ?_, br_iff.2 ⟨fun hh => ⟨(qjI (qad hlt) (by simpa using hh)).symm, trivial⟩, fun hh => ck_iff.2 ⟨qam x (by have := qad hlt; omega), x + 1, ⟨qad hlt, qdT hall (qad hlt) (by simpa using hh)⟩, ?_, ⟨rfl, by simp [eqI], trivial⟩, trivial, trivial⟩⟩⟩, fun hge => ⟨?_, trivial⟩⟩
 · have := qgd (qad hlt); omega
 · have := qad hlt; show (qaa s 46).length - (x + 1) < (qaa s 46).length - x
   omega
 · rw [qjH h256 h2, qdS hall (qbf hge)])
theorem qlx : ∀ g C, qpI g = some C -> CO g C := qab quh (qab qsC (qab qsU qf2))
theorem quA : CO zz42 (cBs qbB) := qae (cfg := fun y => cfgS qpI (qaL zz42 4 (qpo y))) zz1 (fun _ => rfl) (fun _ => qlx) (n := 400) (by
 rw [qu3]; intro s hpre; have hpre : s.length <= 100000 := hpre; have hsl := qfD s 46; refine br_iff.2 ⟨fun h => ⟨(ql5 (by rw [qan, decide_eq_true_eq, Int.ofNat_eq_natCast] at h; omega)).symm, trivial⟩, fun h => ⟨s, rfl, hpre, br_iff.2 ⟨fun h2 => ⟨?_, trivial⟩, fun h2 => ⟨(s, 46), rfl, rfl, hpre, ⟨0, ⟨by simp, fun j h hj => by omega⟩, ⟨rfl, rfl, rfl, trivial⟩, trivial, trivial⟩, ?_⟩⟩⟩⟩
 · unfold qcg at h2; rw [Bool.or_eq_true] at h2; rcases h2 with h2 | h2
   · exact (qjJ h2).symm
   · exact (qm5 h2).symm
 have h256 : s.length <= 256 := by rw [qan, decide_eq_false_iff_not, Int.ofNat_eq_natCast] at h; omega
 have h3 : qbr s = false := by unfold qcg at h2; rw [Bool.or_eq_false_iff] at h2; exact h2.1
 rintro x ⟨hx, hall⟩; refine br_iff.2 ⟨fun hlt => so_iff.2 ⟨_, qax (qad hlt), _, rfl, ?_, br_iff.2 ⟨fun hh => ⟨(qjI (qad hlt) (by simpa using hh)).symm, trivial⟩, fun hh => ck_iff.2 ⟨qam x (by have := qad hlt; omega), x + 1, ⟨qad hlt, qdT hall (qad hlt) (by simpa using hh)⟩, ?_, ⟨rfl, rfl, by simp [eqI], trivial⟩, trivial, trivial⟩⟩⟩, fun hge => ⟨?_, trivial⟩⟩
 · have := qgd (qad hlt); omega
 · have := qad hlt; show (qaa s 46).length - (x + 1) < (qaa s 46).length - x
   omega
 · rw [qjH h256 h3, qdS hall (qbf hge)])
theorem qpJ : ∀ g C, qtY g = some C -> CO g C := qab quA qlx
theorem qpK : ∀ g C, qtZ g = some C -> CO g C := qpJ
theorem qpL : ∀ g C, qt0 g = some C -> CO g C := qpK
theorem qpM : ∀ g C, qt1 g = some C -> CO g C := qpL
end Go.Proofs
namespace Go.Proofs
open Go Go.Am Go.RowKit Go.Sy Go.Lib
structure CKey where
 name : Bs
 domain : Bs
 path : Bs
deriving DecidableEq, Inhabited
structure CCookie where
 value : Bs
 hostOnly : Bool
 secure : Bool
 httpOnly : Bool
 persistent : Bool
 expiry : Int
 creation : Int
 access : Int
deriving DecidableEq, Inhabited
structure CItem where
 key : CKey
 cookie : CCookie
deriving DecidableEq, Inhabited
structure CConfig where
 devices : Int
 domain : Int
 total : Int
 rules : List Bs
def CKey.enc (x : CKey) : List SV := [.str x.name, .str x.domain, .str x.path]
def CCookie.enc (x : CCookie) : List SV := [.str x.value, .bool x.hostOnly, .bool x.secure, .bool x.httpOnly, .bool x.persistent, .int .i64 x.expiry, .int .i64 x.creation, .int .i64 x.access]
def CItem.enc (x : CItem) : List SV := [.str x.key.name, .str x.key.domain, .str x.key.path, .str x.cookie.value, .bool x.cookie.hostOnly, .bool x.cookie.secure, .bool x.cookie.httpOnly, .bool x.cookie.persistent, .int .i64 x.cookie.expiry, .int .i64 x.cookie.creation, .int .i64 x.cookie.access]
def CConfig.enc (x : CConfig) : List SV := [.int .i64 x.devices, .int .i64 x.domain, .int .i64 x.total, .lst Bs x.rules qbb]
abbrev lt (a b : Bs) : Bool := Op.bytesLess a b
theorem lt_irrefl : ∀ a, lt a a = false
 | [] => rfl
 | a :: l => by simp [lt, Op.bytesLess]; exact lt_irrefl l
theorem lt_trans : ∀ a b c, lt a b = true -> lt b c = true -> lt a c = true := by
 intro a; induction a with
 | nil => intro b c h1 h2; cases c with
  | nil => cases b <;> simp [lt, Op.bytesLess] at h1 h2
  | cons => rfl
 | cons x a ih =>
  intro b c h1 h2
  cases b with
  | nil => simp [lt, Op.bytesLess] at h1
  | cons y b => cases c with
   | nil => simp [lt, Op.bytesLess] at h2
   | cons z c =>
    simp only [lt, Op.bytesLess, Bool.or_eq_true, decide_eq_true_eq, Bool.and_eq_true, beq_iff_eq] at *; rcases h1 with h1 | ⟨rfl, h1⟩ <;> rcases h2 with h2 | ⟨rfl, h2⟩
    · exact .inl (UInt8.lt_trans h1 h2)
    · exact .inl h1
    · exact .inl h2
    · exact .inr ⟨rfl, ih b c h1 h2⟩
theorem qov : ∀ a b, lt a b = true \/ a = b \/ lt b a = true := by
 intro a; induction a with
 | nil => intro b; cases b <;> simp [lt, Op.bytesLess]
 | cons x a ih =>
  intro b
  cases b with
  | nil => simp [lt, Op.bytesLess]
  | cons y b =>
   simp only [lt, Op.bytesLess, Bool.or_eq_true, decide_eq_true_eq, Bool.and_eq_true, beq_iff_eq, List.cons.injEq]; rcases Nat.lt_trichotomy x.toNat y.toNat with h | h | h
   · exact .inl (.inl (UInt8.lt_iff_toNat_lt.2 h))
   · have h : x = y := UInt8.toNat_inj.1 h; subst h; rcases ih b with h | h | h
     · exact .inl (.inr ⟨rfl, h⟩)
     · exact .inr (.inl ⟨rfl, h⟩)
     · exact .inr (.inr (.inr ⟨rfl, h⟩))
   · exact .inr (.inr (.inl (UInt8.lt_iff_toNat_lt.2 h)))
def cmpS (a b : Bs) : Int := if lt a b then -1 else if a = b then 0 else 1
theorem qgy : ∀ (a b : Bs), compareBytes a b = cmpS a b := by
 intro a; induction a with
 | nil => intro b; cases b <;> simp [compareBytes, cmpS, lt, Op.bytesLess]
 | cons x a ih =>
  intro b
  cases b with
  | nil => simp [compareBytes, cmpS, lt, Op.bytesLess]
  | cons y b =>
   simp only [compareBytes, ih b, cmpS, lt, Op.bytesLess, Bool.or_eq_true, decide_eq_true_eq, Bool.and_eq_true, beq_iff_eq, List.cons.injEq]; by_cases h1 : x < y
   · simp [h1]
   · by_cases h2 : y < x
     · have : x ≠ y := by rintro rfl; exact h1 h2
       simp [h1, h2, this]
     · have : x = y := UInt8.toNat_inj.1 (by have := UInt8.not_lt.1 h1; have := UInt8.not_lt.1 h2; simp [UInt8.le_iff_toNat_le] at *; omega); subst this; simp
theorem qnO (a b : Bs) : Extern.BytealgCompare.cmp ⟨a.toArray⟩ ⟨b.toArray⟩ = cmpS a b := by
 rw [cmp_eq, qgy]
theorem qeH (a b : Bs) : cmpS a b = 0 ↔ a = b := by
 unfold cmpS; by_cases h : a = b
 · subst h; simp [lt_irrefl]
 · by_cases h1 : lt a b = true <;> simp [h, h1]
theorem qib (a b : Bs) : cmpS a b < 0 ↔ lt a b = true := by
 unfold cmpS; by_cases h1 : lt a b = true
 · simp [h1]
 · by_cases h : a = b <;> simp [h, h1] <;> simp_all [lt_irrefl]
def cmpI (a b : Int) : Int := if a < b then -1 else if b < a then 1 else 0
theorem qi9 (a b : Int) : cmpI a b = 0 ↔ a = b := by
 unfold cmpI; by_cases h : a < b
 · rw [if_pos h]; omega
 · rw [if_neg h]; by_cases h2 : b < a
   · rw [if_pos h2]; omega
   · rw [if_neg h2]; omega
theorem qlr (a b : Int) : cmpI a b < 0 ↔ a < b := by
 unfold cmpI; by_cases h : a < b
 · rw [if_pos h]; omega
 · rw [if_neg h]; by_cases h2 : b < a
   · rw [if_pos h2]; omega
   · rw [if_neg h2]; omega
def qeX (a b : CKey) : Int := let n := cmpS a.name b.name; if n ≠ 0 then n else let d := cmpS a.domain b.domain; if d ≠ 0 then d else cmpS a.path b.path
def qa2 (a b : CKey) : Bool := decide (qeX a b < 0)
theorem qd0 (a b : CKey) : qa2 a b = if a.name ≠ b.name then lt a.name b.name else if a.domain ≠ b.domain then lt a.domain b.domain else lt a.path b.path := by
 rw [Bool.eq_iff_iff]; unfold qa2 qeX; by_cases h1 : a.name = b.name
 · have e1 := (qeH a.name b.name).2 h1; by_cases h2 : a.domain = b.domain
   · have e2 := (qeH a.domain b.domain).2 h2; have := qib a.path b.path; simp_all
   · have e2 := fun h => h2 ((qeH a.domain b.domain).1 h)
     have := qib a.domain b.domain; simp_all
 · have e1 := fun h => h1 ((qeH a.name b.name).1 h)
   have := qib a.name b.name; simp_all
theorem qcO (a : CKey) : qa2 a a = false := by simp [qd0, lt_irrefl]
theorem qbM (a b c : CKey) (h1 : qa2 a b = true) (h2 : qa2 b c = true) : qa2 a c = true := by
 rw [qd0] at *; by_cases n1 : a.name = b.name
 · by_cases n2 : b.name = c.name
   · have n3 : a.name = c.name := n1.trans n2; simp only [n1, n2, n3, ne_eq, not_true_eq_false, if_false] at h1 h2 ⊢; by_cases d1 : a.domain = b.domain
     · by_cases d2 : b.domain = c.domain
       · have d3 : a.domain = c.domain := d1.trans d2; simp only [d1, d2, d3, ne_eq, not_true_eq_false, if_false] at h1 h2 ⊢; exact lt_trans _ _ _ h1 h2
       · simp only [d1, d2, ne_eq, not_true_eq_false, not_false_eq_true, if_false, if_true] at h1 h2 ⊢; exact h2
     · simp only [d1, ne_eq, not_false_eq_true, if_true] at h1; by_cases d2 : b.domain = c.domain
       · rw [<- d2]; simp only [d1, ne_eq, not_false_eq_true, if_true]; exact h1
       · simp only [d2, ne_eq, not_false_eq_true, if_true] at h2; have h3 := lt_trans _ _ _ h1 h2; have d3 : a.domain ≠ c.domain := fun e => by rw [e, lt_irrefl] at h3; cases h3
         simp only [d3, ne_eq, not_false_eq_true, if_true]; exact h3
   · simp only [n1, n2, ne_eq, not_false_eq_true, if_true] at h2 ⊢; exact h2
 · simp only [n1, ne_eq, not_false_eq_true, if_true] at h1; by_cases n2 : b.name = c.name
   · rw [<- n2]; simp only [n1, ne_eq, not_false_eq_true, if_true]; exact h1
   · simp only [n2, ne_eq, not_false_eq_true, if_true] at h2; have h3 := lt_trans _ _ _ h1 h2; have n3 : a.name ≠ c.name := fun e => by rw [e, lt_irrefl] at h3; cases h3
     simp only [n3, ne_eq, not_false_eq_true, if_true]; exact h3
theorem qde (a b : CKey) : qa2 a b = true \/ a = b \/ qa2 b a = true := by
 simp only [qd0]; by_cases h1 : a.name = b.name
 · by_cases h2 : a.domain = b.domain
   · simp only [h1, h2, ne_eq, not_true_eq_false, if_false]; rcases qov a.path b.path with h | h | h
     · exact .inl h
     · exact .inr (.inl (by cases a; cases b; simp_all))
     · exact .inr (.inr h)
   · have h2' := Ne.symm h2; simp only [h1, h2, h2', ne_eq, not_true_eq_false, not_false_eq_true, if_false, if_true]; rcases qov a.domain b.domain with h | h | h
     · exact .inl h
     · exact absurd h h2
     · exact .inr (.inr h)
 · have h1' := Ne.symm h1; simp only [h1, h1', ne_eq, not_false_eq_true, if_true]; rcases qov a.name b.name with h | h | h
   · exact .inl h
   · exact absurd h h1
   · exact .inr (.inr h)
end Go.Proofs
namespace Go.Proofs
open Go Go.Am Go.RowKit Go.Sy
variable [Inhabited DrP]
theorem Tryz.fnCmp : Tryz.tab.fns.get zz6 = some Tryz.f208 := by kernel_rfl
theorem qwy (a b : List UInt8) : run Tryz.tab 200 { fr := AFrame.enter Tryz.f208 zz6 (Tryz.f208.body.getD .skip) [.str a, .str b] .normal, cs := [], h := emptyH } = .ok [(.int .i64 (Extern.BytealgCompare.cmp ⟨a.toArray⟩ ⟨b.toArray⟩), emptyH)] := by kernel_rfl
noncomputable def qi1 : Con := { Y := Bs × Bs, pre := fun _ => True, args := fun y => [.str y.1, .str y.2], res := fun y => .int .i64 (cmpS y.1 y.2) }
theorem quj : CO zz6 qi1 := by
 refine ConOK.shut zz1 fun fn body hfn hb y _ avs Fz hav => ?_
 rw [Tryz.fnCmp] at hfn
 cases hfn; obtain ⟨a, b⟩ := y; have hl : avs = [.str a, .str b] := by
   obtain ⟨h1, h2⟩ := hav
   cases avs with
   | nil => simp [qi1] at h1
   | cons u avs => cases avs with
    | nil => simp [qi1] at h1
    | cons w avs => cases avs with
     | cons => simp [qi1] at h1
     | nil =>
      have e1 := h2 0 _ u rfl rfl; have e2 := h2 1 _ w rfl rfl; simp only at e1 e2
      cases e1
      cases e2; rfl
 subst hl; refine ⟨fun _ _ => rfl, fun v _ => v = .int .i64 (cmpS a b), ?_, ?_⟩
 · have ho := qwy a b; rw [hb] at ho; refine (AGo.run zz1 ho).mono fun v h' hm => ?_
   simp only [List.mem_cons, List.not_mem_nil, or_false, Prod.mk.injEq] at hm; rw [hm.1, qnO]
 · rintro v h' rfl; exact ⟨fun _ _ => rfl, .int _ _⟩
end Go.Proofs
namespace Go.Proofs
open Go Go.Am Go.RowKit Go.Sy
variable [Inhabited DrP]
def qca (x : CCookie) (now : Int) : Bool := x.persistent && decide (x.expiry <= now)
def qiS : CKey := ⟨[], [], []⟩
def qcl : CItem := ⟨qiS, ⟨[], false, false, false, false, 0, 0, 0⟩⟩
def qbu (l : List CItem) (k : CKey) : CItem × Bool := match l.find? (fun x => decide (x.key = k)) with | some x => (x, true) | none => (qcl, false)
noncomputable def vwI : TypeId -> Option View := fun t => bif Nat.beq t Ty.string then some ⟨Bs, qbb⟩ else bif Nat.beq t qtz then some ⟨CItem, CItem.enc⟩ else none
noncomputable def cfgI (con : FuncId -> Option Con) (ann : FuncId -> Nat -> Option Ann) : Cfg := { tab := sTab, view := vwI, con, ann }
def qmS (l : List CItem) : SV := .lst CItem l CItem.enc
def qom (l : List CItem) : SO := .arr CItem l CItem.enc qtz
def qh6 (f r : Nat) (A : Ann) (a : FuncId -> Nat -> Option Ann) : FuncId -> Nat -> Option Ann := fun g s => bif Nat.beq g f && Nat.beq s r then some A else a g s
def qmy : Con := { Y := CCookie × Int, pre := fun _ => True, args := fun y => [.agg y.1.enc, i64 y.2], res := fun y => .bool (qca y.1 y.2) }
def qrY : Con := { Y := Int × Int, pre := fun _ => True, args := fun y => [i64 y.1, i64 y.2], res := fun y => i64 (cmpI y.1 y.2) }
def qrZ : Con := { Y := CKey × CKey, pre := fun _ => True, args := fun y => [.agg y.1.enc, .agg y.2.enc], res := fun y => i64 (qeX y.1 y.2) }
def qmx : Con := { Y := CKey × CKey, pre := fun _ => True, args := fun y => [.agg y.1.enc, .agg y.2.enc], res := fun y => .bool (qa2 y.1 y.2) }
def few (l : List CItem) : Prop := l.length <= 10000
def qnD : Con := { Y := List CItem × CKey, pre := fun y => few y.1, args := fun y => [qmS y.1, .agg y.2.enc], res := fun y => .tup [.agg (qbu y.1 y.2).1.enc, .bool (qbu y.1 y.2).2] }
def qla (y : List CItem × CKey) : Ann := { α := Nat, ok := fun i => i <= y.1.length /\ ∀ j (h : j < y.1.length), j < i -> y.1[j].key ≠ y.2, μ := fun i => y.1.length - i, keep := [3, 4], slots := fun i => [(0, qmS y.1), (6, i64 i)], objs := fun _ => [] }
noncomputable def qpN (f : FuncId) : Option Con := bif Nat.beq f zz6 then some qi1 else qt1 f
noncomputable def qpO (f : FuncId) : Option Con := bif Nat.beq f zz59 then some qmy else bif Nat.beq f zz76 then some qmy else bif Nat.beq f zz25 then some qrY else bif Nat.beq f zz26 then some qi1 else qpN f
noncomputable def qpP (f : FuncId) : Option Con := bif Nat.beq f zz73 then some qrZ else qpO f
noncomputable def qt2 (f : FuncId) : Option Con := bif Nat.beq f zz72 then some qmx else bif Nat.beq f zz77 then some qmx else qpP f
noncomputable def qt3 (f : FuncId) : Option Con := qt2 f
noncomputable def qt4 (f : FuncId) : Option Con := bif Nat.beq f zz33 then some qnD else qt3 f
noncomputable def qt5 (f : FuncId) : Option Con := qt4 f
end Go.Proofs
namespace Go.Proofs
open Go Go.Am Go.RowKit Go.Sy
variable [Inhabited DrP]
theorem qu5 : (askY (fun (y : Con.Y qmy) => cfgI con0 (qaQ y)) 400 zz59) = (∀ (y : CCookie × Int),
 True ->
 br y.1.persistent (leI y.1.expiry y.2 = qca y.1 y.2 /\ True)
 (Bool.false = qca y.1 y.2 /\ True)) := by kernel_rfl
theorem qtq : (askY (fun (y : Con.Y qmy) => cfgI con0 (qaQ y)) 400 zz76) = (∀ (y : CCookie × Int),
 True ->
 br y.1.persistent (leI y.1.expiry y.2 = qca y.1 y.2 /\ True)
 (Bool.false = qca y.1 y.2 /\ True)) := by kernel_rfl
theorem quW : (askY (fun (y : Con.Y qrY) => cfgI con0 (qaQ y)) 400 zz25) = (∀ (y : Int × Int),
 True ->
 br (!y.1 == y.1)
 (br (!y.2 == y.2) (eqI 0 (cmpI y.1 y.2) /\ True) (eqI (-1) (cmpI y.1 y.2) /\ True))
 (br (!y.2 == y.2) (eqI 1 (cmpI y.1 y.2) /\ True)
 (br (ltI y.1 y.2) (eqI (-1) (cmpI y.1 y.2) /\ True)
 (br (ltI y.2 y.1) (eqI 1 (cmpI y.1 y.2) /\ True)
 (eqI 0 (cmpI y.1 y.2) /\ True))))) := by kernel_rfl
theorem quX : (askY (fun (y : Con.Y qi1) => cfgI qpN (qaQ y)) 400 zz26) = (∀ (y : Bs × Bs),
 True ->
 ∃ (y_1 : Bs × Bs),
 y.1 = y_1.1 /\ y.2 = y_1.2 /\ True /\ eqI (cmpS y_1.1 y_1.2) (cmpS y.1 y.2) /\ True) := by kernel_rfl
theorem qu1 : (askY (fun (y : Con.Y qrZ) => cfgI qpO (qaQ y)) 600 zz73) = (∀ (y : CKey × CKey),
 True ->
 ∃ (y_1 : Bs × Bs),
 y.1.name = y_1.1 /\
 y.2.name = y_1.2 /\
 True /\
 ∃ (y_2 : Bs × Bs),
 y.1.domain = y_2.1 /\
 y.2.domain = y_2.2 /\
 True /\
 ∃ (y_3 : Bs × Bs),
 y.1.path = y_3.1 /\
 y.2.path = y_3.2 /\
 True /\
 br (!cmpS y_1.1 y_1.2 == 0)
 (eqI (cmpS y_1.1 y_1.2) (qeX y.1 y.2) /\ True)
 (br (!cmpS y_2.1 y_2.2 == 0)
 (eqI (cmpS y_2.1 y_2.2) (qeX y.1 y.2) /\ True)
 (br (!cmpS y_3.1 y_3.2 == 0)
 (eqI (cmpS y_3.1 y_3.2) (qeX y.1 y.2) /\ True)
 (eqI 0 (qeX y.1 y.2) /\ True)))) := by kernel_rfl
theorem qu2 : (askY (fun (y : Con.Y qmx) => cfgI qpP (qaQ y)) 400 zz72) = (∀ (y : CKey × CKey),
 True ->
 ∃ (y_1 : CKey × CKey),
 y.1.name = y_1.1.name /\
 y.1.domain = y_1.1.domain /\
 y.1.path = y_1.1.path /\
 y.2.name = y_1.2.name /\
 y.2.domain = y_1.2.domain /\
 y.2.path = y_1.2.path /\
 True /\ ltI (qeX y_1.1 y_1.2) 0 = qa2 y.1 y.2 /\ True) := by kernel_rfl
theorem qto : (askY (fun (y : Con.Y qmx) => cfgI con0 (qaQ y)) 400 zz77) = (∀ (y : CKey × CKey),
 True ->
 br (!y.1.name == y.2.name)
 (Go.Op.bytesLess y.1.name y.2.name = qa2 y.1 y.2 /\ True)
 (br (!y.1.domain == y.2.domain)
 (Go.Op.bytesLess y.1.domain y.2.domain = qa2 y.1 y.2 /\ True)
 (Go.Op.bytesLess y.1.path y.2.path = qa2 y.1 y.2 /\ True))) := by kernel_rfl
theorem qtk : (askY (fun (y : Con.Y qnD) => cfgI con0 (qaL zz33 2 (qla y))) 400 zz33) = (∀ (y : List CItem × CKey),
 y.1.length <= 10000 ->
 (∃ (x : Nat),
 (x <= y.1.length /\ ∀ (j : Nat) (h : j < y.1.length), j < x -> CItem.key y.1[j] = y.2 -> False) /\
 (True /\ True /\ SV.lst CItem y.1 CItem.enc = SV.lst CItem y.1 CItem.enc /\ eqI 0 ↑x /\ True) /\
 ((([] : List UInt8) = [] /\
 ([] : List UInt8) = [] /\
 ([] : List UInt8) = [] /\
 ([] : List UInt8) = [] /\
 Bool.false = Bool.false /\
 Bool.false = Bool.false /\ Bool.false = Bool.false /\ Bool.false = Bool.false /\ eqI 0 0 /\ eqI 0 0 /\ eqI 0 0 /\ True) /\
 (y.2.name = y.2.name /\
 y.2.domain = y.2.domain /\ y.2.path = y.2.path /\ True) /\
 True) /\
 True) /\
 ∀ (x : Nat),
 (x <= y.1.length /\ ∀ (j : Nat) (h : j < y.1.length), j < x -> CItem.key y.1[j] = y.2 -> False) ->
 br (ltI (↑x) (Int.ofNat y.1.length))
 (so y.1[Int.toNat ↑x]? fun (val : CItem) =>
 br
 (val.key.name == y.2.name &&
 (val.key.domain == y.2.domain &&
 (val.key.path == y.2.path && Bool.true)))
 (so y.1[Int.toNat ↑x]? fun (val : CItem) =>
 val.key.name = CKey.name (CItem.key (Prod.fst (qbu y.1 y.2))) /\
 val.key.domain = CKey.domain (CItem.key (Prod.fst (qbu y.1 y.2))) /\
 val.key.path = CKey.path (CItem.key (Prod.fst (qbu y.1 y.2))) /\
 val.cookie.value =
 CCookie.value (CItem.cookie (Prod.fst (qbu y.1 y.2))) /\
 val.cookie.hostOnly =
 CCookie.hostOnly (CItem.cookie (Prod.fst (qbu y.1 y.2))) /\
 val.cookie.secure =
 CCookie.secure (CItem.cookie (Prod.fst (qbu y.1 y.2))) /\
 val.cookie.httpOnly =
 CCookie.httpOnly (CItem.cookie (Prod.fst (qbu y.1 y.2))) /\
 val.cookie.persistent =
 CCookie.persistent (CItem.cookie (Prod.fst (qbu y.1 y.2))) /\
 eqI val.cookie.expiry
 (CCookie.expiry (CItem.cookie (Prod.fst (qbu y.1 y.2)))) /\
 eqI val.cookie.creation
 (CCookie.creation (CItem.cookie (Prod.fst (qbu y.1 y.2)))) /\
 eqI val.cookie.access
 (CCookie.access (CItem.cookie (Prod.fst (qbu y.1 y.2)))) /\
 Bool.true = Prod.snd (qbu y.1 y.2) /\ True)
 (ck (inR .i64 (↑x + 1))
 (∃ (y_1 : Nat),
 (y_1 <= y.1.length /\ ∀ (j : Nat) (h : j < y.1.length), j < y_1 -> CItem.key y.1[j] = y.2 -> False) /\
 Ann.μ (qla y) y_1 < Ann.μ (qla y) x /\
 (True /\
 True /\
 SV.lst CItem y.1 CItem.enc = SV.lst CItem y.1 CItem.enc /\
 eqI (↑x + 1) ↑y_1 /\ True) /\
 ((([] : List UInt8) = [] /\
 ([] : List UInt8) = [] /\
 ([] : List UInt8) = [] /\
 ([] : List UInt8) = [] /\
 Bool.false = Bool.false /\
 Bool.false = Bool.false /\ Bool.false = Bool.false /\ Bool.false = Bool.false /\ eqI 0 0 /\ eqI 0 0 /\ eqI 0 0 /\ True) /\
 (y.2.name = y.2.name /\
 y.2.domain = y.2.domain /\
 y.2.path = y.2.path /\ True) /\
 True) /\
 True)))
 ([] = CKey.name (CItem.key (Prod.fst (qbu y.1 y.2))) /\
 [] = CKey.domain (CItem.key (Prod.fst (qbu y.1 y.2))) /\
 [] = CKey.path (CItem.key (Prod.fst (qbu y.1 y.2))) /\
 [] = CCookie.value (CItem.cookie (Prod.fst (qbu y.1 y.2))) /\
 Bool.false = CCookie.hostOnly (CItem.cookie (Prod.fst (qbu y.1 y.2))) /\
 Bool.false = CCookie.secure (CItem.cookie (Prod.fst (qbu y.1 y.2))) /\
 Bool.false = CCookie.httpOnly (CItem.cookie (Prod.fst (qbu y.1 y.2))) /\
 Bool.false = CCookie.persistent (CItem.cookie (Prod.fst (qbu y.1 y.2))) /\
 eqI 0 (CCookie.expiry (CItem.cookie (Prod.fst (qbu y.1 y.2)))) /\
 eqI 0 (CCookie.creation (CItem.cookie (Prod.fst (qbu y.1 y.2)))) /\
 eqI 0 (CCookie.access (CItem.cookie (Prod.fst (qbu y.1 y.2)))) /\
 Bool.false = Prod.snd (qbu y.1 y.2) /\ True)) := by kernel_rfl
end Go.Proofs
namespace Go.Proofs
open Go Go.Am Go.RowKit Go.Sy
variable [Inhabited DrP]
theorem qly : ∀ g C, qpN g = some C -> CO g C := qab quj qpM
theorem qiy (a b : CKey) : (a.name == b.name && (a.domain == b.domain && (a.path == b.path && true))) = decide (a = b) := by
 rw [Bool.eq_iff_iff]
 cases a; cases b; simp
section
variable {l : List CItem} {p : CItem -> Bool} {x : Nat}
end
theorem quC : CO zz59 qmy := qae (cfg := fun y => cfgI con0 (qaQ y)) zz1 (fun _ => rfl) (fun _ => qbE) (n := 400) (by
 rw [qu5]; rintro ⟨c, now⟩ _; refine br_iff.2 ⟨fun h => ⟨?_, trivial⟩, fun h => ⟨?_, trivial⟩⟩
 · have h : c.persistent = true := h; unfold qca; rw [h, qaX, Bool.true_and]
 · have h : c.persistent = false := h; unfold qca; rw [h, Bool.false_and])
theorem qsX : CO zz76 qmy := qae (cfg := fun y => cfgI con0 (qaQ y)) zz1 (fun _ => rfl) (fun _ => qbE) (n := 400) (by
 rw [qtq]; rintro ⟨c, now⟩ _; refine br_iff.2 ⟨fun h => ⟨?_, trivial⟩, fun h => ⟨?_, trivial⟩⟩
 · have h : c.persistent = true := h; unfold qca; rw [h, qaX, Bool.true_and]
 · have h : c.persistent = false := h; unfold qca; rw [h, Bool.false_and])
theorem qui : CO zz25 qrY := qae (cfg := fun y => cfgI con0 (qaQ y)) zz1 (fun _ => rfl) (fun _ => qbE) (n := 400) (by
 rw [quW]; rintro ⟨a, b⟩ -; simp [br_iff, qan, cmpI]; refine ⟨fun h1 h2 => by omega, fun h1 => ⟨fun h2 => ?_, fun h2 => ?_⟩⟩
 · rw [if_neg (by omega), if_pos h2]
 · rw [if_neg (by omega), if_neg (by omega)])
theorem qsH : CO zz26 qi1 := qae (cfg := fun y => cfgI qpN (qaQ y)) zz1 (fun _ => rfl) (fun _ => qly) (n := 400) (by
 rw [quX]; rintro ⟨a, b⟩ -; exact ⟨(a, b), rfl, rfl, trivial, rfl, trivial⟩)
theorem qlz : ∀ g C, qpO g = some C -> CO g C := qab quC (qab qsX (qab qui (qab qsH qly)))
theorem quy : CO zz73 qrZ := qae (cfg := fun y => cfgI qpO (qaQ y)) zz1 (fun _ => rfl) (fun _ => qlz) (n := 600) (by
 rw [qu1]; rintro ⟨a, b⟩ -; refine ⟨(_, _), rfl, rfl, trivial, ⟨(_, _), rfl, rfl, trivial, ⟨(_, _), rfl, rfl, trivial, ?_⟩⟩⟩; simp only [br_iff, qeX, and_true]; generalize cmpS a.name b.name = n
 generalize cmpS a.domain b.domain = d
 generalize cmpS a.path b.path = p
 refine ⟨fun h => ?_, fun h => ⟨fun h2 => ?_, fun h2 => ⟨fun h3 => ?_, fun h3 => ?_⟩⟩⟩ <;> simp_all)
theorem qlA : ∀ g C, qpP g = some C -> CO g C := qab quy qlz
theorem quz : CO zz72 qmx := qae (cfg := fun y => cfgI qpP (qaQ y)) zz1 (fun _ => rfl) (fun _ => qlA) (n := 400) (by
 rw [qu2]; rintro ⟨a, b⟩ -; refine ⟨(a, b), rfl, rfl, rfl, rfl, rfl, rfl, trivial, ?_, trivial⟩; simp only [qan, qa2])
theorem qsS : CO zz77 qmx := qae (cfg := fun y => cfgI con0 (qaQ y)) zz1 (fun _ => rfl) (fun _ => qbE) (n := 400) (by
 rw [qto]; rintro ⟨a, b⟩ -; simp only [br_iff, qd0]; refine ⟨fun h => ?_, fun h => ⟨fun h2 => ?_, fun h2 => ?_⟩⟩ <;> simp_all)
theorem qpQ : ∀ g C, qt2 g = some C -> CO g C := qab quz (qab qsS qlA)
theorem qpR : ∀ g C, qt3 g = some C -> CO g C := qpQ
theorem qbw {x n : Nat} (h : ltI (x : Int) (Int.ofNat n) = false) : n <= x := by
 have := qbf h; simp only [Int.ofNat_eq_natCast] at this; omega
theorem qnZ {l : List CItem} {k : CKey} {x : Nat} (h : x < l.length) (h1 : l[x].key = k) (h2 : ∀ (j : Nat) (h : j < l.length), j < x -> l[j].key = k -> False) : qbu l k = (l[x], true) := by
 have : l.find? (fun z => decide (z.key = k)) = some l[x] := by
  rw [List.find?_eq_some_iff_getElem]; exact ⟨by simpa using h1, x, h, rfl, fun j hj => by simpa using h2 j (by omega) hj⟩
 unfold qbu; rw [this]
theorem qsn {l : List CItem} {k : CKey} (h2 : ∀ (j : Nat) (h : j < l.length), l[j].key = k -> False) : qbu l k = (qcl, false) := by
 have : l.find? (fun z => decide (z.key = k)) = none := by
  rw [List.find?_eq_none]; intro z hz; obtain ⟨j, hj, rfl⟩ := List.getElem_of_mem hz; simpa using h2 j hj
 unfold qbu; rw [this]
theorem qsM : CO zz33 qnD := qae (cfg := fun y => cfgI con0 (qaL zz33 2 (qla y))) zz1 (fun _ => rfl) (fun _ => qbE) (n := 400) (by
 rw [qtk]; rintro ⟨l, k⟩ hpre; have hpre : l.length <= 10000 := hpre; refine ⟨⟨0, ⟨by simp, fun j h hj => by omega⟩, ?_⟩, ?_⟩
 · (repeat' (first | exact trivial | exact rfl | exact (fun _ => rfl) | refine And.intro ?_ ?_))
 rintro x ⟨hx, hall⟩; refine br_iff.2 ⟨fun hlt => so_iff.2 ⟨_, qax (qad hlt), ?_⟩, fun hge => ?_⟩
 · have hlt' : x < l.length := qad hlt; refine br_iff.2 ⟨fun h => so_iff.2 ⟨_, qax hlt', ?_⟩, fun h => ck_iff.2 ⟨qam x (by omega), x + 1, ⟨hlt', fun j hj hjx he => ?_⟩, ?_, ?_⟩⟩
   · rw [qiy] at h; have e := qnZ hlt' (by simpa using h) hall; rw [show qbu (l, k).1 (l, k).2 = (l[x], true) from e]
     (repeat' (first | exact trivial | exact rfl | exact (fun _ => rfl) | refine And.intro ?_ ?_))
   · rw [qiy] at h; by_cases hji : j = x
     · subst hji; exact absurd he (by simpa using h)
     · exact hall j hj (by omega) he
   · show l.length - (x + 1) < l.length - x
     omega
   · (repeat' (first | exact trivial | exact rfl | exact (fun _ => rfl) | refine And.intro ?_ ?_))
 · have e := qsn (l := l) (k := k) (fun j hj => hall j hj (by have : l.length <= x := qbw hge; omega)); rw [show qbu (l, k).1 (l, k).2 = (qcl, false) from e]
   (repeat' (first | exact trivial | exact rfl | exact (fun _ => rfl) | refine And.intro ?_ ?_)))
theorem qb7 {α β : Type} (f : β -> α -> β) (b : β) {l : List α} {x : Nat} (h : x < l.length) : (l.take (x + 1)).foldl f b = f ((l.take x).foldl f b) l[x] := by
 rw [List.take_succ_eq_append_getElem h, List.foldl_append]; rfl
theorem qpa {α : Type} {l : List α} {x : Nat} (h : ¬ (x : Int) < Int.ofNat l.length) : l.take x = l := List.take_of_length_le (by simp only [Int.ofNat_eq_natCast] at h; omega)
theorem qpS : ∀ g C, qt4 g = some C -> CO g C := qab qsM qpR
theorem qrN {α : Type} {p : α -> Bool} : ∀ {l : List α} {j : Nat} (_ : j < (l.takeWhile p).length), ∃ h : j < l.length, p l[j] = true
 | [], j, hj => by simp at hj
 | a :: l, j, hj => by
  by_cases hb : p a = true
  · rw [List.takeWhile_cons, if_pos hb] at hj
    cases j with
    | zero => exact ⟨by simp, by simpa using hb⟩
    | succ j =>
     obtain ⟨h1, h2⟩ := qrN (l := l) (j := j) (by simpa using hj); exact ⟨by simpa using h1, by simpa using h2⟩
  · rw [List.takeWhile_cons, if_neg hb] at hj; simp at hj
theorem quR {α : Type} {p : α -> Bool} : ∀ {l : List α} (h : (l.takeWhile p).length < l.length), p (l[(l.takeWhile p).length]) = false
 | [], h => by simp at h
 | a :: l, h => by
  by_cases hb : p a = true
  · have e : ((a :: l).takeWhile p).length = (l.takeWhile p).length + 1 := by rw [List.takeWhile_cons, if_pos hb]; rfl
    simp only [e, List.getElem_cons_succ]; exact quR (by rw [e] at h; simpa using h)
  · have e : ((a :: l).takeWhile p).length = 0 := by rw [List.takeWhile_cons, if_neg hb]; rfl
    simp only [e, List.getElem_cons_zero]; exact Bool.eq_false_iff.2 hb
theorem qpT : ∀ g C, qt5 g = some C -> CO g C := qpS
end Go.Proofs
namespace Go.Proofs
open Go Go.Am Go.RowKit Go.Sy
variable [Inhabited DrP]
structure CDot where
 dev : Int
 inc : Int
 seq : Int
deriving DecidableEq, Inhabited
structure CStamp where
 wall : Int
 count : Int
 dev : Int
deriving DecidableEq, Inhabited
def CDot.enc (x : CDot) : List SV := [.int .i64 x.dev, .int .i64 x.inc, .int .i64 x.seq]
def CStamp.enc (x : CStamp) : List SV := [.int .i64 x.wall, .int .i64 x.count, .int .i64 x.dev]
def qps (d i : Int) : Bool := leI 0 d && leI d 63 && leI 1 i && leI i 1048576
def qbt (x : CDot) : Bool := qps x.dev x.inc && leI 1 x.seq && leI x.seq 4294967296
def qdP (a b c : Int) : Bool := leI b a && leI a c
def qdk (x : CStamp) : Bool := qdP x.wall 0 4398046511104 && qdP x.count 0 65535 && qdP x.dev 0 63
def orI (a b : Int) : Int := if a = 0 then b else a
def qlf (x y : CDot) : Int := orI (cmpI x.dev y.dev) (cmpI x.inc y.inc)
def qec (x y : CDot) : Int := orI (qlf x y) (cmpI x.seq y.seq)
def qac (x y : CDot) : Bool := decide (qec x y < 0)
def qlX (x y : CStamp) : Int := orI (cmpI x.wall y.wall) (cmpI x.count y.count)
def qa3 (x y : CStamp) : Bool := decide (orI (qlX x y) (cmpI x.dev y.dev) < 0)
def cAct : Con := { Y := Int × Int, pre := fun _ => True, args := fun y => [.agg [i64 y.1, i64 y.2]], res := fun y => .bool (qps y.1 y.2) }
def qnC (p : CDot -> Bool) : Con := { Y := CDot, pre := fun _ => True, args := fun y => [.agg y.enc], res := fun y => .bool (p y) }
def qh9 (p : CStamp -> Bool) : Con := { Y := CStamp, pre := fun _ => True, args := fun y => [.agg y.enc], res := fun y => .bool (p y) }
def qnK : Con := { Y := Int × Int × Int, pre := fun _ => True, args := fun y => [i64 y.1, i64 y.2.1, i64 y.2.2], res := fun y => .bool (qdP y.1 y.2.1 y.2.2) }
def qtN : Con := { Y := CDot × CDot, pre := fun _ => True, args := fun y => [.agg [i64 y.1.dev, i64 y.1.inc], .agg [i64 y.2.dev, i64 y.2.inc]], res := fun y => i64 (qlf y.1 y.2) }
def qpw : Con := { Y := CDot × CDot, pre := fun _ => True, args := fun y => [.agg y.1.enc, .agg y.2.enc], res := fun y => i64 (qec y.1 y.2) }
def qpx : Con := { Y := CDot × CDot, pre := fun _ => True, args := fun y => [.agg y.1.enc, .agg y.2.enc], res := fun y => .bool (qac y.1 y.2) }
def qrr : Con := { Y := CStamp × CStamp, pre := fun _ => True, args := fun y => [.agg y.1.enc, .agg y.2.enc], res := fun y => i64 (qlX y.1 y.2) }
def qia : Con := { Y := CStamp × CStamp, pre := fun _ => True, args := fun y => [.agg y.1.enc, .agg y.2.enc], res := fun y => .bool (qa3 y.1 y.2) }
noncomputable def qjb (f : FuncId) : Option Con := bif Nat.beq f qvq then some cAct else bif Nat.beq f qvf then some cAct else bif Nat.beq f zz69 then some qnK else qt5 f
noncomputable def qnP (f : FuncId) : Option Con := bif Nat.beq f qvr then some (qnC qbt) else bif Nat.beq f qvh then some (qnC qbt) else bif Nat.beq f qu9 then some (qh9 qdk) else bif Nat.beq f qvi then some (qh9 qdk) else bif Nat.beq f qvb then some qtN else bif Nat.beq f qva then some qrr else qjb f
noncomputable def qpH (f : FuncId) : Option Con := bif Nat.beq f qvs then some qpw else bif Nat.beq f qvk then some qia else bif Nat.beq f qvn then some qia else qnP f
noncomputable def qif (f : FuncId) : Option Con := bif Nat.beq f qvx then some qpx else bif Nat.beq f qvm then some qpx else qpH f
theorem lt64 (a : Int) : ltI a 64 = leI a 63 := by
 rw [qan, qaX, Bool.eq_iff_iff, decide_eq_true_eq, decide_eq_true_eq]; omega
theorem qoI {a b : Int} : orI a b < 0 ↔ a < 0 \/ (a = 0 /\ b < 0) := by
 unfold orI; by_cases h : a = 0
 · simp [h]
 · simp [h]
theorem qmb {a b : Int} : orI a b = 0 ↔ a = 0 /\ b = 0 := by
 unfold orI; by_cases h : a = 0 <;> simp [h]
theorem qcr (x y : CDot) : qac x y = true ↔ x.dev < y.dev \/ (x.dev = y.dev /\ (x.inc < y.inc \/ (x.inc = y.inc /\ x.seq < y.seq))) := by
 unfold qac qec qlf; simp only [decide_eq_true_eq, qoI, qmb, qlr, qi9]; constructor
 · rintro ((h | ⟨h1, h2⟩) | ⟨⟨h1, h2⟩, h3⟩)
   · exact .inl h
   · exact .inr ⟨h1, .inl h2⟩
   · exact .inr ⟨h1, .inr ⟨h2, h3⟩⟩
 · rintro (h | ⟨h1, h2 | ⟨h2, h3⟩⟩)
   · exact .inl (.inl h)
   · exact .inl (.inr ⟨h1, h2⟩)
   · exact .inr ⟨⟨h1, h2⟩, h3⟩
theorem qiN (x y : CStamp) : qa3 x y = true ↔ x.wall < y.wall \/ (x.wall = y.wall /\ (x.count < y.count \/ (x.count = y.count /\ x.dev < y.dev))) := by
 unfold qa3 qlX; simp only [decide_eq_true_eq, qoI, qmb, qlr, qi9]; constructor
 · rintro ((h | ⟨h1, h2⟩) | ⟨⟨h1, h2⟩, h3⟩)
   · exact .inl h
   · exact .inr ⟨h1, .inl h2⟩
   · exact .inr ⟨h1, .inr ⟨h2, h3⟩⟩
 · rintro (h | ⟨h1, h2 | ⟨h2, h3⟩⟩)
   · exact .inl (.inl h)
   · exact .inl (.inr ⟨h1, h2⟩)
   · exact .inr ⟨⟨h1, h2⟩, h3⟩
theorem CDot.ext' {x y : CDot} (h1 : x.dev = y.dev) (h2 : x.inc = y.inc) (h3 : x.seq = y.seq) : x = y := by cases x; cases y; simp_all
theorem qb4 (x : CDot) : qac x x = false := by
 rw [Bool.eq_false_iff, ne_eq, qcr]; omega
theorem qch {x y z : CDot} (h1 : qac x y = true) (h2 : qac y z = true) : qac x z = true := by
 rw [qcr] at *; omega
theorem qeg (x y : CDot) : qac x y = true \/ x = y \/ qac y x = true := by
 simp only [qcr]; by_cases h : x.dev = y.dev /\ x.inc = y.inc /\ x.seq = y.seq
 · exact .inr (.inl (CDot.ext' h.1 h.2.1 h.2.2))
 · have : x.dev < y.dev \/ y.dev < x.dev \/ (x.dev = y.dev /\ (x.inc < y.inc \/ y.inc < x.inc \/ (x.inc = y.inc /\ (x.seq < y.seq \/ y.seq < x.seq)))) := by omega
   omega
theorem qsB : CO qvq cAct := qae (cfg := fun y => cfgI con0 (qaQ y)) zz1 (fun _ => rfl) (fun _ => qeK) (n := 400) (by
 rintro ⟨a, b⟩ -
 repeat' (first | exact trivial | exact rfl | ((conv => whnf); first | refine brI (fun _ => ?_) fun _ => ?_ | refine And.intro ?_ ?_))
 all_goals (simp_all [qps, lt64]))
theorem qqE : CO qvf cAct := qae (cfg := fun y => cfgI con0 (qaQ y)) zz1 (fun _ => rfl) (fun _ => qeK) (n := 400) (by
 rintro ⟨a, b⟩ -
 repeat' (first | exact trivial | exact rfl | ((conv => whnf); first | refine brI (fun _ => ?_) fun _ => ?_ | refine And.intro ?_ ?_))
 all_goals (simp_all [qps]))
theorem qqX : CO zz69 qnK := qae (cfg := fun y => cfgI con0 (qaQ y)) zz1 (fun _ => rfl) (fun _ => qeK) (n := 400) (by
 rintro ⟨a, b⟩ -
 repeat' (first | exact trivial | exact rfl | ((conv => whnf); first | refine brI (fun _ => ?_) fun _ => ?_ | refine And.intro ?_ ?_))
 all_goals (simp_all [qdP]))
theorem qdb : ∀ g C, qjb g = some C -> CO g C := qab qsB (qab qqE (qab qqX qpT))
theorem qum : CO qvr (qnC qbt) := qae (cfg := fun y => cfgI qjb (qaQ y)) zz1 (fun _ => rfl) (fun _ => qdb) (n := 400) (by
 rintro ⟨a, b, c⟩ -
 (conv => whnf)
 refine ⟨(a, b), ?_⟩
 repeat' (first | exact trivial | exact rfl | ((conv => whnf); first | refine brI (fun _ => ?_) fun _ => ?_ | refine And.intro ?_ ?_))
 all_goals (simp_all [qbt]))
theorem qup : CO qvh (qnC qbt) := qae (cfg := fun y => cfgI qjb (qaQ y)) zz1 (fun _ => rfl) (fun _ => qdb) (n := 400) (by
 rintro ⟨a, b, c⟩ -
 (conv => whnf)
 refine ⟨(a, b), ?_⟩
 repeat' (first | exact trivial | exact rfl | ((conv => whnf); first | refine brI (fun _ => ?_) fun _ => ?_ | refine And.intro ?_ ?_))
 all_goals (simp_all [qbt]))
theorem qsG : CO qu9 (qh9 qdk) := qae (cfg := fun y => cfgI qjb (qaQ y)) zz1 (fun _ => rfl) (fun _ => qdb) (n := 400) (by
 rintro ⟨a, b, c⟩ -
 repeat' (first | exact trivial | exact rfl | ((conv => whnf); first | refine brI (fun _ => ?_) fun _ => ?_ | refine And.intro ?_ ?_))
 all_goals (simp_all [qdk, qdP]))
theorem qqK : CO qvi (qh9 qdk) := qae (cfg := fun y => cfgI qjb (qaQ y)) zz1 (fun _ => rfl) (fun _ => qdb) (n := 400) (by
 rintro ⟨a, b, c⟩ -
 repeat' (first | exact trivial | exact rfl | ((conv => whnf); first | refine brI (fun _ => ?_) fun _ => ?_ | refine And.intro ?_ ?_))
 all_goals (simp_all [qdk, qdP]))
theorem qug : CO qvb qtN := qae (cfg := fun y => cfgI qjb (qaQ y)) zz1 (fun _ => rfl) (fun _ => qdb) (n := 400) (by
 rintro ⟨⟨a, b, c⟩, d, e, f⟩ -
 (conv => whnf)
 refine ⟨(a, d), ?_⟩
 repeat ((conv => whnf); first | refine ⟨rfl, ?_⟩ | refine ⟨trivial, ?_⟩)
 (conv => whnf)
 refine ⟨(b, e), ?_⟩
 repeat' (first | exact trivial | exact rfl | ((conv => whnf); first | refine brI (fun _ => ?_) fun _ => ?_ | refine And.intro ?_ ?_))
 all_goals (simp_all [qlf, orI]))
theorem qsR : CO qva qrr := qae (cfg := fun y => cfgI qjb (qaQ y)) zz1 (fun _ => rfl) (fun _ => qdb) (n := 400) (by
 rintro ⟨⟨a, b, c⟩, d, e, f⟩ -
 (conv => whnf)
 refine ⟨(a, d), ?_⟩
 repeat ((conv => whnf); first | refine ⟨rfl, ?_⟩ | refine ⟨trivial, ?_⟩)
 (conv => whnf)
 refine ⟨(b, e), ?_⟩
 repeat' (first | exact trivial | exact rfl | ((conv => whnf); first | refine brI (fun _ => ?_) fun _ => ?_ | refine And.intro ?_ ?_))
 all_goals (simp_all [qlX, orI]))
theorem qf1 : ∀ g C, qnP g = some C -> CO g C := qab qum (qab qup (qab qsG (qab qqK (qab qug (qab qsR qdb)))))
theorem qsV : CO qvs qpw := qae (cfg := fun y => cfgI qnP (qaQ y)) zz1 (fun _ => rfl) (fun _ => qf1) (n := 400) (by
 rintro ⟨x, y⟩ -
 (conv => whnf)
 refine ⟨(x, y), ?_⟩
 repeat ((conv => whnf); first | refine ⟨rfl, ?_⟩ | refine ⟨trivial, ?_⟩)
 (conv => whnf)
 refine ⟨(x.seq, y.seq), ?_⟩
 repeat' (first | exact trivial | exact rfl | ((conv => whnf); first | refine brI (fun _ => ?_) fun _ => ?_ | refine And.intro ?_ ?_))
 all_goals (simp_all [qec, orI]))
theorem qqT : CO qvk qia := qae (cfg := fun y => cfgI qnP (qaQ y)) zz1 (fun _ => rfl) (fun _ => qf1) (n := 400) (by
 rintro ⟨x, y⟩ -
 (conv => whnf)
 refine ⟨(x, y), ?_⟩
 repeat ((conv => whnf); first | refine ⟨rfl, ?_⟩ | refine ⟨trivial, ?_⟩)
 (conv => whnf)
 refine ⟨(x.dev, y.dev), ?_⟩
 repeat' (first | exact trivial | exact rfl | ((conv => whnf); first | refine brI (fun _ => ?_) fun _ => ?_ | refine And.intro ?_ ?_))
 all_goals (simp_all [qa3, orI, qan]))
theorem qqU : CO qvn qia := qae (cfg := fun y => cfgI qnP (qaQ y)) zz1 (fun _ => rfl) (fun _ => qf1) (n := 400) (by
 rintro ⟨⟨a, b, c⟩, d, e, f⟩ -
 repeat' (first | exact trivial | exact rfl | ((conv => whnf); first | refine brI (fun _ => ?_) fun _ => ?_ | refine And.intro ?_ ?_))
 all_goals (rw [Bool.eq_iff_iff, qiN, qan, decide_eq_true_eq]; simp_all <;> omega))
theorem qie : ∀ g C, qpH g = some C -> CO g C := qab qsV (qab qqT (qab qqU qf1))
theorem qun : CO qvx qpx := qae (cfg := fun y => cfgI qpH (qaQ y)) zz1 (fun _ => rfl) (fun _ => qie) (n := 400) (by
 rintro ⟨x, y⟩ -
 (conv => whnf)
 refine ⟨(x, y), ?_⟩
 repeat' (first | exact trivial | exact rfl | ((conv => whnf); first | refine brI (fun _ => ?_) fun _ => ?_ | refine And.intro ?_ ?_))
 all_goals (simp_all [qac, qan]))
theorem qsJ : CO qvm qpx := qae (cfg := fun y => cfgI qpH (qaQ y)) zz1 (fun _ => rfl) (fun _ => qie) (n := 400) (by
 rintro ⟨⟨a, b, c⟩, d, e, f⟩ -
 repeat' (first | exact trivial | exact rfl | ((conv => whnf); first | refine brI (fun _ => ?_) fun _ => ?_ | refine And.intro ?_ ?_))
 all_goals (rw [Bool.eq_iff_iff, qcr, qan, decide_eq_true_eq]; simp_all <;> omega))
theorem qcE : ∀ g C, qif g = some C -> CO g C := qab qun (qab qsJ qie)
end Go.Proofs
namespace Go.Proofs
open Go Go.Am Go.RowKit Go.Sy
abbrev KN (l : List CItem) : Prop := (l.map fun x => x.key).Nodup
theorem KN.nodup {l : List CItem} (h : KN l) : l.Nodup := by
 unfold KN at h; rw [List.nodup_iff_pairwise_ne, List.pairwise_map] at h; rw [List.nodup_iff_pairwise_ne]; exact h.imp fun hab e => hab (by rw [e])
end Go.Proofs
namespace Go.Proofs
open Go Go.Am Go.RowKit Go.Sy
variable [Inhabited DrP]
end Go.Proofs
namespace Go.Proofs
open Go Go.Am Go.RowKit Go.Sy
end Go.Proofs
namespace Go.Proofs
open Go Go.Am Go.RowKit Go.Sy
variable [Inhabited DrP]
end Go.Proofs
namespace Go.Proofs
open Go Go.Am Go.RowKit Go.Sy
variable [Inhabited DrP]
theorem _root_.Go.Proofs.CDot.ext_iff {x y : CDot} : x = y ↔ x.dev = y.dev /\ x.inc = y.inc /\ x.seq = y.seq := ⟨fun h => by subst h; exact ⟨rfl, rfl, rfl⟩, fun h => CDot.ext' h.1 h.2.1 h.2.2⟩
theorem qdF (a b : CDot) : (a.dev == b.dev && (a.inc == b.inc && true) && (a.seq == b.seq && true)) = decide (a = b) := by
 rw [Bool.eq_iff_iff]; simp [CDot.ext_iff, and_assoc]
structure CEvent where
 dot : CDot
 stamp : CStamp
 kind : Int
 key : CKey
 cookie : CCookie
 over : List CDot
deriving DecidableEq, Inhabited
def dots (l : List CDot) : SV := .lst CDot l CDot.enc
def CEvent.enc (x : CEvent) : List SV := [.int .i64 x.dot.dev, .int .i64 x.dot.inc, .int .i64 x.dot.seq, .int .i64 x.stamp.wall, .int .i64 x.stamp.count, .int .i64 x.stamp.dev, .int .i64 x.kind, .str x.key.name, .str x.key.domain, .str x.key.path,
 .str x.cookie.value, .bool x.cookie.hostOnly, .bool x.cookie.secure, .bool x.cookie.httpOnly, .bool x.cookie.persistent, .int .i64 x.cookie.expiry, .int .i64 x.cookie.creation, .int .i64 x.cookie.access, dots x.over]
def CEvent.item (x : CEvent) : CItem := ⟨x.key, x.cookie⟩
structure CMap where
 ctx : List CDot
 kept : List CEvent
 dead : List CDot
def evs' (l : List CEvent) : SV := .lst CEvent l CEvent.enc
def CMap.enc (x : CMap) : List SV := [dots x.ctx, evs' x.kept, dots x.dead]
noncomputable def vwE : TypeId -> Option View := fun t => bif Nat.beq t Ty.string then some ⟨Bs, qbb⟩ else bif Nat.beq t qtz then some ⟨CItem, CItem.enc⟩ else bif Nat.beq t Ty.Dot then some ⟨CDot, CDot.enc⟩ else bif Nat.beq t qvG then some ⟨CDot, CDot.enc⟩ else bif Nat.beq t qrk then some ⟨CEvent, CEvent.enc⟩ else none
noncomputable def cfgE (con : FuncId -> Option Con) (ann : FuncId -> Nat -> Option Ann) : Cfg := { tab := sTab, view := vwE, con, ann }
section
variable {α : Type} [DecidableEq α] (less : α -> α -> Bool)
def posL (l : List α) (d : α) : Nat := (l.takeWhile fun x => less x d).length
def insL (l : List α) (d : α) : List α := if l[posL less l d]? = some d then l else l.take (posL less l d) ++ d :: l.drop (posL less l d)
def qaP (l : List α) : List α := l.foldl (insL less) []
variable {less}
omit [DecidableEq α] in
theorem qfz (L : List α) (d : α) : posL less L d <= L.length := (List.takeWhile_prefix _).length_le
omit [DecidableEq α] in
theorem qg4 {L : List α} {d : α} {k : Nat} (hk : k <= posL less L d) (h : k < L.length) (hl : less L[k] d = true) : k + 1 <= posL less L d := by
 apply Decidable.byContradiction; intro hn; have e : posL less L d = k := by omega
 unfold posL at e; have := quR (p := fun x => less x d) (l := L) (by omega); simp only [e] at this; rw [hl] at this
 cases this
omit [DecidableEq α] in
theorem qg5 {L : List α} {d : α} {k : Nat} (hk : k <= posL less L d) (h : k < L.length) (hl : less L[k] d = false) : k = posL less L d := by
 apply Decidable.byContradiction; intro hn; obtain ⟨h1, h2⟩ := qrN (p := fun x => less x d) (l := L) (j := k) (by show k < posL less L d; omega); rw [hl] at h2
 cases h2
theorem qqk (L : List α) (d : α) : (insL less L d).length <= L.length + 1 := by
 unfold insL; have := qfz (less := less) L d; split
 · omega
 · simp; omega
theorem qff : ∀ (l a : List α), (l.foldl (insL less) a).length <= a.length + l.length
 | [], a => by simp
 | x :: l, a => by
  have h1 := qff l (insL less a x); have h2 := qqk (less := less) a x; simp only [List.foldl_cons, List.length_cons]; omega
end
def fewD (l : List CDot) : Prop := l.length <= 1000000
def qtQ : Con := { Y := List CDot × CDot, pre := fun y => fewD y.1, args := fun y => [dots y.1, .agg y.2.enc], res := fun y => .bool (decide (y.2 ∈ y.1)) }
def qvJ (y : List CDot × CDot) : Ann := { α := Nat, ok := fun i => i <= y.1.length /\ ∀ j (h : j < y.1.length), j < i -> y.1[j] ≠ y.2, μ := fun i => y.1.length - i, keep := [3], slots := fun i => [(0, dots y.1), (5, i64 i)], objs := fun _ => [] }
def qrt : Con := { Y := List CDot × List CDot, pre := fun y => fewD y.1 /\ fewD y.2, args := fun y => [dots y.1, dots y.2], res := fun y => .bool (decide (y.1 = y.2)) }
def qtH (y : List CDot × List CDot) : Ann := { α := Nat, ok := fun i => i <= y.1.length /\ y.1.length = y.2.length /\ y.1.take i = y.2.take i, μ := fun i => y.1.length - i, keep := [], slots := fun i => [(0, dots y.1), (1, dots y.2), (5, i64 i)], objs := fun _ => [] }
def qru : Con := { Y := List CDot, pre := fun y => y.length <= 300000, args := fun y => [dots y], res := fun y => dots (qaP qac y) }
def qtI (y : List CDot) : Ann := { α := Nat, ok := fun i => i <= y.length, μ := fun i => y.length - i, keep := [], slots := fun i => [(0, dots y), (3, dots (qaP qac (y.take i))), (4, i64 i)], objs := fun _ => [], frz := [3] }
def qrR (y : List CDot) : Ann := { α := Nat × Nat, ok := fun x => ∃ h : x.1 < y.length, x.2 <= posL qac (qaP qac (y.take x.1)) y[x.1], μ := fun x => (qaP qac (y.take x.1)).length - x.2, keep := [], slots := fun x => [(0, dots y), (3, dots (qaP qac (y.take x.1))), (4, i64 x.1), (5, i64 x.2)], objs := fun _ => [], link := some fun a b => b.1 = a.1 }
theorem qs3 : CO zz48 qru := qae (cfg := fun y => cfgE qif (qh6 zz48 6 (qrR y) (qaL zz48 3 (qtI y)))) zz1 (fun _ => rfl) (fun _ => qcE) (n := 600) (by
 intro (l : List CDot) hpre; have hpre : l.length <= 300000 := hpre
 (conv => whnf)
 refine ⟨⟨(0 : Nat), Nat.zero_le _, ?_⟩, ?_⟩
 · repeat' (first | exact trivial | exact rfl | ((conv => whnf); first | refine brI (fun _ => ?_) fun _ => ?_ | refine And.intro ?_ ?_))
 intro (x : Nat) hx
 (conv => whnf)
 refine brI (fun hlt => ?_) fun hge => ?_
 · have hlt' : x < l.length := qad hlt
   (conv => whnf)
   refine ⟨((x, 0) : Nat × Nat), ⟨((x, 0) : Nat × Nat), ⟨⟨hlt', Nat.zero_le _⟩, rfl⟩, ?_⟩, ?_⟩
   · repeat' (first | exact trivial | exact rfl | ((conv => whnf); first | refine brI (fun _ => ?_) fun _ => ?_ | refine And.intro ?_ ?_))
   rintro ⟨x1, k⟩ ⟨⟨h1, h2⟩, hx1⟩; have hx1 : x1 = x := hx1; subst hx1; have hn : qaP qac (l.take (x1 + 1)) = insL qac (qaP qac (l.take x1)) l[x1] := qb7 (insL qac) ([] : List CDot) hlt'; have hlen : (qaP qac (l.take x1)).length <= x1 := by have := qff (less := qac) (l.take x1) []; unfold qaP; simp at this ⊢; omega
   have hk : k <= posL qac (qaP qac (l.take x1)) l[x1] := h2; have hkp := qfz (less := qac) (qaP qac (l.take x1)) l[x1]; have hkl : k <= (qaP qac (l.take x1)).length := by omega
   have hmu : l.length - (x1 + 1) < l.length - x1 := by omega
   (conv => whnf)
   refine brI (fun hlt2 => ?_) fun hge2 => ?_
   · have hlt2' : k < (qaP qac (l.take x1)).length := qad hlt2
     (conv => whnf)
     refine so_iff.2 ⟨_, qax hlt2', ?_⟩
     (conv => whnf)
     refine so_iff.2 ⟨_, qax hlt', ?_⟩
     (conv => whnf)
     refine ⟨((qaP qac (l.take x1))[k], l[x1]), ?_⟩
     repeat ((conv => whnf); first | refine ⟨rfl, ?_⟩ | refine ⟨trivial, ?_⟩)
     (conv => whnf)
     refine brI (fun hl => ?_) fun hl => ?_
     · have hl : qac (qaP qac (l.take x1))[k] l[x1] = true := hl
       (conv => whnf)
       refine ck_iff.2 ⟨qam k (by omega), ?_⟩
       (conv => whnf)
       refine ⟨((x1, k + 1) : Nat × Nat), ⟨⟨hlt', qg4 hk hlt2' hl⟩, rfl⟩, by show (qaP qac (l.take x1)).length - (k + 1) < (qaP qac (l.take x1)).length - k; omega, ?_⟩
       repeat' (first | exact trivial | exact rfl | ((conv => whnf); first | refine brI (fun _ => ?_) fun _ => ?_ | refine And.intro ?_ ?_))
     · have hl : qac (qaP qac (l.take x1))[k] l[x1] = false := hl; have hkk : k = posL qac (qaP qac (l.take x1)) l[x1] := qg5 hk hlt2' hl
       (conv => whnf)
       refine br_iff.2 ⟨fun he => absurd he (by simp; omega), fun he => ?_⟩
       (conv => whnf)
       refine so_iff.2 ⟨_, qax hlt2', ?_⟩
       (conv => whnf)
       refine so_iff.2 ⟨_, qax hlt', ?_⟩
       (conv => whnf)
       refine brI (fun hne => ?_) fun hne => ?_
       · repeat (first | ((conv => whnf); refine ⟨fun _ => rfl, ?_⟩) | ((conv => whnf); refine ⟨fun _ => ⟨rfl, rfl⟩, ?_⟩) | ((conv => whnf); refine ck_iff.2 ⟨by (simp only [Bool.and_eq_true, Nat.ble_eq, List.length_append, List.length_cons, List.length_nil, List.length_take, List.length_drop]; omega), ?_⟩) | ((conv => whnf); refine ck_iff.2 ⟨qam _ (by omega), ?_⟩) | ((conv => whnf); refine so_iff.2 ⟨_, qax (by assumption), ?_⟩) | ((conv => whnf); refine ⟨_, rfl, ?_⟩))
         refine ⟨(x1 + 1 : Nat), hlt', hmu, ?_⟩
         repeat' (first | exact trivial | exact rfl | ((conv => whnf); first | refine brI (fun _ => ?_) fun _ => ?_ | refine And.intro ?_ ?_))
         all_goals ((conv => whnf); rw [hn]; unfold insL; rw [<- hkk, if_neg (by rw [List.getElem?_eq_getElem hlt2']; simp only [cond_false, qdF] at hne; simpa using hne)]; first | (simp; done) | (simp [dots]; done) | (simp; rfl))
       · (conv => whnf)
         refine ck_iff.2 ⟨qam x1 (by omega), ?_⟩
         (conv => whnf)
         refine ⟨(x1 + 1 : Nat), hlt', hmu, ?_⟩
         repeat' (first | exact trivial | exact rfl | ((conv => whnf); first | refine brI (fun _ => ?_) fun _ => ?_ | refine And.intro ?_ ?_))
         all_goals ((conv => whnf); rw [hn]; unfold insL; rw [<- hkk, if_pos (by rw [List.getElem?_eq_getElem hlt2']; simp only [cond_false, qdF] at hne; simpa using hne)]; try rfl)
   · have hge2' : (qaP qac (l.take x1)).length <= k := qbw hge2; have hkk : k = posL qac (qaP qac (l.take x1)) l[x1] := by omega
     (conv => whnf)
     refine br_iff.2 ⟨fun he => ?_, fun he => absurd he (by simp; omega)⟩
     repeat (first | ((conv => whnf); refine ⟨fun _ => rfl, ?_⟩) | ((conv => whnf); refine ⟨fun _ => ⟨rfl, rfl⟩, ?_⟩) | ((conv => whnf); refine ck_iff.2 ⟨by (simp only [Bool.and_eq_true, Nat.ble_eq, List.length_append, List.length_cons, List.length_nil, List.length_take, List.length_drop]; omega), ?_⟩) | ((conv => whnf); refine ck_iff.2 ⟨qam _ (by omega), ?_⟩) | ((conv => whnf); refine so_iff.2 ⟨_, qax (by assumption), ?_⟩) | ((conv => whnf); refine ⟨_, rfl, ?_⟩))
     refine ⟨(x1 + 1 : Nat), hlt', hmu, ?_⟩
     repeat' (first | exact trivial | exact rfl | ((conv => whnf); first | refine brI (fun _ => ?_) fun _ => ?_ | refine And.intro ?_ ?_))
     all_goals ((conv => whnf); rw [hn]; unfold insL; rw [<- hkk, if_neg (by rw [List.getElem?_eq_none hge2']; simp)]; first | (simp; done) | (simp [dots]; done) | (simp; rfl))
 · (conv => whnf)
   refine ⟨by rw [qpa (qbf hge)], ?_⟩
   (conv => whnf)
   trivial)
theorem quu : CO zz91 qtQ := qae (cfg := fun y => cfgE qif (qaL zz91 2 (qvJ y))) zz1 (fun _ => rfl) (fun _ => qcE) (n := 600) (by
 rintro ⟨l, d⟩ (hpre : l.length <= 1000000)
 (conv => whnf)
 refine ⟨⟨(0 : Nat), ⟨Nat.zero_le _, fun _ _ h => absurd h (Nat.not_lt_zero _)⟩, ?_⟩, ?_⟩
 · repeat' (first | exact trivial | exact rfl | ((conv => whnf); first | refine brI (fun _ => ?_) fun _ => ?_ | refine And.intro ?_ ?_))
 intro (x : Nat) hx; obtain ⟨hx, hn⟩ := hx
 (conv => whnf)
 refine brI (fun hlt => ?_) fun hge => ?_
 · have hlt' : x < l.length := qad hlt
   (conv => whnf)
   refine so_iff.2 ⟨_, qax hlt', ?_⟩
   (conv => whnf)
   refine brI (fun h => ?_) fun h => ?_
   · have h : decide (l[x] = d) = true := by rw [<- qdF]; exact h
     (conv => whnf)
     refine ⟨(decide_eq_true (by rw [<- of_decide_eq_true h]; exact List.getElem_mem hlt')).symm, ?_⟩
     repeat' (first | exact trivial | exact rfl | ((conv => whnf); first | refine brI (fun _ => ?_) fun _ => ?_ | refine And.intro ?_ ?_))
   · have h : decide (l[x] = d) = false := by rw [<- qdF]; exact h
     (conv => whnf)
     refine ck_iff.2 ⟨qam x (by omega), ?_⟩
     (conv => whnf)
     refine ⟨(x + 1 : Nat), ⟨hlt', fun j hj hjx => ?_⟩, by show l.length - (x + 1) < l.length - x; omega, ?_⟩
     · rcases Nat.lt_or_ge j x with h1 | h1
       · exact hn j hj h1
       · have : j = x := by omega
         subst this; simpa using h
     · repeat' (first | exact trivial | exact rfl | ((conv => whnf); first | refine brI (fun _ => ?_) fun _ => ?_ | refine And.intro ?_ ?_))
 · have hge' : l.length <= x := qbw hge
   (conv => whnf)
   refine ⟨(decide_eq_false fun hm => ?_).symm, ?_⟩
   · obtain ⟨j, hj, he⟩ := List.getElem_of_mem hm; exact hn j hj (Nat.lt_of_lt_of_le hj hge') he
   · repeat' (first | exact trivial | exact rfl | ((conv => whnf); first | refine brI (fun _ => ?_) fun _ => ?_ | refine And.intro ?_ ?_)))
theorem qsZ : CO zz78 qrt := qae (cfg := fun y => cfgE qif (qaL zz78 4 (qtH y))) zz1 (fun _ => rfl) (fun _ => qcE) (n := 600) (by
 rintro ⟨l, m⟩ ⟨(hl : l.length <= 1000000), (hm : m.length <= 1000000)⟩
 (conv => whnf)
 refine brI (fun h => ?_) fun h => ?_
 · (conv => whnf)
   refine ⟨(decide_eq_false fun e => ?_).symm, ?_⟩
   · have e : l = m := e; subst e; simp at h
   · repeat' (first | exact trivial | exact rfl | ((conv => whnf); first | refine brI (fun _ => ?_) fun _ => ?_ | refine And.intro ?_ ?_))
 have hlm : l.length = m.length := by
   have h : (!((Int.ofNat l.length) == (Int.ofNat m.length))) = false := h; simp at h; omega
 (conv => whnf)
 refine ⟨⟨(0 : Nat), ⟨Nat.zero_le _, hlm, rfl⟩, ?_⟩, ?_⟩
 · repeat' (first | exact trivial | exact rfl | ((conv => whnf); first | refine brI (fun _ => ?_) fun _ => ?_ | refine And.intro ?_ ?_))
 intro (x : Nat) hx; obtain ⟨hx, -, ht⟩ := hx; have ht : l.take x = m.take x := ht
 (conv => whnf)
 refine brI (fun hlt => ?_) fun hge => ?_
 · have hlt' : x < l.length := qad hlt; have hlt2 : x < m.length := by omega
   (conv => whnf)
   refine so_iff.2 ⟨_, qax hlt', ?_⟩
   (conv => whnf)
   refine so_iff.2 ⟨_, qax hlt2, ?_⟩
   (conv => whnf)
   refine brI (fun h => ?_) fun h => ?_
   · have h : (!decide (l[x] = m[x])) = true := by rw [<- qdF]; exact h
     (conv => whnf)
     refine ⟨(decide_eq_false fun e => ?_).symm, ?_⟩
     · have e : l = m := e; subst e; simp at h
     · repeat' (first | exact trivial | exact rfl | ((conv => whnf); first | refine brI (fun _ => ?_) fun _ => ?_ | refine And.intro ?_ ?_))
   · have h : (!decide (l[x] = m[x])) = false := by rw [<- qdF]; exact h
     (conv => whnf)
     refine ck_iff.2 ⟨qam x (by omega), ?_⟩
     (conv => whnf)
     refine ⟨(x + 1 : Nat), ⟨hlt', hlm, ?_⟩, by show l.length - (x + 1) < l.length - x; omega, ?_⟩
     · show l.take (x + 1) = m.take (x + 1)
       have h : l[x] = m[x] := by simpa using h
       rw [List.take_succ_eq_append_getElem hlt', List.take_succ_eq_append_getElem hlt2, ht, h]
     · repeat' (first | exact trivial | exact rfl | ((conv => whnf); first | refine brI (fun _ => ?_) fun _ => ?_ | refine And.intro ?_ ?_))
 · have hge' : l.length <= x := qbw hge
   (conv => whnf)
   refine ⟨(decide_eq_true ?_).symm, ?_⟩
   · rw [List.take_of_length_le hge', List.take_of_length_le (by omega)] at ht; exact ht
   · repeat' (first | exact trivial | exact rfl | ((conv => whnf); first | refine brI (fun _ => ?_) fun _ => ?_ | refine And.intro ?_ ?_)))
noncomputable def qmB (f : FuncId) : Option Con := bif Nat.beq f zz48 then some qru else bif Nat.beq f zz91 then some qtQ else bif Nat.beq f zz78 then some qrt else qif f
theorem qeI : ∀ g C, qmB g = some C -> CO g C := qab qs3 (qab quu (qab qsZ qcE))
end Go.Proofs
namespace Go.Proofs
open Go Go.Am Go.RowKit Go.Sy
variable [Inhabited DrP]
def qbR (d : CDot) (l : List CDot) (i : Nat) (h : i < l.length) : Bool := qbt l[i] && (decide (i = 0) || qac (l[i - 1]'(by omega)) l[i]) && !(l[i].dev == d.dev && l[i].inc == d.inc && leI d.seq l[i].seq)
def qbN (d : CDot) (l : List CDot) : Bool := decide (l.length <= 64) && decide (∀ i (h : i < l.length), qbR d l i h = true)
def qbI (e : CEvent) : Bool := leI (Int.ofNat e.over.length) 100 && leI (Int.ofNat e.key.name.length) 2000 && leI (Int.ofNat e.key.domain.length) 2000 && leI (Int.ofNat e.key.path.length) 2000 && leI (Int.ofNat e.cookie.value.length) 2000
def cEv1 (pre : CEvent -> Prop) (p : CEvent -> Bool) : Con := { Y := CEvent, pre := pre, args := fun y => [.agg y.enc], res := fun y => .bool (p y) }
def qgs : Con := { Y := List CEvent × Int, pre := fun y => y.2 <= 1000000, args := fun y => [evs' y.1, i64 y.2], res := fun y => .bool (leI (Int.ofNat y.1.length) y.2 && y.1.all qbI) }
def qnp (y : List CEvent × Int) : Ann := { α := Nat, ok := fun i => i <= y.1.length /\ (y.1.take i).all qbI = true, μ := fun i => y.1.length - i, keep := [], slots := fun i => [(0, evs' y.1), (5, i64 i)], objs := fun _ => [] }
theorem ql8 : CO zz61 (cEv1 (fun _ => True) qbI) := qae (cfg := fun y => cfgE con0 (qaQ y)) zz1 (fun _ => rfl) (fun _ => qeK) (n := 400) (by
 intro (e : CEvent) _
 repeat' (first | exact trivial | exact rfl | ((conv => whnf); first | refine brI (fun _ => ?_) fun _ => ?_ | refine And.intro ?_ ?_))
 all_goals (simp_all [qbI]))
noncomputable def qr6 (f : FuncId) : Option Con := bif Nat.beq f zz61 then some (cEv1 (fun _ => True) qbI) else qmB f
theorem qlw : ∀ g C, qr6 g = some C -> CO g C := qab ql8 qeI
theorem qhP : CO zz36 qgs := qae (cfg := fun y => cfgE qr6 (qaL zz36 4 (qnp y))) zz1 (fun _ => rfl) (fun _ => qlw) (n := 400) (by
 rintro ⟨l, m⟩ (hm : m <= 1000000)
 (conv => whnf)
 refine brI (fun h => ?_) fun h => ?_
 · have h : leI (Int.ofNat l.length) m = false := by
     have h : ltI m (Int.ofNat l.length) = true := h; rw [qan, decide_eq_true_eq] at h; rw [qaX, decide_eq_false_iff_not]; omega
   (conv => whnf)
   refine ⟨by show false = _; rw [h]; rfl, ?_⟩
   repeat' (first | exact trivial | exact rfl | ((conv => whnf); first | refine brI (fun _ => ?_) fun _ => ?_ | refine And.intro ?_ ?_))
 have h : leI (Int.ofNat l.length) m = true := by
   have h : ltI m (Int.ofNat l.length) = false := h; rw [qan, decide_eq_false_iff_not] at h; rw [qaX, decide_eq_true_eq]; omega
 have hlen : l.length <= 1000000 := by rw [qaX, decide_eq_true_eq, Int.ofNat_eq_natCast] at h; omega
 (conv => whnf)
 refine ⟨⟨(0 : Nat), ⟨Nat.zero_le _, by simp⟩, ?_⟩, ?_⟩
 · repeat' (first | exact trivial | exact rfl | ((conv => whnf); first | refine brI (fun _ => ?_) fun _ => ?_ | refine And.intro ?_ ?_))
 intro (x : Nat) hx; obtain ⟨hx, hn⟩ := hx; have hx : x <= l.length := hx; have hn : (l.take x).all qbI = true := hn
 (conv => whnf)
 refine brI (fun hlt => ?_) fun hge => ?_
 · have hlt' : x < l.length := qad hlt
   (conv => whnf)
   refine so_iff.2 ⟨_, qax hlt', ?_⟩
   (conv => whnf)
   refine ⟨l[x], ?_⟩
   repeat ((conv => whnf); first | refine ⟨rfl, ?_⟩ | refine ⟨trivial, ?_⟩)
   (conv => whnf)
   refine brI (fun h1 => ?_) fun h1 => ?_
   · have h1 : (!qbI l[x]) = true := h1
     (conv => whnf)
     refine ⟨?_, ?_⟩
     · show false = (leI (Int.ofNat l.length) m && l.all qbI)
       rw [h, Bool.true_and, eq_comm, List.all_eq_false]; exact ⟨l[x], List.getElem_mem hlt', by simpa using h1⟩
     · repeat' (first | exact trivial | exact rfl | ((conv => whnf); first | refine brI (fun _ => ?_) fun _ => ?_ | refine And.intro ?_ ?_))
   · have h1 : (!qbI l[x]) = false := h1
     (conv => whnf)
     refine ck_iff.2 ⟨qam x (by omega), ?_⟩
     (conv => whnf)
     refine ⟨(x + 1 : Nat), ⟨hlt', ?_⟩, by show l.length - (x + 1) < l.length - x; omega, ?_⟩
     · show (l.take (x + 1)).all qbI = true
       rw [List.take_succ_eq_append_getElem hlt', List.all_append, hn]; simpa using h1
     · repeat' (first | exact trivial | exact rfl | ((conv => whnf); first | refine brI (fun _ => ?_) fun _ => ?_ | refine And.intro ?_ ?_))
 · have hge' : l.length <= x := qbw hge; rw [List.take_of_length_le hge'] at hn
   (conv => whnf)
   refine ⟨by show true = (leI (Int.ofNat l.length) m && l.all qbI); rw [h, hn]; rfl, ?_⟩
   repeat' (first | exact trivial | exact rfl | ((conv => whnf); first | refine brI (fun _ => ?_) fun _ => ?_ | refine And.intro ?_ ?_)))
theorem qjO {d : CDot} {l : List CDot} {x : Nat} (hx : x < l.length) (h : qbR d l x hx = false) : qbN d l = false := by
 unfold qbN; rw [Bool.and_eq_false_iff]; right; refine decide_eq_false fun hall => ?_
 rw [hall x hx] at h; cases h
def qtF (d : CDot) (l : List CDot) (ks : List Nat) (s1 s2 s3 : Nat) : Ann := { α := Nat, ok := fun i => i <= l.length /\ ∀ j (h : j < l.length), j < i -> qbR d l j h = true, μ := fun i => l.length - i, keep := ks, slots := fun i => [(s1, dots l), (s2, i64 (Int.ofNat l.length)), (s3, i64 i)], objs := fun _ => [] }
theorem qsW : CO zz71 (cEv1 (fun _ => True) fun e => qbN e.dot e.over) := qae (C := cEv1 (fun _ => True) fun e => qbN e.dot e.over) (cfg := fun (y : CEvent) => cfgE qr6 (qaL zz71 4 (qtF y.dot y.over [1] 10 11 12))) zz1 (fun _ => rfl) (fun _ => qlw) (n := 600) (by
 rintro ⟨d, st, kd, ky, ck, l⟩ -
 (conv => whnf)
 refine brI (fun h => ?_) fun h => ?_
 · have h : 64 < l.length := by
     have h : ltI 64 (Int.ofNat l.length) = true := h; rw [qan, decide_eq_true_eq, Int.ofNat_eq_natCast] at h; omega
   (conv => whnf)
   refine ⟨by show false = qbN d l; unfold qbN; rw [decide_eq_false (by omega)]; rfl, ?_⟩
   repeat' (first | exact trivial | exact rfl | ((conv => whnf); first | refine brI (fun _ => ?_) fun _ => ?_ | refine And.intro ?_ ?_))
 have h : l.length <= 64 := by
   have h : ltI 64 (Int.ofNat l.length) = false := h; rw [qan, decide_eq_false_iff_not, Int.ofNat_eq_natCast] at h; omega
 (conv => whnf)
 refine ⟨⟨(0 : Nat), ⟨Nat.zero_le _, fun _ _ h => absurd h (Nat.not_lt_zero _)⟩, ?_⟩, ?_⟩
 · repeat' (first | exact trivial | exact rfl | ((conv => whnf); first | refine brI (fun _ => ?_) fun _ => ?_ | refine And.intro ?_ ?_))
 intro (x : Nat) hx; obtain ⟨hx, hn⟩ := hx; have hx : x <= l.length := hx
 (conv => whnf)
 refine brI (fun hlt => ?_) fun hge => ?_
 · have hlt' : x < l.length := qad hlt; have no := qjO (d := d) hlt'; have yes : qbR d l x hlt' = true -> (qtF d l [1] 10 11 12).ok (x + 1 : Nat) := fun hy => ⟨hlt', fun j hj hjx => by
     rcases Nat.lt_or_ge j x with h1 | h1
     · exact hn j hj h1
     · have e : j = x := by omega
       subst e; exact hy⟩
   have mu : l.length - (x + 1) < l.length - x := by omega
   (conv => whnf)
   refine so_iff.2 ⟨_, qax hlt', ?_⟩
   (conv => whnf)
   refine ⟨l[x], ?_⟩
   repeat ((conv => whnf); first | refine ⟨rfl, ?_⟩ | refine ⟨trivial, ?_⟩)
   (conv => whnf)
   refine brI (fun h1 => ?_) fun h1 => ?_
   · have h1 : qbt l[x] = false := by
       have h1 : (!qbt l[x]) = true := h1; simpa using h1
     (conv => whnf)
     refine ⟨by show false = qbN d l; rw [no (by simp only [qbR, h1, Bool.false_and])], ?_⟩
     repeat' (first | exact trivial | exact rfl | ((conv => whnf); first | refine brI (fun _ => ?_) fun _ => ?_ | refine And.intro ?_ ?_))
   have h1 : qbt l[x] = true := by
     have h1 : (!qbt l[x]) = false := h1; simpa using h1
   (conv => whnf)
   refine br_iff.2 ⟨fun h2 => ?ga, fun h2 => ?gb⟩
   case' ga =>
     have hx0 : 0 < x := by
       have h2 : ltI 0 (x : Int) = true := h2; rw [qan, decide_eq_true_eq] at h2; omega
     have hx1 : x - 1 < l.length := by omega
     have hget : l[((x : Int) - 1).toNat]? = some l[x - 1] := by
       rw [show ((x : Int) - 1).toNat = x - 1 by omega, List.getElem?_eq_getElem hx1]
     (conv => whnf)
     refine ck_iff.2 ⟨by rw [qcv]; omega, ?_⟩
     (conv => whnf)
     refine ck_iff.2 ⟨by rw [qhs, decide_eq_true_eq]; omega, ?_⟩
     (conv => whnf)
     refine so_iff.2 ⟨_, hget, ?_⟩
     (conv => whnf)
     refine ⟨(l[x - 1], l[x]), ?_⟩
     repeat ((conv => whnf); first | refine ⟨rfl, ?_⟩ | refine ⟨trivial, ?_⟩)
     (conv => whnf)
     refine br_iff.2 ⟨fun h3 => ?gc, fun h3 => ?gd⟩
     case gc =>
       have h3 : qac l[x - 1] l[x] = false := by
         have h3 : (!qac l[x - 1] l[x]) = true := h3; simpa using h3
       (conv => whnf)
       refine ⟨by show false = qbN d l; rw [no (by simp only [qbR, h1, h3, decide_eq_false (show ¬ x = 0 by omega), Bool.or_false, Bool.and_false, Bool.false_and])], ?_⟩
       repeat' (first | exact trivial | exact rfl | ((conv => whnf); first | refine brI (fun _ => ?_) fun _ => ?_ | refine And.intro ?_ ?_))
     case' gd =>
       have h3 : qac l[x - 1] l[x] = true := by
         have h3 : (!qac l[x - 1] l[x]) = false := h3; simpa using h3
       have hA : qbR d l x hlt' = !(l[x].dev == d.dev && l[x].inc == d.inc && leI d.seq l[x].seq) := by simp only [qbR, h1, h3, Bool.or_true, Bool.and_true, Bool.true_and]
   case' gb =>
     have hx0 : x = 0 := by
       have h2 : ltI 0 (x : Int) = false := h2; rw [qan, decide_eq_false_iff_not] at h2; omega
     have hA : qbR d l x hlt' = !(l[x].dev == d.dev && l[x].inc == d.inc && leI d.seq l[x].seq) := by simp only [qbR, h1, decide_eq_true hx0, Bool.true_or, Bool.and_true, Bool.true_and]
   all_goals
     (conv => whnf)
     refine brI (fun h4 => ?_) fun h4 => ?_
     · have h4 : (l[x].dev == d.dev && l[x].inc == d.inc) = true := by simpa using h4
       (conv => whnf)
       refine brI (fun h5 => ?_) fun h5 => ?_
       · have h5 : leI d.seq l[x].seq = true := h5; rw [h4, h5] at hA
         (conv => whnf)
         refine ⟨by show false = qbN d l; rw [no hA], ?_⟩
         repeat' (first | exact trivial | exact rfl | ((conv => whnf); first | refine brI (fun _ => ?_) fun _ => ?_ | refine And.intro ?_ ?_))
       · have h5 : leI d.seq l[x].seq = false := h5; rw [h4, h5] at hA
         (conv => whnf)
         refine ck_iff.2 ⟨qam x (by omega), ?_⟩
         (conv => whnf)
         refine ⟨(x + 1 : Nat), yes hA, mu, ?_⟩
         repeat' (first | exact trivial | exact rfl | ((conv => whnf); first | refine brI (fun _ => ?_) fun _ => ?_ | refine And.intro ?_ ?_))
     · have h4 : (l[x].dev == d.dev && l[x].inc == d.inc) = false := by
         cases e : (l[x].dev == d.dev && l[x].inc == d.inc) with
         | false => rfl
         | true =>
          have e' : (l[x].dev == d.dev && (l[x].inc == d.inc && true)) = false := h4; rw [Bool.and_true, e] at e'; cases e'
       rw [h4] at hA
       (conv => whnf)
       refine ck_iff.2 ⟨qam x (by omega), ?_⟩
       (conv => whnf)
       refine ⟨(x + 1 : Nat), yes hA, mu, ?_⟩
       repeat' (first | exact trivial | exact rfl | ((conv => whnf); first | refine brI (fun _ => ?_) fun _ => ?_ | refine And.intro ?_ ?_))
 · have hge' : l.length <= x := qbw hge
   (conv => whnf)
   refine ⟨?_, ?_⟩
   · show true = qbN d l
     unfold qbN; rw [decide_eq_true h, decide_eq_true fun i hi => hn i hi (Nat.lt_of_lt_of_le hi hge')]; rfl
   · repeat' (first | exact trivial | exact rfl | ((conv => whnf); first | refine brI (fun _ => ?_) fun _ => ?_ | refine And.intro ?_ ?_)))
end Go.Proofs
namespace Go.Proofs
open Go Go.Am Go.RowKit Go.Sy
variable [Inhabited DrP]
def ctlB (b : UInt8) : Bool := (ltI (nB b) 32 && !(nB b == 9)) || nB b == 127
def qbG (b : UInt8) : Bool := nB b == 32 || nB b == 9
def qbJ (s : Bs) : Bs := s.dropWhile qbG
def qbS (s : Bs) : Bs := (s.reverse.dropWhile qbG).reverse
def qd9 (s : Bs) : Bs := qbS (qbJ s)
def cCtl : Con := { Y := Bs, pre := fun y => y.length <= 1000000, args := fun y => [.str y], res := fun y => .bool (y.any ctlB) }
def aCtl (y : Bs) : Ann := { α := Nat, ok := fun i => i <= y.length /\ (y.take i).any ctlB = false, μ := fun i => y.length - i, keep := [], slots := fun i => [(0, .str y), (5, i64 (Int.ofNat y.length)), (6, i64 i)], objs := fun _ => [] }
def qvH (y : Bs) : Ann := { α := Nat, ok := fun i => i <= y.length, μ := fun i => y.length - i, keep := [], slots := fun i => [(0, .str y), (3, .bool ((y.take i).any ctlB)), (4, i64 i)], objs := fun _ => [] }
def qrm : Con := { Y := UInt8, pre := fun _ => True, args := fun y => [.int .u8 (nB y)], res := fun y => .bool (qbG y) }
def qpy : Con := { Y := Bs, pre := fun y => y.length <= 1000000, args := fun y => [.str y], res := fun y => .str (qd9 y) }
def qtJ (y : Bs) : Ann := { α := Bs, ok := fun x => qbJ x = qbJ y /\ x.length <= y.length, μ := fun x => x.length, keep := [], slots := fun x => [(0, .str x)], objs := fun _ => [] }
def qtK (y : Bs) : Ann := { α := Bs, ok := fun x => qbS x = qd9 y /\ x.length <= y.length, μ := fun x => x.length, keep := [], slots := fun x => [(0, .str x)], objs := fun _ => [] }
def qnq (y : Bs) : Ann := { α := Nat, ok := fun i => i <= y.length /\ qbJ (y.drop i) = qbJ y, μ := fun i => y.length - i, keep := [], slots := fun i => [(0, .str y), (3, i64 i), (4, i64 (Int.ofNat y.length))], objs := fun _ => [] }
def qnr (y : Bs) : Ann := { α := Nat × Nat, ok := fun x => x.1 <= x.2 /\ x.2 <= y.length /\ qbS ((y.drop x.1).take (x.2 - x.1)) = qd9 y, μ := fun x => x.2, keep := [], slots := fun x => [(0, .str y), (3, i64 x.1), (4, i64 x.2)], objs := fun _ => [] }
noncomputable def qpG (f : FuncId) : Option Con := bif Nat.beq f zz99 then some qrm else bif Nat.beq f zz40 then some cCtl else bif Nat.beq f zz44 then some cCtl else qmB f
noncomputable def qr5 (f : FuncId) : Option Con := bif Nat.beq f zz46 then some qpy else bif Nat.beq f zz47 then some qpy else qpG f
theorem qlj {α : Type} {p : α -> Bool} {l : List α} {x : Nat} (h : x < l.length) : (l.take (x + 1)).any p = ((l.take x).any p || p l[x]) := by
 rw [List.take_succ_eq_append_getElem h, List.any_append]; simp
theorem qli {α : Type} {p : α -> Bool} {l : List α} {x : Nat} (h : l.length <= x) : (l.take x).any p = l.any p := by rw [List.take_of_length_le h]
theorem qtL {α : Type} {p : α -> Bool} {l : List α} {x : Nat} (h : x < l.length) (hp : p l[x] = true) : l.any p = true := List.any_eq_true.2 ⟨_, List.getElem_mem h, hp⟩
theorem qvQ : CO zz40 cCtl := qae (cfg := fun y => cfgE qmB (qaL zz40 2 (aCtl y))) zz1 (fun _ => rfl) (fun _ => qeI) (n := 600) (by
 intro (s : Bs) (hpre : s.length <= 1000000)
 (conv => whnf)
 refine ⟨⟨(0 : Nat), ⟨Nat.zero_le _, by simp⟩, ?_⟩, ?_⟩
 · repeat' (first | exact trivial | exact rfl | ((conv => whnf); first | refine brI (fun _ => ?_) fun _ => ?_ | refine And.intro ?_ ?_))
 intro (x : Nat) hx; obtain ⟨hx, hn⟩ := hx
 (conv => whnf)
 refine brI (fun hlt => ?_) fun hge => ?_
 · have hlt' : x < s.length := qad hlt; have e : ctlB s[x] = ((ltI (nB s[x]) 32 && !(nB s[x] == 9)) || nB s[x] == 127) := rfl; have yes : ctlB s[x] = true -> s.any ctlB = true := qtL hlt'; have no : ctlB s[x] = false -> (s.take (x + 1)).any ctlB = false := fun h => by rw [qlj hlt', hn, h]; rfl
   repeat' (first | exact trivial | exact rfl | ((conv => whnf); refine so_iff.2 ⟨_, qax (by assumption), ?_⟩) | ((conv => whnf); refine ck_iff.2 ⟨qam _ (by omega), ?_⟩) | ((conv => whnf); refine ck_iff.2 ⟨?_, ?_⟩) | ((conv => whnf); first | refine brI (fun _ => ?_) fun _ => ?_ | refine And.intro ?_ ?_))
   all_goals first
    | (refine (yes ?_).symm; clear yes no e hn; simp_all [ctlB, nB])
    | ((conv => whnf); refine ⟨(x + 1 : Nat), ⟨hlt', no (by clear yes no e hn; simp_all [ctlB, nB])⟩, by show s.length - (x + 1) < s.length - x; omega, ?_⟩; repeat' (first | exact trivial | exact rfl | ((conv => whnf); first | refine brI (fun _ => ?_) fun _ => ?_ | refine And.intro ?_ ?_)))
 · have hge' : s.length <= x := qbw hge; rw [qli hge'] at hn
   (conv => whnf)
   refine ⟨hn.symm, ?_⟩
   repeat' (first | exact trivial | exact rfl | ((conv => whnf); first | refine brI (fun _ => ?_) fun _ => ?_ | refine And.intro ?_ ?_)))
theorem quk : CO zz44 cCtl := qae (cfg := fun y => cfgE qmB (qaL zz44 3 (qvH y))) zz1 (fun _ => rfl) (fun _ => qeI) (n := 600) (by
 intro (s : Bs) (hpre : s.length <= 1000000)
 (conv => whnf)
 refine ⟨⟨(0 : Nat), Nat.zero_le _, ?_⟩, ?_⟩
 · repeat' (first | exact trivial | exact rfl | ((conv => whnf); first | refine brI (fun _ => ?_) fun _ => ?_ | refine And.intro ?_ ?_))
 intro (x : Nat) hx; have hx : x <= s.length := hx
 (conv => whnf)
 refine brI (fun hlt => ?_) fun hge => ?_
 · have hlt' : x < s.length := qad hlt; have fin : ∀ b : Bool, b = ((s.take x).any ctlB || ctlB s[x]) -> b = (s.take (x + 1)).any ctlB := fun b h => by rw [qlj hlt', h]
   repeat' (first | exact trivial | exact rfl | ((conv => whnf); refine so_iff.2 ⟨_, qax (by assumption), ?_⟩) | ((conv => whnf); refine ck_iff.2 ⟨qam _ (by omega), ?_⟩) | ((conv => whnf); refine ck_iff.2 ⟨?_, ?_⟩) | ((conv => whnf); first | refine brI (fun _ => ?_) fun _ => ?_ | refine And.intro ?_ ?_))
   all_goals ((conv => whnf); refine ⟨(x + 1 : Nat), hlt', by show s.length - (x + 1) < s.length - x; omega, ?_⟩; repeat' (first | exact trivial | exact rfl | ((conv => whnf); first | refine brI (fun _ => ?_) fun _ => ?_ | refine And.intro ?_ ?_)))
   all_goals (refine fin _ ?_; clear fin; generalize (s.take x).any ctlB = P at *; simp_all [ctlB, nB])
 · have hge' : s.length <= x := qbw hge
   (conv => whnf)
   refine ⟨qli hge', ?_⟩
   repeat' (first | exact trivial | exact rfl | ((conv => whnf); first | refine brI (fun _ => ?_) fun _ => ?_ | refine And.intro ?_ ?_)))
theorem qsD : CO zz99 qrm := qae (cfg := fun y => cfgE qmB (qaQ y)) zz1 (fun _ => rfl) (fun _ => qeI) (n := 400) (by
 intro (b : UInt8) _
 repeat' (first | exact trivial | exact rfl | ((conv => whnf); first | refine brI (fun _ => ?_) fun _ => ?_ | refine And.intro ?_ ?_))
 all_goals (simp_all [qbG]))
theorem qid : ∀ g C, qpG g = some C -> CO g C := qab qsD (qab qvQ (qab quk qeI))
theorem qhK {b : UInt8} {s : Bs} (h : qbG b = true) : qbJ (b :: s) = qbJ s := by unfold qbJ; rw [List.dropWhile_cons, if_pos h]
theorem qhL {b : UInt8} {s : Bs} (h : qbG b = false) : qbJ (b :: s) = b :: s := by unfold qbJ; rw [List.dropWhile_cons, if_neg (by simp [h])]
theorem qhW {b : UInt8} {s : Bs} (h : qbG b = true) : qbS (s ++ [b]) = qbS s := by unfold qbS; rw [List.reverse_append, List.reverse_singleton, List.singleton_append, List.dropWhile_cons, if_pos h]
theorem qhX {b : UInt8} {s : Bs} (h : qbG b = false) : qbS (s ++ [b]) = s ++ [b] := by unfold qbS; rw [List.reverse_append, List.reverse_singleton, List.singleton_append, List.dropWhile_cons, if_neg (by simp [h])]; simp
theorem qhV {s : Bs} (h : s ≠ []) : (qbG (s.getLast h) = true -> qbS s.dropLast = qbS s) /\ (qbG (s.getLast h) = false -> qbS s = s) := by
 have e := List.dropLast_concat_getLast h; constructor
 · intro hb; rw [<- e, qhW hb]; simp
 · intro hb; rw [<- e, qhX hb]
theorem quH : CO zz46 qpy := qae (cfg := fun y => cfgE qpG (qh6 zz46 1 (qtJ y) (qaL zz46 3 (qtK y)))) zz1 (fun _ => rfl) (fun _ => qid) (n := 600) (by
 intro (y : Bs) (hpre : y.length <= 1000000)
 (conv => whnf)
 refine ⟨⟨y, ⟨rfl, Nat.le_refl _⟩, ?_⟩, ?_⟩
 · repeat' (first | exact trivial | exact rfl | ((conv => whnf); first | refine brI (fun _ => ?_) fun _ => ?_ | refine And.intro ?_ ?_))
 intro (x : Bs) hx; obtain ⟨h1, h2⟩ := hx; have h2 : x.length <= y.length := h2
 (conv => whnf)
 refine br_iff.2 ⟨fun hne => ?ne, fun he => ?eq⟩
 case' eq =>
   have hL : qbJ x = x := by
     have he : (!(x == [])) = false := he; simp at he; subst he; rfl
 case' ne =>
   obtain ⟨b, x', rfl⟩ : ∃ b x', x = b :: x' := by
     cases x with
     | nil => cases hne
     | cons b x => exact ⟨b, x, rfl⟩
   (conv => whnf)
   refine ⟨b, ?_⟩
   repeat ((conv => whnf); first | refine ⟨rfl, ?_⟩ | refine ⟨trivial, ?_⟩)
   (conv => whnf)
   refine br_iff.2 ⟨fun hb => ?bt, fun hb => ?bf⟩
   case' bf => have hL := qhL (s := x') hb
   case bt =>
     (conv => whnf)
     refine ck_iff.2 ⟨rfl, ?_⟩
     (conv => whnf)
     refine ⟨x', ⟨by show qbJ x' = qbJ y; rw [<- h1, qhK hb], by show x'.length <= y.length; simp at h2; omega⟩, by show x'.length < (b :: x').length; simp, ?_⟩
     repeat' (first | exact trivial | exact rfl | ((conv => whnf); first | refine brI (fun _ => ?_) fun _ => ?_ | refine And.intro ?_ ?_))
 all_goals
   rw [hL] at h1
   (conv => whnf)
   refine ⟨⟨_, ⟨by show _ = qbS (qbJ y); rw [<- h1], h2⟩, ?_⟩, ?_⟩
   · repeat' (first | exact trivial | exact rfl | ((conv => whnf); first | refine brI (fun _ => ?_) fun _ => ?_ | refine And.intro ?_ ?_))
   clear h2; intro (z : Bs) hz; obtain ⟨z1, z2⟩ := hz; have z2 : z.length <= y.length := z2; have z1 : qbS z = qd9 y := z1
   (conv => whnf)
   refine brI (fun hz0 => ?_) fun hz0 => ?_
   · have hz0 : z ≠ [] := by
       have hz0 : (!(z == [])) = true := hz0; simpa using hz0
     have hpos := List.length_pos_iff.2 hz0; have hlast : z[(Int.ofNat z.length - 1).toNat]? = some (z.getLast hz0) := by
       rw [List.getLast_eq_getElem, show (Int.ofNat z.length - 1).toNat = z.length - 1 by simp only [Int.ofNat_eq_natCast]; omega, List.getElem?_eq_getElem (by omega)]
     have hdrop : z.take (Int.ofNat z.length - 1).toNat = z.dropLast := by
       rw [show (Int.ofNat z.length - 1).toNat = z.length - 1 by simp only [Int.ofNat_eq_natCast]; omega, List.dropLast_eq_take]
     have hir : inR .i64 (Int.ofNat z.length - 1) = true := by rw [qcv]; simp only [Int.ofNat_eq_natCast]; omega
     (conv => whnf)
     refine ck_iff.2 ⟨hir, ?_⟩
     (conv => whnf)
     refine ck_iff.2 ⟨by rw [qhs, decide_eq_true_eq]; simp only [Int.ofNat_eq_natCast]; omega, ?_⟩
     (conv => whnf)
     refine so_iff.2 ⟨_, hlast, ?_⟩
     (conv => whnf)
     refine ⟨z.getLast hz0, ?_⟩
     repeat ((conv => whnf); first | refine ⟨rfl, ?_⟩ | refine ⟨trivial, ?_⟩)
     (conv => whnf)
     refine brI (fun hb => ?_) fun hb => ?_
     · (conv => whnf)
       refine ck_iff.2 ⟨hir, ?_⟩
       (conv => whnf)
       refine ck_iff.2 ⟨by rw [qhs, decide_eq_true_eq]; simp only [Int.ofNat_eq_natCast]; omega, ?_⟩
       (conv => whnf)
       refine ck_iff.2 ⟨by rw [Nat.ble_eq]; simp only [Int.ofNat_eq_natCast]; omega, ?_⟩
       (conv => whnf)
       refine ⟨z.take (Int.ofNat z.length - 1).toNat, ⟨?_, ?_⟩, ?_, ?_⟩
       · show qbS (z.take (Int.ofNat z.length - 1).toNat) = qd9 y
         rw [hdrop, (qhV hz0).1 hb]; exact z1
       · show (z.take (Int.ofNat z.length - 1).toNat).length <= y.length
         rw [hdrop, List.length_dropLast]; omega
       · show (z.take (Int.ofNat z.length - 1).toNat).length < z.length
         rw [hdrop, List.length_dropLast]; omega
       · repeat' (first | exact trivial | exact rfl | ((conv => whnf); first | refine brI (fun _ => ?_) fun _ => ?_ | refine And.intro ?_ ?_))
     · have := (qhV hz0).2 hb
       (conv => whnf)
       refine ⟨by rw [<- this]; exact z1, ?_⟩
       repeat' (first | exact trivial | exact rfl | ((conv => whnf); first | refine brI (fun _ => ?_) fun _ => ?_ | refine And.intro ?_ ?_))
   · have hz0 : z = [] := by
       have hz0 : (!(z == [])) = false := hz0; simpa using hz0
     subst hz0
     (conv => whnf)
     refine ⟨z1, ?_⟩
     repeat' (first | exact trivial | exact rfl | ((conv => whnf); first | refine brI (fun _ => ?_) fun _ => ?_ | refine And.intro ?_ ?_)))
theorem qfP {s : Bs} {x : Nat} (h : x < s.length) : s.drop x = s[x] :: s.drop (x + 1) := List.drop_eq_getElem_cons h
theorem qq8 {s : Bs} {a b : Nat} (h1 : a < b) (h2 : b <= s.length) : (s.drop a).take (b - a) = (s.drop a).take (b - 1 - a) ++ [s[b - 1]'(by omega)] := by
 have : b - a = b - 1 - a + 1 := by omega
 rw [this, List.take_succ_eq_append_getElem (by simp; omega)]; congr 2
 simp only [List.getElem_drop]; congr 1
 omega
theorem qs5 : CO zz47 qpy := qae (cfg := fun y => cfgE qpG (qh6 zz47 3 (qnq y) (qaL zz47 5 (qnr y)))) zz1 (fun _ => rfl) (fun _ => qid) (n := 600) (by
 intro (y : Bs) (hpre : y.length <= 1000000)
 (conv => whnf)
 refine ⟨⟨(0 : Nat), ⟨Nat.zero_le _, rfl⟩, ?_⟩, ?_⟩
 · repeat' (first | exact trivial | exact rfl | ((conv => whnf); first | refine brI (fun _ => ?_) fun _ => ?_ | refine And.intro ?_ ?_))
 intro (x : Nat) hx; obtain ⟨h1, h2⟩ := hx; have h1 : x <= y.length := h1; have h2 : qbJ (y.drop x) = qbJ y := h2; have step : ∀ hx : x < y.length, qbG y[x] = true -> (qnq y).ok (x + 1 : Nat) := fun hx hb => ⟨hx, by rw [<- h2, qfP hx, qhK hb]⟩
 have mu : ∀ hx : x < y.length, y.length - (x + 1) < y.length - x := fun hx => by omega
 have stop : ∀ hx : x < y.length, qbG y[x] = false -> y.drop x = qbJ y := fun hx hb => by
   rw [<- h2, qfP hx, qhL hb]
 (conv => whnf)
 refine br_iff.2 ⟨fun hlt => ?a, fun hge => ?e⟩
 case' e =>
   have hL : y.drop x = qbJ y := by
     have hge : y.length <= x := qbw hge; rw [<- h2, List.drop_eq_nil_of_le hge]; rfl
 case' a =>
   have hlt' : x < y.length := qad hlt
   (conv => whnf)
   refine so_iff.2 ⟨_, qax hlt', ?_⟩
   (conv => whnf)
   refine br_iff.2 ⟨fun hb => ?b, fun hb => ?c⟩
   case b =>
     have hb : nB y[x] = 32 := by
       have hb : (nB y[x] == 32) = true := hb; simpa using hb
     (conv => whnf)
     refine ck_iff.2 ⟨qam x (by omega), ?_⟩
     (conv => whnf)
     refine ⟨(x + 1 : Nat), step hlt' (by simp [qbG, hb]), mu hlt', ?_⟩
     repeat' (first | exact trivial | exact rfl | ((conv => whnf); first | refine brI (fun _ => ?_) fun _ => ?_ | refine And.intro ?_ ?_))
   case' c =>
     have hb : (nB y[x] == 32) = false := hb
     (conv => whnf)
     refine so_iff.2 ⟨_, qax hlt', ?_⟩
     (conv => whnf)
     refine br_iff.2 ⟨fun hc => ?d, fun hc => ?f⟩
     case d =>
       have hc : (nB y[x] == 9) = true := hc
       (conv => whnf)
       refine ck_iff.2 ⟨qam x (by omega), ?_⟩
       (conv => whnf)
       refine ⟨(x + 1 : Nat), step hlt' (by simp only [qbG, hb, hc, Bool.or_true]), mu hlt', ?_⟩
       repeat' (first | exact trivial | exact rfl | ((conv => whnf); first | refine brI (fun _ => ?_) fun _ => ?_ | refine And.intro ?_ ?_))
     case' f =>
       have hc : (nB y[x] == 9) = false := hc; have hL : y.drop x = qbJ y := stop hlt' (by simp only [qbG, hb, hc, Bool.or_false])
 all_goals
   clear step mu stop
   (conv => whnf)
   refine ⟨⟨((x, y.length) : Nat × Nat), ⟨h1, Nat.le_refl _, by show qbS ((y.drop x).take (y.length - x)) = qbS (qbJ y); rw [<- hL, List.take_of_length_le (by simp)]⟩, ?_⟩, ?_⟩
   · repeat' (first | exact trivial | exact rfl | ((conv => whnf); first | refine brI (fun _ => ?_) fun _ => ?_ | refine And.intro ?_ ?_))
   rintro ⟨a, b⟩ ⟨k1, k2, k3⟩; have k1 : a <= b := k1; have k2 : b <= y.length := k2; have k3 : qbS ((y.drop a).take (b - a)) = qd9 y := k3
   (conv => whnf)
   refine brI (fun hlt => ?_) fun hge => ?_
   · have hab : a < b := by
       have hlt : ltI (a : Int) (b : Int) = true := hlt; rw [qan, decide_eq_true_eq] at hlt; omega
     have hl := qq8 hab k2; have hbl : b - 1 < y.length := by omega
     have hget : y[((b : Int) - 1).toNat]? = some y[b - 1] := by
       rw [show ((b : Int) - 1).toNat = b - 1 by omega, List.getElem?_eq_getElem hbl]
     have hir : inR .i64 ((b : Int) - 1) = true := by rw [qcv]; omega
     have hnn : nn ((b : Int) - 1) = true := by rw [qhs, decide_eq_true_eq]; omega
     have hb1 : ((b : Int) - 1) = ((b - 1 : Nat) : Int) := by omega
     have step : qbG y[b - 1] = true -> (qnr y).ok ((a, b - 1) : Nat × Nat) := fun hb => ⟨by show a <= b - 1; omega, by show b - 1 <= y.length; omega, by show qbS ((y.drop a).take (b - 1 - a)) = qd9 y; rw [<- k3, hl, qhW hb]⟩
     have stop : qbG y[b - 1] = false -> (y.drop a).take (b - a) = qd9 y := fun hb => by rw [<- k3, hl, qhX hb]
     have mu : b - 1 < b := by omega
     repeat (first | ((conv => whnf); refine ck_iff.2 ⟨hir, ?_⟩) | ((conv => whnf); refine ck_iff.2 ⟨hnn, ?_⟩) | ((conv => whnf); refine so_iff.2 ⟨_, hget, ?_⟩))
     (conv => whnf)
     refine brI (fun hb => ?_) fun hb => ?_
     · have hb : (nB y[b - 1] == 32) = true := hb
       repeat (first | ((conv => whnf); refine ck_iff.2 ⟨hir, ?_⟩))
       (conv => whnf)
       refine ⟨((a, b - 1) : Nat × Nat), step (by simp only [qbG, hb, Bool.true_or]), mu, ?_⟩
       repeat' (first | exact trivial | exact rfl | ((conv => whnf); first | refine brI (fun _ => ?_) fun _ => ?_ | refine And.intro ?_ ?_))
       all_goals ((conv => whnf); exact hb1)
     · have hb : (nB y[b - 1] == 32) = false := hb
       repeat (first | ((conv => whnf); refine ck_iff.2 ⟨hir, ?_⟩) | ((conv => whnf); refine ck_iff.2 ⟨hnn, ?_⟩) | ((conv => whnf); refine so_iff.2 ⟨_, hget, ?_⟩))
       (conv => whnf)
       refine brI (fun hc => ?_) fun hc => ?_
       · have hc : (nB y[b - 1] == 9) = true := hc
         repeat (first | ((conv => whnf); refine ck_iff.2 ⟨hir, ?_⟩))
         (conv => whnf)
         refine ⟨((a, b - 1) : Nat × Nat), step (by simp only [qbG, hb, hc, Bool.or_true]), mu, ?_⟩
         repeat' (first | exact trivial | exact rfl | ((conv => whnf); first | refine brI (fun _ => ?_) fun _ => ?_ | refine And.intro ?_ ?_))
         all_goals ((conv => whnf); exact hb1)
       · have hc : (nB y[b - 1] == 9) = false := hc; have := stop (by simp only [qbG, hb, hc, Bool.or_false])
         (conv => whnf)
         refine ck_iff.2 ⟨by show (Nat.ble a b && Nat.ble b y.length) = true; rw [Bool.and_eq_true, Nat.ble_eq, Nat.ble_eq]; omega, ?_⟩
         (conv => whnf)
         refine ⟨this, ?_⟩
         repeat' (first | exact trivial | exact rfl | ((conv => whnf); first | refine brI (fun _ => ?_) fun _ => ?_ | refine And.intro ?_ ?_))
   · have hab : a = b := by
       have hge : ltI (a : Int) (b : Int) = false := hge; rw [qan, decide_eq_false_iff_not] at hge; omega
     subst hab
     (conv => whnf)
     refine ck_iff.2 ⟨by show (Nat.ble a a && Nat.ble a y.length) = true; rw [Bool.and_eq_true, Nat.ble_eq, Nat.ble_eq]; omega, ?_⟩
     (conv => whnf)
     refine ⟨?_, ?_⟩
     · show (y.drop a).take (a - a) = qd9 y
       rw [<- k3, Nat.sub_self, List.take_zero]; rfl
     repeat' (first | exact trivial | exact rfl | ((conv => whnf); first | refine brI (fun _ => ?_) fun _ => ?_ | refine And.intro ?_ ?_)))
theorem qlv : ∀ g C, qr5 g = some C -> CO g C := qab quH (qab qs5 qid)
end Go.Proofs
namespace Go.Proofs
open Go Go.Am Go.RowKit Go.Sy
variable [Inhabited DrP]
def qbO (s : Bs) (most : Int) (signs : Bs) : Bool := leI (Int.ofNat s.length) most && !s.any ctlB && decide (qd9 s = s) && signs.all fun c => (posB s (nB c)).isNone
def qrs : Con := { Y := Bs × Int × Bs, pre := fun y => y.1.length <= 1000000 /\ y.2.2.length <= 100, args := fun y => [.str y.1, i64 y.2.1, .lst UInt8 y.2.2 encB], res := fun y => .bool (qbO y.1 y.2.1 y.2.2) }
def qtG (y : Bs × Int × Bs) : Ann := { α := Nat, ok := fun i => i <= y.2.2.length /\ (y.2.2.take i).all (fun c => (posB y.1 (nB c)).isNone) = true, μ := fun i => y.2.2.length - i, keep := [], slots := fun i => [(0, .str y.1), (26, .lst UInt8 y.2.2 encB), (27, i64 (Int.ofNat y.2.2.length)), (28, i64 i)], objs := fun _ => [] }
theorem qsv {a b : Int} (h : ltI a b = true) : leI b a = false := by
 rw [qan, decide_eq_true_eq] at h; rw [qaX, decide_eq_false_iff_not]; omega
theorem qsw {a b : Int} (h : ltI a b = false) : leI b a = true := by
 rw [qan, decide_eq_false_iff_not] at h; rw [qaX, decide_eq_true_eq]; omega
theorem qjg (s : Bs) (c : Int) : (cutB s c).2.2 = (posB s c).isSome := by
 unfold cutB
 cases posB s c <;> rfl
theorem qsY : CO zz50 qrs := qae (cfg := fun y => cfgE qr5 (qaL zz50 4 (qtG y))) zz1 (fun _ => rfl) (fun _ => qlv) (n := 600) (by
 rintro ⟨s, m, g⟩ ⟨(hs : s.length <= 1000000), (hg : g.length <= 100)⟩; have yes : (qbO s m g = false) -> .bool false = SV.bool (qbO s m g) := fun h => by rw [h]
 (conv => whnf)
 refine brI (fun h => ?_) fun h => ?_
 · have h : leI (Int.ofNat s.length) m = false := qsv h; have : qbO s m g = false := by simp only [qbO, h, Bool.false_and]
   (conv => whnf)
   refine ⟨this.symm, ?_⟩
   repeat' (first | exact trivial | exact rfl | ((conv => whnf); first | refine brI (fun _ => ?_) fun _ => ?_ | refine And.intro ?_ ?_))
 have h1 : leI (Int.ofNat s.length) m = true := qsw h
 (conv => whnf)
 refine ⟨s, ?_⟩
 repeat ((conv => whnf); first | refine ⟨rfl, ?_⟩ | refine ⟨hs, ?_⟩)
 (conv => whnf)
 refine brI (fun h => ?_) fun h => ?_
 · have h : s.any ctlB = true := h; have : qbO s m g = false := by simp only [qbO, h, Bool.not_true, Bool.and_false, Bool.false_and]
   (conv => whnf)
   refine ⟨this.symm, ?_⟩
   repeat' (first | exact trivial | exact rfl | ((conv => whnf); first | refine brI (fun _ => ?_) fun _ => ?_ | refine And.intro ?_ ?_))
 have h2 : s.any ctlB = false := h
 (conv => whnf)
 refine ⟨s, ?_⟩
 repeat ((conv => whnf); first | refine ⟨rfl, ?_⟩ | refine ⟨hs, ?_⟩)
 (conv => whnf)
 refine brI (fun h => ?_) fun h => ?_
 · have h : decide (qd9 s = s) = false := by
     have h : (!(qd9 s == s)) = true := h; simpa using h
   have : qbO s m g = false := by simp only [qbO, h, Bool.and_false, Bool.false_and]
   (conv => whnf)
   refine ⟨this.symm, ?_⟩
   repeat' (first | exact trivial | exact rfl | ((conv => whnf); first | refine brI (fun _ => ?_) fun _ => ?_ | refine And.intro ?_ ?_))
 have h3 : decide (qd9 s = s) = true := by
   have h : (!(qd9 s == s)) = false := h; simpa using h
 have hp : qbO s m g = g.all fun c => (posB s (nB c)).isNone := by simp only [qbO, h1, h2, h3, Bool.not_false, Bool.true_and]
 (conv => whnf)
 refine ⟨⟨(0 : Nat), ⟨Nat.zero_le _, by simp⟩, ?_⟩, ?_⟩
 · repeat' (first | exact trivial | exact rfl | ((conv => whnf); first | refine brI (fun _ => ?_) fun _ => ?_ | refine And.intro ?_ ?_))
 intro (x : Nat) hx; obtain ⟨hx, hn⟩ := hx; have hx : x <= g.length := hx; have hn : (g.take x).all (fun c => (posB s (nB c)).isNone) = true := hn
 (conv => whnf)
 refine brI (fun hlt => ?_) fun hge => ?_
 · have hlt' : x < g.length := qad hlt
   (conv => whnf)
   refine so_iff.2 ⟨_, qax hlt', ?_⟩
   (conv => whnf)
   refine ⟨(s, nB g[x]), ?_⟩
   repeat ((conv => whnf); first | refine ⟨rfl, ?_⟩ | refine ⟨hs, ?_⟩)
   (conv => whnf)
   refine brI (fun h => ?_) fun h => ?_
   · have h : (posB s (nB g[x])).isSome = true := by rw [<- qjg]; exact h
     have : qbO s m g = false := by
       rw [hp, List.all_eq_false]; exact ⟨g[x], List.getElem_mem hlt', by simp [Option.isNone_iff_eq_none, Option.isSome_iff_ne_none.1 h]⟩
     (conv => whnf)
     refine ⟨this.symm, ?_⟩
     repeat' (first | exact trivial | exact rfl | ((conv => whnf); first | refine brI (fun _ => ?_) fun _ => ?_ | refine And.intro ?_ ?_))
   · have h : (posB s (nB g[x])).isSome = false := by rw [<- qjg]; exact h
     (conv => whnf)
     refine ck_iff.2 ⟨qam x (by omega), ?_⟩
     (conv => whnf)
     refine ⟨(x + 1 : Nat), ⟨hlt', ?_⟩, by show g.length - (x + 1) < g.length - x; omega, ?_⟩
     · show (g.take (x + 1)).all (fun c => (posB s (nB c)).isNone) = true
       rw [List.take_succ_eq_append_getElem hlt', List.all_append, hn]; simpa using h
     · repeat' (first | exact trivial | exact rfl | ((conv => whnf); first | refine brI (fun _ => ?_) fun _ => ?_ | refine And.intro ?_ ?_))
 · have hge' : g.length <= x := qbw hge; rw [List.take_of_length_le hge'] at hn
   (conv => whnf)
   refine ⟨by show true = qbO s m g; rw [hp, hn], ?_⟩
   repeat' (first | exact trivial | exact rfl | ((conv => whnf); first | refine brI (fun _ => ?_) fun _ => ?_ | refine And.intro ?_ ?_)))
end Go.Proofs
set_option maxHeartbeats 1000000
namespace Go.Proofs
open Go Go.Am Go.RowKit Go.Sy
variable [Inhabited DrP]
def lowB (b : UInt8) : UInt8 := if 65 <= b.toNat /\ b.toNat <= 90 then b + 32 else b
def qaF (s : Bs) : Bs := s.map lowB
def RowB (w : World) (b : Nat) (l : Bs) : Prop := ∃ arr, w.heap[b]? = some (.cells arr 5 (arr.size, arr.size + 1)) /\ l.length <= arr.size /\ ∀ j (h : j < l.length), arr[j]? = some (.int .u8 l[j].toNat)
theorem RowB.cell {w : World} {b : Nat} {l : Bs} (h : RowB w b l) {j : Nat} (hj : j < l.length) : w.cell? ⟨b, j, none⟩ = some (.int .u8 l[j].toNat) := by
 obtain ⟨arr, h1, _, h3⟩ := h; simp [World.cell?, h1, h3 j hj]
theorem RowB.free {w : World} {b : Nat} {l : Bs} (h : RowB w b l) {j : Nat} (hj : j < l.length) : w.frozen? ⟨b, j, none⟩ = false := by
 obtain ⟨arr, h1, h2, _⟩ := h; simp [World.frozen?, h1]; omega
theorem RowB.set {w : World} {b : Nat} {l : Bs} (h : RowB w b l) (k : Nat) (c : UInt8) : RowB (w.setCell ⟨b, k, none⟩ (.int .u8 c.toNat)) b (l.set k c) := by
 obtain ⟨arr, h1, h2, h3⟩ := h; have hlt := (Array.getElem?_eq_some_iff.1 h1).1; refine ⟨arr.setIfInBounds k (.int .u8 c.toNat), ?_, by simpa using h2, fun j hj => ?_⟩
 · have h4 := (Array.getElem?_eq_some_iff.1 h1).2; simp only [World.setCell, Array.getElem?_modify, h1]; simp
 · have hj' : j < l.length := by simpa using hj
   rw [Array.getElem?_setIfInBounds, List.getElem_set]; by_cases e : k = j
   · subst e; simp; omega
   · simp only [e, if_false]; exact h3 j hj'
theorem qxd (b : UInt8) (w : World) : Calls Tryz.prog 220 #[.int .u8 b.toNat] w fun e w' => e = .returned (.int .u8 (lowB b).toNat) /\ w' = w := by
 have hb := b.toNat_lt; by_cases h1 : 65 <= b.toNat
 · by_cases h2 : b.toNat <= 90
   · go_enter Tryz.func220, Tryz.ntmps220
     go_wp2; go_ret; refine ⟨?_, rfl⟩; unfold lowB; rw [if_pos ⟨h1, h2⟩]; have e : (b + 32).toNat = b.toNat + 32 := by
      rw [UInt8.toNat_add, show (32 : UInt8).toNat = 32 from rfl]; omega
     rw [e]; simp; omega
   · go_enter Tryz.func220, Tryz.ntmps220
     go_wp2; go_ret; refine ⟨?_, rfl⟩; unfold lowB; rw [if_neg (fun h => h2 h.2)]; rfl
 · go_enter Tryz.func220, Tryz.ntmps220
   go_wp2; go_ret; refine ⟨?_, rfl⟩; unfold lowB; rw [if_neg (fun h => h1 h.1)]; rfl
theorem qwD (s : Bs) (w : World) (hl : s.length <= 1000000) : Calls Tryz.prog 172 #[.string ⟨s.toArray⟩] w fun e w' => e = .returned (.string ⟨(qaF s).toArray⟩) /\ Below w.heap.size w w' /\ w.drawn <= w'.drawn := by
 have hcv := @run_bytes_of_string Tryz.prog; have hcb := @run_convert_bytes_back Tryz.prog; go_enter Tryz.func172, Tryz.ntmps172
 go_wp2; have hrow0 : ∀ c, RowB (w.drew.alloc (.cells (bytesRow ⟨s.toArray⟩ c) 5 ((bytesRow ⟨s.toArray⟩ c).size, (bytesRow ⟨s.toArray⟩ c).size + 1))) w.heap.size s := fun c => by
  refine ⟨bytesRow ⟨s.toArray⟩ c, ?_, ?_, fun j hj => ?_⟩
  · show (w.heap.push _)[w.heap.size]? = _
    simp
  · simp [bytesRow]
  · rw [bytesRow_at _ _ _ (by simpa using hj)]; simp
 go_loopw [9] (fun i wr => ∃ k : Nat, k <= s.length /\ i = .int .i64 k /\ RowB wr w.heap.size ((qaF s).take k ++ s.drop k) /\ Below w.heap.size w wr /\ w.drawn <= wr.drawn) (fun i _ => s.length - (intOf i).toNat)
 case atStart => exact ⟨0, Nat.zero_le _, rfl, hrow0 _, ((Below.refl _ _).drew).alloc (Nat.le_refl _) _, Nat.le_succ _⟩
 case round =>
  obtain ⟨k, hk, rfl, hrow, hbel, hdr⟩ := hrel; by_cases hlt : k < s.length
  · have hlen : ((qaF s).take k ++ s.drop k).length = s.length := by simp [qaF]; omega
    have hk2 : k < ((qaF s).take k ++ s.drop k).length := by omega
    have hc := hrow.cell hk2; have hf := hrow.free hk2; have hel : ((qaF s).take k ++ s.drop k)[k] = s[k] := by
     rw [List.getElem_append_right (by simp [qaF]; omega)]; simp [qaF, Nat.min_eq_left (Nat.le_of_lt hlt)]
    rw [hel] at hc; have hcall := qxd s[k] wr; go_wp2_with (go_at_call 220; refine hcall.mono ?_; rintro e w1 ⟨rfl, rfl⟩)
    have hset : ((qaF s).take k ++ s.drop k).set k (lowB s[k]) = (qaF s).take (k + 1) ++ s.drop (k + 1) := by
     have hz : k - ((qaF s).take k).length = 0 := by simp [qaF]; omega
     rw [List.set_append_right _ _ (by simp [qaF]; omega), hz, List.drop_eq_getElem_cons hlt, List.take_succ_eq_append_getElem (by simpa [qaF] using hlt), List.set_cons_zero]; simp [qaF]
    refine ⟨⟨k + 1, hlt, by go_num, ?_, hbel.setCell (Nat.le_refl _) _, hdr⟩, by simp [intOf]; omega⟩; rw [<- hset]; exact hrow.set k _
  · have hkl : k = s.length := by omega
    subst hkl; have hrow' : RowB wr w.heap.size (qaF s) := by
     rw [List.drop_length, List.append_nil, List.take_of_length_le (by simp [qaF])] at hrow; exact hrow
    have hback : ∀ c, (convert 199 9 (.slice (some ⟨w.heap.size, 0, none⟩) s.length c)).run Tryz.prog wr = .ok (.string ⟨(qaF s).toArray⟩) wr := fun c => by
     have := hcb wr 199 9 5 ⟨w.heap.size, 0, none⟩ c (qaF s) Tryz.underlying199 Tryz.underlying5 Tryz.underlying9 (fun j hj => by
      have := hrow'.cell hj; unfold Addr.add; split
      · rename_i h0; subst h0; exact this
      · simpa using this)
     simpa [qaF] using this
    clear hcb hcv hrow0; go_wp2; go_ret; exact ⟨rfl, hbel, hdr⟩
theorem qsT : CO zz98 { Y := Bs, pre := fun y => y.length <= 1000000, args := fun y => [.str y], res := fun y => .str (qaF y) } := zz86 zz1.ok (by
 rintro s hs w args - ⟨h1, h2⟩; match args, h1 with
 | [v], _ =>
 have hv : v = .string ⟨s.toArray⟩ := by
  have := h2 0 _ _ rfl rfl
  cases this; rfl
 subst hv; refine (qwD s w hs).mono ?_; rintro e w' ⟨rfl, hb, hd⟩; exact ⟨_, rfl, .inr (.str _), hb, fun _ => hd⟩)
end Go.Proofs
set_option maxHeartbeats 4000000
namespace Go.Proofs
open Go Go.Am Go.RowKit Go.Sy
variable [Inhabited DrP]
def qtU : Con := { Y := Bs, pre := fun y => y.length <= 1000000, args := fun y => [.str y], res := fun y => .str (qaF y) }
noncomputable def qnQ (f : FuncId) : Option Con := bif Nat.beq f zz98 then some qtU else bif Nat.beq f zz50 then some qrs else qr5 f
theorem qf3 : ∀ g C, qnQ g = some C -> CO g C := qab qsT (qab qsY qlv)
def qcT (s : Bs) : Bs × Int := if 256 < s.length then ([], 3) else if qbB (qaF s) || qcg (qaF s) then (qaF s, 0) else ([], 1)
def qeb (s : Bs) : Bool := leI (Int.ofNat s.length) 256 && (qbB s || qcg s)
def qrn : Con := { Y := Bs, pre := fun _ => True, args := fun y => [.str y], res := fun y => .tup [.str (qcT y).1, i64 (qcT y).2] }
def qnB : Con := { Y := Bs, pre := fun _ => True, args := fun y => [.str y], res := fun y => .bool (qeb y) }
def qcZ (s : Bs) : Bool := !s.any ctlB && (posB s 59).isNone && decide (qd9 s = s)
def qnH : Con := { Y := Bs, pre := fun y => y.length <= 1000000, args := fun y => [.str y], res := fun y => .bool (qcZ y) }
def qiQ (x : CCookie) : Bool := qdP x.expiry (-1099511627776) 1099511627776 && qdP x.creation 0 1099511627776 && qdP x.access 0 1099511627776 && (x.persistent || x.expiry == 1099511627776)
def qhT (x : CItem) : Bool := !(x.key.name == []) && leI (Int.ofNat x.key.name.length) 256 && qcZ x.key.name && (posB x.key.name 61).isNone && leI (Int.ofNat x.cookie.value.length) 1024 && qcZ x.cookie.value && qeb x.key.domain && decide (x.key.path.head? = some 47) && leI (Int.ofNat x.key.path.length) 256 && qiQ x.cookie
def qh8 : Con := { Y := CItem, pre := fun y => y.key.name.length <= 1000000 /\ y.cookie.value.length <= 1000000, args := fun y => [.agg y.enc], res := fun y => .bool (qhT y) }
theorem qou (s : Bs) : (qaF s).length = s.length := by simp [qaF]
theorem qsF : CO qvl qrn := qae (cfg := fun y => cfgE qnQ (qaQ y)) zz1 (fun _ => rfl) (fun _ => qf3) (n := 600) (by
 intro (s : Bs) _
 (conv => whnf)
 refine brI (fun h => ?_) fun h => ?_
 · have h : 256 < s.length := by
     have h : ltI 256 (Int.ofNat s.length) = true := h; rw [qan, decide_eq_true_eq, Int.ofNat_eq_natCast] at h; omega
   have e : qcT s = ([], 3) := by unfold qcT; rw [if_pos h]
   (conv => whnf)
   refine ⟨by rw [e], ?_⟩
   (conv => whnf)
   refine ⟨by rw [e], ?_⟩
   repeat' (first | exact trivial | exact rfl | ((conv => whnf); first | refine brI (fun _ => ?_) fun _ => ?_ | refine And.intro ?_ ?_))
 have h : ¬ 256 < s.length := by
   have h : ltI 256 (Int.ofNat s.length) = false := h; rw [qan, decide_eq_false_iff_not, Int.ofNat_eq_natCast] at h; omega
 have hl := qou s
 (conv => whnf)
 refine ⟨s, ?_⟩
 repeat ((conv => whnf); first | refine ⟨rfl, ?_⟩ | refine ⟨trivial, ?_⟩)
 refine ⟨by show s.length <= 1000000; omega, ?_⟩
 (conv => whnf)
 refine ⟨qaF s, ?_⟩
 repeat ((conv => whnf); first | refine ⟨rfl, ?_⟩ | refine ⟨trivial, ?_⟩)
 refine ⟨by show (qaF s).length <= 100000; omega, ?_⟩; have bad : (qbB (qaF s) || qcg (qaF s)) = false -> qcT s = ([], 1) := fun hn => by unfold qcT; rw [if_neg h, hn]; rfl
 have good : (qbB (qaF s) || qcg (qaF s)) = true -> qcT s = (qaF s, 0) := fun hn => by unfold qcT; rw [if_neg h, hn]; rfl
 (conv => whnf)
 refine brI (fun hn => ?_) fun hn => ?_
 · have hn : qbB (qaF s) = false := by simpa using hn
   rw [hn, Bool.false_or] at bad good
   (conv => whnf)
   refine ⟨qaF s, ?_⟩
   repeat ((conv => whnf); first | refine ⟨rfl, ?_⟩ | refine ⟨trivial, ?_⟩)
   refine ⟨by show (qaF s).length <= 100000; omega, ?_⟩
   (conv => whnf)
   refine brI (fun ha => ?_) fun ha => ?_
   · have e := bad (by simpa using ha)
     (conv => whnf)
     refine ⟨by rw [e], ?_⟩
     (conv => whnf)
     refine ⟨by rw [e], ?_⟩
     repeat' (first | exact trivial | exact rfl | ((conv => whnf); first | refine brI (fun _ => ?_) fun _ => ?_ | refine And.intro ?_ ?_))
   · have e := good (by simpa using ha)
     (conv => whnf)
     refine ⟨by rw [e], ?_⟩
     (conv => whnf)
     refine ⟨by rw [e], ?_⟩
     repeat' (first | exact trivial | exact rfl | ((conv => whnf); first | refine brI (fun _ => ?_) fun _ => ?_ | refine And.intro ?_ ?_))
 · have hn : qbB (qaF s) = true := by simpa using hn
   have e := good (by rw [hn]; rfl)
   (conv => whnf)
   refine ⟨by rw [e], ?_⟩
   (conv => whnf)
   refine ⟨by rw [e], ?_⟩
   repeat' (first | exact trivial | exact rfl | ((conv => whnf); first | refine brI (fun _ => ?_) fun _ => ?_ | refine And.intro ?_ ?_)))
theorem qqJ : CO zz55 qnB := qae (cfg := fun y => cfgE qnQ (qaQ y)) zz1 (fun _ => rfl) (fun _ => qf3) (n := 600) (by
 intro (s : Bs) _
 (conv => whnf)
 refine brI (fun h => ?_) fun h => ?_
 · have h : leI (Int.ofNat s.length) 256 = true := h; have hl : s.length <= 100000 := by rw [qaX, decide_eq_true_eq, Int.ofNat_eq_natCast] at h; omega
   (conv => whnf)
   refine ⟨s, ?_⟩
   repeat ((conv => whnf); first | refine ⟨rfl, ?_⟩ | refine ⟨trivial, ?_⟩)
   refine ⟨hl, ?_⟩
   (conv => whnf)
   refine brI (fun hn => ?_) fun hn => ?_
   · have hn : qbB s = true := hn
     (conv => whnf)
     refine ⟨by show true = qeb s; simp only [qeb, h, hn, Bool.true_or, Bool.and_self], ?_⟩
     repeat' (first | exact trivial | exact rfl | ((conv => whnf); first | refine brI (fun _ => ?_) fun _ => ?_ | refine And.intro ?_ ?_))
   · have hn : qbB s = false := hn
     (conv => whnf)
     refine ⟨s, ?_⟩
     repeat ((conv => whnf); first | refine ⟨rfl, ?_⟩ | refine ⟨trivial, ?_⟩)
     refine ⟨hl, ?_⟩
     (conv => whnf)
     refine ⟨by show qcg s = qeb s; simp only [qeb, h, hn, Bool.false_or, Bool.true_and], ?_⟩
     repeat' (first | exact trivial | exact rfl | ((conv => whnf); first | refine brI (fun _ => ?_) fun _ => ?_ | refine And.intro ?_ ?_))
 · have h : leI (Int.ofNat s.length) 256 = false := h
   (conv => whnf)
   refine ⟨by show false = qeb s; simp only [qeb, h, Bool.false_and], ?_⟩
   repeat' (first | exact trivial | exact rfl | ((conv => whnf); first | refine brI (fun _ => ?_) fun _ => ?_ | refine And.intro ?_ ?_)))
theorem qqO : CO qve qnH := qae (cfg := fun y => cfgE qnQ (qaQ y)) zz1 (fun _ => rfl) (fun _ => qf3) (n := 600) (by
 intro (s : Bs) (hs : s.length <= 1000000)
 (conv => whnf)
 refine ⟨s, ?_⟩
 repeat ((conv => whnf); first | refine ⟨rfl, ?_⟩ | refine ⟨trivial, ?_⟩)
 refine ⟨hs, ?_⟩
 (conv => whnf)
 refine brI (fun h => ?_) fun h => ?_
 · have h : s.any ctlB = false := by
     have h : (!s.any ctlB) = true := h
     cases e : s.any ctlB with
     | false => rfl
     | true => rw [e] at h; cases h
   (conv => whnf)
   refine ⟨(s, 59), ?_⟩
   repeat ((conv => whnf); first | refine ⟨rfl, ?_⟩ | refine ⟨trivial, ?_⟩)
   refine ⟨hs, ?_⟩; have hf : ltI (qct s 59) 0 = (posB s 59).isNone := by
     rcases qgI s 59 with ⟨i, h1, h2, h3⟩ | ⟨h1, h2⟩
     · rw [h1, h2, qan, decide_eq_false]; rfl; omega
     · rw [h1, h2]; rfl
   (conv => whnf)
   refine brI (fun h2 => ?_) fun h2 => ?_
   · have h2 : (posB s 59).isNone = true := by rw [<- hf]; exact h2
     (conv => whnf)
     refine ⟨s, ?_⟩
     repeat ((conv => whnf); first | refine ⟨rfl, ?_⟩ | refine ⟨trivial, ?_⟩)
     refine ⟨hs, ?_⟩
     (conv => whnf)
     refine ⟨?_, ?_⟩
     · show (qd9 s == s) = qcZ s
       simp only [qcZ, h, h2, Bool.not_false, Bool.true_and]; rw [Bool.eq_iff_iff]; simp
     · repeat' (first | exact trivial | exact rfl | ((conv => whnf); first | refine brI (fun _ => ?_) fun _ => ?_ | refine And.intro ?_ ?_))
   · have h2 : (posB s 59).isNone = false := by rw [<- hf]; exact h2
     (conv => whnf)
     refine ⟨by show false = qcZ s; simp only [qcZ, h2, Bool.and_false, Bool.false_and], ?_⟩
     repeat' (first | exact trivial | exact rfl | ((conv => whnf); first | refine brI (fun _ => ?_) fun _ => ?_ | refine And.intro ?_ ?_))
 · have h : s.any ctlB = true := by
     have h : (!s.any ctlB) = false := h
     cases e : s.any ctlB with
     | true => rfl
     | false => rw [e] at h; cases h
   (conv => whnf)
   refine ⟨by show false = qcZ s; simp only [qcZ, h, Bool.not_true, Bool.false_and], ?_⟩
   repeat' (first | exact trivial | exact rfl | ((conv => whnf); first | refine brI (fun _ => ?_) fun _ => ?_ | refine And.intro ?_ ?_)))
theorem qfg {b : UInt8} {c : Int} : ∀ {s : Bs}, b ∈ s -> nB b = c \/ ∃ p ∈ qaa s c, b ∈ p
 | x :: s, h => by
  simp only [qaa]; by_cases hx : nB x = c
  · rw [if_pos hx]; rcases List.mem_cons.1 h with rfl | h
    · exact .inl hx
    · rcases qfg (c := c) h with h | ⟨p, hp, hb⟩
      · exact .inl h
      · exact .inr ⟨p, List.mem_cons_of_mem _ hp, hb⟩
  · rw [if_neg hx]; have ih : b ∈ s -> nB b = c \/ ∃ p ∈ qaa s c, b ∈ p := fun h => qfg h
    cases e : qaa s c with
    | nil => exact absurd e (qo5 s c)
    | cons q t =>
      rw [e] at ih; rcases List.mem_cons.1 h with rfl | h
      · exact .inr ⟨b :: q, List.mem_cons_self, List.mem_cons_self⟩
      · rcases ih h with h | ⟨p, hp, hb⟩
        · exact .inl h
        · rcases List.mem_cons.1 hp with rfl | hp
          · exact .inr ⟨x :: p, List.mem_cons_self, List.mem_cons_of_mem _ hb⟩
          · exact .inr ⟨p, List.mem_cons_of_mem _ hp, hb⟩
theorem qqu {b : UInt8} (h : nB b < 65 \/ 90 < nB b) : lowB b = b := by
 unfold lowB; unfold nB at h; simp only [Int.ofNat_eq_natCast] at h; rw [if_neg (by omega)]
theorem qfw {s : Bs} (h : ∀ b ∈ s, nB b < 65 \/ 90 < nB b) : qaF s = s := by
 have e : s.map lowB = s.map id := List.map_congr_left fun b hb => qqu (h b hb)
 rw [List.map_id] at e; exact e
theorem qm6 {s : Bs} (h : qbB s = true) : qaF s = s := by
 simp only [qbB, Bool.and_eq_true, List.all_eq_true] at h; refine qfw fun b hb => ?_
 rcases qfg (c := 46) hb with h1 | ⟨p, hp, hb⟩
 · omega
 · have h2 := h.2 p hp; simp only [qaE, Bool.and_eq_true, List.all_eq_true] at h2; have h3 := h2.1.1.2 b hb; simp only [qck, Bool.or_eq_true, Bool.and_eq_true, decide_eq_true_eq, beq_iff_eq] at h3; omega
theorem qmo {s : Bs} (h : qcg s = true) : qaF s = s := by
 unfold qcg at h; rcases Bool.or_eq_true .. ▸ h with h | h
 · simp only [qbr, Bool.and_eq_true, List.all_eq_true] at h; refine qfw fun b hb => ?_
   rcases qfg (c := 46) hb with h1 | ⟨p, hp, hb⟩
   · omega
   · have h2 := h.2 p hp; simp only [qcb, Bool.and_eq_true, decide_eq_true_eq] at h2; have h3 := qeM (s := p) (by omega) b hb; simp only [qaJ, Bool.and_eq_true, decide_eq_true_eq] at h3; omega
 · simp only [qaM, Bool.and_eq_true, List.all_eq_true, decide_eq_true_eq, beq_iff_eq] at h; obtain ⟨⟨⟨⟨h1, h2⟩, h3⟩, h4⟩, h5⟩ := h
   cases s with
   | nil => simp at h1
   | cons x s =>
     simp only [List.head?_cons, Option.some.injEq] at h3; subst h3; rcases List.eq_nil_or_concat s with rfl | ⟨t, z, rfl⟩
     · simp at h1
     · have hz : z = 93 := by
         rw [show (91 :: t.concat z : Bs) = (91 :: t) ++ [z] by simp, List.getLast?_concat] at h4; simpa using h4
       subst hz; have e : ((91 :: t.concat 93 : Bs).drop 1).take ((91 :: t.concat 93 : Bs).length - 2) = t := by simp [List.concat_eq_append]
       rw [e] at h5; refine qfw fun b hb => ?_
       simp only [List.mem_cons, List.concat_eq_append, List.mem_append, List.not_mem_nil, or_false] at hb; rcases hb with rfl | hb | rfl
       · right; decide
       · have h6 := h5 b hb; simp only [hexB, Bool.or_eq_true, Bool.and_eq_true, decide_eq_true_eq, beq_iff_eq] at h6; omega
       · right; decide
theorem qnL (s : Bs) : (decide ((qcT s).2 = 0) && decide ((qcT s).1 = s)) = qeb s := by
 rw [Bool.eq_iff_iff]; unfold qcT qeb; simp only [Bool.and_eq_true, decide_eq_true_eq, qaX, Int.ofNat_eq_natCast]; by_cases h : 256 < s.length
 · rw [if_pos h]; simp; omega
 · rw [if_neg h]; constructor
   · intro hh; split at hh
     · rename_i hn; have e : qaF s = s := hh.2; rw [e] at hn; exact ⟨by omega, hn⟩
     · simp at hh
   · rintro ⟨_, hn⟩; have e : qaF s = s := by
       rcases Bool.or_eq_true .. ▸ hn with hn | hn
       · exact qm6 hn
       · exact qmo hn
     rw [e, if_pos hn]; exact ⟨rfl, rfl⟩
noncomputable def qpV (f : FuncId) : Option Con := bif Nat.beq f qvl then some qrn else bif Nat.beq f zz55 then some qnB else bif Nat.beq f qve then some qnH else qnQ f
theorem qih : ∀ g C, qpV g = some C -> CO g C := qab qsF (qab qqJ (qab qqO qf3))
def qoT (x : CItem) : Bool := !(x.key.name == []) && qbO x.key.name 256 [59, 61] && qbO x.cookie.value 1024 [59] && ((qcT x.key.domain).2 == 0) && ((qcT x.key.domain).1 == x.key.domain) && decide (x.key.path.head? = some 47) && leI (Int.ofNat x.key.path.length) 256 && qiQ x.cookie
theorem qoU (x : CItem) : qoT x = qhT x := by
 have h1 : ∀ (s : Bs) (m : Int), qbO s m [59] = (leI (Int.ofNat s.length) m && qcZ s) := fun s m => by
  unfold qbO qcZ; rw [Bool.eq_iff_iff]; simp [nB]; grind
 have h2 : qbO x.key.name 256 [59, 61] = (leI (Int.ofNat x.key.name.length) 256 && qcZ x.key.name && (posB x.key.name 61).isNone) := by
  unfold qbO qcZ; rw [Bool.eq_iff_iff]; simp [nB]; grind
 have h3 := qnL x.key.domain; unfold qoT qhT; rw [h1, h2, <- h3]; rw [Bool.eq_iff_iff]; simp; grind
theorem u47 (b : UInt8) : b = 47 ↔ (b.toNat : Int) = 47 := by
 constructor
 · rintro rfl; rfl
 · intro h; exact UInt8.toNat_inj.1 (by rw [show (47 : UInt8).toNat = 47 from rfl]; omega)
theorem qqP : CO zz87 qh8 := qae (cfg := fun y => cfgE qpV (qaQ y)) zz1 (fun _ => rfl) (fun _ => qih) (n := 800) (by
 rintro ⟨⟨n, d, p⟩, v, b1, b2, b3, b4, e, c, a⟩ ⟨(hn : n.length <= 1000000), (hv : v.length <= 1000000)⟩; rcases p with _ | ⟨p0, p⟩
 all_goals
  (conv => whnf)
  refine ⟨d, ?_⟩
  repeat ((conv => whnf); first | refine ⟨rfl, ?_⟩ | refine ⟨trivial, ?_⟩)
  (conv => whnf)
  refine ⟨(e, -1099511627776, 1099511627776), ?_⟩
  repeat' (first | exact trivial | (with_reducible exact rfl) | ((conv => whnf); first | refine brI (fun _ => ?_) fun _ => ?_ | refine And.intro ?_ ?_) | ((conv => whnf); refine ⟨(c, 0, 1099511627776), ?_⟩; (conv => whnf); refine ⟨rfl, ?_⟩) | ((conv => whnf); refine ⟨(a, 0, 1099511627776), ?_⟩; (conv => whnf); refine ⟨rfl, ?_⟩) | ((conv => whnf); refine ⟨(n, 256, [59, 61]), ?_⟩; (conv => whnf); refine ⟨rfl, ?_⟩) | ((conv => whnf); refine ⟨(v, 1024, [59]), ?_⟩; (conv => whnf); refine ⟨rfl, ?_⟩))
 all_goals first | exact hn | exact hv | exact rfl | (show (2 : Nat) <= 100; decide) | (show (1 : Nat) <= 100; decide) | skip
 all_goals (rw [<- qoU])
 all_goals (simp_all [qoT, qiQ, u47]))
end Go.Proofs
namespace Go.Proofs
open Go Go.Am Go.RowKit Go.Sy
variable [Inhabited DrP]
theorem qsm (s : Bs) (c : Int) : leI 0 (qct s c) = !(posB s c).isNone := by
 rcases qgI s c with ⟨i, h1, h2, h3⟩ | ⟨h1, h2⟩
 · rw [h1, h2, qaX, decide_eq_true (by omega)]; rfl
 · rw [h1, h2]; rfl
theorem qsz (a b : Int) : ltI a b = !leI b a := by
 rw [qan, qaX, Bool.eq_iff_iff, decide_eq_true_eq, Bool.not_eq_true', decide_eq_false_iff_not]; omega
theorem qqQ : CO qvd qh8 := qae (cfg := fun y => cfgE qpV (qaQ y)) zz1 (fun _ => rfl) (fun _ => qih) (n := 800) (by
 rintro ⟨⟨n, d, p⟩, v, b1, b2, b3, b4, e, c, a⟩ ⟨(hn : n.length <= 1000000), (hv : v.length <= 1000000)⟩; rcases p with _ | ⟨p0, p⟩
 all_goals
  repeat' (first | exact trivial | (with_reducible exact rfl) | ((conv => whnf); first | refine brI (fun _ => ?_) fun _ => ?_ | refine And.intro ?_ ?_) | ((conv => whnf); refine ⟨n, ?_⟩; (conv => whnf); refine ⟨rfl, ?_⟩) | ((conv => whnf); refine ⟨v, ?_⟩; (conv => whnf); refine ⟨rfl, ?_⟩) | ((conv => whnf); refine ⟨d, ?_⟩; (conv => whnf); refine ⟨rfl, ?_⟩) | ((conv => whnf); refine ⟨(n, 61), ?_⟩; (conv => whnf); refine ⟨rfl, ?_⟩))
 all_goals first | exact hn | exact hv | exact rfl | skip
 all_goals (simp only [qhT, qiQ, qdP])
 all_goals (simp_all [qsz, qsm, u47, Option.isSome_iff_ne_none])
 all_goals trace_state)
end Go.Proofs
namespace Go.Proofs
open Go Go.Am Go.RowKit Go.Sy
variable [Inhabited DrP]
def qkb (x : CItem) : Bool := decide (x = qcl)
def qa7 (e : CEvent) : Bool := qbt e.dot && qdk e.stamp && (e.stamp.dev == e.dot.dev) && qbN e.dot e.over && (bif e.kind == 2 then qkb e.item && ltI 0 (Int.ofNat e.over.length) else bif e.kind == 1 then qhT e.item else false)
def qcK (e : CEvent) : Prop := e.key.name.length <= 1000000 /\ e.cookie.value.length <= 1000000
noncomputable def qmC (f : FuncId) : Option Con := bif Nat.beq f zz87 then some qh8 else bif Nat.beq f qvd then some qh8 else bif Nat.beq f zz71 then some (cEv1 (fun _ => True) fun e => qbN e.dot e.over) else bif Nat.beq f zz61 then some (cEv1 (fun _ => True) qbI) else bif Nat.beq f zz36 then some qgs else qpV f
theorem qeJ : ∀ g C, qmC g = some C -> CO g C := qab qqP (qab qqQ (qab qsW (qab ql8 (qab qhP qih))))
theorem qlU (x y : CItem) : x = y ↔ (x.key.name = y.key.name /\ x.key.domain = y.key.domain /\ x.key.path = y.key.path) /\ x.cookie.value = y.cookie.value /\ x.cookie.hostOnly = y.cookie.hostOnly /\ x.cookie.secure = y.cookie.secure /\ x.cookie.httpOnly = y.cookie.httpOnly /\ x.cookie.persistent = y.cookie.persistent /\ x.cookie.expiry = y.cookie.expiry /\ x.cookie.creation = y.cookie.creation /\ x.cookie.access = y.cookie.access := by
 constructor
 · rintro rfl; simp
 · rintro ⟨⟨h1, h2, h3⟩, h4⟩
   cases x; cases y; rename_i k c k' c'
   cases k; cases k'; cases c; cases c'; simp_all
theorem ql9 : CO qvc (cEv1 qcK qa7) := qae (C := cEv1 qcK qa7) (cfg := fun y => cfgE qmC (qaQ y)) zz1 (fun _ => rfl) (fun _ => qeJ) (n := 800) (by
 rintro ⟨d, st, kd, ky, ck, l⟩ ⟨(hn : ky.name.length <= 1000000), (hv : ck.value.length <= 1000000)⟩
 (conv => whnf)
 refine ⟨d, ?_⟩
 repeat' (first | exact trivial | (with_reducible exact rfl) | ((conv => whnf); first | refine brI (fun _ => ?_) fun _ => ?_ | refine And.intro ?_ ?_) | ((conv => whnf); refine ⟨st, ?_⟩; (conv => whnf); refine ⟨rfl, ?_⟩) | ((conv => whnf); refine ⟨(⟨d, st, kd, ky, ck, l⟩ : CEvent), ?_⟩; (conv => whnf); refine ⟨rfl, ?_⟩) | ((conv => whnf); refine ⟨(⟨ky, ck⟩ : CItem), ?_⟩; (conv => whnf); refine ⟨rfl, ?_⟩))
 all_goals first | exact hn | exact hv | skip
 all_goals (simp only [cEv1, qa7, qkb, CEvent.item])
 all_goals (simp_all [qlU, qcl, qiS])
 all_goals trace_state)
def qrl (d : CDot) (l : List CDot) : Ann := { α := Nat, ok := fun i => i <= l.length /\ ∀ j (h : j < l.length), j < i -> qbR d l j h = true, μ := fun i => l.length - i, keep := [1], slots := fun i => [(3, i64 i)], objs := fun _ => [] }
theorem qoG : CO zz62 (cEv1 qcK qa7) := qae (C := cEv1 qcK qa7) (cfg := fun (y : CEvent) => cfgE qmC (qaL zz62 4 (qrl y.dot y.over))) zz1 (fun _ => rfl) (fun _ => qeJ) (n := 800) (by
 rintro ⟨d, st, kd, ky, ck, l⟩ ⟨(hkn : ky.name.length <= 1000000), (hv : ck.value.length <= 1000000)⟩
 (conv => whnf)
 refine ⟨d, ?_⟩
 repeat ((conv => whnf); first | refine ⟨rfl, ?_⟩ | refine ⟨trivial, ?_⟩)
 (conv => whnf)
 refine brI (fun h1 => ?_) fun h1 => ?_
 · (conv => whnf)
   refine ⟨?_, ?_⟩
   · simp only [cEv1, qa7, qkb, CEvent.item]; simp_all
   · repeat' (first | exact trivial | exact rfl | ((conv => whnf); first | refine brI (fun _ => ?_) fun _ => ?_ | refine And.intro ?_ ?_))
 (conv => whnf)
 refine ⟨st, ?_⟩
 repeat ((conv => whnf); first | refine ⟨rfl, ?_⟩ | refine ⟨trivial, ?_⟩)
 (conv => whnf)
 refine brI (fun h2 => ?_) fun h2 => ?_
 · (conv => whnf)
   refine ⟨?_, ?_⟩
   · simp only [cEv1, qa7, qkb, CEvent.item]; simp_all
   · repeat' (first | exact trivial | exact rfl | ((conv => whnf); first | refine brI (fun _ => ?_) fun _ => ?_ | refine And.intro ?_ ?_))
 (conv => whnf)
 refine brI (fun h3 => ?_) fun h3 => ?_
 · (conv => whnf)
   refine ⟨?_, ?_⟩
   · simp only [cEv1, qa7, qkb, CEvent.item]; simp_all
   · repeat' (first | exact trivial | exact rfl | ((conv => whnf); first | refine brI (fun _ => ?_) fun _ => ?_ | refine And.intro ?_ ?_))
 (conv => whnf)
 refine brI (fun h4 => ?_) fun h4 => ?_
 · (conv => whnf)
   refine ⟨?_, ?_⟩
   · have h4 : 64 < l.length := by
       have h4 : ltI 64 (Int.ofNat l.length) = true := h4; rw [qan, decide_eq_true_eq, Int.ofNat_eq_natCast] at h4; omega
     have : qbN d l = false := by unfold qbN; rw [decide_eq_false (by omega)]; rfl
     simp only [cEv1, qa7, qkb, CEvent.item, this, Bool.and_false, Bool.false_and]
   · repeat' (first | exact trivial | exact rfl | ((conv => whnf); first | refine brI (fun _ => ?_) fun _ => ?_ | refine And.intro ?_ ?_))
 have h : l.length <= 64 := by
   have h4 : ltI 64 (Int.ofNat l.length) = false := h4; rw [qan, decide_eq_false_iff_not, Int.ofNat_eq_natCast] at h4; omega
 have noR : qbN d l = false -> false = qa7 ⟨d, st, kd, ky, ck, l⟩ := fun hh => by simp only [qa7, hh, Bool.and_false, Bool.false_and]
 have hd : qbt d = true := by simpa using h1
 have hs : qdk st = true := by
   have h2 : (!qdk st) = false := h2; simpa using h2
 have he : (st.dev == d.dev) = true := by
   have h3 : (!(st.dev == d.dev)) = false := h3; simpa using h3
 have hR : qbN d l = true -> qa7 ⟨d, st, kd, ky, ck, l⟩ = (bif kd == 2 then qkb ⟨ky, ck⟩ && ltI 0 (Int.ofNat l.length) else bif kd == 1 then qhT ⟨ky, ck⟩ else false) := fun hh => by simp only [qa7, hd, hs, he, hh, Bool.true_and, CEvent.item]
 clear h1 h2 h3 h4
 (conv => whnf)
 refine ⟨⟨(0 : Nat), ⟨Nat.zero_le _, fun _ _ h => absurd h (Nat.not_lt_zero _)⟩, ?_⟩, ?_⟩
 · repeat' (first | exact trivial | exact rfl | ((conv => whnf); first | refine brI (fun _ => ?_) fun _ => ?_ | refine And.intro ?_ ?_))
 intro (x : Nat) hx; obtain ⟨hx, hn'⟩ := hx; have hx : x <= l.length := hx
 (conv => whnf)
 refine brI (fun hlt => ?_) fun hge => ?_
 · have hlt' : x < l.length := qad hlt; have no := qjO (d := d) hlt'; have yes : qbR d l x hlt' = true -> (qrl d l).ok (x + 1 : Nat) := fun hy => ⟨hlt', fun j hj hjx => by
     rcases Nat.lt_or_ge j x with h1 | h1
     · exact hn' j hj h1
     · have e : j = x := by omega
       subst e; exact hy⟩
   have mu : l.length - (x + 1) < l.length - x := by omega
   (conv => whnf)
   refine so_iff.2 ⟨_, qax hlt', ?_⟩
   (conv => whnf)
   refine ⟨l[x], ?_⟩
   repeat ((conv => whnf); first | refine ⟨rfl, ?_⟩ | refine ⟨trivial, ?_⟩)
   (conv => whnf)
   refine brI (fun h1 => ?_) fun h1 => ?_
   · have h1 : qbt l[x] = false := by
       have h1 : (!qbt l[x]) = true := h1; simpa using h1
     (conv => whnf)
     refine ⟨noR (no (by simp only [qbR, h1, Bool.false_and])), ?_⟩
     repeat' (first | exact trivial | exact rfl | ((conv => whnf); first | refine brI (fun _ => ?_) fun _ => ?_ | refine And.intro ?_ ?_))
   have h1 : qbt l[x] = true := by
     have h1 : (!qbt l[x]) = false := h1; simpa using h1
   (conv => whnf)
   refine br_iff.2 ⟨fun h2 => ?ga, fun h2 => ?gb⟩
   case' ga =>
     have hx0 : 0 < x := by
       have h2 : ltI 0 (x : Int) = true := h2; rw [qan, decide_eq_true_eq] at h2; omega
     have hx1 : x - 1 < l.length := by omega
     have hget : l[((x : Int) - 1).toNat]? = some l[x - 1] := by
       rw [show ((x : Int) - 1).toNat = x - 1 by omega, List.getElem?_eq_getElem hx1]
     (conv => whnf)
     refine ck_iff.2 ⟨by rw [qcv]; omega, ?_⟩
     (conv => whnf)
     refine ck_iff.2 ⟨by rw [qhs, decide_eq_true_eq]; omega, ?_⟩
     (conv => whnf)
     refine so_iff.2 ⟨_, hget, ?_⟩
     (conv => whnf)
     refine ⟨(l[x - 1], l[x]), ?_⟩
     repeat ((conv => whnf); first | refine ⟨rfl, ?_⟩ | refine ⟨trivial, ?_⟩)
     (conv => whnf)
     refine br_iff.2 ⟨fun h3 => ?gc, fun h3 => ?gd⟩
     case gc =>
       have h3 : qac l[x - 1] l[x] = false := by
         have h3 : (!qac l[x - 1] l[x]) = true := h3; simpa using h3
       (conv => whnf)
       refine ⟨noR (no (by simp only [qbR, h1, h3, decide_eq_false (show ¬ x = 0 by omega), Bool.or_false, Bool.and_false, Bool.false_and])), ?_⟩
       repeat' (first | exact trivial | exact rfl | ((conv => whnf); first | refine brI (fun _ => ?_) fun _ => ?_ | refine And.intro ?_ ?_))
     case' gd =>
       have h3 : qac l[x - 1] l[x] = true := by
         have h3 : (!qac l[x - 1] l[x]) = false := h3; simpa using h3
       have hA : qbR d l x hlt' = !(l[x].dev == d.dev && l[x].inc == d.inc && leI d.seq l[x].seq) := by simp only [qbR, h1, h3, Bool.or_true, Bool.and_true, Bool.true_and]
   case' gb =>
     have hx0 : x = 0 := by
       have h2 : ltI 0 (x : Int) = false := h2; rw [qan, decide_eq_false_iff_not] at h2; omega
     have hA : qbR d l x hlt' = !(l[x].dev == d.dev && l[x].inc == d.inc && leI d.seq l[x].seq) := by simp only [qbR, h1, decide_eq_true hx0, Bool.true_or, Bool.and_true, Bool.true_and]
   all_goals
     (conv => whnf)
     refine brI (fun h4 => ?_) fun h4 => ?_
     · have h4 : (l[x].dev == d.dev && l[x].inc == d.inc) = true := by simpa using h4
       (conv => whnf)
       refine brI (fun h5 => ?_) fun h5 => ?_
       · have h5 : leI d.seq l[x].seq = true := h5; rw [h4, h5] at hA
         (conv => whnf)
         refine ⟨noR (no hA), ?_⟩
         repeat' (first | exact trivial | exact rfl | ((conv => whnf); first | refine brI (fun _ => ?_) fun _ => ?_ | refine And.intro ?_ ?_))
       · have h5 : leI d.seq l[x].seq = false := h5; rw [h4, h5] at hA
         (conv => whnf)
         refine ck_iff.2 ⟨qam x (by omega), ?_⟩
         (conv => whnf)
         refine ⟨(x + 1 : Nat), yes hA, mu, ?_⟩
         repeat' (first | exact trivial | exact rfl | ((conv => whnf); first | refine brI (fun _ => ?_) fun _ => ?_ | refine And.intro ?_ ?_))
     · have h4 : (l[x].dev == d.dev && l[x].inc == d.inc) = false := by
         cases e : (l[x].dev == d.dev && l[x].inc == d.inc) with
         | false => rfl
         | true =>
          have e' : (l[x].dev == d.dev && (l[x].inc == d.inc && true)) = false := h4; rw [Bool.and_true, e] at e'; cases e'
       rw [h4] at hA
       (conv => whnf)
       refine ck_iff.2 ⟨qam x (by omega), ?_⟩
       (conv => whnf)
       refine ⟨(x + 1 : Nat), yes hA, mu, ?_⟩
       repeat' (first | exact trivial | exact rfl | ((conv => whnf); first | refine brI (fun _ => ?_) fun _ => ?_ | refine And.intro ?_ ?_))
 · have hge' : l.length <= x := qbw hge; have hov : qbN d l = true := by
     unfold qbN; rw [decide_eq_true h, decide_eq_true fun i hi => hn' i hi (Nat.lt_of_lt_of_le hi hge')]; rfl
   have hR := hR hov
   repeat' (first | exact trivial | (with_reducible exact rfl) | ((conv => whnf); first | refine brI (fun _ => ?_) fun _ => ?_ | refine And.intro ?_ ?_) | ((conv => whnf); refine ⟨(⟨ky, ck⟩ : CItem), ?_⟩; (conv => whnf); refine ⟨rfl, ?_⟩))
   all_goals first | exact hkn | exact hv | skip
   all_goals (show _ = qa7 ⟨d, st, kd, ky, ck, l⟩)
   all_goals (rw [hR]; simp only [qkb]; clear hR noR hn')
   all_goals (simp_all [qlU, qcl, qiS])
   all_goals trace_state)
end Go.Proofs
namespace Go.Proofs
open Go Go.Am Go.RowKit Go.Sy
variable [Inhabited DrP]
def qbs (x : CDot) (a i : Int) : Bool := x.dev == a && (x.inc == i && true)
def getM (l : List CDot) (a i : Int) : Int := match l.find? (fun x => qbs x a i) with | some x => x.seq | none => 0
def hasM (l : List CDot) (d : CDot) : Bool := qbt d && leI d.seq (getM l d.dev d.inc)
def qdr (x : CDot) (a i : Int) : Bool := bif !(x.dev == a) then ltI x.dev a else ltI x.inc i
def qaA (a i n : Int) (s : List CDot × Bool) (x : CDot) : List CDot × Bool :=
 let s1 := bif !s.2 && !qdr x a i then (s.1 ++ [⟨a, i, n⟩], true) else s
 bif qbs x a i then s1 else (s1.1 ++ [x], s1.2)
def setM (l : List CDot) (a i n : Int) : List CDot := let s := l.foldl (qaA a i n) ([], false); bif s.2 then s.1 else s.1 ++ [⟨a, i, n⟩]
def fewM (l : List CDot) : Prop := l.length <= 100000
def qtO : Con := { Y := List CDot × Int × Int, pre := fun y => fewM y.1, args := fun y => [dots y.1, .agg [i64 y.2.1, i64 y.2.2]], res := fun y => i64 (getM y.1 y.2.1 y.2.2) }
def qvI (y : List CDot × Int × Int) : Ann := { α := Nat, ok := fun x => x <= y.1.length /\ ∀ j (h : j < y.1.length), j < x -> qbs y.1[j] y.2.1 y.2.2 = false, μ := fun x => y.1.length - x, keep := [3], slots := fun x => [(0, dots y.1), (5, i64 x)], objs := fun _ => [] }
def qtR : Con := { Y := List CDot × CDot, pre := fun y => fewM y.1, args := fun y => [dots y.1, .agg y.2.enc], res := fun y => .bool (hasM y.1 y.2) }
def qny : Con := { Y := CDot × Int × Int, pre := fun _ => True, args := fun y => [.agg [i64 y.1.dev, i64 y.1.inc], .agg [i64 y.2.1, i64 y.2.2]], res := fun y => .bool (qdr y.1 y.2.1 y.2.2) }
def qtW : Con := { Y := List CDot × Int × Int × Int, pre := fun y => fewM y.1, args := fun y => [dots y.1, .agg [i64 y.2.1, i64 y.2.2.1], i64 y.2.2.2], res := fun y => dots (setM y.1 y.2.1 y.2.2.1 y.2.2.2) }
def setF (y : List CDot × Int × Int × Int) (x : Nat) : List CDot × Bool := (y.1.take x).foldl (qaA y.2.1 y.2.2.1 y.2.2.2) ([], false)
def qvM (y : List CDot × Int × Int × Int) : Ann := { α := Nat, ok := fun x => x <= y.1.length, μ := fun x => y.1.length - x, keep := [4], slots := fun x => [(0, dots y.1), (2, i64 y.2.2.2), (7, .own 1), (8, .bool (setF y x).2), (9, i64 x)], objs := fun x => [(1, .arr CDot (setF y x).1 CDot.enc qvG)] }
theorem qn0 {α : Type} {p : α -> Bool} {l : List α} (h : ∀ j (h : j < l.length), p l[j] = false) : l.find? p = none := by
 rw [List.find?_eq_none]; intro x hx; obtain ⟨j, hj, rfl⟩ := List.getElem_of_mem hx; rw [h j hj]; simp
theorem qsl {α : Type} {p : α -> Bool} {l : List α} {x : Nat} (hx : x < l.length) (h : ∀ j (h : j < l.length), j < x -> p l[j] = false) (hp : p l[x] = true) : l.find? p = some l[x] := by
 rw [List.find?_eq_some_iff_getElem]; exact ⟨hp, x, hx, rfl, fun j hj => by rw [h j (by omega) hj]; rfl⟩
theorem qqF : CO qvg qny := qae (cfg := fun y => cfgE qmC (qaQ y)) zz1 (fun _ => rfl) (fun _ => qeJ) (n := 400) (by
 rintro ⟨⟨a, b, c⟩, d, e⟩ -
 repeat' (first | exact trivial | exact rfl | ((conv => whnf); first | refine brI (fun _ => ?_) fun _ => ?_ | refine And.intro ?_ ?_))
 all_goals (simp_all [qdr, Bool.cond_eq_ite]))
theorem qus : CO zz92 qtO := qae (cfg := fun y => cfgE qmC (qaL zz92 2 (qvI y))) zz1 (fun _ => rfl) (fun _ => qeJ) (n := 400) (by
 rintro ⟨l, a, i⟩ (hl : l.length <= 100000)
 (conv => whnf)
 refine ⟨⟨(0 : Nat), ⟨Nat.zero_le _, fun _ _ h => absurd h (Nat.not_lt_zero _)⟩, ?_⟩, ?_⟩
 · repeat' (first | exact trivial | exact rfl | ((conv => whnf); first | refine brI (fun _ => ?_) fun _ => ?_ | refine And.intro ?_ ?_))
 intro (x : Nat) hx; obtain ⟨hx, hn⟩ := hx; have hx : x <= l.length := hx; have hn : ∀ j (h : j < l.length), j < x -> qbs l[j] a i = false := hn
 (conv => whnf)
 refine brI (fun hlt => ?_) fun hge => ?_
 · have hlt' : x < l.length := qad hlt
   (conv => whnf)
   refine so_iff.2 ⟨_, qax hlt', ?_⟩
   (conv => whnf)
   refine brI (fun h => ?_) fun h => ?_
   · have h : qbs l[x] a i = true := h
     (conv => whnf)
     refine so_iff.2 ⟨_, qax hlt', ?_⟩
     (conv => whnf)
     refine ⟨?_, ?_⟩
     · show l[x].seq = getM l a i
       unfold getM; rw [qsl hlt' hn h]
     · repeat' (first | exact trivial | exact rfl | ((conv => whnf); first | refine brI (fun _ => ?_) fun _ => ?_ | refine And.intro ?_ ?_))
   · have h : qbs l[x] a i = false := h
     (conv => whnf)
     refine ck_iff.2 ⟨qam x (by omega), ?_⟩
     (conv => whnf)
     refine ⟨(x + 1 : Nat), ⟨hlt', fun j hj hjx => ?_⟩, by show l.length - (x + 1) < l.length - x; omega, ?_⟩
     · rcases Nat.lt_or_ge j x with h1 | h1
       · exact hn j hj h1
       · have e : j = x := by omega
         subst e; exact h
     · repeat' (first | exact trivial | exact rfl | ((conv => whnf); first | refine brI (fun _ => ?_) fun _ => ?_ | refine And.intro ?_ ?_))
 · have hge' : l.length <= x := qbw hge
   (conv => whnf)
   refine ⟨?_, ?_⟩
   · show 0 = getM l a i
     unfold getM; rw [qn0 fun j hj => hn j hj (by omega)]
   · repeat' (first | exact trivial | exact rfl | ((conv => whnf); first | refine brI (fun _ => ?_) fun _ => ?_ | refine And.intro ?_ ?_)))
noncomputable def qpW (f : FuncId) : Option Con := bif Nat.beq f qvc then some (cEv1 qcK qa7) else bif Nat.beq f zz62 then some (cEv1 qcK qa7) else bif Nat.beq f qvg then some qny else bif Nat.beq f zz92 then some qtO else qmC f
theorem qii : ∀ g C, qpW g = some C -> CO g C := qab ql9 (qab qoG (qab qqF (qab qus qeJ)))
theorem quv : CO qvt qtR := qae (cfg := fun y => cfgE qpW (qaQ y)) zz1 (fun _ => rfl) (fun _ => qii) (n := 400) (by
 rintro ⟨l, d⟩ (hl : l.length <= 100000)
 (conv => whnf)
 refine ⟨d, ?_⟩
 repeat ((conv => whnf); first | refine ⟨rfl, ?_⟩ | refine ⟨trivial, ?_⟩)
 (conv => whnf)
 refine brI (fun h => ?_) fun h => ?_
 · have h : qbt d = true := h
   (conv => whnf)
   refine ⟨(l, d.dev, d.inc), ?_⟩
   repeat ((conv => whnf); first | refine ⟨rfl, ?_⟩ | refine ⟨trivial, ?_⟩)
   refine ⟨hl, ?_⟩
   (conv => whnf)
   refine ⟨?_, ?_⟩
   · show leI d.seq (getM l d.dev d.inc) = hasM l d
     unfold hasM; rw [h]; rfl
   · repeat' (first | exact trivial | exact rfl | ((conv => whnf); first | refine brI (fun _ => ?_) fun _ => ?_ | refine And.intro ?_ ?_))
 · have h : qbt d = false := h
   (conv => whnf)
   refine ⟨?_, ?_⟩
   · show false = hasM l d
     unfold hasM; rw [h]; rfl
   · repeat' (first | exact trivial | exact rfl | ((conv => whnf); first | refine brI (fun _ => ?_) fun _ => ?_ | refine And.intro ?_ ?_)))
theorem qkZ (a i n : Int) (s : List CDot × Bool) (x : CDot) : (qaA a i n s x).1.length <= s.1.length + 2 := by
 unfold qaA
 cases (!s.2 && !qdr x a i) <;> cases qbs x a i <;> simp
theorem qiK (y : List CDot × Int × Int × Int) : ∀ {x : Nat}, x <= y.1.length -> (setF y x).1.length <= 2 * x
 | 0, _ => by simp [setF]
 | x + 1, h => by
  have h1 := qiK y (x := x) (by omega); have h2 : setF y (x + 1) = qaA y.2.1 y.2.2.1 y.2.2.2 (setF y x) y.1[x] := qb7 _ _ h; have h3 := qkZ y.2.1 y.2.2.1 y.2.2.2 (setF y x) y.1[x]; rw [h2]; omega
theorem quE : CO zz93 qtW := qae (cfg := fun y => cfgE qpW (qaL zz93 4 (qvM y))) zz1 (fun _ => rfl) (fun _ => qii) (n := 600) (by
 rintro ⟨l, a, i, n⟩ (hl : l.length <= 100000)
 (conv => whnf)
 refine ⟨⟨(0 : Nat), Nat.zero_le _, ?_⟩, ?_⟩
 · repeat' (first | exact trivial | exact rfl | ((conv => whnf); first | refine brI (fun _ => ?_) fun _ => ?_ | refine And.intro ?_ ?_))
 intro (x : Nat) hx; have hx : x <= l.length := hx
 (conv => whnf)
 refine brI (fun hlt => ?_) fun hge => ?_
 · have hlt' : x < l.length := qad hlt; have hf : setF (l, a, i, n) (x + 1) = qaA a i n (setF (l, a, i, n) x) l[x] := qb7 _ _ hlt'; have hlen : (setF (l, a, i, n) x).1.length <= 2 * x := qiK _ hx; have ap : ∀ M : List CDot, M.length <= 300000 -> (Nat.ble ((M.length + 1) * 24) 16777216 && Nat.ble (M.length + 1) 16777216) = true := fun M h => by
     rw [Bool.and_eq_true, Nat.ble_eq, Nat.ble_eq]; omega
   have mu : l.length - (x + 1) < l.length - x := by omega
   have hL1 : (setF (l, a, i, n) x).1.length <= 300000 := by omega
   have hL2 : ((setF (l, a, i, n) x).1 ++ [(⟨a, i, n⟩ : CDot)]).length <= 300000 := by simp; omega
   (conv => whnf)
   refine br_iff.2 ⟨fun h1 => ?ga, fun h1 => ?gb⟩
   case' ga =>
     have h1 : (setF (l, a, i, n) x).2 = false := by simpa using h1
     (conv => whnf)
     refine so_iff.2 ⟨_, qax hlt', ?_⟩
     (conv => whnf)
     refine ⟨(l[x], a, i), ?_⟩
     repeat ((conv => whnf); first | refine ⟨rfl, ?_⟩ | refine ⟨trivial, ?_⟩)
     (conv => whnf)
     refine br_iff.2 ⟨fun h2 => ?gc, fun h2 => ?gd⟩
     case' gc =>
       have h2 : qdr l[x] a i = false := by
        have h2 : (!qdr l[x] a i) = true := h2; simpa using h2
       have hst : qaA a i n (setF (l, a, i, n) x) l[x] = (bif qbs l[x] a i then ((setF (l, a, i, n) x).1 ++ [⟨a, i, n⟩], true) else ((setF (l, a, i, n) x).1 ++ [⟨a, i, n⟩] ++ [l[x]], true)) := by
        simp only [qaA, h1, h2, Bool.not_false, Bool.and_self, cond_true]
       (conv => whnf)
       refine ⟨(⟨a, i, n⟩ : CDot), rfl, ?_⟩
       (conv => whnf)
       refine ck_iff.2 ⟨ap _ hL1, ?_⟩
     case' gd =>
       have h2 : qdr l[x] a i = true := by
        have h2 : (!qdr l[x] a i) = false := h2; simpa using h2
       have hst : qaA a i n (setF (l, a, i, n) x) l[x] = (bif qbs l[x] a i then ((setF (l, a, i, n) x).1, (setF (l, a, i, n) x).2) else ((setF (l, a, i, n) x).1 ++ [l[x]], (setF (l, a, i, n) x).2)) := by
        simp only [qaA, h1, h2, Bool.not_true, Bool.and_false, cond_false]
        cases qbs l[x] a i <;> simp [<- h1]
   case' gb =>
     have h1 : (setF (l, a, i, n) x).2 = true := by simpa using h1
     have hst : qaA a i n (setF (l, a, i, n) x) l[x] = (bif qbs l[x] a i then ((setF (l, a, i, n) x).1, (setF (l, a, i, n) x).2) else ((setF (l, a, i, n) x).1 ++ [l[x]], (setF (l, a, i, n) x).2)) := by
       simp only [qaA, h1, Bool.not_true, Bool.false_and, cond_false]
       cases qbs l[x] a i <;> simp [<- h1]
   all_goals
     rw [hst] at hf
     (conv => whnf)
     refine so_iff.2 ⟨_, qax hlt', ?_⟩
     (conv => whnf)
     refine brI (fun h3 => ?_) fun h3 => ?_
     · have h3 : qbs l[x] a i = false := by
        have h3 : (!qbs l[x] a i) = true := h3; simpa using h3
       rw [h3, cond_false] at hf
       (conv => whnf)
       refine so_iff.2 ⟨_, qax hlt', ?_⟩
       (conv => whnf)
       refine ⟨l[x], rfl, ?_⟩
       (conv => whnf)
       refine ck_iff.2 ⟨by first | exact ap _ hL1 | exact ap _ hL2, ?_⟩
       (conv => whnf)
       refine ck_iff.2 ⟨qam x (by omega), ?_⟩
       (conv => whnf)
       refine ⟨(x + 1 : Nat), hlt', mu, ?_⟩
       repeat' (first | exact trivial | exact rfl | ((conv => whnf); first | refine brI (fun _ => ?_) fun _ => ?_ | refine And.intro ?_ ?_))
       all_goals ((conv => whnf); rw [hf])
     · have h3 : qbs l[x] a i = true := by
        have h3 : (!qbs l[x] a i) = false := h3; simpa using h3
       rw [h3, cond_true] at hf
       (conv => whnf)
       refine ck_iff.2 ⟨qam x (by omega), ?_⟩
       (conv => whnf)
       refine ⟨(x + 1 : Nat), hlt', mu, ?_⟩
       repeat' (first | exact trivial | exact rfl | ((conv => whnf); first | refine brI (fun _ => ?_) fun _ => ?_ | refine And.intro ?_ ?_))
       all_goals ((conv => whnf); rw [hf])
 · have hge' : l.length <= x := qbw hge; have hall : setM l a i n = (bif (setF (l, a, i, n) x).2 then (setF (l, a, i, n) x).1 else (setF (l, a, i, n) x).1 ++ [⟨a, i, n⟩]) := by
     unfold setM setF; rw [List.take_of_length_le hge']
   have hlen : (setF (l, a, i, n) x).1.length <= 2 * x := qiK _ hx
   (conv => whnf)
   refine brI (fun h1 => ?_) fun h1 => ?_
   · have h1 : (setF (l, a, i, n) x).2 = false := by simpa using h1
     rw [h1, cond_false] at hall
     (conv => whnf)
     refine ⟨(⟨a, i, n⟩ : CDot), rfl, ?_⟩
     (conv => whnf)
     refine ck_iff.2 ⟨by show (Nat.ble (((setF (l, a, i, n) x).1.length + 1) * 24) 16777216 && Nat.ble ((setF (l, a, i, n) x).1.length + 1) 16777216) = true; rw [Bool.and_eq_true, Nat.ble_eq, Nat.ble_eq]; omega, ?_⟩
     (conv => whnf)
     refine ⟨by rw [hall], ?_⟩
     repeat' (first | exact trivial | exact rfl | ((conv => whnf); first | refine brI (fun _ => ?_) fun _ => ?_ | refine And.intro ?_ ?_))
   · have h1 : (setF (l, a, i, n) x).2 = true := by simpa using h1
     rw [h1, cond_true] at hall
     (conv => whnf)
     refine ⟨by rw [hall], ?_⟩
     repeat' (first | exact trivial | exact rfl | ((conv => whnf); first | refine brI (fun _ => ?_) fun _ => ?_ | refine And.intro ?_ ?_)))
noncomputable def qsa (f : FuncId) : Option Con := bif Nat.beq f qvt then some qtR else bif Nat.beq f zz93 then some qtW else qpW f
theorem qlE : ∀ g C, qsa g = some C -> CO g C := qab quv (qab quE qii)
end Go.Proofs
namespace Go.Proofs
open Go Go.Am Go.RowKit Go.Sy
variable [Inhabited DrP]
def qiz (x y : CEvent) : Bool := qac x.dot y.dot
def posE (l : List CEvent) (e : CEvent) : Nat := posL qiz l e
def putK (l : List CEvent) (e : CEvent) : List CEvent := l.take (posE l e) ++ e :: l.drop (posE l e)
def qtV : Con := { Y := List CEvent × CEvent, pre := fun y => y.1.length <= 50000, args := fun y => [evs' y.1, .agg y.2.enc], res := fun y => evs' (putK y.1 y.2) }
def qvL (y : List CEvent × CEvent) : Ann := { α := Nat, ok := fun k => k <= posE y.1 y.2, μ := fun k => y.1.length - k, keep := [3], slots := fun k => [(0, evs' y.1), (5, i64 k)], objs := fun _ => [] }
def qay (m : CMap) (e : CEvent) : CMap × Bool × Int :=
 if qa7 e = false then (m, false, 1) else if hasM m.ctx e.dot = true then (m, false, 0) else if getM m.ctx e.dot.dev e.dot.inc + 1 ≠ e.dot.seq then (m, false, 6) else if 2048 <= m.kept.length then (m, false, 9)
 else (⟨setM m.ctx e.dot.dev e.dot.inc e.dot.seq, putK m.kept e, qaP qac (m.dead ++ e.over)⟩, true, 0)
structure okM (m : CMap) : Prop where
 ctx : m.ctx.length <= 100000
 seq : ∀ x ∈ m.ctx, 0 <= x.seq /\ x.seq <= 4294967296
 kept : m.kept.length <= 50000
 dead : m.dead.length <= 100000
theorem qhH {l : List CDot} (h : ∀ x ∈ l, 0 <= x.seq /\ x.seq <= 4294967296) (a i : Int) : 0 <= getM l a i /\ getM l a i <= 4294967296 := by
 unfold getM
 cases e : l.find? (fun x => qbs x a i) with
 | none => simp
 | some x => exact h x (List.mem_of_find?_eq_some e)
def qnA : Con := { Y := CMap × CEvent, pre := fun y => okM y.1 /\ qcK y.2 /\ y.2.over.length <= 100000, args := fun y => [.agg y.1.enc, .agg y.2.enc], res := fun y => .tup [.agg (qay y.1 y.2).1.enc, .bool (qay y.1 y.2).2.1, i64 (qay y.1 y.2).2.2] }
theorem quD : CO zz95 qtV := qae (cfg := fun y => cfgE qsa (qaL zz95 2 (qvL y))) zz1 (fun _ => rfl) (fun _ => qlE) (n := 600) (by
 rintro ⟨l, e⟩ (hl : l.length <= 50000)
 (conv => whnf)
 refine ⟨⟨(0 : Nat), Nat.zero_le _, ?_⟩, ?_⟩
 · repeat' (first | exact trivial | exact rfl | ((conv => whnf); first | refine brI (fun _ => ?_) fun _ => ?_ | refine And.intro ?_ ?_))
 intro (k : Nat) hk; have hk : k <= posL qiz l e := hk; have hkp := qfz (less := qiz) l e; have hkl : k <= l.length := by omega
 have ap : ∀ n : Nat, n <= 60000 -> (Nat.ble (n * 176) 16777216 && Nat.ble n 16777216) = true := fun n h => by
   rw [Bool.and_eq_true, Nat.ble_eq, Nat.ble_eq]; omega
 (conv => whnf)
 refine br_iff.2 ⟨fun hlt => ?ga, fun hge => ?gb⟩
 case' ga =>
   have hlt' : k < l.length := qad hlt
   (conv => whnf)
   refine so_iff.2 ⟨_, qax hlt', ?_⟩
   (conv => whnf)
   refine ⟨(l[k].dot, e.dot), ?_⟩
   repeat ((conv => whnf); first | refine ⟨rfl, ?_⟩ | refine ⟨trivial, ?_⟩)
   (conv => whnf)
   refine br_iff.2 ⟨fun h => ?gc, fun h => ?gd⟩
   case gc =>
     have h : qiz l[k] e = true := h
     (conv => whnf)
     refine ck_iff.2 ⟨qam k (by omega), ?_⟩
     (conv => whnf)
     refine ⟨(k + 1 : Nat), qg4 hk hlt' h, by show l.length - (k + 1) < l.length - k; omega, ?_⟩
     repeat' (first | exact trivial | exact rfl | ((conv => whnf); first | refine brI (fun _ => ?_) fun _ => ?_ | refine And.intro ?_ ?_))
   case' gd =>
     have h : qiz l[k] e = false := h; have hkk : k = posL qiz l e := qg5 hk hlt' h
 case' gb =>
   have hge' : l.length <= k := qbw hge; have hkk : k = posL qiz l e := by omega
 all_goals
   repeat (first | ((conv => whnf); refine ⟨fun _ => rfl, ?_⟩) | ((conv => whnf); refine ⟨fun _ => ⟨rfl, rfl⟩, ?_⟩) | ((conv => whnf); refine ⟨e, rfl, ?_⟩) | ((conv => whnf); refine ⟨(_ : List CEvent), rfl, ?_⟩) | ((conv => whnf); refine ck_iff.2 ⟨by (show Nat.ble k l.length = true; rw [Nat.ble_eq]; exact hkl), ?_⟩) | ((conv => whnf); refine ck_iff.2 ⟨ap _ (by simp; omega), ?_⟩))
   (conv => whnf)
   refine ⟨?_, ?_⟩
   · show SV.lst CEvent _ CEvent.enc = SV.lst CEvent (putK l e) CEvent.enc
     unfold putK posE; rw [<- hkk]; simp
   · repeat' (first | exact trivial | exact rfl | ((conv => whnf); first | refine brI (fun _ => ?_) fun _ => ?_ | refine And.intro ?_ ?_)))
noncomputable def qsb (f : FuncId) : Option Con := bif Nat.beq f zz95 then some qtV else qsa f
theorem qlF : ∀ g C, qsb g = some C -> CO g C := qab quD qlE
theorem qqH : CO qvj qnA := qae (cfg := fun y => cfgE qsb (qaQ y)) zz1 (fun _ => rfl) (fun _ => qlF) (n := 600) (by
 rintro ⟨⟨c, k, d⟩, e⟩ ⟨⟨(hc : c.length <= 100000), (hs : ∀ x ∈ c, 0 <= x.seq /\ x.seq <= 4294967296), (hk : k.length <= 50000), (hd : d.length <= 100000)⟩, (hse : qcK e), (ho : e.over.length <= 100000)⟩; have hr := qhH hs e.dot.dev e.dot.inc
 (conv => whnf)
 refine ⟨e, ?_⟩
 repeat ((conv => whnf); first | refine ⟨rfl, ?_⟩ | refine ⟨trivial, ?_⟩)
 refine ⟨hse, ?_⟩
 (conv => whnf)
 refine brI (fun h1 => ?_) fun h1 => ?_
 · have h1 : qa7 e = false := by simpa using h1
   have hA : qay ⟨c, k, d⟩ e = (⟨c, k, d⟩, false, 1) := by unfold qay; rw [if_pos h1]
   repeat' (first | exact trivial | (with_reducible exact rfl) | ((conv => whnf); first | refine brI (fun _ => ?_) fun _ => ?_ | refine And.intro ?_ ?_))
   all_goals ((conv => whnf); rw [hA])
 have h1 : qa7 e = true := by simpa using h1
 (conv => whnf)
 refine ⟨(c, e.dot), ?_⟩
 repeat ((conv => whnf); first | refine ⟨rfl, ?_⟩ | refine ⟨trivial, ?_⟩)
 refine ⟨hc, ?_⟩
 (conv => whnf)
 refine brI (fun h2 => ?_) fun h2 => ?_
 · have h2 : hasM c e.dot = true := h2; have hA : qay ⟨c, k, d⟩ e = (⟨c, k, d⟩, false, 0) := by unfold qay; rw [if_neg (by simp [h1]), if_pos h2]
   repeat' (first | exact trivial | (with_reducible exact rfl) | ((conv => whnf); first | refine brI (fun _ => ?_) fun _ => ?_ | refine And.intro ?_ ?_))
   all_goals ((conv => whnf); rw [hA])
 have h2 : hasM c e.dot = false := h2
 (conv => whnf)
 refine ⟨(c, e.dot.dev, e.dot.inc), ?_⟩
 repeat ((conv => whnf); first | refine ⟨rfl, ?_⟩ | refine ⟨trivial, ?_⟩)
 refine ⟨hc, ?_⟩
 (conv => whnf)
 refine ck_iff.2 ⟨by show inR .i64 (getM c e.dot.dev e.dot.inc + 1) = true; rw [qcv]; omega, ?_⟩
 (conv => whnf)
 refine brI (fun h3 => ?_) fun h3 => ?_
 · have h3 : getM c e.dot.dev e.dot.inc + 1 ≠ e.dot.seq := by
    have h3 : (!((getM c e.dot.dev e.dot.inc + 1) == e.dot.seq)) = true := h3; simpa using h3
   have hA : qay ⟨c, k, d⟩ e = (⟨c, k, d⟩, false, 6) := by unfold qay; rw [if_neg (by simp [h1]), if_neg (by simp [h2]), if_pos h3]
   repeat' (first | exact trivial | (with_reducible exact rfl) | ((conv => whnf); first | refine brI (fun _ => ?_) fun _ => ?_ | refine And.intro ?_ ?_))
   all_goals ((conv => whnf); rw [hA])
 have h3 : ¬ getM c e.dot.dev e.dot.inc + 1 ≠ e.dot.seq := by
   have h3 : (!((getM c e.dot.dev e.dot.inc + 1) == e.dot.seq)) = false := h3; simpa using h3
 (conv => whnf)
 refine brI (fun h4 => ?_) fun h4 => ?_
 · have h4 : 2048 <= k.length := by
    have h4 : leI 2048 (Int.ofNat k.length) = true := h4; rw [qaX, decide_eq_true_eq, Int.ofNat_eq_natCast] at h4; omega
   have hA : qay ⟨c, k, d⟩ e = (⟨c, k, d⟩, false, 9) := by unfold qay; rw [if_neg (by simp [h1]), if_neg (by simp [h2]), if_neg h3, if_pos h4]
   repeat' (first | exact trivial | (with_reducible exact rfl) | ((conv => whnf); first | refine brI (fun _ => ?_) fun _ => ?_ | refine And.intro ?_ ?_))
   all_goals ((conv => whnf); rw [hA])
 have h4 : ¬ 2048 <= k.length := by
   have h4 : leI 2048 (Int.ofNat k.length) = false := h4; rw [qaX, decide_eq_false_iff_not, Int.ofNat_eq_natCast] at h4; omega
 have hA : qay ⟨c, k, d⟩ e = (⟨setM c e.dot.dev e.dot.inc e.dot.seq, putK k e, qaP qac (d ++ e.over)⟩, true, 0) := by unfold qay; rw [if_neg (by simp [h1]), if_neg (by simp [h2]), if_neg h3, if_neg h4]
 have ap : ∀ n : Nat, n <= 300000 -> (Nat.ble (n * 24) 16777216 && Nat.ble n 16777216) = true := fun n h => by
   rw [Bool.and_eq_true, Nat.ble_eq, Nat.ble_eq]; omega
 (conv => whnf)
 refine ⟨(c, e.dot.dev, e.dot.inc, e.dot.seq), ?_⟩
 repeat ((conv => whnf); first | refine ⟨rfl, ?_⟩ | refine ⟨trivial, ?_⟩)
 refine ⟨hc, ?_⟩
 (conv => whnf)
 refine ⟨(k, e), ?_⟩
 repeat ((conv => whnf); first | refine ⟨rfl, ?_⟩ | refine ⟨trivial, ?_⟩)
 refine ⟨hk, ?_⟩
 (conv => whnf)
 refine ⟨fun _ => ⟨rfl, rfl⟩, ?_⟩
 (conv => whnf)
 refine ⟨d, rfl, ?_⟩
 (conv => whnf)
 refine ck_iff.2 ⟨ap _ (by simp; omega), ?_⟩
 (conv => whnf)
 refine ⟨fun _ => ⟨rfl, rfl⟩, ?_⟩
 (conv => whnf)
 refine ⟨e.over, rfl, ?_⟩
 (conv => whnf)
 refine ck_iff.2 ⟨ap _ (by simp; omega), ?_⟩
 (conv => whnf)
 refine ⟨[] ++ d ++ e.over, ?_⟩
 repeat ((conv => whnf); first | refine ⟨rfl, ?_⟩ | refine ⟨trivial, ?_⟩)
 refine ⟨by show (([] : List CDot) ++ d ++ e.over).length <= 300000; simp; omega, ?_⟩
 repeat' (first | exact trivial | (with_reducible exact rfl) | ((conv => whnf); first | refine brI (fun _ => ?_) fun _ => ?_ | refine And.intro ?_ ?_))
 all_goals ((conv => whnf); rw [hA])
 all_goals (rw [List.nil_append]; rfl))
end Go.Proofs
namespace Go.Proofs
open Go Go.Am Go.RowKit Go.Sy
variable [Inhabited DrP]
noncomputable def qpY (f : FuncId) : Option Con := bif Nat.beq f qvj then some qnA else qsb f
theorem qij : ∀ g C, qpY g = some C -> CO g C := qab qqH qlF
def qdu : CMap := ⟨[], [], []⟩
def qba (l : List CEvent) : CMap := l.foldl (fun m e => (qay m e).1) qdu
def qjz (l : List CEvent) : Prop := l.length <= 100 /\ ∀ e ∈ l, qbI e = true
theorem qdf {e : CEvent} (h : qbI e = true) : qcK e /\ e.over.length <= 100 := by
 simp only [qbI, Bool.and_eq_true, qaX, decide_eq_true_eq, Int.ofNat_eq_natCast] at h; exact ⟨⟨by omega, by omega⟩, by omega⟩
theorem qoZ (l : List CDot) (a i n : Int) : setM l a i n = bif (l.foldl (qaA a i n) ([], false)).2 then (l.foldl (qaA a i n) ([], false)).1 else (l.foldl (qaA a i n) ([], false)).1 ++ [⟨a, i, n⟩] := rfl
theorem qk0 {a i n : Int} {s : List CDot × Bool} {x : CDot} {P : CDot -> Prop} (hs : ∀ z ∈ s.1, P z) (hx : P x) (hn : P ⟨a, i, n⟩) : ∀ z ∈ (qaA a i n s x).1, P z := by
 intro z hz; unfold qaA at hz
 cases h1 : (!s.2 && !qdr x a i) <;> cases h2 : qbs x a i <;> simp only [h1, h2, cond_true, cond_false, List.mem_append, List.mem_singleton] at hz
 · rcases hz with hz | rfl
   · exact hs z hz
   · exact hx
 · exact hs z hz
 · rcases hz with (hz | rfl) | rfl
   · exact hs z hz
   · exact hn
   · exact hx
 · rcases hz with hz | rfl
   · exact hs z hz
   · exact hn
theorem qq3 {l : List CDot} {a i n : Int} {P : CDot -> Prop} (hl : ∀ z ∈ l, P z) (hn : P ⟨a, i, n⟩) : ∀ z ∈ setM l a i n, P z := by
 have key : ∀ (l : List CDot) (s : List CDot × Bool), (∀ z ∈ l, P z) -> (∀ z ∈ s.1, P z) -> ∀ z ∈ (l.foldl (qaA a i n) s).1, P z := by
   intro l; induction l with
   | nil => intro s _ hs; exact hs
   | cons x l ih => intro s hl hs; exact ih _ (fun z hz => hl z (List.mem_cons_of_mem _ hz)) (qk0 hs (hl x List.mem_cons_self) hn)
 intro z hz; rw [qoZ] at hz; have h1 := key l ([], false) hl (fun z hz => by cases hz)
 cases h : (l.foldl (qaA a i n) ([], false)).2
 · rw [h] at hz; simp only [cond_false, List.mem_append, List.mem_singleton] at hz; rcases hz with hz | rfl
   · exact h1 z hz
   · exact hn
 · rw [h] at hz; exact h1 z hz
theorem qq2 (l : List CDot) (a i n : Int) : (setM l a i n).length <= l.length + 1 := by
 have key : ∀ (l : List CDot) (s : List CDot × Bool), (l.foldl (qaA a i n) s).1.length + (bif (l.foldl (qaA a i n) s).2 then 0 else 1) <= s.1.length + (bif s.2 then 0 else 1) + l.length := by
  intro l; induction l with
  | nil => intro s; simp
  | cons x l ih =>
   intro s; have h1 := ih (qaA a i n s x); have h2 : (qaA a i n s x).1.length + (bif (qaA a i n s x).2 then 0 else 1) <= s.1.length + (bif s.2 then 0 else 1) + 1 := by
    unfold qaA
    cases hs : s.2 <;> cases qdr x a i <;> cases qbs x a i <;> simp [hs] <;> omega
   simp only [List.foldl_cons, List.length_cons]; omega
 have h1 := key l ([], false); rw [qoZ]
 cases h : (l.foldl (qaA a i n) ([], false)).2 <;> rw [h] at h1 <;> simp at h1 ⊢ <;> omega
structure boundM (m : CMap) (k : Nat) : Prop where
 ctx : m.ctx.length <= k
 seq : ∀ x ∈ m.ctx, qbt x = true
 kept : m.kept.length <= k
 dead : m.dead.length <= 100 * k
theorem qnU {x : CDot} (h : qbt x = true) : 0 <= x.seq /\ x.seq <= 4294967296 := by
 simp only [qbt, Bool.and_eq_true, qaX, decide_eq_true_eq] at h; omega
theorem boundM.ok {m : CMap} {k : Nat} (h : boundM m k) (hk : k <= 1000) : okM m := ⟨by have := h.ctx; omega, fun x hx => qnU (h.seq x hx), by have := h.kept; omega, by have := h.dead; omega⟩
theorem qfa {e : CEvent} (h : qa7 e = true) : qbt e.dot = true := by
 simp only [qa7, Bool.and_eq_true] at h; exact h.1.1.1.1
theorem qmd (l : List CEvent) (e : CEvent) : (putK l e).length = l.length + 1 := by
 unfold putK; have := qfz (less := qiz) l e; simp [posE]; omega
theorem qki {m : CMap} {e : CEvent} {k : Nat} (h : boundM m k) (he : e.over.length <= 100) : boundM (qay m e).1 (k + 1) := by
 have same : boundM m (k + 1) := ⟨by have := h.ctx; omega, h.seq, by have := h.kept; omega, by have := h.dead; omega⟩; unfold qay; split
 · exact same
 · rename_i h1; have h1 : qa7 e = true := by simpa using h1
   split
   · exact same
   · split
     · exact same
     · split
       · exact same
       · refine ⟨?_, qq3 h.seq (qfa h1), ?_, ?_⟩
         · have := qq2 m.ctx e.dot.dev e.dot.inc e.dot.seq; have := h.ctx; show (setM m.ctx e.dot.dev e.dot.inc e.dot.seq).length <= _
           omega
         · show (putK m.kept e).length <= _
           rw [qmd]; have := h.kept; omega
         · show (qaP qac (m.dead ++ e.over)).length <= _
           have h2 := qff (less := qac) (m.dead ++ e.over) []; unfold qaP; have := h.dead; simp only [List.length_nil, List.length_append, Nat.zero_add] at h2; omega
theorem qcm {l : List CEvent} (hl : ∀ e ∈ l, qbI e = true) : ∀ x, x <= l.length -> boundM (qba (l.take x)) x
 | 0, _ => ⟨by simp [qba, qdu], by simp [qba, qdu], by simp [qba, qdu], by simp [qba, qdu]⟩
 | x + 1, h => by
  have hx : x < l.length := h; have h1 := qcm hl x (by omega); have h2 : qba (l.take (x + 1)) = (qay (qba (l.take x)) l[x]).1 := qb7 _ _ hx; rw [h2]; exact qki h1 (qdf (hl _ (List.getElem_mem hx))).2
def qrq : Con := { Y := List CEvent, pre := qjz, args := fun y => [evs' y], res := fun y => .agg (qba y).enc }
def qtE (y : List CEvent) : Ann := { α := Nat, ok := fun x => x <= y.length, μ := fun x => y.length - x, keep := [2, 3], slots := fun x => [(0, evs' y), (4, i64 x)], objs := fun x => [(1, .cells (qba (y.take x)).enc qws)] }
theorem qsO : CO zz79 qrq := qae (cfg := fun y => cfgE qpY (qaL zz79 3 (qtE y))) zz1 (fun _ => rfl) (fun _ => qij) (n := 600) (by
 rintro (l : List CEvent) ⟨(hl : l.length <= 100), (hlt : ∀ e ∈ l, qbI e = true)⟩
 (conv => whnf)
 refine ⟨⟨(0 : Nat), Nat.zero_le _, ?_⟩, ?_⟩
 · repeat' (first | exact trivial | (with_reducible exact rfl) | ((conv => whnf); first | refine brI (fun _ => ?_) fun _ => ?_ | refine And.intro ?_ ?_))
   all_goals exact rfl
 intro (x : Nat) hx; have hx : x <= l.length := hx
 (conv => whnf)
 refine brI (fun hlt1 => ?_) fun hge => ?_
 · have hlt' : x < l.length := qad hlt1; have hf : qba (l.take (x + 1)) = (qay (qba (l.take x)) l[x]).1 := qb7 _ _ hlt'; have hb := qcm hlt x hx; have hsm := qdf (hlt _ (List.getElem_mem hlt'))
   (conv => whnf)
   refine so_iff.2 ⟨_, qax hlt', ?_⟩
   (conv => whnf)
   refine ⟨(qba (l.take x), l[x]), ?_⟩
   repeat ((conv => whnf); first | refine ⟨rfl, ?_⟩ | refine ⟨trivial, ?_⟩)
   refine ⟨⟨hb.ok (by omega), hsm.1, by have := hsm.2; show l[x].over.length <= 100000; omega⟩, ?_⟩
   (conv => whnf)
   refine ck_iff.2 ⟨qam x (by omega), ?_⟩
   (conv => whnf)
   refine ⟨(x + 1 : Nat), hlt', by show l.length - (x + 1) < l.length - x; omega, ?_⟩
   repeat' (first | exact trivial | (with_reducible exact rfl) | ((conv => whnf); first | refine brI (fun _ => ?_) fun _ => ?_ | refine And.intro ?_ ?_))
   all_goals first | exact rfl | (rw [hf]; exact rfl)
 · have hge' : l.length <= x := qbw hge; have e : l.take x = l := List.take_of_length_le hge'
   repeat' (first | exact trivial | (with_reducible exact rfl) | ((conv => whnf); first | refine brI (fun _ => ?_) fun _ => ?_ | refine And.intro ?_ ?_))
   all_goals first | exact rfl | (rw [e]; done) | (rw [e]; exact rfl))
end Go.Proofs
namespace Go.Proofs
open Go Go.Am Go.RowKit Go.Sy
variable [Inhabited DrP]
def qds (m : CMap) (e : CEvent) : Bool := (e.kind == 1) && !decide (e.dot ∈ m.dead)
def qaj (m : CMap) : List CEvent := m.kept.filter (qds m)
def keyM (m : CMap) (k : CKey) : List CEvent := (qaj m).filter fun e => decide (e.key = k)
def qb1 : CEvent := ⟨⟨0, 0, 0⟩, ⟨0, 0, 0⟩, 0, qiS, ⟨[], false, false, false, false, 0, 0, 0⟩, []⟩
def winL (l : List CEvent) : Option CEvent := l.foldl (fun b e => match b with | none => some e | some y => if qa3 e.stamp y.stamp then some y else some e) none
def qag (m : CMap) (k : CKey) : CEvent × Bool := ((winL (keyM m k)).getD qb1, (winL (keyM m k)).isSome)
def qeY (x y : CEvent) : Bool := qa2 x.key y.key
def insW (out : List CEvent) (w : CEvent) : List CEvent := out.take (posL qeY out w) ++ w :: out.drop (posL qeY out w)
def winF (m : CMap) (l : List CEvent) : List CEvent := l.foldl (fun out x => if (qag m x.key).1.dot = x.dot then insW out (qag m x.key).1 else out) []
def qaw (m : CMap) : List CEvent := winF m (qaj m)
def qby (m : CMap) : List CItem := (qaw m).map CEvent.item
def qha (m : CMap) (now : Int) : List CItem := (qby m).filter fun x => !qca x.cookie now
def qgE (m : CMap) (k : CKey) : List CDot := (keyM m k).map (·.dot)
def evO (l : List CEvent) : SO := .arr CEvent l CEvent.enc qrk
def qnz : Con := { Y := CMap, pre := okM, args := fun y => [.agg y.enc], res := fun y => evs' (qaj y) }
def qrO (y : CMap) : Ann := { α := Nat, ok := fun i => i <= y.kept.length, μ := fun i => y.kept.length - i, keep := [1], slots := fun i => [(3, .own 1), (4, i64 i)], objs := fun i => [(1, evO ((y.kept.take i).filter (qds y)))] }
def qtS : Con := { Y := CMap × CKey, pre := fun y => okM y.1, args := fun y => [.agg y.1.enc, .agg y.2.enc], res := fun y => evs' (keyM y.1 y.2) }
def qvK (y : CMap × CKey) : Ann := { α := Nat, ok := fun i => i <= (qaj y.1).length, μ := fun i => (qaj y.1).length - i, keep := [3], slots := fun i => [(5, .own 2), (6, evs' (qaj y.1)), (7, i64 i)], objs := fun i => [(2, evO (((qaj y.1).take i).filter fun e => decide (e.key = y.2)))] }
def qln : Con := { Y := CMap × CKey, pre := fun y => okM y.1, args := fun y => [.agg y.1.enc, .agg y.2.enc], res := fun y => .tup [.agg (qag y.1 y.2).1.enc, .bool (qag y.1 y.2).2] }
def qpq (y : CMap × CKey) : Ann := let l := keyM y.1 y.2; { α := Nat, ok := fun i => i <= l.length, μ := fun i => l.length - i, keep := [4, 7], slots := fun i => [(6, evs' l), (8, i64 i)], objs := fun i => [(3, .cells ((winL (l.take i)).getD qb1).enc qrk)] }
def qi2 : Con := { Y := CMap, pre := okM, args := fun y => [.agg y.enc], res := fun y => evs' (qaw y) }
def qeB (y : CMap) : Ann := let l := qaj y; { α := Nat, ok := fun i => i <= l.length, μ := fun i => l.length - i, keep := [1], slots := fun i => [(3, evs' (winF y (l.take i))), (4, evs' l), (5, i64 i)], objs := fun _ => [], frz := [3] }
def qmn (y : CMap) : Ann := let l := qaj y; { α := Nat × Nat, ok := fun x => ∃ h : x.1 < l.length, x.2 <= posL qeY (winF y (l.take x.1)) (qag y l[x.1].key).1, μ := fun x => (winF y (l.take x.1)).length - x.2, keep := [1, 6], slots := fun x => [(3, evs' (winF y (l.take x.1))), (4, evs' l), (5, i64 x.1), (8, i64 x.2)], objs := fun _ => [], link := some fun a b => b.1 = a.1 }
def qnE : Con := { Y := CMap, pre := okM, args := fun y => [.agg y.enc], res := fun y => qmS (qby y) }
def qrP (y : CMap) : Ann := let l := qaw y; { α := Nat, ok := fun i => i <= l.length, μ := fun i => l.length - i, keep := [], slots := fun i => [(3, .own 1), (4, evs' l), (5, i64 i)], objs := fun i => [(1, qom ((l.take i).map CEvent.item))] }
def qnJ : Con := { Y := CMap × Int, pre := fun y => okM y.1, args := fun y => [.agg y.1.enc, i64 y.2], res := fun y => qmS (qha y.1 y.2) }
def qrS (y : CMap × Int) : Ann := let l := qby y.1; { α := Nat, ok := fun i => i <= l.length, μ := fun i => l.length - i, keep := [1], slots := fun i => [(5, .own 1), (6, qmS l), (7, i64 i)], objs := fun i => [(1, qom ((l.take i).filter fun x => !qca x.cookie y.2))] }
def qro : Con := { Y := CMap × CKey, pre := fun y => okM y.1, args := fun y => [.agg y.1.enc, .agg y.2.enc], res := fun y => dots (qgE y.1 y.2) }
def qtC (y : CMap × CKey) : Ann := let l := keyM y.1 y.2; { α := Nat, ok := fun i => i <= l.length, μ := fun i => l.length - i, keep := [], slots := fun i => [(5, .own 2), (6, evs' l), (7, i64 i)], objs := fun i => [(2, .arr CDot ((l.take i).map (·.dot)) CDot.enc Ty.Dot)] }
theorem qkE {α : Type} {p : α -> Bool} {l : List α} {x : Nat} (h : x < l.length) : (l.take (x + 1)).filter p = (l.take x).filter p ++ if p l[x] then [l[x]] else [] := by
 rw [List.take_succ_eq_append_getElem h, List.filter_append]; by_cases hp : p l[x] = true <;> simp [hp]
theorem qry {α : Type} {p : α -> Bool} {l : List α} {x : Nat} : ((l.take x).filter p).length <= x := Nat.le_trans (List.length_filter_le _ _) (by simp; omega)
theorem qn3 {α : Type} {p : α -> Bool} {l : List α} {x : Nat} (h : ¬ (x : Int) < Int.ofNat l.length) : (l.take x).filter p = l.filter p := by
 rw [List.take_of_length_le (by simp only [Int.ofNat_eq_natCast] at h; omega)]
theorem qgc {α β : Type} (f : α -> β) {l : List α} {x : Nat} (h : x < l.length) : (l.take (x + 1)).map f = (l.take x).map f ++ [f l[x]] := by
 rw [List.take_succ_eq_append_getElem h, List.map_append]; rfl
theorem qeD {m : CMap} (h : okM m) : (qaj m).length <= 50000 := Nat.le_trans (List.length_filter_le _ _) h.kept
theorem qgM {m : CMap} (h : okM m) (k : CKey) : (keyM m k).length <= 50000 := Nat.le_trans (List.length_filter_le _ _) (qeD h)
theorem qql (out : List CEvent) (w : CEvent) : (insW out w).length = out.length + 1 := by
 unfold insW; have := qfz (less := qeY) out w; simp; omega
theorem qgk (m : CMap) : ∀ (l out : List CEvent), (l.foldl (fun out x => if (qag m x.key).1.dot = x.dot then insW out (qag m x.key).1 else out) out).length <= out.length + l.length
 | [], out => by simp
 | x :: l, out => by
  have h1 := qgk m l (if (qag m x.key).1.dot = x.dot then insW out (qag m x.key).1 else out); have h2 : (if (qag m x.key).1.dot = x.dot then insW out (qag m x.key).1 else out).length <= out.length + 1 := by
   split
   · rw [qql]; omega
   · omega
  simp only [List.foldl_cons, List.length_cons]; omega
theorem qey {m : CMap} (h : okM m) : (qaw m).length <= 50000 := by
 have h1 := qgk m (qaj m) []; have h2 := qeD h; unfold qaw winF; simp only [List.length_nil, Nat.zero_add] at h1; omega
theorem apE (n : Nat) (h : n <= 60000) : (Nat.ble (n * 176) 16777216 && Nat.ble n 16777216) = true := by
 rw [Bool.and_eq_true, Nat.ble_eq, Nat.ble_eq]; omega
theorem apI (n : Nat) (h : n <= 60000) : (Nat.ble (n * 96) 16777216 && Nat.ble n 16777216) = true := by
 rw [Bool.and_eq_true, Nat.ble_eq, Nat.ble_eq]; omega
theorem apD (n : Nat) (h : n <= 600000) : (Nat.ble (n * 24) 16777216 && Nat.ble n 16777216) = true := by
 rw [Bool.and_eq_true, Nat.ble_eq, Nat.ble_eq]; omega
theorem qqG : CO zz63 qnz := qae (cfg := fun y => cfgE qpY (qaL zz63 3 (qrO y))) zz1 (fun _ => rfl) (fun _ => qij) (n := 600) (by
 rintro ⟨c, k, d⟩ ⟨(h1 : c.length <= 100000), h2, (h3 : k.length <= 50000), (h4 : d.length <= 100000)⟩
 (conv => whnf)
 refine ⟨⟨(0 : Nat), Nat.zero_le _, ?_⟩, ?_⟩
 · repeat' (first | exact trivial | exact rfl | ((conv => whnf); first | refine brI (fun _ => ?_) fun _ => ?_ | refine And.intro ?_ ?_))
 intro (x : Nat) hx; have hx : x <= k.length := hx; have hlen := List.length_filter_le (qds ⟨c, k, d⟩) (k.take x); rw [List.length_take] at hlen
 (conv => whnf)
 refine brI (fun hlt => ?_) fun hge => ?_
 · have hlt' : x < k.length := qad hlt; have hf := qkE (p := qds ⟨c, k, d⟩) hlt'; have mu : k.length - (x + 1) < k.length - x := by omega
   have hz : ((k.take x).filter (qds ⟨c, k, d⟩)).length + 1 <= 60000 := by omega
   (conv => whnf)
   refine so_iff.2 ⟨_, qax hlt', ?_⟩
   (conv => whnf)
   refine br_iff.2 ⟨fun h5 => ?ga, fun h5 => ?gb⟩
   case' ga =>
    have h5 : (k[x].kind == 1) = true := h5
    (conv => whnf)
    refine so_iff.2 ⟨_, qax hlt', ?_⟩
    (conv => whnf)
    refine ⟨(d, k[x].dot), ?_⟩
    repeat ((conv => whnf); first | refine ⟨rfl, ?_⟩ | refine ⟨trivial, ?_⟩)
    refine ⟨by show d.length <= 1000000; omega, ?_⟩
    (conv => whnf)
    refine br_iff.2 ⟨fun h6 => ?gc, fun h6 => ?gd⟩
    case gc =>
     have h6 : (!decide (k[x].dot ∈ d)) = true := h6; have hA : qds ⟨c, k, d⟩ k[x] = true := by simp only [qds, h5, h6, Bool.and_self]
     simp only [hA, if_true] at hf
     (conv => whnf)
     refine so_iff.2 ⟨_, qax hlt', ?_⟩
     (conv => whnf)
     refine ⟨k[x], rfl, ?_⟩
     (conv => whnf)
     refine ck_iff.2 ⟨apE _ hz, ?_⟩
     (conv => whnf)
     refine ck_iff.2 ⟨qam x (by omega), ?_⟩
     (conv => whnf)
     refine ⟨(x + 1 : Nat), hlt', mu, ?_⟩
     repeat' (first | exact trivial | exact rfl | ((conv => whnf); first | refine brI (fun _ => ?_) fun _ => ?_ | refine And.intro ?_ ?_))
     all_goals ((conv => whnf); rw [hf])
    case' gd =>
     have h6 : (!decide (k[x].dot ∈ d)) = false := h6; have hA : qds ⟨c, k, d⟩ k[x] = false := by simp only [qds, h6, Bool.and_false]
   case' gb =>
    have h5 : (k[x].kind == 1) = false := h5; have hA : qds ⟨c, k, d⟩ k[x] = false := by simp only [qds, h5, Bool.false_and]
   all_goals
    simp only [hA, Bool.false_eq_true, if_false, List.append_nil] at hf
    (conv => whnf)
    refine ck_iff.2 ⟨qam x (by omega), ?_⟩
    (conv => whnf)
    refine ⟨(x + 1 : Nat), hlt', mu, ?_⟩
    repeat' (first | exact trivial | exact rfl | ((conv => whnf); first | refine brI (fun _ => ?_) fun _ => ?_ | refine And.intro ?_ ?_))
    all_goals ((conv => whnf); rw [hf])
 · (conv => whnf)
   refine ⟨by rw [qn3 (qbf hge)]; rfl, ?_⟩
   repeat' (first | exact trivial | exact rfl | ((conv => whnf); first | refine brI (fun _ => ?_) fun _ => ?_ | refine And.intro ?_ ?_)))
noncomputable def qsc (f : FuncId) : Option Con := bif Nat.beq f zz63 then some qnz else qpY f
theorem qlG : ∀ g C, qsc g = some C -> CO g C := qab qqG qij
theorem quw : CO zz94 qtS := qae (cfg := fun y => cfgE qsc (qaL zz94 4 (qvK y))) zz1 (fun _ => rfl) (fun _ => qlG) (n := 600) (by
 rintro ⟨m, k⟩ (hm : okM m); have hal := qeD hm
 (conv => whnf)
 refine ⟨m, ?_⟩
 repeat ((conv => whnf); first | refine ⟨rfl, ?_⟩ | refine ⟨trivial, ?_⟩)
 refine ⟨hm, ?_⟩
 (conv => whnf)
 refine ⟨⟨(0 : Nat), Nat.zero_le _, ?_⟩, ?_⟩
 · repeat' (first | exact trivial | exact rfl | ((conv => whnf); first | refine brI (fun _ => ?_) fun _ => ?_ | refine And.intro ?_ ?_))
 intro (x : Nat) hx; have hx : x <= (qaj m).length := hx; have hlen := qry (l := qaj m) (x := x) (p := fun e : CEvent => decide (e.key = k))
 (conv => whnf)
 refine brI (fun hlt => ?_) fun hge => ?_
 · have hlt' : x < (qaj m).length := qad hlt; have hf := qkE (p := fun e : CEvent => decide (e.key = k)) hlt'; have mu : (qaj m).length - (x + 1) < (qaj m).length - x := by omega
   have hz : (((qaj m).take x).filter fun e : CEvent => decide (e.key = k)).length + 1 <= 60000 := by omega
   (conv => whnf)
   refine so_iff.2 ⟨_, qax hlt', ?_⟩
   (conv => whnf)
   refine brI (fun h => ?_) fun h => ?_
   · have h : decide ((qaj m)[x].key = k) = true := by rw [qiy] at h; exact h
     simp only [h, if_true] at hf
     (conv => whnf)
     refine so_iff.2 ⟨_, qax hlt', ?_⟩
     (conv => whnf)
     refine ⟨(qaj m)[x], rfl, ?_⟩
     (conv => whnf)
     refine ck_iff.2 ⟨apE _ hz, ?_⟩
     (conv => whnf)
     refine ck_iff.2 ⟨qam x (by omega), ?_⟩
     (conv => whnf)
     refine ⟨(x + 1 : Nat), hlt', mu, ?_⟩
     repeat' (first | exact trivial | exact rfl | ((conv => whnf); first | refine brI (fun _ => ?_) fun _ => ?_ | refine And.intro ?_ ?_))
     all_goals ((conv => whnf); rw [hf])
   · have h : decide ((qaj m)[x].key = k) = false := by rw [qiy] at h; exact h
     simp only [h, Bool.false_eq_true, if_false, List.append_nil] at hf
     (conv => whnf)
     refine ck_iff.2 ⟨qam x (by omega), ?_⟩
     (conv => whnf)
     refine ⟨(x + 1 : Nat), hlt', mu, ?_⟩
     repeat' (first | exact trivial | exact rfl | ((conv => whnf); first | refine brI (fun _ => ?_) fun _ => ?_ | refine And.intro ?_ ?_))
     all_goals ((conv => whnf); rw [hf])
 · (conv => whnf)
   refine ⟨by rw [qn3 (qbf hge)]; rfl, ?_⟩
   repeat' (first | exact trivial | exact rfl | ((conv => whnf); first | refine brI (fun _ => ?_) fun _ => ?_ | refine And.intro ?_ ?_)))
noncomputable def qpZ (f : FuncId) : Option Con := bif Nat.beq f zz94 then some qtS else qsc f
theorem qik : ∀ g C, qpZ g = some C -> CO g C := qab quw qlG
theorem qsK : CO zz80 qro := qae (cfg := fun y => cfgE qpZ (qaL zz80 4 (qtC y))) zz1 (fun _ => rfl) (fun _ => qik) (n := 600) (by
 rintro ⟨m, k⟩ (hm : okM m); have hkl := qgM hm k
 (conv => whnf)
 refine ⟨(m, k), ?_⟩
 repeat ((conv => whnf); first | refine ⟨rfl, ?_⟩ | refine ⟨trivial, ?_⟩)
 refine ⟨hm, ?_⟩
 (conv => whnf)
 refine ⟨⟨(0 : Nat), Nat.zero_le _, ?_⟩, ?_⟩
 · repeat' (first | exact trivial | exact rfl | ((conv => whnf); first | refine brI (fun _ => ?_) fun _ => ?_ | refine And.intro ?_ ?_))
 intro (x : Nat) hx; have hx : x <= (keyM m k).length := hx
 (conv => whnf)
 refine brI (fun hlt => ?_) fun hge => ?_
 · have hlt' : x < (keyM m k).length := qad hlt; have hf := qgc (fun e : CEvent => e.dot) hlt'
   (conv => whnf)
   refine so_iff.2 ⟨_, qax hlt', ?_⟩
   (conv => whnf)
   refine ⟨(keyM m k)[x].dot, rfl, ?_⟩
   (conv => whnf)
   refine ck_iff.2 ⟨apD _ (by simp; omega), ?_⟩
   (conv => whnf)
   refine ck_iff.2 ⟨qam x (by omega), ?_⟩
   (conv => whnf)
   refine ⟨(x + 1 : Nat), hlt', by show (keyM m k).length - (x + 1) < (keyM m k).length - x; omega, ?_⟩
   repeat' (first | exact trivial | exact rfl | ((conv => whnf); first | refine brI (fun _ => ?_) fun _ => ?_ | refine And.intro ?_ ?_))
   all_goals ((conv => whnf); rw [hf])
 · have hge' : (keyM m k).length <= x := qbw hge
   (conv => whnf)
   refine ⟨by rw [List.take_of_length_le hge']; rfl, ?_⟩
   repeat' (first | exact trivial | exact rfl | ((conv => whnf); first | refine brI (fun _ => ?_) fun _ => ?_ | refine And.intro ?_ ?_)))
theorem qgl {l : List CEvent} {x : Nat} (h : x < l.length) : winL (l.take (x + 1)) = some (match winL (l.take x) with | none => l[x] | some y => if qa3 l[x].stamp y.stamp then y else l[x]) := by
 unfold winL; rw [qb7 _ _ h]; generalize (l.take x).foldl _ none = b
 cases b with
 | none => rfl
 | some y => simp only; split <;> rfl
theorem qfG {l : List CEvent} {x : Nat} (h0 : 0 < x) (h : x <= l.length) : ∃ y, winL (l.take x) = some y := by
 obtain ⟨k, rfl⟩ : ∃ k, x = k + 1 := ⟨x - 1, by omega⟩; exact ⟨_, qgl (by omega)⟩
theorem qoH : CO zz52 qln := qae (cfg := fun y => cfgE qpZ (qaL zz52 4 (qpq y))) zz1 (fun _ => rfl) (fun _ => qik) (n := 600) (by
 rintro ⟨m, k⟩ (hm : okM m); have hkl := qgM hm k
 (conv => whnf)
 refine ⟨(m, k), ?_⟩
 repeat ((conv => whnf); first | refine ⟨rfl, ?_⟩ | refine ⟨trivial, ?_⟩)
 refine ⟨hm, ?_⟩
 (conv => whnf)
 refine ⟨⟨(0 : Nat), Nat.zero_le _, ?_⟩, ?_⟩
 · repeat' (first | exact trivial | exact rfl | ((conv => whnf); first | refine brI (fun _ => ?_) fun _ => ?_ | refine And.intro ?_ ?_))
 intro (x : Nat) hx; have hx : x <= (keyM m k).length := hx
 (conv => whnf)
 refine brI (fun hlt => ?_) fun hge => ?_
 · have hlt' : x < (keyM m k).length := qad hlt; have hn := qgl hlt'; have mu : (keyM m k).length - (x + 1) < (keyM m k).length - x := by omega
   (conv => whnf)
   refine br_iff.2 ⟨fun h0 => ?ga, fun h0 => ?gb⟩
   case' ga =>
    have h0 : x = 0 := by
      have h0 : ((x : Int) == 0) = true := h0; simpa using h0
    have hw : (winL ((keyM m k).take (x + 1))).getD qb1 = (keyM m k)[x] := by rw [hn]; subst h0; rfl
   case' gb =>
    have h0 : 0 < x := by
      have h0 : ((x : Int) == 0) = false := h0; simp at h0; omega
    obtain ⟨y, hy⟩ := qfG h0 hx; have hgd : (winL ((keyM m k).take x)).getD qb1 = y := by rw [hy]; rfl
    rw [hy] at hn
    (conv => whnf)
    refine so_iff.2 ⟨_, qax hlt', ?_⟩
    (conv => whnf)
    refine ⟨((keyM m k)[x].stamp, ((winL ((keyM m k).take x)).getD qb1).stamp), ?_⟩
    repeat ((conv => whnf); first | refine ⟨rfl, ?_⟩ | refine ⟨trivial, ?_⟩)
    (conv => whnf)
    refine br_iff.2 ⟨fun h1 => ?gc, fun h1 => ?gd⟩
    case' gc =>
      have h1 : qa3 (keyM m k)[x].stamp y.stamp = false := by
       have h1 : (!qa3 (keyM m k)[x].stamp ((winL ((keyM m k).take x)).getD qb1).stamp) = true := h1; rw [hgd] at h1; simpa using h1
      have hw : (winL ((keyM m k).take (x + 1))).getD qb1 = (keyM m k)[x] := by rw [hn]; simp [h1]
    case gd =>
      have h1 : qa3 (keyM m k)[x].stamp y.stamp = true := by
       have h1 : (!qa3 (keyM m k)[x].stamp ((winL ((keyM m k).take x)).getD qb1).stamp) = false := h1; rw [hgd] at h1; simpa using h1
      have hw : (winL ((keyM m k).take (x + 1))).getD qb1 = (winL ((keyM m k).take x)).getD qb1 := by rw [hn, hgd]; simp [h1]
      (conv => whnf)
      refine ck_iff.2 ⟨qam x (by omega), ?_⟩
      (conv => whnf)
      refine ⟨(x + 1 : Nat), hlt', mu, ?_⟩
      repeat' (first | exact trivial | (with_reducible exact rfl) | ((conv => whnf); first | refine brI (fun _ => ?_) fun _ => ?_ | refine And.intro ?_ ?_))
      all_goals first | exact rfl | (rw [hw]; exact rfl)
   all_goals
    (conv => whnf)
    refine so_iff.2 ⟨_, qax hlt', ?_⟩
    (conv => whnf)
    refine ck_iff.2 ⟨qam x (by omega), ?_⟩
    (conv => whnf)
    refine ⟨(x + 1 : Nat), hlt', mu, ?_⟩
    repeat' (first | exact trivial | (with_reducible exact rfl) | ((conv => whnf); first | refine brI (fun _ => ?_) fun _ => ?_ | refine And.intro ?_ ?_))
    all_goals first | exact rfl | (rw [hw]; exact rfl)
 · have hge' : (keyM m k).length <= x := qbw hge; have e : (keyM m k).take x = keyM m k := List.take_of_length_le hge'; have h2 : ltI 0 (Int.ofNat (keyM m k).length) = (winL (keyM m k)).isSome := by
    rw [qan, Bool.eq_iff_iff, decide_eq_true_eq]; constructor
    · intro h; obtain ⟨y, hy⟩ := qfG (l := keyM m k) (x := (keyM m k).length) (by simp only [Int.ofNat_eq_natCast] at h; omega) (Nat.le_refl _); rw [List.take_length] at hy; rw [hy]; rfl
    · intro h
      cases hk : keyM m k with
      | nil => rw [hk] at h; cases h
      | cons a l => simp <;> omega
   repeat' (first | exact trivial | (with_reducible exact rfl) | ((conv => whnf); first | refine brI (fun _ => ?_) fun _ => ?_ | refine And.intro ?_ ?_))
   all_goals first | exact rfl | exact h2 | (rw [e]; done) | (rw [e]; exact rfl))
noncomputable def qp0 (f : FuncId) : Option Con := bif Nat.beq f zz52 then some qln else bif Nat.beq f zz80 then some qro else qpZ f
theorem qil : ∀ g C, qp0 g = some C -> CO g C := qab qoH (qab qsK qik)
end Go.Proofs
set_option maxHeartbeats 1000000
namespace Go.Proofs
open Go Go.Am Go.RowKit Go.Sy Go.Gm
section
variable {K V : Type} [DecidableEq K]
theorem getL_none {L : List (K × V)} {k : K} : getL L k = none ↔ k ∉ L.map (·.1) := by
 unfold getL; rw [Option.map_eq_none_iff, List.find?_eq_none]; constructor
 · rintro h hm; obtain ⟨x, hx, rfl⟩ := List.mem_map.1 hm; exact h x hx (by simp)
 · rintro h x hx he; exact h (List.mem_map.2 ⟨x, hx, (of_decide_eq_true he).symm⟩)
theorem qbx {L : List (K × V)} {k : K} {v : V} (h : getL L k = some v) : (k, v) ∈ L := by
 unfold getL at h; obtain ⟨x, hx, rfl⟩ := Option.map_eq_some_iff.1 h; have h1 := List.find?_some hx; have h2 := List.mem_of_find?_eq_some hx; have : k = x.1 := of_decide_eq_true h1; subst this; exact h2
theorem qkO {k : K} {u v : V} : ∀ {L : List (K × V)}, (L.map (·.1)).Nodup -> (k, u) ∈ L -> (k, v) ∈ L -> u = v
 | [], _, h, _ => by cases h
 | y :: L, hn, h1, h2 => by
  rw [List.map_cons, List.nodup_cons] at hn; rcases List.mem_cons.1 h1 with h1 | h1 <;> rcases List.mem_cons.1 h2 with h2 | h2
  · rw [<- h1, Prod.mk.injEq] at h2; exact h2.2.symm
  · exact absurd (List.mem_map.2 ⟨_, h2, by rw [<- h1]⟩) hn.1
  · exact absurd (List.mem_map.2 ⟨_, h1, by rw [<- h2]⟩) hn.1
  · exact qkO hn.2 h1 h2
theorem qiv {L : List (K × V)} {k : K} {v : V} (hn : (L.map (·.1)).Nodup) : getL L k = some v ↔ (k, v) ∈ L := by
 refine ⟨qbx, fun h => ?_⟩
 cases e : getL L k with
 | none => exact absurd (List.mem_map.2 ⟨(k, v), h, rfl⟩) (getL_none.1 e)
 | some u => rw [qkO hn (qbx e) h]
theorem qb6 (k : K) : getL ([] : List (K × V)) k = none := rfl
theorem qdH (x : K × V) (L : List (K × V)) (k : K) : getL (x :: L) k = if k = x.1 then some x.2 else getL L k := by
 unfold getL; rw [List.find?_cons]; by_cases h : k = x.1 <;> simp [h]
theorem qkH (L M : List (K × V)) (k : K) : getL (L ++ M) k = (getL L k).or (getL M k) := by
 unfold getL; rw [List.find?_append]
 cases List.find? (fun x : K × V => decide (k = x.1)) L <;> simp
theorem qaR (L : List (K × V)) (k k' : K) (v : V) : getL (qaq L k v) k' = if k' = k then some v else getL L k' := by
 have key : ∀ L : List (K × V), getL (L.map fun x => if k = x.1 then (k, v) else x) k' = if k' = k then (if k ∈ L.map (·.1) then some v else none) else getL L k' := by
   intro L; induction L with
   | nil => simp [qb6]
   | cons x L ih =>
     rw [List.map_cons, qdH, qdH, ih, List.map_cons]; by_cases h1 : k = x.1
     · by_cases h2 : k' = k
       · rw [if_pos h1]; simp only [h2, if_true]; rw [if_pos (by rw [h1]; exact List.mem_cons_self)]
       · have h3 : ¬ k' = x.1 := fun e => h2 (e.trans h1.symm)
         rw [if_pos h1]; simp only [if_neg h2, if_neg h3]
     · by_cases h2 : k' = k
       · rw [if_neg h1]; have h3 : ¬ k' = x.1 := fun e => h1 (h2.symm.trans e)
         simp only [if_pos h2, if_neg h3, List.mem_cons, h1, false_or]
       · rw [if_neg h1]; simp only [if_neg h2]
 unfold qaq; split
 · rename_i hm; rw [key, if_pos hm]
 · rename_i hm; rw [qkH, qdH, qb6]; by_cases h2 : k' = k
   · rw [if_pos h2, if_pos h2, h2, getL_none.2 hm]; rfl
   · rw [if_neg h2, if_neg h2]; cases getL L k' <;> rfl
theorem qiu (L : List (K × V)) (k k' : K) : getL (delL L k) k' = if k' = k then none else getL L k' := by
 unfold delL getL; rw [List.find?_filter]; by_cases h : k' = k
 · rw [if_pos h, Option.map_eq_none_iff, List.find?_eq_none]; intro x hx; simp [h]
 · rw [if_neg h]; congr 2
   funext x
   by_cases e : k' = x.1
   · have : ¬ k = x.1 := fun e2 => h (e.trans e2.symm)
     simp [e, this]
   · simp [e]
theorem qkT {L : List (K × V)} {k : K} (h : getL L k = none) (v : V) : (qaq L k v).length = L.length + 1 := by
 unfold qaq; rw [if_neg (getL_none.1 h)]; simp
theorem ql4 {L : List (K × V)} {k : K} : k ∈ L.map (·.1) ↔ (getL L k).isSome = true := by
 rw [Option.isSome_iff_ne_none, ne_eq, getL_none, Decidable.not_not]
end
abbrev DL := List (CDot × Int)
structure GMap where
 kept : List (CDot × (Value × CEvent))
 alive : List (CKey × (Nat × DL))
 dead : DL
 vec : List ((Int × Int) × Int)
def qjA (A : List (CKey × (Nat × DL))) (nb : Nat) (k : CKey) (d : CDot) : List (CKey × (Nat × DL)) :=
 match getL A k with
 | none => qaq A k (nb, [(d, 1)])
 | some x => qaq A k (x.1, qaq x.2 d 1)
def qhq (A : List (CKey × (Nat × DL))) (k : CKey) (d : CDot) : List (CKey × (Nat × DL)) :=
 match getL A k with
 | none => A
 | some x => if delL x.2 d = [] then delL A k else qaq A k (x.1, delL x.2 d)
def qdK (G : GMap) (d : CDot) : GMap := { G with dead := qaq G.dead d 1, alive := match getL G.kept d with
 | some x => if x.2.kind = 1 then qhq G.alive x.2.key d else G.alive
 | none => G.alive }
def qbZ (G : GMap) (e : CEvent) (v : Value) : GMap := { G with vec := qaq G.vec (e.dot.dev, e.dot.inc) e.dot.seq, kept := qaq G.kept e.dot (v, e) }
def qcx (G : GMap) (e : CEvent) (nb : Nat) : GMap := if e.kind = 1 /\ getL G.dead e.dot = none then { G with alive := qjA G.alive nb e.key e.dot } else G
def qcw (G : GMap) (l : List CDot) : GMap := l.foldl qdK G
def isAl (A : List (CKey × (Nat × DL))) (k : CKey) (d : CDot) : Prop := ∃ x, getL A k = some x /\ (getL x.2 d).isSome = true
def qmQ (A : List (CKey × (Nat × DL))) : Prop := ∀ k x, getL A k = some x -> x.2 ≠ []
theorem qol {A : List (CKey × (Nat × DL))} {nb : Nat} {k k' : CKey} {d d' : CDot} : isAl (qjA A nb k d) k' d' ↔ isAl A k' d' \/ (k' = k /\ d' = d) := by
 unfold isAl qjA
 cases e : getL A k with
 | none =>
  simp only [qaR]; by_cases h : k' = k
  · subst h; by_cases h2 : d' = d
    · subst h2; simp [e, qb6, qdH]
    · simp [e, qb6, qdH, h2]
  · simp [h]
 | some x =>
  simp only [qaR]; by_cases h : k' = k
  · subst h; by_cases h2 : d' = d
    · subst h2; simp [qaR]
    · simp [e, qaR, h2]
  · simp [h]
theorem quK {K V : Type} [DecidableEq K] (L : List (K × V)) (k : K) (v : V) : qaq L k v ≠ [] := by
 intro e; have := qaR L k k v; rw [e, qb6] at this; simp at this
theorem qod {A : List (CKey × (Nat × DL))} {nb : Nat} {k : CKey} {d : CDot} (h : qmQ A) : qmQ (qjA A nb k d) := by
 intro k' x hx; unfold qjA at hx; split at hx
 · rw [qaR] at hx; split at hx
   · cases hx; simp
   · exact h k' x hx
 · rw [qaR] at hx; split at hx
   · cases hx; exact quK _ _ _
   · exact h k' x hx
theorem qok {A : List (CKey × (Nat × DL))} {k k' : CKey} {d d' : CDot} : isAl (qhq A k d) k' d' ↔ isAl A k' d' /\ ¬ (k' = k /\ d' = d) := by
 unfold isAl qhq
 cases e : getL A k with
 | none =>
  simp only; by_cases h : k' = k
  · subst h; simp [e]
  · simp [h]
 | some x =>
  have hdel := qiu x.2 d d'; simp only; split
  · rename_i hnil; rw [qiu]; by_cases h : k' = k
    · subst h; simp only [if_true, e]; rw [hnil] at hdel; by_cases h2 : d' = d
      · simp [h2]
      · rw [if_neg h2] at hdel; simp [h2, <- hdel, qb6]
    · simp [h]
  · rw [qaR]; by_cases h : k' = k
    · subst h; simp only [if_true, e]; by_cases h2 : d' = d
      · subst h2; simp [hdel]
      · rw [if_neg h2] at hdel; simp [h2, hdel]
    · simp [h]
theorem qoc {A : List (CKey × (Nat × DL))} {k : CKey} {d : CDot} (h : qmQ A) : qmQ (qhq A k d) := by
 intro k' x hx; unfold qhq at hx; split at hx
 · exact h k' x hx
 · split at hx
   · rw [qiu] at hx; split at hx
     · cases hx
     · exact h k' x hx
   · rename_i hne; rw [qaR] at hx; split at hx
     · cases hx; exact hne
     · exact h k' x hx
structure Alv (kept : List (CDot × (Value × CEvent))) (dead : CDot -> Prop) (A : List (CKey × (Nat × DL))) : Prop where
 al : ∀ k d, isAl A k d ↔ ∃ x, getL kept d = some x /\ x.2.kind = 1 /\ x.2.key = k /\ ¬ dead d
 full : qmQ A
theorem Alv.kill {G : GMap} {d : CDot} (h : Alv G.kept (fun x => (getL G.dead x).isSome = true) G.alive) : Alv (qdK G d).kept (fun x => (getL (qdK G d).dead x).isSome = true) (qdK G d).alive := by
 have hdead : ∀ x, (getL (qdK G d).dead x).isSome = true ↔ (getL G.dead x).isSome = true \/ x = d := fun x => by
   show (getL (qaq G.dead d 1) x).isSome = true ↔ _
   rw [qaR]; by_cases e : x = d <;> simp [e]
 refine ⟨fun k d' => ?_, ?_⟩
 · show isAl (match getL G.kept d with | some x => if x.2.kind = 1 then qhq G.alive x.2.key d else G.alive | none => G.alive) k d' ↔ ∃ x, getL G.kept d' = some x /\ _
   simp only [hdead]
   cases e : getL G.kept d with
   | none =>
     simp only [h.al]; constructor
     · rintro ⟨x, h1, h2, h3, h4⟩; exact ⟨x, h1, h2, h3, fun hh => hh.elim h4 fun e2 => by subst e2; rw [e] at h1; cases h1⟩
     · rintro ⟨x, h1, h2, h3, h4⟩; exact ⟨x, h1, h2, h3, fun hh => h4 (.inl hh)⟩
   | some y =>
     simp only; split
     · rename_i hk; rw [qok, h.al]; constructor
       · rintro ⟨⟨x, h1, h2, h3, h4⟩, h5⟩; exact ⟨x, h1, h2, h3, fun hh => hh.elim h4 fun e2 => by subst e2; rw [e] at h1; cases h1; exact h5 ⟨h3.symm, rfl⟩⟩
       · rintro ⟨x, h1, h2, h3, h4⟩; exact ⟨⟨x, h1, h2, h3, fun hh => h4 (.inl hh)⟩, fun hh => h4 (.inr hh.2)⟩
     · rename_i hk; rw [h.al]; constructor
       · rintro ⟨x, h1, h2, h3, h4⟩; exact ⟨x, h1, h2, h3, fun hh => hh.elim h4 fun e2 => by subst e2; rw [e] at h1; cases h1; exact hk h2⟩
       · rintro ⟨x, h1, h2, h3, h4⟩; exact ⟨x, h1, h2, h3, fun hh => h4 (.inl hh)⟩
 · show qmQ (match getL G.kept d with | some x => if x.2.kind = 1 then qhq G.alive x.2.key d else G.alive | none => G.alive)
   split
   · split
     · exact qoc h.full
     · exact h.full
   · exact h.full
theorem Alv.kills {l : List CDot} {G : GMap} (h : Alv G.kept (fun x => (getL G.dead x).isSome = true) G.alive) : Alv (qcw G l).kept (fun x => (getL (qcw G l).dead x).isSome = true) (qcw G l).alive := by
 induction l generalizing G with
 | nil => exact h
 | cons d l ih => exact ih h.kill
theorem qmW (l : List CDot) (G : GMap) : (qcw G l).kept = G.kept /\ (qcw G l).vec = G.vec := by
 induction l generalizing G with
 | nil => exact ⟨rfl, rfl⟩
 | cons d l ih => exact ih (qdK G d)
theorem qmV (l : List CDot) (G : GMap) (x : CDot) : (getL (qcw G l).dead x).isSome = true ↔ (getL G.dead x).isSome = true \/ x ∈ l := by
 induction l generalizing G with
 | nil => simp [qcw]
 | cons d l ih =>
  have h := ih (qdK G d); have hd : (getL (qdK G d).dead x).isSome = true ↔ (getL G.dead x).isSome = true \/ x = d := by
   show (getL (qaq G.dead d 1) x).isSome = true ↔ _
   rw [qaR]; by_cases e : x = d <;> simp [e]
  show (getL (qcw (qdK G d) l).dead x).isSome = true ↔ _
  rw [h, hd, List.mem_cons, or_assoc]
def qdm (L : List ((Int × Int) × Int)) (a i : Int) : Int := (getL L (a, i)).getD 0
structure GRel (G : GMap) (m : CMap) : Prop where
 vec : ∀ a i, qdm G.vec a i = getM m.ctx a i
 kept : ∀ e : CEvent, e ∈ m.kept ↔ ∃ v, getL G.kept e.dot = some (v, e)
 keys : ∀ d x, getL G.kept d = some x -> x.2.dot = d
 len : G.kept.length = m.kept.length
 sorted : m.kept.Pairwise fun x y => qac x.dot y.dot = true
 ctx : ∀ e ∈ m.kept, hasM m.ctx e.dot = true
 dead : ∀ d, (getL G.dead d).isSome = true ↔ d ∈ m.dead
 alv : Alv G.kept (fun x => (getL G.dead x).isSome = true) G.alive
theorem qvz : GRel ⟨[], [], [], []⟩ qdu := by
 refine ⟨fun _ _ => rfl, fun e => ?_, fun d x h => (by cases h), rfl, List.Pairwise.nil, fun e h => (by cases h), fun d => ?_, ⟨fun k d => ?_, fun k x h => (by cases h)⟩⟩
 · simp [qdu, qb6]
 · simp [qdu, qb6]
 · simp [isAl, qb6]
theorem sameA_iff {x : CDot} {a i : Int} : qbs x a i = true ↔ x.dev = a /\ x.inc = i := by
 unfold qbs; simp
theorem qrL {a i n a' i' : Int} (h : ¬ (a' = a /\ i' = i)) : ∀ (l : List CDot) (s : List CDot × Bool), (l.foldl (qaA a i n) s).1.find? (fun x => qbs x a' i') = (s.1.find? fun x => qbs x a' i').or (l.find? fun x => qbs x a' i')
 | [], s => by simp
 | x :: l, s => by
  have hn : qbs ⟨a, i, n⟩ a' i' = false := Bool.eq_false_iff.2 fun e => h (by have := sameA_iff.1 e; exact ⟨this.1.symm, this.2.symm⟩)
  rw [List.foldl_cons, qrL h l, List.find?_cons]; have hx : qbs x a i = true -> qbs x a' i' = false := fun e => Bool.eq_false_iff.2 fun e2 => h (by have h1 := sameA_iff.1 e; have h2 := sameA_iff.1 e2; exact ⟨h2.1.symm.trans h1.1, h2.2.symm.trans h1.2⟩)
  unfold qaA
  cases e1 : (!s.2 && !qdr x a i) <;> cases e2 : qbs x a i <;> simp only [cond_true, cond_false, List.find?_append, List.find?_cons, List.find?_nil, hn, Option.or_none]
  · cases e3 : qbs x a' i' <;> simp
  · rw [hx e2]
  · cases e3 : qbs x a' i' <;> simp
  · rw [hx e2]
theorem qrK {a i n : Int} : ∀ (l : List CDot) (s : List CDot × Bool), (s.1.find? fun x => qbs x a i) = (if s.2 = true then some ⟨a, i, n⟩ else none) -> ((l.foldl (qaA a i n) s).1.find? fun x => qbs x a i) = if (l.foldl (qaA a i n) s).2 = true then some ⟨a, i, n⟩ else none
 | [], s, h => h
 | x :: l, s, h => by
  rw [List.foldl_cons]; refine qrK l _ ?_; have hn : qbs ⟨a, i, n⟩ a i = true := sameA_iff.2 ⟨rfl, rfl⟩; unfold qaA
  cases e0 : s.2 <;> cases e1 : qdr x a i <;> cases e2 : qbs x a i <;> simp only [e0, Bool.false_eq_true, if_false, if_true] at h <;> simp only [Bool.not_false, Bool.not_true, Bool.and_true, Bool.and_false, Bool.true_and, Bool.false_and, cond_true, cond_false, e0, if_true, if_false, Bool.false_eq_true, List.find?_append, h, List.find?_cons, hn, e2, List.find?_nil, Option.none_or, Option.some_or, Option.or_none]
theorem qmh (l : List CDot) (a i n : Int) : setM l a i n = bif (l.foldl (qaA a i n) ([], false)).2 then (l.foldl (qaA a i n) ([], false)).1 else (l.foldl (qaA a i n) ([], false)).1 ++ [⟨a, i, n⟩] := rfl
theorem qlT (l : List CDot) (a i n a' i' : Int) : getM (setM l a i n) a' i' = if a' = a /\ i' = i then n else getM l a' i' := by
 have hn : qbs ⟨a, i, n⟩ a i = true := sameA_iff.2 ⟨rfl, rfl⟩; split
 · rename_i h; obtain ⟨rfl, rfl⟩ := h; have h1 := qrK (a := a') (i := i') (n := n) l ([], false) (by simp); unfold getM; rw [qmh]
   cases e : (l.foldl (qaA a' i' n) ([], false)).2
   · rw [e] at h1; simp only [cond_false, List.find?_append, h1, Bool.false_eq_true, if_false, Option.none_or, List.find?_cons, hn]
   · rw [e] at h1; simp only [cond_true, h1, if_true]
 · rename_i h; have h1 := qrL (n := n) h l ([], false); have hn2 : qbs ⟨a, i, n⟩ a' i' = false := Bool.eq_false_iff.2 fun e => h (by have := sameA_iff.1 e; exact ⟨this.1.symm, this.2.symm⟩)
   unfold getM; rw [qmh]; simp only [List.find?_nil, Option.none_or] at h1
   cases e : (l.foldl (qaA a i n) ([], false)).2
   · simp only [cond_false, List.find?_append, h1, List.find?_cons, hn2, List.find?_nil, Option.or_none]
   · simp only [cond_true, h1]
section
variable {α : Type} {less : α -> α -> Bool}
theorem qq9 (l : List α) (e : α) : l.take (posL less l e) = l.takeWhile fun x => less x e := by
 unfold posL; conv => lhs; rw [<- List.takeWhile_append_dropWhile (p := fun x => less x e) (l := l)]
 rw [List.take_left']; simp
theorem qp6 (l : List α) (e : α) : l.drop (posL less l e) = l.dropWhile fun x => less x e := by
 unfold posL; conv => lhs; arg 2; rw [<- List.takeWhile_append_dropWhile (p := fun x => less x e) (l := l)]
 rw [List.drop_left']; simp
theorem qfu (htr : ∀ x y z, less x y = true -> less y z = true -> less x z = true) {e : α} : ∀ {l : List α}, l.Pairwise (fun x y => less x y = true) -> (∀ x ∈ l, less x e = true \/ less e x = true) -> (l.take (posL less l e) ++ e :: l.drop (posL less l e)).Pairwise fun x y => less x y = true := by
 intro l hl ht; rw [qq9, qp6]; induction l with
 | nil => simp
 | cons x l ih =>
  rw [List.pairwise_cons] at hl; rw [List.takeWhile_cons, List.dropWhile_cons]; by_cases h : less x e = true
  · simp only [h, if_true, List.cons_append, List.pairwise_cons]; refine ⟨fun y hy => ?_, ih hl.2 fun y hy => ht y (List.mem_cons_of_mem _ hy)⟩; rcases List.mem_append.1 hy with hy | hy
    · exact hl.1 y (List.takeWhile_subset _ hy)
    · rcases List.mem_cons.1 hy with rfl | hy
      · exact h
      · exact hl.1 y (List.dropWhile_subset _ hy)
  · simp only [h, if_false, List.nil_append, List.pairwise_cons, Bool.false_eq_true]; have h1 : less e x = true := (ht x List.mem_cons_self).resolve_left h; refine ⟨fun y hy => ?_, hl⟩; rcases List.mem_cons.1 hy with rfl | hy
    · exact h1
    · exact htr _ _ _ h1 (hl.1 y hy)
theorem qkM (l : List α) (e x : α) : x ∈ l.take (posL less l e) ++ e :: l.drop (posL less l e) ↔ x ∈ l \/ x = e := by
 conv => rhs; lhs; rw [<- List.take_append_drop (posL less l e) l]
 simp only [List.mem_append, List.mem_cons]; constructor
 · rintro (h | h | h)
   · exact .inl (.inl h)
   · exact .inr h
   · exact .inl (.inr h)
 · rintro ((h | h) | h)
   · exact .inl h
   · exact .inr (.inr h)
   · exact .inr (.inl h)
theorem qqx [DecidableEq α] (l : List α) (e x : α) : x ∈ insL less l e ↔ x ∈ l \/ x = e := by
 unfold insL; split
 · rename_i h; refine ⟨.inl, fun hh => hh.elim id fun hx => ?_⟩; subst hx; exact List.mem_of_getElem? h
 · exact qkM l e x
theorem qoy [DecidableEq α] (l a : List α) (x : α) : x ∈ l.foldl (insL less) a ↔ x ∈ a \/ x ∈ l := by
 induction l generalizing a with
 | nil => simp
 | cons y l ih => rw [List.foldl_cons, ih, qqx, List.mem_cons, or_assoc]
theorem qcY [DecidableEq α] (l : List α) (x : α) : x ∈ qaP less l ↔ x ∈ l := by
 unfold qaP; rw [qoy]; simp
end
variable [Inhabited DrP]
theorem GRel.none {G : GMap} {m : CMap} (h : GRel G m) {e : CEvent} (hh : hasM m.ctx e.dot = false) : getL G.kept e.dot = none := by
 cases he : getL G.kept e.dot with
 | none => rfl
 | some x =>
  have h1 := h.keys _ _ he; have h2 := (h.kept x.2).2 ⟨x.1, by rw [h1, he]⟩; have h3 := h.ctx _ h2; rw [h1, hh] at h3; cases h3
def qgn (G : GMap) (e : CEvent) (v : Value) (nb : Nat) : GMap := qcw (qcx (qbZ G e v) e nb) e.over
theorem qjB (G : GMap) (e : CEvent) (nb : Nat) : (qcx G e nb).kept = G.kept /\ (qcx G e nb).vec = G.vec /\ (qcx G e nb).dead = G.dead := by
 unfold qcx; split <;> exact ⟨rfl, rfl, rfl⟩
theorem Alv.take {G : GMap} {e : CEvent} {v : Value} {nb : Nat} (h : Alv G.kept (fun x => (getL G.dead x).isSome = true) G.alive) (hn : getL G.kept e.dot = none) :
   Alv (qcx (qbZ G e v) e nb).kept (fun x => (getL (qcx (qbZ G e v) e nb).dead x).isSome = true) (qcx (qbZ G e v) e nb).alive := by
 obtain ⟨k1, k2, k3⟩ := qjB (qbZ G e v) e nb; rw [k1, k3]; have hk : ∀ d, getL (qbZ G e v).kept d = if d = e.dot then some (v, e) else getL G.kept d := fun d => qaR _ _ _ _
 have hno : ∀ k, ¬ isAl G.alive k e.dot := fun k hh => by
   obtain ⟨x, hx, _⟩ := (h.al k e.dot).1 hh; rw [hn] at hx; cases hx
 show Alv _ (fun x => (getL G.dead x).isSome = true) _
 unfold qcx; split
 · rename_i hc; have hd : ¬ (getL G.dead e.dot).isSome = true := by
     have := hc.2; rw [show (qbZ G e v).dead = G.dead from rfl] at this; rw [this]; simp
   refine ⟨fun k d => ?_, qod h.full⟩; show isAl (qjA G.alive nb e.key e.dot) k d ↔ _
   rw [qol, hk]; by_cases hd2 : d = e.dot
   · subst hd2; simp only [if_true]; constructor
     · rintro (hh | ⟨hh, _⟩)
       · exact absurd hh (hno k)
       · exact ⟨_, rfl, hc.1, hh.symm, hd⟩
     · rintro ⟨x, hx, _, h3, _⟩
       cases hx; exact .inr ⟨h3.symm, trivial⟩
   · simp only [if_neg hd2, hd2, and_false, or_false]; exact h.al k d
 · rename_i hc; refine ⟨fun k d => ?_, h.full⟩; show isAl G.alive k d ↔ _
   rw [hk]; by_cases hd2 : d = e.dot
   · subst hd2; simp only [if_true]; refine ⟨fun hh => absurd hh (hno k), ?_⟩; rintro ⟨x, hx, h2, _, h4⟩
     cases hx; refine absurd ⟨h2, ?_⟩ hc; show getL G.dead e.dot = none
     cases e5 : getL G.dead e.dot with
     | none => rfl
     | some z => rw [e5] at h4; simp at h4
   · simp only [if_neg hd2]; exact h.al k d
theorem GRel.apply {G : GMap} {m : CMap} {e : CEvent} (h : GRel G m) (v : Value) (nb : Nat) (hr : qa7 e = true) (hh : hasM m.ctx e.dot = false) (hs : getM m.ctx e.dot.dev e.dot.inc + 1 = e.dot.seq) (hk : ¬ 2048 <= m.kept.length) :
   GRel (qgn G e v nb) (qay m e).1 /\ (qay m e).2 = (true, 0) := by
 have hA : qay m e = (⟨setM m.ctx e.dot.dev e.dot.inc e.dot.seq, putK m.kept e, qaP qac (m.dead ++ e.over)⟩, true, 0) := by
   unfold qay; rw [if_neg (by simp [hr]), if_neg (by simp [hh]), if_neg (by simp [hs]), if_neg hk]
 rw [hA]; refine ⟨?_, rfl⟩; have hn := h.none hh; obtain ⟨k1, k2, k3⟩ := qjB (qbZ G e v) e nb; obtain ⟨q1, q2⟩ := qmW e.over (qcx (qbZ G e v) e nb); have hkept : (qgn G e v nb).kept = qaq G.kept e.dot (v, e) := q1.trans k1; have hvec : (qgn G e v nb).vec = qaq G.vec (e.dot.dev, e.dot.inc) e.dot.seq := q2.trans k2; have hput : ∀ x, x ∈ putK m.kept e ↔ x ∈ m.kept \/ x = e := fun x => qkM m.kept e x
 have hdot : ∀ x ∈ m.kept, x.dot ≠ e.dot := fun x hx he => by
   have := h.ctx x hx; rw [he, hh] at this; cases this
 refine ⟨fun a i => ?_, fun x => ?_, fun d x hx => ?_, ?_, ?_, fun x hx => ?_, fun d => ?_, ?_⟩
 · show qdm (qgn G e v nb).vec a i = getM (setM m.ctx e.dot.dev e.dot.inc e.dot.seq) a i
   rw [hvec, qlT]; unfold qdm; rw [qaR]; by_cases hc : a = e.dot.dev /\ i = e.dot.inc
   · rw [if_pos hc, if_pos (by rw [hc.1, hc.2])]; rfl
   · rw [if_neg hc, if_neg (by intro he; rw [Prod.mk.injEq] at he; exact hc he)]; exact h.vec a i
 · show x ∈ putK m.kept e ↔ _
   rw [hput, hkept]; simp only [qaR]; constructor
   · rintro (hx | rfl)
     · rw [if_neg (hdot x hx)]; exact (h.kept x).1 hx
     · exact ⟨v, by simp⟩
   · rintro ⟨u, hu⟩; split at hu
     · cases hu; exact .inr rfl
     · exact .inl ((h.kept x).2 ⟨u, hu⟩)
 · rw [hkept, qaR] at hx; split at hx
   · rename_i he; cases hx; exact he.symm
   · exact h.keys d x hx
 · show (qgn G e v nb).kept.length = (putK m.kept e).length
   rw [hkept, qkT hn, qmd, h.len]
 · show (putK m.kept e).Pairwise _
   refine qfu (less := qiz) (fun x y z => qch) h.sorted fun x hx => ?_
   rcases qeg x.dot e.dot with h1 | h1 | h1
   · exact .inl h1
   · exact absurd h1 (hdot x hx)
   · exact .inr h1
 · have hx : x ∈ putK m.kept e := hx; show hasM (setM m.ctx e.dot.dev e.dot.inc e.dot.seq) x.dot = true
   unfold hasM; rw [qlT]; rcases (hput x).1 hx with hx | rfl
   · have h1 := h.ctx x hx; unfold hasM at h1; rw [Bool.and_eq_true] at h1 ⊢; refine ⟨h1.1, ?_⟩; have h2 := h1.2; rw [qaX, decide_eq_true_eq] at h2 ⊢; split
     · rename_i hc; rw [hc.1, hc.2] at h2; omega
     · exact h2
   · rw [qfa hr, if_pos ⟨rfl, rfl⟩, qaX]; simp
 · show (getL (qcw (qcx (qbZ G e v) e nb) e.over).dead d).isSome = true ↔ d ∈ qaP qac (m.dead ++ e.over)
   rw [qmV, qcY, List.mem_append, k3]; show (getL G.dead d).isSome = true \/ _ ↔ _
   rw [h.dead]
 · exact (h.alv.take hn).kills
end Go.Proofs
