/- An evaluator over abstract values, proved sound over the model's machine; no condition. Part: Draw14. -/
import Derived.Test.YthgcpbkifhnlpaaGreatAmDraw13
set_option linter.unusedSimpArgs false
set_option linter.unusedVariables false
set_option linter.unusedSectionVars false
set_option linter.deprecated false
namespace Go.Am
open Go.RowKit

section
variable {P : Program} {tab : Tab} (ok : TabOK P tab) {sub : FuncId → List AV → AH → R (List (AV × AH))} (hsub : SubOK P tab sub) (hext : ExtOK P tab)
variable {K : Nat → Prop} {base : List Frame}
variable {ops : Array Oper} {fr0 : AFrame} {cs : List AFrame} {k : List AItem} {lo : Nat}

def Fin (P : Program) (fr0 : AFrame) (cs : List AFrame) (k : List AItem) (base : List Frame) (K : Nat → Prop) (lo : Nat) (sF : DS) (D : Nat → Prop) (E : Env) (frC : Frame) (csC : List Frame) (w : World) : Prop :=
  ∃ frC' csC' w' D' E', Steps P (lone frC csC w) (lone frC' csC' w') ∧ Rel D' E' K { fr := { fr0 with tmps := sF.ts, todo := k }, cs, h := sF.h } base frC' csC' w' ∧ Agree D E E' ∧ (∀ i, D i → D' i) ∧ Kept K w w' ∧ (∀ i, D' i → D i ∨ lo ≤ i) ∧ lo ≤ sF.h.next

/-- What the abstract run still does. -/
def Todo (tab : Tab) (sub : FuncId → List AV → AH → R (List (AV × AH))) (ops : Array Oper) (nt : Nat) (s sF : DS) : Prop :=
  (cands s.anc 0 ops.toList = [] ∧ sF = s) ∨ ∃ c o n s2, cands s.anc 0 ops.toList = [(c, o)] ∧ drawEff tab sub ops nt c o s = .ok s2 ∧ drawLoop tab sub ops nt n s2 = .ok sF

theorem loop_todo {nt n : Nat} {s sF : DS} (h : drawLoop tab sub ops nt n s = .ok sF) : ∃ s1, drawPass tab ops nt 0 ops.toList s = .ok s1 ∧ Todo tab sub ops nt s1 sF := by
  cases n with
  | zero => simp only [drawLoop] at h; cases h
  | succ n =>
    simp only [drawLoop] at h
    obtain ⟨s1, h1, h2⟩ := R.bind_ok.1 h
    refine ⟨s1, h1, ?_⟩
    split at h2
    · rename_i hc
      obtain ⟨_, _, h3⟩ := R.bind_ok.1 h2
      cases h3
      exact .inl ⟨hc, rfl⟩
    · rename_i c o hc
      obtain ⟨s2, h3, h4⟩ := R.bind_ok.1 h2
      exact .inr ⟨c, o, n, s2, hc, h3, h4⟩
    · cases h2

include ok hsub hext in
theorem mid (hm : fr0.mode = .run) (hlt : preLt 0 ops.toList = true) : ∀ (fuel t : Nat) (listed : Array Bool) (s sF : DS) (D : Nat → Prop) (E : Env) (tsR : T AV) (hR : AH) (frC : Frame) (csC : List Frame) (w : World),
    listed.size = ops.size → unl ops.size listed ≤ fuel → Todo tab sub ops fr0.nt s sF → DInv tab ops fr0.nt fr0.tmps lo s (Xof listed) →
    RInv ops fr0 cs k base s (Xof listed) D E K tsR hR (Region.linearise.go .any ops fuel t listed []) frC csC w → Fin P fr0 cs k base K lo sF D E frC csC w := by
  -- the end
  have hend : ∀ (listed : Array Bool) (s sF : DS) (D : Nat → Prop) (E : Env) (tsR : T AV) (hR : AH) (frC : Frame) (csC : List Frame) (w : World), (∀ j, j < ops.size → Xof listed j) →
      Todo tab sub ops fr0.nt s sF → DInv tab ops fr0.nt fr0.tmps lo s (Xof listed) → RInv ops fr0 cs k base s (Xof listed) D E K tsR hR [] frC csC w → Fin P fr0 cs k base K lo sF D E frC csC w := by
    intro listed s sF D E tsR hR frC csC w hall htodo H Q
    rcases htodo with ⟨_, rfl⟩ | ⟨c, o, n, s2, hc, _, _⟩
    · have hts : ∀ t, tsR.get t = sF.ts.get t := by
        intro t
        by_cases hw : ∃ (j : Nat) (oj : Oper), ops[j]? = some oj ∧ oj.dst = some t
        · obtain ⟨j, oj, h1, h2⟩ := hw
          exact Q.tr1 j oj t (hall j (Array.getElem?_eq_some_iff.1 h1).1) h1 h2
        · rw [Q.tr0 t (fun j oj _ h1 h2 => hw ⟨j, oj, h1, h2⟩), H.tsC t (fun j oj _ h1 h2 => hw ⟨j, oj, h1, h2⟩)]
      have hst : ∀ E', Go.step P (lone (concF E' { fr0 with tmps := tsR, todo := .inRegion ops [] :: k }) csC w) = .next (lone (concF E' { fr0 with tmps := tsR, todo := k }) csC w) :=
        fun E' => step_lone_go (by simp [stepG, stepG.exec, concF, hm, concM, concI])
      have hconc : ∀ E', concF E' { fr0 with tmps := sF.ts, todo := k } = concF E' { fr0 with tmps := tsR, todo := k } := by
        intro E'
        have : concTmps E' sF.ts fr0.nt = concTmps E' tsR fr0.nt := by
          unfold concTmps tmpAt
          simp only [hts]
        simp only [concF, this]
      have hfr := (Q.rel.all E (Agree.refl _ _)).2.1
      simp only at hfr
      refine ⟨concF E { fr0 with tmps := tsR, todo := k }, csC, w, D, E, .one (by rw [← hfr]; exact hst E), ⟨fun E' he => ?_, fun i hi => ?_, ?_, Q.rel.wf.2⟩, Agree.refl _ _, fun _ h => h, Kept.refl K w, fun i hi => .inl hi, H.nx⟩
      · obtain ⟨g1, g2, g3⟩ := Q.rel.all E' he
        refine ⟨g1.same (fun i ob h => (Q.hr i ob).2 ⟨h, fun x hx _ => ?_⟩) (by simp only; rw [Q.hn]; exact Nat.le_refl _), ?_, g3⟩
        · obtain ⟨o, ho⟩ := H.op _ (H.al x hx).2.1
          exact hall _ (Array.getElem?_eq_some_iff.1 ho).1
        · simp only
          rw [hconc E']
          have h1 := hst E'
          simp only at g2
          rw [g2, ← hfr, hst E] at h1
          exact (lone_inj (by simpa using h1)).1.symm
      · have := Q.rel.dom i hi
        simp only at this ⊢
        rw [Q.hn] at this; exact this
      · intro t ht
        have := Q.rel.wf.1 t ht
        simp only at this ⊢
        rw [← hts t]; exact this
    · have hcm : (c, o) ∈ cands s.anc 0 ops.toList := by rw [hc]; exact List.mem_cons_self
      obtain ⟨j', h1, h2, h3⟩ := cands_sound _ _ _ _ _ hcm
      have hlt' : c < ops.size := by
        have := (List.getElem?_eq_some_iff.1 h2).1
        simp at this; omega
      have := H.cx c (hall c hlt')
      rw [(isReady_ok h3).1] at this
      cases this
  intro fuel
  induction fuel with
  | zero =>
    intro t listed s sF D E tsR hR frC csC w hsz hu htodo H Q
    exact hend listed s sF D E tsR hR frC csC w (unl_zero (by omega)) htodo H (by simpa [Region.linearise.go] using Q)
  | succ fuel ih =>
    intro t listed s sF D E tsR hR frC csC w hsz hu htodo H Q
    simp only [Region.linearise.go] at Q
    change RInv ops fr0 cs k base s (Xof listed) D E K tsR hR (match (Region.ready .any ops listed)[t % (Region.ready .any ops listed).length]? with
      | some i => Region.linearise.go .any ops fuel (t / (Region.ready .any ops listed).length) (listed.setIfInBounds i true) [i]
      | none => [].reverse) frC csC w at Q
    have hget : ∀ j, j < ops.size → (listed.getD j true = false ↔ ¬ Xof listed j) := by
      intro j hj
      unfold Xof
      have : j < listed.size := by omega
      simp [Array.getD, this]
    cases hi : (Region.ready .any ops listed)[t % (Region.ready .any ops listed).length]? with
    | none =>
      rw [hi] at Q
      have hnil : Region.ready .any ops listed = [] := by
        cases hr : Region.ready .any ops listed with
        | nil => rfl
        | cons x xs =>
          rw [hr] at hi
          have hlt : t % (x :: xs).length < (x :: xs).length := Nat.mod_lt _ (by simp)
          rw [List.getElem?_eq_none_iff] at hi
          omega
      have hall : ∀ j, j < ops.size → Xof listed j := by
        intro j
        induction j using Nat.strongRecOn with
        | _ j ihj =>
          intro hj
          by_cases hx : Xof listed j
          · exact hx
          · exfalso
            have hm' : j ∈ Region.ready .any ops listed := by
              rw [mem_ready]
              refine ⟨(hget j hj).2 hx, ops[j], Array.getElem?_eq_getElem hj, ?_⟩
              intro e he hb
              have hp : e.on ∈ preOf ops[j] := List.mem_map.2 ⟨e, List.mem_filter.2 ⟨by simpa using he, hb⟩, rfl⟩
              have hlt' := preLt_ok ops.toList 0 hlt j ops[j] (by simp [hj]) e.on hp
              exact ihj e.on (by omega) (by omega)
            rw [hnil] at hm'
            cases hm'
      exact hend listed s sF D E tsR hR frC csC w hall htodo H Q
    | some i =>
      rw [hi] at Q
      simp only at Q
      rw [linearise_go_acc, List.reverse_singleton, List.singleton_append] at Q
      obtain ⟨hl1, o, ho, hdeps⟩ := mem_ready.1 (List.mem_of_getElem? hi)
      have hin : i < ops.size := (Array.getElem?_eq_some_iff.1 ho).1
      have hx := (hget i hin).1 hl1
      have hready : ∀ p ∈ preOf o, Xof listed p := by
        intro p hp
        obtain ⟨e, he, rfl⟩ := List.mem_map.1 hp
        obtain ⟨he1, he2⟩ := List.mem_filter.1 he
        exact hdeps e (by simpa using he1) he2
      have hsz' : (listed.setIfInBounds i true).size = ops.size := by simp [hsz]
      have hu' : unl ops.size (listed.setIfInBounds i true) ≤ fuel := by
        have := unl_set hin (by omega) hx; omega
      have hX' : Xof (listed.setIfInBounds i true) = fun j => Xof listed j ∨ j = i := Xof_set (by omega)
      have hfin : ∀ (s' : DS), Todo tab sub ops fr0.nt s' sF → DInv tab ops fr0.nt fr0.tmps lo s' (fun j => Xof listed j ∨ j = i) →
          Comes1 P ops fr0 cs k base s' (fun j => Xof listed j ∨ j = i) D E K lo (Region.linearise.go .any ops fuel (t / (Region.ready .any ops listed).length) (listed.setIfInBounds i true) []) frC csC w → Fin P fr0 cs k base K lo sF D E frC csC w := by
        intro s' htd H' hc
        obtain ⟨tsR', hR', frC', csC', w', D', E', c1, c2, c3, c4, c5, c6⟩ := hc
        obtain ⟨frF, csF, wF, DF, EF, f1, f2, f3, f4, f5, f6, f7⟩ := ih _ (listed.setIfInBounds i true) s' sF D' E' tsR' hR' frC' csC' w' hsz' hu' htd (by rw [hX']; exact H') (by rw [hX']; exact c2)
        exact ⟨frF, csF, wF, DF, EF, c1.trans f1, f2, c3.trans f3 c4, fun x hx => f4 x (c4 x hx), c5.trans f5, fun x hx => (f6 x hx).elim (c6 x) .inr, f7⟩
      by_cases hC : (s.anc.get i).isSome = true
      · exact hfin s htodo (H.come hC ho hready) (exec_pend ok H Q hm ho hC hx hready)
      · have hr : isReady s.anc i o = true := by
          unfold isReady
          simp only [Bool.and_eq_true, List.all_eq_true]
          exact ⟨by simpa using hC, fun p hp => H.cx p (hready p hp)⟩
        have hcm : (i, o) ∈ cands s.anc 0 ops.toList := by
          have := cands_ok ops.toList 0 s.anc i o (by simpa using ho) (by simpa using hr)
          simpa using this
        rcases htodo with ⟨hc, _⟩ | ⟨c, o', n, s2, hc, hd, hloop⟩
        · rw [hc] at hcm; cases hcm
        · rw [hc] at hcm
          rcases List.mem_cons.1 hcm with e | hcm
          · cases e
            obtain ⟨H2, tsR', hR', frC', csC', w', D', E', c1, c2, c3, c4, c5, c6⟩ := exec_eff ok hsub hext H Q hm ho hr hd hready
            obtain ⟨s3, hpass, htd3⟩ := loop_todo hloop
            have hpl : ∀ j o, ops.toList[j]? = some o → ops[0 + j]? = some o := by
              intro j o hj; simpa using hj
            obtain ⟨hR3, Q3⟩ := pass_look ops.toList 0 s2 s3 hR' hpl hpass H2 c2
            exact hfin s3 htd3 (drawPass_ok ops.toList 0 s2 s3 hpl hpass H2) ⟨tsR', hR3, frC', csC', w', D', E', c1, Q3, c3, c4, c5, c6⟩
          · cases hcm
end
end Go.Am
