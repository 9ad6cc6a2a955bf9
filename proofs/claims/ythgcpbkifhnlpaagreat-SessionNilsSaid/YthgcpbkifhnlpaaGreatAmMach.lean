/- An evaluator over abstract values, proved sound over the model's machine; no condition. Part: Mach. -/
import Derived.Test.YthgcpbkifhnlpaaGreatAmStep
import Derived.Test.YthgcpbkifhnlpaaGreatAmPure
set_option linter.unusedSimpArgs false
set_option linter.unusedVariables false
set_option linter.unusedSectionVars false
set_option linter.deprecated false
namespace Go.Am
open Go.RowKit

/-! ## Frames -/
def concI (E : Env) : AItem → Item
  | .code c => .code c
  | .inBlock id => .inBlock id
  | .inLoop b => .inLoop b
  | .inScope b => .inScope b
  | .inRegion ops l => .inRegion ops l
  | .inRange l => .inRangeFunc (E.blk l)
  | .endRange l => .endRangeFunc (E.blk l)
  | .beginRound => .beginRound
def concP (E : Env) (x : APE) : PanicEntry := { v := conc E x.v, recovered := x.recovered }
def concM (E : Env) : AMode → FrameMode
  | .run => .run
  | .returning => .returning
  | .panicking c => .panicking (c.map (concP E))
def concF (E : Env) (fr : AFrame) : Frame :=
  { fn := fr.fn, tmps := concTmps E fr.tmps fr.nt, todo := fr.todo.map (concI E), defers := fr.defers.map (concD E), mode := concM E fr.mode, kind := fr.kind, roundOf := fr.round.map E.blk }
def AFrame.WF (fr : AFrame) : Prop := ∀ t, fr.nt ≤ t → fr.tmps.get t = none

def Agree (D : Nat → Prop) (E E' : Env) : Prop := ∀ i, D i → E'.blk i = E.blk i ∧ E'.cap i = E.cap i
theorem Agree.refl (D : Nat → Prop) (E : Env) : Agree D E E := fun _ _ => ⟨rfl, rfl⟩
theorem Agree.trans {D D' : Nat → Prop} {E E' E'' : Env} (h : Agree D E E') (h' : Agree D' E' E'') (hd : ∀ i, D i → D' i) : Agree D E E'' :=
  fun i hi => ⟨(h' i (hd i hi)).1.trans (h i hi).1, (h' i (hd i hi)).2.trans (h i hi).2⟩

/-- The concrete machine is where the abstract one is. -/
structure Rel (D : Nat → Prop) (E : Env) (K : Nat → Prop) (m : AM) (base : List Frame) (fr : Frame) (cs : List Frame) (w : World) : Prop where
  all : ∀ E', Agree D E E' → HOK E' m.h K w ∧ concF E' m.fr = fr ∧ m.cs.map (concF E') ++ base = cs
  dom : ∀ i, D i → i < m.h.next
  wf : m.fr.WF ∧ ∀ f ∈ m.cs, f.WF

/-- From M0 the concrete machine comes to where the abstract one is. -/
def Gets (P : Program) (lo : Nat) (M0 : Machine) (D : Nat → Prop) (E : Env) (K : Nat → Prop) (m' : AM) (base : List Frame) (w : World) : Prop :=
  ∃ fr' cs' w' E' D', Steps P M0 (lone fr' cs' w') ∧ Rel D' E' K m' base fr' cs' w' ∧ Agree D E E' ∧ (∀ i, D i → D' i) ∧ Kept K w w' ∧ lo ≤ m'.h.next ∧ ∀ i, D' i → D i ∨ lo ≤ i

/-- From M0 the concrete machine comes to its call's end. -/
def Ends (P : Program) (lo : Nat) (M0 : Machine) (D : Nat → Prop) (E : Env) (K : Nat → Prop) (v : AV) (h : AH) (base : List Frame) (f : FuncId) (w : World) : Prop :=
  ∃ fr' w' v' E' D', Steps P M0 (lone fr' base w') ∧ fr'.fn = f ∧ fr'.leaving P w' (.returned v') ∧ (∀ E'', Agree D' E' E'' → HOK E'' h K w' ∧ conc E'' v = v') ∧
    Agree D E E' ∧ (∀ i, D i → D' i) ∧ (∀ i, D' i → i < h.next) ∧ Kept K w w' ∧ lo ≤ h.next ∧ ∀ i, D' i → D i ∨ lo ≤ i

section
variable {P : Program} {D D1 : Nat → Prop} {E E1 : Env} {K : Nat → Prop} {m : AM} {base : List Frame} {M0 M1 : Machine} {w w1 : World} {v : AV} {h : AH} {f : FuncId}
theorem Gets.trans {lo lo1 : Nat} (hs : Steps P M0 M1) (ha : Agree D E E1) (hd : ∀ i, D i → D1 i) (hk : Kept K w w1) (hlo : lo ≤ lo1) (hnew : ∀ i, D1 i → D i ∨ lo ≤ i) (hg : Gets P lo1 M1 D1 E1 K m base w1) : Gets P lo M0 D E K m base w := by
  obtain ⟨fr', cs', w', E', D', h1, h2, h3, h4, h5, h6, h7⟩ := hg
  refine ⟨fr', cs', w', E', D', hs.trans h1, h2, ha.trans h3 hd, fun i hi => h4 i (hd i hi), hk.trans h5, Nat.le_trans hlo h6, fun i hi => ?_⟩
  rcases h7 i hi with h | h
  · exact hnew i h
  · exact .inr (Nat.le_trans hlo h)
theorem Ends.trans {lo lo1 : Nat} (hs : Steps P M0 M1) (ha : Agree D E E1) (hd : ∀ i, D i → D1 i) (hk : Kept K w w1) (hlo : lo ≤ lo1) (hnew : ∀ i, D1 i → D i ∨ lo ≤ i) (hg : Ends P lo1 M1 D1 E1 K v h base f w1) : Ends P lo M0 D E K v h base f w := by
  obtain ⟨fr', w', v', E', D', h1, h2, h3, h4, h5, h6, h7, h8, h9', h9⟩ := hg
  refine ⟨fr', w', v', E', D', hs.trans h1, h2, h3, h4, ha.trans h5 hd, fun i hi => h6 i (hd i hi), h7, hk.trans h8, Nat.le_trans hlo h9', fun i hi => ?_⟩
  rcases h9 i hi with h | h
  · exact hnew i h
  · exact .inr (Nat.le_trans hlo h)
end

theorem lone_inj {fr fr' : Frame} {cs cs' : List Frame} {w w' : World} (h : lone fr cs w = lone fr' cs' w') : fr = fr' ∧ cs = cs' ∧ w = w' := by
  simp only [lone, Machine.mk.injEq, Array.mk.injEq, List.cons.injEq, Goroutine.mk.injEq, and_true, true_and] at h
  obtain ⟨h1, h2, h3⟩ := h
  exact ⟨h2, h3, h1⟩

/-- One step, told for one E. -/
def One (P : Program) (M0 : Machine) (E : Env) (K : Nat → Prop) (m' : AM) (base : List Frame) (w : World) : Prop :=
  ∃ w', Go.step P M0 = .next (lone (concF E m'.fr) (m'.cs.map (concF E) ++ base) w') ∧ HOK E m'.h K w' ∧ Kept K w w'

section
variable {P : Program} {D : Nat → Prop} {E : Env} {K : Nat → Prop} {m m' : AM} {base : List Frame} {fr : Frame} {cs : List Frame} {w : World}
/-- An E that has the new block where it is. -/
theorem Rel.near (hR : Rel D E K m base fr cs w) (f : Nat → Nat × Nat) : ∃ E1, Agree D E E1 ∧ ∀ i, m.h.next ≤ i → E1.blk i = (f i).1 ∧ E1.cap i = (f i).2 := by
  refine ⟨⟨fun i => if i < m.h.next then E.blk i else (f i).1, fun i => if i < m.h.next then E.cap i else (f i).2⟩, fun i hi => ?_, fun i hi => ?_⟩
  · have := hR.dom i hi
    simp [this]
  · have hlt : ¬ i < m.h.next := by omega
    simp [hlt]

/-- One step that is told for every E that has the new blocks where they are comes off. -/
theorem Rel.one (hR : Rel D E K m base fr cs w) (M0 : Machine)
    (f : Nat → Nat × Nat) (hn : m.h.next ≤ m'.h.next) (hwf : m'.fr.WF ∧ ∀ f ∈ m'.cs, f.WF)
    (h1 : ∀ E', Agree D E E' → HOK E' m.h K w → concF E' m.fr = fr → m.cs.map (concF E') ++ base = cs → (∀ i, m.h.next ≤ i → i < m'.h.next → E'.blk i = (f i).1 ∧ E'.cap i = (f i).2) → One P M0 E' K m' base w) :
    Gets P m.h.next M0 D E K m' base w := by
  obtain ⟨E1, ha, hE⟩ := hR.near f
  let D1 : Nat → Prop := fun i => D i ∨ (m.h.next ≤ i ∧ i < m'.h.next)
  have hE1 : ∀ E', Agree D1 E1 E' → One P M0 E' K m' base w := by
    intro E' he
    have hd : Agree D E E' := ha.trans he (fun i hi => .inl hi)
    obtain ⟨g1, g2, g3⟩ := hR.all E' hd
    refine h1 E' hd g1 g2 g3 (fun i hi hj => ?_)
    have h2 := he i (.inr ⟨hi, hj⟩)
    have h3 := hE i hi
    exact ⟨h2.1.trans h3.1, h2.2.trans h3.2⟩
  obtain ⟨w', s1, s2, s3⟩ := hE1 E1 (Agree.refl _ _)
  refine ⟨_, _, w', E1, D1, .one s1, ⟨?_, ?_, hwf⟩, ha, fun i hi => .inl hi, s3, hn, fun i hi => hi.elim .inl (fun h => .inr h.1)⟩
  · intro E' he
    obtain ⟨w2, t1, t2, t3⟩ := hE1 E' he
    rw [s1] at t1
    obtain ⟨e1, e2, e3⟩ := lone_inj (by simpa using t1)
    subst e3
    exact ⟨t2, e1.symm, e2.symm⟩
  · intro i hi
    rcases hi with hi | hi
    · have := hR.dom i hi; omega
    · exact hi.2
end
end Go.Am
