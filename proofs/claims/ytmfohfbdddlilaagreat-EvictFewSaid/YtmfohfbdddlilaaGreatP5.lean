/- An evaluator over symbolic values, proved sound over the model's machine, and its use at this seat; no condition. Part 5. -/
import Derived.WalkKit
import Derived.KernelRfl
import Derived.DataReads
import Derived.ChangeArms
import Derived.ProofKit
import Derived.OpenShut
import Derived.Test.YtmfohfbdddlilaaGreatP4
set_option linter.unusedSimpArgs false
set_option linter.unusedVariables false
set_option linter.unusedSectionVars false
set_option linter.deprecated false
set_option maxRecDepth 100000
set_option maxHeartbeats 1000000
namespace Go.Proofs
open Go Go.Am Go.RowKit Go.Sy Go.Maps Go.Sort Go.Shelf Go.WideMaps
variable [Inhabited DrP]
theorem Tryz.law9 : Keyed Tryz.prog 9 := string_keyed Tryz.underlying9
theorem Tryz.zero3 (w : World) : (zeroValue 3).run Tryz.prog w = .ok (.int .i64 0) w := by kernel_rfl
theorem key_str {s : Bs} (h : s.length ≤ maxLen) : keyOf Tryz.prog 9 (strV s) = some (.string s) := by
  have := keyOf_string_mk (s := ⟨s.toArray⟩) Tryz.underlying9 (by simpa [ByteArray.size] using h)
  simpa using this
theorem rowAt.cells {w : World} {b off : Nat} {l : List CItem} (h : rowAt w b off l) {i : Nat} {x : CItem} (hx : l[i]? = some x) :
    w.cell? ⟨b, off + i * 11, none⟩ = some (strV x.key.name) ∧ w.cell? ⟨b, off + i * 11 + 1, none⟩ = some (strV x.key.domain) ∧ w.cell? ⟨b, off + i * 11 + 2, none⟩ = some (strV x.key.path) ∧
    w.cell? ⟨b, off + i * 11 + 3, none⟩ = some (strV x.cookie.value) ∧ w.cell? ⟨b, off + i * 11 + 4, none⟩ = some (.bool x.cookie.hostOnly) ∧ w.cell? ⟨b, off + i * 11 + 5, none⟩ = some (.bool x.cookie.secure) ∧
    w.cell? ⟨b, off + i * 11 + 6, none⟩ = some (.bool x.cookie.httpOnly) ∧ w.cell? ⟨b, off + i * 11 + 7, none⟩ = some (.bool x.cookie.persistent) ∧ w.cell? ⟨b, off + i * 11 + 8, none⟩ = some (.int .i64 x.cookie.expiry) ∧
    w.cell? ⟨b, off + i * 11 + 9, none⟩ = some (.int .i64 x.cookie.creation) ∧ w.cell? ⟨b, off + i * 11 + 10, none⟩ = some (.int .i64 x.cookie.access) :=
  ⟨h i x 0 _ hx rfl, h i x 1 _ hx rfl, h i x 2 _ hx rfl, h i x 3 _ hx rfl, h i x 4 _ hx rfl, h i x 5 _ hx rfl, h i x 6 _ hx rfl, h i x 7 _ hx rfl, h i x 8 _ hx rfl, h i x 9 _ hx rfl, h i x 10 _ hx rfl⟩
theorem Tryz.domW {b off cap : Nat} {l : List CItem} {w : World} (hlen : l.length ≤ 10000) (hb : b < w.heap.size) (hrow : rowAt w b off l) (hsz : ∀ x ∈ l, x.key.domain.length ≤ maxLen) :
    Calls Tryz.prog 54 #[.slice (some ⟨b, off, none⟩) l.length cap] w fun e w' => ∃ v, e = .returned v ∧ w'.ownsRow w.heap.size 9 1 v (domainsL l).length ((domainsL l).map strV) ∧ Below w.heap.size w w' := by
  have hmm := @run_makeMap Tryz.prog
  go_enter Tryz.func54, Tryz.ntmps54
  go_wp2
  go_loopw [9] (fun i wr => ∃ (k : Nat) (D : DataW Unit), k ≤ l.length ∧ i = .int .i64 k ∧ wr.ownsMap Tryz.prog 9 (plainElem Tryz.prog 3) w.heap.size k D ∧ SK D ((l.take k).map fun x => x.key.domain) ∧ Below w.heap.size w wr)
    (fun i _ => l.length - (intOf i).toNat)
  case atStart => exact ⟨0, .map [], Nat.zero_le _, rfl, World.ownsMap_made _ _ _ _, SK.start, (Below.refl _ _).alloc (Nat.le_refl _) _⟩
  case round =>
    obtain ⟨k, D, hk, rfl, hown, hsk, hnx⟩ := hrel
    by_cases hlt : k < l.length
    · obtain ⟨x, hx⟩ : ∃ x, l[k]? = some x := ⟨_, List.getElem?_eq_getElem hlt⟩
      obtain ⟨c0, c1, c2, c3, c4, c5, c6, c7, c8, c9, c10⟩ := (hrow.below hnx hb).cells hx
      have hxm : x ∈ l := List.mem_of_getElem? hx
      have hkey : keyOf Tryz.prog 9 (strV x.key.domain) = some (.string x.key.domain) := key_str (hsz x hxm)
      have hbel : ∀ o, Below w.heap.size w (wr.alloc o) := fun o => hnx.alloc hnx.size o
      go_wp2_with (first
        | (at_lookup; refine wpList_lookup_own_int _ rfl _ _ 135 rfl 9 3 .i64 Tryz.law9 Tryz.underlying135 Tryz.underlying3 (Tryz.zero3 _) w.heap.size k _ rfl (hown.alloc _) _ _ rfl hkey ?_; intro c hat hwc)
        | (at_mapUpdate; refine wpList_mapUpdate_own _ rfl _ _ _ 135 rfl 9 3 Tryz.law9 Tryz.underlying135 _ w.heap.size k _ rfl (hown.alloc _) (by unfold maxLen; omega) _ _ _ rfl rfl hkey _ [] (plainElem_int Tryz.underlying3 (wrap64_wf _)) ?_; intro w1 hown1 hgrow1)
        | go_in)
      have R1 := hsk.put (x.key.domain) (.lit (.int .i64 (wrap64 (c + 1)))) (L' := (l.take (k + 1)).map fun x => x.key.domain) (fun d => by
        rw [List.take_add_one, hx]
        simp
        exact or_comm)
      have R2 := (hbel _).grown hgrow1 (hbel _).size (fun j hj => by cases hj; exact Nat.le_refl _)
      clear hown hsk c0 c1 c2 c3 c4 c5 c6 c7 c8 c9 c10 hbel hgrow1
      go_roundw
      case rel => exact ⟨k + 1, _, by omega, by go_num, hown1, R1, R2⟩
      case measure => simp [intOf]; omega
    · have hkl : k = l.length := by omega
      subst hkl
      rw [List.take_length] at hsk
      have hks := hsk.keys
      have hsize : Maps.size D ≤ l.length := hown.size_le
      have hkeys := fun W => callsIn_wide.1 (Tryz.maps_Keys_101 (some w.heap.size) W)
      have hsort := callsIn_wide.1 (Tryz.slices_Sorted_keys_100_101 w.heap.size l.length D (plainElem Tryz.prog 3) wr hown (by unfold maxLen; omega) (by omega))
      go_wp2_with (first
        | (go_at_call 101; refine (hkeys _).mono ?_; rintro e w1 ⟨rfl, rfl⟩)
        | (go_at_call 100; refine hsort.mono ?_; rintro e w2 ⟨v, ss, rfl, hS, hrowS, hnil, hbelS⟩))
      go_ret
      have hd := sorted_domains hsk hS
      refine ⟨_, rfl, ?_, ?_⟩
      · rw [hd] at hrowS
        have hl : ss.length = (domainsL l).length := by rw [← hd]; simp
        have he : (encStr : Bs → Value) = strV := by funext s; simp [encStr]
        rw [hl, he] at hrowS
        exact ownsRow_base_a hrowS (by have := hnx.size; simp; omega)
      · exact (hnx.alloc hnx.size _).trans (hbelS.mono (by have := hnx.size; simp; omega))
theorem Tryz.domW0 (a : Option Addr) (c : Nat) (w : World) : Calls Tryz.prog 54 #[.slice a 0 c] w fun e w' => ∃ v, e = .returned v ∧ w'.ownsRow w.heap.size 9 1 v 0 [] ∧ Below w.heap.size w w' := by
  have hmm := @run_makeMap Tryz.prog
  obtain ⟨D, hown0, hsk⟩ : ∃ D : DataW Unit, (w.alloc (.map #[] 0)).ownsMap Tryz.prog 9 (plainElem Tryz.prog 3) w.heap.size 0 D ∧ SK D [] := ⟨.map [], World.ownsMap_made _ _ _ _, SK.start⟩
  have hbel0 : Below w.heap.size w (w.alloc (.map #[] 0)) := (Below.refl _ _).alloc (Nat.le_refl _) _
  go_enter Tryz.func54, Tryz.ntmps54
  go_wp2
  refine wp_loop_rounds 1 ?_
  rw [rounds_succ]
  generalize w.alloc (.map #[] 0) = wr at *
  have hsize : Maps.size D ≤ 0 := hown0.size_le
  have hkeys := fun W => callsIn_wide.1 (Tryz.maps_Keys_101 (some w.heap.size) W)
  have hsort := callsIn_wide.1 (Tryz.slices_Sorted_keys_100_101 w.heap.size 0 D (plainElem Tryz.prog 3) wr hown0 (by unfold maxLen; omega) (by omega))
  go_wp2_with (first
    | (go_at_call 101; refine (hkeys _).mono ?_; rintro e w1 ⟨rfl, rfl⟩)
    | (go_at_call 100; refine hsort.mono ?_; rintro e w2 ⟨v, ss, rfl, hS, hrowS, hnil, hbelS⟩))
  go_ret
  have hd := sorted_domains (l := []) hsk hS
  have hl : ss.length = 0 := by
    have := congrArg List.length hd
    simpa [domainsL] using this
  rw [hd, hl] at hrowS
  exact ⟨_, rfl, ownsRow_base_a hrowS (by have := hbel0.size; simp; omega), (hbel0.alloc hbel0.size _).trans (hbelS.mono (by have := hbel0.size; simp; omega))⟩
theorem okDomainsV (hdr : ¬ (default : DrP).dr) : Go.Sy.ConOK Tryz.prog Tryz.tab F.view_Domains cDomsV := ConOK.lift Tryz.prOk.ok (by
  rintro l ⟨hl, hsh⟩ w args hargs
  obtain ⟨h1, h2⟩ := hargs
  match args, h1 with
  | [v], _ =>
  rcases rd_items (h2 0 _ _ rfl rfl) with ⟨rfl, a, c, rfl⟩ | ⟨b, off, cap, rfl, hb, hrow, _⟩
  · exact (Tryz.domW0 a c w).mono fun e w' ⟨v, he, hr, hbel⟩ => ⟨v, he, .inr (up_strs hr), hbel, fun h => (hdr h).elim⟩
  · exact (Tryz.domW hl hb hrow fun x hx => by have := hsh x hx; unfold maxLen; omega).mono fun e w' ⟨v, he, hr, hbel⟩ => ⟨v, he, .inr (up_strs hr), hbel, fun h => (hdr h).elim⟩)
end Go.Proofs

set_option maxRecDepth 100000
set_option maxHeartbeats 4000000
namespace Go.Proofs
open Go Go.Am Go.RowKit Go.Sy
theorem vcCutC : (askY (fun (y : Con.Y cStale) => cfgI conI5 (noAnn y)) 400 F.evict_cut_1) = (∀ (y : CItem × CItem),
 True →
 ∃ (y_1 : CItem × CItem),
 y.1.key.name = y_1.1.key.name ∧
 y.1.key.domain = y_1.1.key.domain ∧
 y.1.key.path = y_1.1.key.path ∧
 y.1.cookie.value = y_1.1.cookie.value ∧
 y.1.cookie.hostOnly = y_1.1.cookie.hostOnly ∧
 y.1.cookie.secure = y_1.1.cookie.secure ∧
 y.1.cookie.httpOnly = y_1.1.cookie.httpOnly ∧
 y.1.cookie.persistent = y_1.1.cookie.persistent ∧
 eqI y.1.cookie.expiry y_1.1.cookie.expiry ∧
 eqI y.1.cookie.creation y_1.1.cookie.creation ∧
 eqI y.1.cookie.access y_1.1.cookie.access ∧
 y.2.key.name = y_1.2.key.name ∧
 y.2.key.domain = y_1.2.key.domain ∧
 y.2.key.path = y_1.2.key.path ∧
 y.2.cookie.value = y_1.2.cookie.value ∧
 y.2.cookie.hostOnly = y_1.2.cookie.hostOnly ∧
 y.2.cookie.secure = y_1.2.cookie.secure ∧
 y.2.cookie.httpOnly = y_1.2.cookie.httpOnly ∧
 y.2.cookie.persistent =
 y_1.2.cookie.persistent ∧
 eqI y.2.cookie.expiry
 y_1.2.cookie.expiry ∧
 eqI y.2.cookie.creation
 y_1.2.cookie.creation ∧
 eqI y.2.cookie.access
 y_1.2.cookie.access ∧
 True ∧ eqI (staleK y_1.1 y_1.2) (staleK y.1 y.2) ∧ True) := by kernel_rfl
theorem vcWithoutN : (askN (fun (y : List CItem × CKey) => few y.1) (Con.args cWithout) CItem (fun (y : List CItem × CKey) => withoutL y.1 y.2) CItem.enc (fun (y : List CItem × CKey) => cfgI con0 (annAt F.view_keep_Item 3 (aKeep y.1 fun (x : CItem) => Decidable.decide (x.key ≠ y.2)))) 600 F.view_Without) = (∀ (y : List CItem × CKey),
 y.1.length ≤ 10000 →
 (∃ (x : Nat),
 x ≤ y.1.length ∧
 (SV.fn 98 [] [SV.ptr (SH.next (St.h { ts := Fr.of (Con.args cWithout y) 0, h := { next := 0, os := [] }, log := [] })) 0] =
 SV.fn 98 []
 [SV.ptr (SH.next (St.h { ts := Fr.of (Con.args cWithout y) 0, h := { next := 0, os := [] }, log := [] })) 0] ∧
 SV.lst CItem y.1 CItem.enc = SV.lst CItem y.1 CItem.enc ∧
 eqI (Int.ofNat y.1.length) (Int.ofNat y.1.length) ∧ eqI 0 ↑x ∧ True ∧ True) ∧
 ((List.filter (fun (x : CItem) => Decidable.decide (x.key ≠ y.2)) (List.take x y.1) = [] ∧
 ∀ (x : CItem), List.length (CItem.enc x) = 11) ∧
 (y.2.name = y.2.name ∧
 y.2.domain = y.2.domain ∧ y.2.path = y.2.path ∧ True) ∧
 True) ∧
 True) ∧
 ∀ (x : Nat),
 x ≤ y.1.length →
 br (ltI (↑x) (Int.ofNat y.1.length))
 (so y.1[Int.toNat ↑x]? fun (val : CItem) =>
 br
 (!(val.key.name == y.2.name &&
 (val.key.domain == y.2.domain &&
 (val.key.path == y.2.path && Bool.true))))
 (∃ (x_1 : CItem),
 (CItem.enc x_1) =
 (CItem.enc val) ∧
 ck
 (Nat.ble
 ((List.length (List.filter (fun (x : CItem) => Decidable.decide (x.key ≠ y.2)) (List.take x y.1)) +
 List.length [x_1]) *
 96)
 16777216 &&
 Nat.ble
 (List.length (List.filter (fun (x : CItem) => Decidable.decide (x.key ≠ y.2)) (List.take x y.1)) +
 List.length [x_1])
 16777216)
 (ck (inR Go.IntKind.i64 (↑x + 1))
 (∃ (y_1 : Nat),
 y_1 ≤ y.1.length ∧
 Ann.μ (aKeep y.1 fun (x : CItem) => Decidable.decide (x.key ≠ y.2)) y_1 <
 Ann.μ (aKeep y.1 fun (x : CItem) => Decidable.decide (x.key ≠ y.2)) x ∧
 (SV.fn 98 []
 [SV.ptr
 (SH.next (St.h { ts := Fr.of (Con.args cWithout y) 0, h := { next := 0, os := [] }, log := [] })) 0] =
 SV.fn 98 []
 [SV.ptr
 (SH.next (St.h { ts := Fr.of (Con.args cWithout y) 0, h := { next := 0, os := [] }, log := [] })) 0] ∧
 SV.lst CItem y.1 CItem.enc = SV.lst CItem y.1 CItem.enc ∧
 eqI (Int.ofNat y.1.length) (Int.ofNat y.1.length) ∧ eqI (↑x + 1) ↑y_1 ∧ True ∧ True) ∧
 (SV.lst CItem
 (List.filter (fun (x : CItem) => Decidable.decide (x.key ≠ y.2)) (List.take x y.1) ++ [x_1])
 CItem.enc =
 SV.lst CItem
 (List.filter (fun (x : CItem) => Decidable.decide (x.key ≠ y.2)) (List.take y_1 y.1))
 CItem.enc ∧
 (y.2.name = y.2.name ∧
 y.2.domain = y.2.domain ∧
 y.2.path = y.2.path ∧ True) ∧
 True) ∧
 True)))
 (ck (inR Go.IntKind.i64 (↑x + 1))
 (∃ (y_1 : Nat),
 y_1 ≤ y.1.length ∧
 Ann.μ (aKeep y.1 fun (x : CItem) => Decidable.decide (x.key ≠ y.2)) y_1 <
 Ann.μ (aKeep y.1 fun (x : CItem) => Decidable.decide (x.key ≠ y.2)) x ∧
 (SV.fn 98 []
 [SV.ptr (SH.next (St.h { ts := Fr.of (Con.args cWithout y) 0, h := { next := 0, os := [] }, log := [] }))
 0] =
 SV.fn 98 []
 [SV.ptr (SH.next (St.h { ts := Fr.of (Con.args cWithout y) 0, h := { next := 0, os := [] }, log := [] }))
 0] ∧
 SV.lst CItem y.1 CItem.enc = SV.lst CItem y.1 CItem.enc ∧
 eqI (Int.ofNat y.1.length) (Int.ofNat y.1.length) ∧ eqI (↑x + 1) ↑y_1 ∧ True ∧ True) ∧
 (SV.lst CItem
 (List.filter (fun (x : CItem) => Decidable.decide (x.key ≠ y.2)) (List.take x y.1))
 CItem.enc =
 SV.lst CItem
 (List.filter (fun (x : CItem) => Decidable.decide (x.key ≠ y.2)) (List.take y_1 y.1))
 CItem.enc ∧
 (y.2.name = y.2.name ∧
 y.2.domain = y.2.domain ∧
 y.2.path = y.2.path ∧ True) ∧
 True) ∧
 True)))
 (SV.lst CItem (List.filter (fun (x : CItem) => Decidable.decide (x.key ≠ y.2)) (List.take x y.1))
 CItem.enc =
 SV.lst CItem (withoutL y.1 y.2) CItem.enc)) := by kernel_rfl
end Go.Proofs

set_option maxRecDepth 100000
set_option maxHeartbeats 1000000
namespace Go.Proofs
open Go Go.Am Go.RowKit Go.Sy Go.Maps Go.Sort Go.Shelf
theorem pl_item {Fz : Nat → Option AO} {n : Nat} (x : CItem) : SimP Fz (.agg x.enc) (absA n (.agg (encIt x).toArray)) := by
  unfold absA
  refine .agg (by simp [encIt, CItem.enc]) fun i c v hc hv => ?_
  have hj : i < 11 := (List.getElem?_eq_some_iff.1 hc).1
  unfold CItem.enc at hc
  unfold encIt at hv
  match i, hj with
  | 0, _ | 1, _ | 2, _ | 3, _ => cases hc; cases hv; exact .str _
  | 4, _ | 5, _ | 6, _ | 7, _ => cases hc; cases hv; exact .bool _
  | 8, _ | 9, _ | 10, _ => cases hc; cases hv; exact .int _ _
theorem grow_of {w w' : World} (h : Below w.heap.size w w') (hd : w.drawn ≤ w'.drawn) : ∃ q os, w' = grow (w.drewN q) os := by
  refine ⟨w'.drawn - w.drawn, w'.heap.extract w.heap.size w'.heap.size, ?_⟩
  unfold grow World.drewN
  cases w' with
  | mk heap tape drawn os output =>
    obtain ⟨h1, h2, h3, h4, h5⟩ := h
    simp only at h1 h2 h3 h4 h5 hd ⊢
    subst h1; subst h2; subst h3
    congr 1
    · apply Array.ext_getElem?
      intro i
      rw [Array.getElem?_append]
      split
      · rename_i hi; exact h5 i hi
      · rename_i hi
        rw [Array.getElem?_extract]
        by_cases h6 : i < heap.size
        · simp only [Nat.min_self]
          rw [if_pos (by omega), show w.heap.size + (i - w.heap.size) = i by omega]
        · rw [if_neg (by omega), Array.getElem?_eq_none (by omega)]
    · omega
section
variable [Inhabited DrP]
theorem okCutC : Go.Sy.ConOK Tryz.prog Tryz.tab F.evict_cut_1 cStale := askY_ok (cfg := fun y => cfgI conI5 (noAnn y)) Tryz.prOk (fun _ => rfl) (fun _ => conI5_ok) (n := 400) (by
  rw [vcCutC]
  rintro ⟨a, b⟩ -
  exact ⟨(a, b), rfl, rfl, rfl, rfl, rfl, rfl, rfl, rfl, rfl, rfl, rfl, rfl, rfl, rfl, rfl, rfl, rfl, rfl, rfl, rfl, rfl, rfl, trivial, rfl, trivial⟩)
theorem withoutN : askN (fun y : List CItem × CKey => few y.1) cWithout.args CItem (fun y => withoutL y.1 y.2) CItem.enc (fun y => cfgI con0 (annAt F.view_keep_Item 3 (aKeep y.1 fun x => decide (x.key ≠ y.2)))) 600 F.view_Without := by
  rw [vcWithoutN]
  rintro ⟨l, k⟩ hpre
  have hpre : l.length ≤ 10000 := hpre
  refine ⟨⟨0, by simp, ?_⟩, ?_⟩
  · (repeat' (first | exact trivial | exact rfl | exact (fun _ => rfl) | refine And.intro ?_ ?_))
  intro x hx
  refine br_iff.2 ⟨fun hlt => so_iff.2 ⟨_, get_ok (lt_of_ltI hlt), ?_⟩, fun hge => by rw [filter_all (ge_of_ltI hge)]; rfl⟩
  have hlt' : x < l.length := lt_of_ltI hlt
  have hlen := filter_len (l := l) (x := x) (p := fun z : CItem => decide (z.key ≠ k))
  refine br_iff.2 ⟨fun h => ⟨l[x], rfl, ck_iff.2 ⟨by simp only [Bool.and_eq_true, Nat.ble_eq, List.length_cons, List.length_nil]; omega, ck_iff.2 ⟨inR_nat x (by omega), x + 1, hlt', ?_, ?_⟩⟩⟩, fun h => ck_iff.2 ⟨inR_nat x (by omega), x + 1, hlt', ?_, ?_⟩⟩
  · show l.length - (x + 1) < l.length - x
    omega
  · have hp : (fun z : CItem => decide (z.key ≠ k)) l[x] = true := by rw [key_beq] at h; simpa using h
    have hf := filter_next (p := fun z : CItem => decide (z.key ≠ k)) hlt'
    rw [if_pos hp] at hf
    (repeat' (first | exact trivial | exact rfl | exact (fun _ => rfl) | refine And.intro ?_ ?_))
    all_goals (first | (rw [hf]) | (simp [eqI]))
  · show l.length - (x + 1) < l.length - x
    omega
  · have hp : (fun z : CItem => decide (z.key ≠ k)) l[x] = false := by rw [key_beq] at h; simpa using h
    have hf := filter_next (p := fun z : CItem => decide (z.key ≠ k)) hlt'
    rw [if_neg (by simp only [hp]; simp), List.append_nil] at hf
    (repeat' (first | exact trivial | exact rfl | exact (fun _ => rfl) | refine And.intro ?_ ?_))
    all_goals (first | (rw [hf]) | (simp [eqI]))
end
theorem swo_stale : SWO (ltOf staleK) where
  irrefl x := staler_irrefl x
  trans x y z := staler_trans
  ntrans x y z := staler_ntrans
theorem Tryz.cmp131 (blk off size : Nat) (w : World) : CmpLays Tryz.prog 131 #[] encIt 11 staleK blk off size w := by
  intro m os dk _ x y
  letI : Inhabited DrP := ⟨⟨True⟩⟩
  have h := ConOK.calls Tryz.prOk.ok okCutC (fn := Tryz.f131) (hfn := by kernel_rfl) (hb := rfl) (y := (x, y)) trivial (args := [.agg (encIt x).toArray, .agg (encIt y).toArray]) (w := sortWorldK encIt 11 w blk off m dk os) (PL.cons (pl_item x) (PL.cons (pl_item y) PL.nil))
  refine Calls.mono h ?_
  rintro e w' ⟨v, rfl, hv, hbel, hd⟩
  have hv : v = .int .i64 (staleK x y) := rd_int hv
  exact ⟨by rw [hv], grow_of hbel (hd trivial)⟩
theorem Tryz.cutAgg : ∀ w, (isAgg (Tryz.sort130_ren.t 24)).run Tryz.prog w = .ok true w := fun w => by kernel_rfl
theorem Tryz.cutSize : ∀ w, (Go.sizeOf (Tryz.sort130_ren.t 24)).run Tryz.prog w = .ok 11 w := fun w => by kernel_rfl
theorem cut_one (x : CItem) : ∀ v ∈ encIt x, v.oneCell' = true := by
  intro v hv
  unfold encIt at hv
  simp only [List.mem_cons, List.not_mem_nil, or_false] at hv
  rcases hv with rfl | rfl | rfl | rfl | rfl | rfl | rfl | rfl | rfl | rfl | rfl <;> rfl
theorem Tryz.sortW (blk off cap : Nat) (d : Array CItem) (w : World) (hH : HoldsK encIt 11 w blk off d) (hblk : blk < w.heap.size) (hsz : d.size < 4611686018427387904) :
    Calls Tryz.prog 130 #[.slice (some ⟨blk, off, none⟩) d.size cap, .func (.func 131) #[] #[]] w fun e w' => e = .returned (.tuple #[]) ∧ ∃ d' n os, PermIn 0 d.size d d' ∧ SortedIn (ltOf staleK) 0 d.size d' ∧ w' = sortWorldK encIt 11 w blk off n d' os :=
  AnyQ.slices_SortFunc Tryz.sort130 11 Tryz.cutAgg Tryz.cutSize encIt (fun _ => rfl) cut_one staleK swo_stale 131 #[] blk off cap d w (enters_of Tryz.func131 (by kernel_rfl) rfl) (Tryz.cmp131 blk off d.size w) hH hblk hsz
def RowV (w : World) (v : Value) (l : List CItem) : Prop := (l = [] ∧ ∃ a c, v = .slice a 0 c) ∨
  ∃ b off cap, v = .slice (some ⟨b, off, none⟩) l.length cap ∧ l.length ≤ cap ∧ (∃ arr e fz, w.heap[b]? = some (.cells arr e fz) ∧ off + l.length * 11 ≤ arr.size) ∧ rowAt w b off l
theorem RowV.below {w w' : World} {v : Value} {l : List CItem} (h : RowV w v l) (hb : Below w.heap.size w w') : RowV w' v l := by
  rcases h with h | ⟨b, off, cap, h1, h2, ⟨arr, e, fz, h3, h4⟩, h5⟩
  · exact .inl h
  · have hlt := (Array.getElem?_eq_some_iff.1 h3).1
    exact .inr ⟨b, off, cap, h1, h2, ⟨arr, e, fz, by rw [hb.block b hlt]; exact h3, h4⟩, h5.below hb hlt⟩
def NewV (w : World) (n : Nat) (v : Value) : Prop := ∀ b off len cap, v = .slice (some ⟨b, off, none⟩) len cap → n ≤ b
section
variable [Inhabited DrP]
theorem newRow_rowV {w : World} {n : Nat} {l : List CItem} {v : Value} (h : NewRow w n l CItem.enc v) : RowV w v l ∧ Up w n (items l) v := by
  rcases h with ⟨rfl, h0⟩ | ⟨b, cap, arr, e, fz, sz, rfl, h1, h2, h3, h4, h5, h6, h7⟩
  · exact ⟨.inl ⟨List.length_eq_zero_iff.1 h0, none, 0, rfl⟩, .lstn h0⟩
  · have hsz : l ≠ [] → sz = 11 := by
      intro hne
      cases hL : l with
      | nil => exact absurd hL hne
      | cons x l' => exact (h6 0 x (by rw [hL]; rfl)).symm
    have hl : 0 + l.length * 11 ≤ arr.size := by
      by_cases hne : l = []
      · subst hne; simp
      · rw [← hsz hne]; omega
    have hcell : ∀ (i : Nat) x (j : Nat) v, l[i]? = some x → (encIt x)[j]? = some v → arr[0 + i * 11 + j]? = some v := by
      intro i x j v hx hv
      have hj : j < 11 := (List.getElem?_eq_some_iff.1 hv).1
      obtain ⟨s, hs⟩ := enc_get (x := x) hj
      obtain ⟨u, hu, hr⟩ := h7 i x j s hx hs
      have : sz = 11 := (h6 i x hx).symm
      subst this
      rw [rd_cell hs hv hr] at hu
      rw [Nat.zero_add]
      exact hu
    refine ⟨.inr ⟨b, 0, cap, rfl, h3, ⟨arr, e, fz, h2, hl⟩, fun i x j v hx hv => ?_⟩, up_items h1 h2 h3 hl hcell⟩
    unfold World.cell?
    simp only [h2, Option.isSome_none, Bool.false_eq_true, if_false]
    exact hcell i x j v hx hv
theorem pl_key {Fz : Nat → Option AO} {n : Nat} (k : CKey) : SimP Fz (.agg k.enc) (absA n (.agg #[strV k.name, strV k.domain, strV k.path])) := by
  unfold absA
  refine .agg rfl fun i c v hc hv => ?_
  have hj : i < 3 := (List.getElem?_eq_some_iff.1 hc).1
  unfold CKey.enc at hc
  match i, hj with
  | 0, _ | 1, _ | 2, _ => cases hc; cases hv; exact .str _
theorem sim_rowV {tab : Tab} {w : World} {v : Value} {l : List CItem} (h : RowV w v l) : SimP (rowH tab w).get (items l) (absA w.heap.size v) := by
  rcases h with ⟨rfl, a, c, rfl⟩ | ⟨b, off, cap, rfl, h2, h3, h4⟩
  · show SimP _ (items []) (absV w.heap.size (.slice a 0 c))
    cases a with
    | none =>
      cases c with
      | zero => exact .lst0 rfl (.inl rfl)
      | succ c => exact .lst0 rfl (.inr (.inr ⟨_, _, rfl⟩))
    | some a => rw [absV_raw]; exact .lst0 rfl (.inr (.inr ⟨_, _, rfl⟩))
  · exact sim_items h2 h3 h4
theorem Tryz.withoutW {l : List CItem} {k : CKey} {v : Value} {w : World} (hl : l.length ≤ 10000) (h : RowV w v l) :
    Calls Tryz.prog 50 #[v, .agg #[strV k.name, strV k.domain, strV k.path]] w fun e w' => ∃ u, e = .returned u ∧ RowV w' u (withoutL l k) ∧ NewRow w' w.heap.size (withoutL l k) CItem.enc u ∧ Below w.heap.size w w' := by
  refine Calls.mono (calls_new Tryz.prOk (fun _ => rfl) (fun _ => con0_ok) (fn := Tryz.f50) (by kernel_rfl) withoutN (y := (l, k)) hl (args := [v, .agg #[strV k.name, strV k.domain, strV k.path]]) (w := w) (PL.cons (sim_rowV h) (PL.cons (pl_key k) PL.nil))) ?_
  rintro e w' ⟨u, rfl, hu, hb, _⟩
  exact ⟨u, rfl, (newRow_rowV hu).1, hu, hb⟩
theorem newRow_mono {w : World} {n m : Nat} {l : List CItem} {v : Value} (h : NewRow w n l CItem.enc v) (hm : m ≤ n) : NewRow w m l CItem.enc v := by
  rcases h with h | ⟨b, cap, arr, e, fz, sz, h0, h1, h2⟩
  · exact .inl h
  · exact .inr ⟨b, cap, arr, e, fz, sz, h0, by omega, h2⟩
end
theorem below_sort (w : World) (g off n : Nat) (d : Array CItem) (os : Array Obj) {B : Nat} (hg : B ≤ g) (hB : B ≤ w.heap.size) : Below B w (sortWorldK encIt 11 w g off n d os) := by
  refine ⟨rfl, rfl, rfl, size_sortWorldK_c encIt 11 w g off n d os, fun k hk => ?_⟩
  unfold sortWorldK grow putRowK putRow mapBlock Sort.ahead
  simp only
  rw [Array.getElem?_append_left (by simp; omega)]
  rw [Array.getElem?_modify]
  rw [if_neg (by omega)]
theorem flat_get (l : List CItem) {t : Nat} {u : Value} (h : (flatK encIt 11 l.toArray).toList[t]? = some u) : ∃ x, l[t / 11]? = some x ∧ (encIt x)[t % 11]? = some u := by
  have ht : t < l.length * 11 := by
    have := (List.getElem?_eq_some_iff.1 h).1
    simpa using this
  have hi : t / 11 < l.length := by omega
  refine ⟨l[t / 11], List.getElem?_eq_getElem hi, ?_⟩
  have h1 := get_flatK encIt 11 l.toArray t (by simpa using ht)
  rw [Array.getElem?_toList] at h
  rw [getElem!_pos _ t (by simpa using ht)] at h1
  rw [Array.getElem?_eq_getElem (by simpa using ht), h1] at h
  cases h
  have h2 : (l.toArray[t / 11]! : CItem) = l[t / 11] := by rw [getElem!_pos _ _ (by simpa using hi)]; simp
  rw [h2, List.getElem?_eq_getElem (show t % 11 < (encIt l[t / 11]).length by rw [encIt_len]; omega), getElem!_pos]
theorem sorted_list {l : List CItem} {d' : Array CItem} (hp : PermIn 0 l.toArray.size l.toArray d') (hs : SortedIn (ltOf staleK) 0 l.toArray.size d') : d'.toList.Perm l ∧ d'.toList.Pairwise (fun a b => stalerB b a = false) ∧ d'.size = l.length := by
  obtain ⟨h1, _, h3⟩ := hp
  have hsz : d'.size = l.length := by simpa using h1
  refine ⟨?_, ?_, hsz⟩
  · rw [show d'.extract 0 l.toArray.size = d' by rw [← h1]; simp] at h3
    simpa using h3
  · rw [List.pairwise_iff_getElem]
    intro i j hi hj hij
    simp only [Array.length_toList] at hi hj
    have := hs i j (Nat.zero_le _) hij (by simp; omega)
    rw [getElem!_pos d' j hj, getElem!_pos d' i hi] at this
    simp only [Array.getElem_toList]
    exact this
theorem Tryz.info48 : (Tryz.prog.info? 48).map (fun i => (i.zero, i.size, i.bytes)) = some (some (.agg (encIt zeroItem).toArray), 11, 96) := by kernel_rfl
end Go.Proofs

set_option maxRecDepth 100000
set_option maxHeartbeats 1000000
namespace Go.Proofs
open Go Go.Am Go.RowKit Go.Sy Go.Maps Go.Sort Go.Shelf
variable [Inhabited DrP]
theorem Tryz.cloneW {l : List CItem} {b off cap : Nat} {w : World} (hl : l.length ≤ 10000) (h : rowAt w b off l) :
    Calls Tryz.prog 129 #[.slice (some ⟨b, off, none⟩) l.length cap] w fun e w' => ∃ g c, e = .returned (.slice (some ⟨g, 0, none⟩) l.length c) ∧ w.heap.size ≤ g ∧ g < w'.heap.size ∧ l.length ≤ c ∧ HoldsK encIt 11 w' g 0 l.toArray ∧ Below w.heap.size w w' := by
  obtain ⟨i0, hi, hz0, hz1, hz2⟩ := info_parts Tryz.info48
  have hnl : (flatK encIt 11 l.toArray).toList.length = l.length * 11 := by simp
  have hc := AnyE.slices_Clone Tryz.clone129 i0 _ 11 96 hi hz0 hz1 hz2 rfl (by decide) (fun w => by kernel_rfl) b off l.length cap (flatK encIt 11 l.toArray).toList w hnl (by unfold maxLen; omega) (by omega)
    (fun j u hu => by
      obtain ⟨x, hx, hxu⟩ := flat_get l hu
      have := h (j / 11) x (j % 11) u hx hxu
      rw [show off + j / 11 * 11 + j % 11 = off + j by omega] at this
      exact this)
    (fun u hu => by
      obtain ⟨j, hj, rfl⟩ := List.getElem_of_mem hu
      obtain ⟨x, hx, hxu⟩ := flat_get l (List.getElem?_eq_getElem hj)
      exact cut_one x _ (List.mem_of_getElem? hxu))
  refine Calls.mono hc ?_
  rintro e w' ⟨v', rfl, ⟨h1, ⟨rfl, _⟩ | ⟨g, c, cur, rfl, hg, hw, hn, _, hcs, htk⟩⟩, hne, hb⟩
  · exact absurd rfl hne
  · refine ⟨g, c, rfl, hg, (Array.getElem?_eq_some_iff.1 hw).1, hn, fun j hj => ?_, hb⟩
    have hj2 : j < l.length * 11 := by simpa using hj
    have h2 := congrArg (fun l => l[j]?) htk
    simp only [List.getElem?_take, if_pos hj2, Array.getElem?_toList] at h2
    have hjf : j < (flatK encIt 11 l.toArray).size := hj
    rw [Array.getElem?_eq_getElem hjf] at h2
    constructor
    · unfold World.cell?
      simp only [hw, Option.isSome_none, Bool.false_eq_true, if_false, Nat.zero_add]
      rw [h2, getElem!_pos _ j hjf]
      rfl
    · unfold World.frozen?
      simp [hw]
theorem fold_without_len : ∀ (s l : List CItem), (s.foldl (fun a x => withoutL a x.key) l).length ≤ l.length
  | [], l => Nat.le_refl _
  | x :: s, l => Nat.le_trans (fold_without_len s _) (without_len l x.key)
theorem Tryz.cutW {l : List CItem} {m b off cap : Nat} {w : World} (hl : l.length ≤ 10000) (hk : KN l) (hm : m < l.length) (h : RowV w (.slice (some ⟨b, off, none⟩) l.length cap) l) (hrow : rowAt w b off l) (hb : b < w.heap.size) :
    Calls Tryz.prog 90 #[.slice (some ⟨b, off, none⟩) l.length cap, .int .i64 m] w fun e w' => ∃ u, e = .returned u ∧ NewRow w' w.heap.size (trimA m l) CItem.enc u ∧ Below w.heap.size w w' := by
  have hclone := Tryz.cloneW (cap := cap) hl hrow
  go_enter Tryz.func90, Tryz.ntmps90
  go_wp2_with (go_at_call 129; refine hclone.mono ?_; rintro e w1 ⟨g, c, rfl, hg, hg1, hlc, hH, hbel1⟩)
  have hsort := Tryz.sortW g 0 c l.toArray w1 hH hg1 (by simp; omega)
  rw [show l.toArray.size = l.length by simp] at hsort
  refine Calls.mono hsort ?_
  rintro e w2 ⟨rfl, d', n, os, hp, hs, hw2⟩
  have hbel2 : Below w.heap.size w w2 := hbel1.trans (by rw [hw2]; exact below_sort w1 g 0 n d' os hg hbel1.size)
  obtain ⟨hperm, hpw, hdsz⟩ := sorted_list (l := l) (d' := d') (by simpa using hp) (by simpa using hs)
  have hH2 : HoldsK encIt 11 w2 g 0 d' := by rw [hw2]; exact holdsK_sortWorldK_c encIt 11 w1 g 0 l.toArray d' n os hH hg1 (by simp [hdsz])
  have hg2 : g < w2.heap.size := by rw [hw2]; exact Nat.lt_of_lt_of_le hg1 (size_sortWorldK_c encIt 11 w1 g 0 n d' os)
  clear hw2 hp hs hsort hclone hH
  have hlen : l.length - m ≤ d'.size := by omega
  have hsub : (wrap64 ((l.length : Int) - (m : Int))) = ((l.length - m : Nat) : Int) := by
    rw [wrap64]
    omega
  go_wp2
  generalize hnm : l.length - m = q at hlen hsub ⊢
  go_loopw [0, 24] (fun v i wr => ∃ k : Nat, k ≤ q ∧ i = .int .i64 k ∧ RowV wr v ((d'.toList.take k).foldl (fun a x => withoutL a x.key) l) ∧ (k = 0 ∨ NewRow wr w.heap.size ((d'.toList.take k).foldl (fun a x => withoutL a x.key) l) CItem.enc v) ∧ Below w2.heap.size w2 wr)
    (fun _ i _ => q - (intOf i).toNat)
  case atStart => exact ⟨0, Nat.zero_le _, rfl, h.below (hbel2.mono (Nat.le_refl _)), .inl rfl, Below.refl _ _⟩
  case round =>
    obtain ⟨k, hkq, rfl, hv, hnew, hbw⟩ := hrel
    by_cases hlt : k < q
    · have hkd : k < d'.size := by omega
      have hHw : HoldsK encIt 11 wr g 0 d' := fun j hj => by
        have := hH2 j hj
        unfold World.cell? World.frozen? at this ⊢
        rw [hbw.block g hg2]
        exact this
      have hcl : ∀ c, c < 11 → wr.cell? ⟨g, 0 + k * 11 + c, none⟩ = some (encIt d'[k])[c]! := fun c hc => by
        have := (hHw.cell (i := k) (c := c) hkd hc).1
        rw [getElem!_pos d' k hkd] at this
        exact this
      obtain ⟨x, hx⟩ : ∃ x, x = d'[k] := ⟨_, rfl⟩
      have hcur : ((d'.toList.take k).foldl (fun a x => withoutL a x.key) l).length ≤ 10000 := by
        have := fold_without_len (d'.toList.take k) l
        omega
      have hnext : (d'.toList.take (k + 1)).foldl (fun a x => withoutL a x.key) l = withoutL ((d'.toList.take k).foldl (fun a x => withoutL a x.key) l) x.key := by
        rw [hx, fold_next _ _ (by simpa using hkd)]
        simp
      have c0 : wr.cell? ⟨g, k * 11, none⟩ = some (strV x.key.name) := by have := hcl 0 (by omega); rw [Nat.zero_add, Nat.add_zero, ← hx] at this; exact this
      have c1 : wr.cell? ⟨g, k * 11 + 1, none⟩ = some (strV x.key.domain) := by have := hcl 1 (by omega); rw [Nat.zero_add, ← hx] at this; exact this
      have c2 : wr.cell? ⟨g, k * 11 + 2, none⟩ = some (strV x.key.path) := by have := hcl 2 (by omega); rw [Nat.zero_add, ← hx] at this; exact this
      have c3 : wr.cell? ⟨g, k * 11 + 3, none⟩ = some (strV x.cookie.value) := by have := hcl 3 (by omega); rw [Nat.zero_add, ← hx] at this; exact this
      have c4 : wr.cell? ⟨g, k * 11 + 4, none⟩ = some (.bool x.cookie.hostOnly) := by have := hcl 4 (by omega); rw [Nat.zero_add, ← hx] at this; exact this
      have c5 : wr.cell? ⟨g, k * 11 + 5, none⟩ = some (.bool x.cookie.secure) := by have := hcl 5 (by omega); rw [Nat.zero_add, ← hx] at this; exact this
      have c6 : wr.cell? ⟨g, k * 11 + 6, none⟩ = some (.bool x.cookie.httpOnly) := by have := hcl 6 (by omega); rw [Nat.zero_add, ← hx] at this; exact this
      have c7 : wr.cell? ⟨g, k * 11 + 7, none⟩ = some (.bool x.cookie.persistent) := by have := hcl 7 (by omega); rw [Nat.zero_add, ← hx] at this; exact this
      have c8 : wr.cell? ⟨g, k * 11 + 8, none⟩ = some (.int .i64 x.cookie.expiry) := by have := hcl 8 (by omega); rw [Nat.zero_add, ← hx] at this; exact this
      have c9 : wr.cell? ⟨g, k * 11 + 9, none⟩ = some (.int .i64 x.cookie.creation) := by have := hcl 9 (by omega); rw [Nat.zero_add, ← hx] at this; exact this
      have c10 : wr.cell? ⟨g, k * 11 + 10, none⟩ = some (.int .i64 x.cookie.access) := by have := hcl 10 (by omega); rw [Nat.zero_add, ← hx] at this; exact this
      clear hx hcl hHw
      have hsz0 : w.heap.size ≤ wr.heap.size := Nat.le_trans hbel2.size hbw.size
      go_wp2_with (go_at_call 50; refine (Tryz.withoutW (k := x.key) hcur (hv.below ((Below.refl _ _).alloc (Nat.le_refl _) _))).mono ?_; rintro e w3 ⟨u, rfl, hu1, hu2, hu3⟩)
      have R1 := hnext.symm ▸ hu1
      have R2 := hnext.symm ▸ (newRow_mono hu2 (m := w.heap.size) (by simp; omega))
      have R3 : Below w2.heap.size w2 w3 := (hbw.alloc hbw.size _).trans (hu3.mono (by have := hbw.size; simp; omega))
      clear hu1 hu2 hu3 hv hnew c0 c1 c2 c3 c4 c5 c6 c7 c8 c9 c10 hnext
      go_roundw
      case rel => exact ⟨k + 1, by omega, by go_num, R1, .inr R2, R3⟩
      case measure => simp [intOf]; omega
    · have hkq' : k = q := by omega
      subst hkq'
      go_wp2
      go_ret
      refine ⟨_, rfl, ?_, hbel2.trans (hbw.mono hbel2.size)⟩
      rcases hnew with h0 | hnew
      · omega
      · rw [← hnm, cut_eq m l.length l d'.toList (by omega) hk hperm hpw] at hnew
        exact hnew
theorem Tryz.cutW0 (a : Option Addr) (n cap m : Nat) (h : n ≤ m) (w : World) : Calls Tryz.prog 90 #[.slice a n cap, .int .i64 m] w fun e w' => e = .returned (.slice a n cap) ∧ w' = w := by
  go_enter Tryz.func90, Tryz.ntmps90
  go_wp2
  go_ret
  exact ⟨rfl, rfl⟩
theorem okCutE (hdr : ¬ (default : DrP).dr) : Go.Sy.ConOK Tryz.prog Tryz.tab F.evict_cut cCutE := ConOK.lift Tryz.prOk.ok (by
  rintro ⟨l, m⟩ ⟨hl, hk, hm⟩ w args ⟨h1, h2⟩
  have hm : 0 ≤ m := hm
  obtain ⟨q, rfl⟩ : ∃ q : Nat, m = (q : Int) := ⟨m.toNat, by omega⟩
  match args, h1 with
  | [v, u], _ =>
  have hu := rd_int (h2 1 _ _ rfl rfl)
  subst hu
  have hv := rd_items (h2 0 _ _ rfl rfl)
  have hl : l.length ≤ 10000 := hl
  have hk : KN l := hk
  by_cases hq : l.length ≤ q
  · obtain ⟨a, cap, rfl⟩ : ∃ a cap, v = .slice a l.length cap := by
      rcases hv with ⟨rfl, a, c, rfl⟩ | ⟨b, off, cap, rfl, _⟩
      · exact ⟨a, c, rfl⟩
      · exact ⟨_, cap, rfl⟩
    refine Calls.mono (Tryz.cutW0 a l.length cap q hq w) ?_
    rintro e w' ⟨rfl, rfl⟩
    refine ⟨_, rfl, .inl ⟨0, ?_, rfl⟩, Below.refl _ _, fun h => (hdr h).elim⟩
    show some (items l) = some (items (trimA ((q : Int)).toNat l))
    rw [Int.toNat_natCast, trimA_done hq]
  · rcases hv with ⟨rfl, a, c, rfl⟩ | ⟨b, off, cap, rfl, hb, hrow, hcap, hcells⟩
    · simp at hq
    · refine Calls.mono (Tryz.cutW (m := q) (cap := cap) hl hk (Nat.lt_of_not_le hq) (.inr ⟨b, off, cap, rfl, hcap, hcells, hrow⟩) hrow hb) ?_
      rintro e w' ⟨u, rfl, hu, hbel⟩
      exact ⟨u, rfl, .inr (by
        show Up w' w.heap.size (items (trimA ((q : Int)).toNat l)) u
        rw [Int.toNat_natCast]
        exact (newRow_rowV hu).2), hbel, fun h => (hdr h).elim⟩)
end Go.Proofs

namespace Go.Sy
open Go.Am Go.RowKit
universe u v

section
variable {H : Type} {enc : TypeId × Value → H} {P : Program} {w : World} {base : Nat} {spare : Nat → Bool} {held : Bool} {Fz : Nat → Option AO} {N : Nat}
def Lies (Fz : Nat → Option AO) (N : Nat) (l : List SV) (cs : List Value) : Prop := l.length = cs.length ∧ ∀ (j : Nat) v u, l[j]? = some v → cs[j]? = some u → SimP Fz v (absV N u)
theorem Lies.nil : Lies Fz N [] [] := ⟨rfl, fun j v u h => by simp at h⟩
theorem Lies.cons {s : SV} {v : Value} {l : List SV} {m : List Value} (h : SimP Fz s (absV N v)) (t : Lies Fz N l m) : Lies Fz N (s :: l) (v :: m) := by
  refine ⟨by simp [t.1], fun i a b ha hb => ?_⟩
  cases i with
  | zero => simp at ha hb; subst ha; subst hb; exact h
  | succ i => exact t.2 i a b (by simpa using ha) (by simpa using hb)
theorem Lies.append {l l' : List SV} {m m' : List Value} (h : Lies Fz N l m) (h' : Lies Fz N l' m') : Lies Fz N (l ++ l') (m ++ m') := by
  refine ⟨by simp [h.1, h'.1], fun i a b ha hb => ?_⟩
  by_cases hi : i < l.length
  · rw [List.getElem?_append_left hi] at ha
    rw [List.getElem?_append_left (by rw [← h.1]; exact hi)] at hb
    exact h.2 i a b ha hb
  · rw [List.getElem?_append_right (by omega)] at ha
    rw [List.getElem?_append_right (by rw [← h.1]; omega), ← h.1] at hb
    exact h'.2 _ a b ha hb

structure Dec (P : Program) (w : World) (base : Nat) (spare : Nat → Bool) (held : Bool) {H : Type} (henc : TypeId × Value → H) (Fz : Nat → Option AO) (N : Nat) (t : TypeId) (X : Type) (enc : X → List SV) : Prop where
  one : ∀ fuel cs x, DataW.trod henc P w base spare held fuel t cs = some x → ∃ y : X, Lies Fz N (enc y) cs
variable (enc) in
abbrev Dec' (P : Program) (w : World) (base : Nat) (spare : Nat → Bool) (held : Bool) (Fz : Nat → Option AO) (N : Nat) (t : TypeId) (X : Type) (e : X → List SV) : Prop := Dec P w base spare held enc Fz N t X e
theorem Dec.bool {t : TypeId} (ht : P.underlying t = some .bool) : Dec' enc P w base spare held Fz N t Bool (fun b => [.bool b]) := by
  refine ⟨fun fuel cs x h => ?_⟩
  obtain ⟨b, rfl, _⟩ := DataW.trod_bool ht h
  exact ⟨b, .cons (.bool b) .nil⟩
theorem Dec.int {t : TypeId} {k : IntKind} (ht : P.underlying t = some (.int k)) : Dec' enc P w base spare held Fz N t Int (fun b => [.int k b]) := by
  refine ⟨fun fuel cs x h => ?_⟩
  obtain ⟨b, rfl, _⟩ := DataW.trod_int ht h
  exact ⟨b, .cons (.int k b) .nil⟩
theorem Dec.str {t : TypeId} (ht : P.underlying t = some .string) : Dec' enc P w base spare held Fz N t (List UInt8) (fun b => [.str b]) := by
  refine ⟨fun fuel cs x h => ?_⟩
  obtain ⟨s, rfl, _⟩ := DataW.trod_string ht h
  exact ⟨s.data.toList, .cons (.str _) .nil⟩
theorem Dec.map {t : TypeId} {X Y : Type} {e : X → List SV} {e' : Y → List SV} (h : Dec' enc P w base spare held Fz N t X e) (f : X → Y) (hf : ∀ x, e' (f x) = e x) : Dec' enc P w base spare held Fz N t Y e' := by
  refine ⟨fun fuel cs x hx => ?_⟩
  obtain ⟨y, hy⟩ := h.one fuel cs x hx
  exact ⟨f y, by rw [hf]; exact hy⟩
inductive Decs (P : Program) (w : World) (base : Nat) (spare : Nat → Bool) (held : Bool) {H : Type} (henc : TypeId × Value → H) (Fz : Nat → Option AO) (N : Nat) : Nat → List Field → (X : Type) → (X → List SV) → Prop
  | nil {o : Nat} : Decs P w base spare held henc Fz N o [] Unit (fun _ => [])
  | cons {o : Nat} {f : Field} {fs : List Field} {X Y : Type} {e : X → List SV} {e' : Y → List SV} (ho : f.offset = o) (h : Dec P w base spare held henc Fz N f.type X e) (t : Decs P w base spare held henc Fz N (o + P.cellsOf f.type) fs Y e') :
      Decs P w base spare held henc Fz N o (f :: fs) (X × Y) (fun y => e y.1 ++ e' y.2)
def sumC (P : Program) : List Field → Nat
  | [] => 0
  | f :: fs => P.cellsOf f.type + sumC P fs
theorem Decs.run {o : Nat} {fs : List Field} {X : Type} {e : X → List SV} (h : Decs P w base spare held enc Fz N o fs X e) : ∀ (cs : List Value) (n : Nat), cs.length = o + sumC P fs →
    (∀ f ∈ fs, ∃ x, DataW.trod enc P w base spare held n f.type ((cs.drop f.offset).take (P.cellsOf f.type)) = some x) → ∃ y : X, Lies Fz N (e y) (cs.drop o) := by
  induction h with
  | nil =>
    intro cs n hl _
    refine ⟨(), ?_⟩
    simp only [sumC] at hl
    rw [List.drop_of_length_le (by omega)]
    exact .nil
  | @cons o f fs X Y e e' ho h t ih =>
    intro cs n hl hf
    simp only [sumC] at hl
    obtain ⟨x, hx⟩ := hf f List.mem_cons_self
    obtain ⟨y, hy⟩ := h.one n _ _ hx
    obtain ⟨z, hz⟩ := ih cs n (by omega) (fun g hg => hf g (List.mem_cons_of_mem _ hg))
    refine ⟨(y, z), ?_⟩
    have := hy.append hz
    rw [ho] at this
    rw [show List.drop o cs = List.take (P.cellsOf f.type) (List.drop o cs) ++ List.drop (o + P.cellsOf f.type) cs by rw [← List.drop_drop, List.take_append_drop]]
    exact this
theorem Dec.struct {t : TypeId} {fs : Array Field} {X : Type} {e : X → List SV} (ht : P.underlying t = some (.struct fs)) (hc : P.cellsOf t = sumC P fs.toList) (h : Decs P w base spare held enc Fz N 0 fs.toList X e) : Dec' enc P w base spare held Fz N t X e := by
  refine ⟨fun fuel cs x hx => ?_⟩
  obtain ⟨xs, n, _, _, hl, hn, hg⟩ := DataW.trod_struct ht hx
  have := h.run cs n (by rw [hl, hc]; simp) (fun f hf => by
    obtain ⟨i, hi⟩ := List.getElem?_of_mem hf
    have h1 := hg i f (by simpa using hi)
    have hlt : i < fs.size := by
      have := (List.getElem?_eq_some_iff.1 hi).1
      simpa using this
    rw [List.getElem?_eq_getElem (by omega)] at h1
    exact ⟨_, h1⟩)
  simpa using this
end
end Go.Sy
namespace Go.Sy
open Go.Am Go.RowKit
theorem simA_agg {Fz : Nat → Option AO} {N : Nat} {l : List SV} {cs : Array Value} (h : Lies Fz N l cs.toList) : SimP Fz (.agg l) (absA N (.agg cs)) := by
  unfold absA
  refine .agg (by simpa using h.1) (fun i c v hc hv => ?_)
  rw [List.getElem?_map] at hv
  obtain ⟨u, hu, rfl⟩ := Option.map_eq_some_iff.1 hv
  exact h.2 i c u hc hu
end Go.Sy
namespace Go.Sy
open Go.Am Go.RowKit
variable [Inhabited DrP]
section
variable {H : Type} {enc : TypeId × Value → H} {P : Program} {tab : Tab} {w : World} {base : Nat} {spare : Nat → Bool} {held : Bool}
theorem cell_at {a : Addr} {k : Nat} {u : Value} (hs : a.spot = none) (h : w.cell? (a.add k) = some u) : ∃ arr e fz, w.heap[a.block]? = some (.cells arr e fz) ∧ arr[a.off + k]? = some u := by
  obtain ⟨b, o, s⟩ := a
  simp only at hs
  subst hs
  have e2 : (⟨b, o, none⟩ : Addr).add k = ⟨b, o + k, none⟩ := by unfold Addr.add; split <;> simp_all
  rw [e2] at h
  unfold World.cell? at h
  split at h
  · rename_i arr e fz hb
    simp only [Option.isSome_none, Bool.false_eq_true, if_false] at h
    exact ⟨arr, e, fz, hb, h⟩
  · cases h
theorem Dec.slice {t e n : Nat} (ht : P.underlying t = some (.slice e)) (hn : P.cellsOf e = n) (h0 : 0 < n) {X : Type} {ex : X → List SV} (hx : ∀ x, (ex x).length = n)
    (h : Dec' enc P w base spare held (rowH tab w).get w.heap.size e X ex) : Dec' enc P w base spare held (rowH tab w).get w.heap.size t (List X) (fun L => [.lst X L ex]) := by
  refine ⟨fun fuel cs x hd => ?_⟩
  rcases DataW.trod_slice ht hd with ⟨rfl, _⟩ | ⟨a, len, cap, elems, rest, m, _, rfl, _, hb, hle, hc, hel, hi, _, _⟩
  · exact ⟨[], .cons (.lst0 rfl (.inl rfl)) .nil⟩
  · have each : ∀ i : Fin len, ∃ y : X, ∃ cs', w.cells? base (a.add (i.val * n)) n = some cs' ∧ Lies (rowH tab w).get w.heap.size (ex y) cs' := by
      intro i
      have h1 := hi i.val i.isLt
      rw [List.getElem?_eq_getElem (by rw [hel]; exact i.isLt)] at h1
      obtain ⟨cs', h2, h3⟩ := Option.bind_eq_some_iff.1 h1
      rw [hn] at h2
      obtain ⟨y, hy⟩ := h.one _ _ _ h3
      exact ⟨y, cs', h2, hy⟩
    obtain ⟨f, hf⟩ := Classical.skolem.1 each
    by_cases hl : len = 0
    · subst hl
      exact ⟨[], .cons (.lst0 rfl (.inr (.inr ⟨some a, cap, absV_raw _ _ _⟩))) .nil⟩
    · have cell : ∀ (i : Fin len) (j : Nat) v, (ex (f i))[j]? = some v → ∃ u, w.cell? ((a.add (i.val * n)).add j) = some u ∧ SimP (rowH tab w).get v (absV w.heap.size u) := by
        intro i j v hv
        obtain ⟨cs', h2, h3⟩ := hf i
        have hj : j < n := by rw [← hx (f i)]; exact (List.getElem?_eq_some_iff.1 hv).1
        unfold World.cells? at h2
        split at h2
        · have h4 := mapM_some_get h2 j j (by simp [hj])
          have hlt : j < cs'.length := by rw [← h3.1, hx]; exact hj
          rw [List.getElem?_eq_getElem hlt] at h4
          exact ⟨_, h4, h3.2 j v _ hv (List.getElem?_eq_getElem hlt)⟩
        · cases h2
      have hadd : ∀ i j, (a.add i).add j = a.add (i + j) := by
        intro i j
        unfold Addr.add
        by_cases hi : i = 0
        · subst hi; simp
        · by_cases hj : j = 0
          · subst hj; simp [hi]
          · simp [hi, hj, Nat.add_assoc]
      have hl0 : 0 < (ex (f ⟨0, by omega⟩)).length := by rw [hx (f ⟨0, by omega⟩)]; exact h0
      obtain ⟨v0, hv0⟩ : ∃ v, (ex (f ⟨0, by omega⟩))[0]? = some v := ⟨_, List.getElem?_eq_getElem hl0⟩
      obtain ⟨u0, hu0, _⟩ := cell ⟨0, by omega⟩ 0 v0 hv0
      rw [hadd] at hu0
      have hspot : a.spot = none := by
        have := World.cell?_spot hu0
        simpa [Addr.add] using this
      obtain ⟨arr, et, fz, hblk, _⟩ := cell_at hspot hu0
      have hcell : ∀ (i : Nat) x (j : Nat) v, (List.ofFn f)[i]? = some x → (ex x)[j]? = some v → ∃ u, arr[a.off + i * n + j]? = some u ∧ SimP (rowH tab w).get v (absV w.heap.size u) := by
        intro i x j v hx' hv
        have hil : i < len := by have := (List.getElem?_eq_some_iff.1 hx').1; simpa using this
        have hxe : x = f ⟨i, hil⟩ := by
          rw [List.getElem?_eq_getElem (by simpa using hil)] at hx'
          simpa using (Option.some.inj hx').symm
        subst hxe
        obtain ⟨u, hu, hs⟩ := cell ⟨i, hil⟩ j v hv
        rw [hadd] at hu
        obtain ⟨arr', et', fz', hblk', hu'⟩ := cell_at hspot hu
        rw [hblk] at hblk'
        cases hblk'
        exact ⟨u, by rw [Nat.add_assoc]; exact hu', hs⟩
      refine ⟨List.ofFn f, .cons ?_ .nil⟩
      have hspec : (⟨a.block, a.off, none⟩ : Addr) = a := by obtain ⟨b, o, s⟩ := a; simp only at hspot; subst hspot; rfl
      rw [← hspec]
      have hlast : a.off + (List.ofFn f).length * n ≤ arr.size := by
        have hl1 : n - 1 < (ex (f ⟨len - 1, by omega⟩)).length := by rw [hx (f ⟨len - 1, by omega⟩)]; omega
        obtain ⟨v1, hv1⟩ : ∃ v, (ex (f ⟨len - 1, by omega⟩))[n - 1]? = some v := ⟨_, List.getElem?_eq_getElem hl1⟩
        obtain ⟨u1, hu1, _⟩ := hcell (len - 1) (f ⟨len - 1, by omega⟩) (n - 1) v1 (by rw [List.getElem?_eq_getElem (by simp; omega)]; simp) hv1
        have := (Array.getElem?_eq_some_iff.1 hu1).1
        simp only [List.length_ofFn]
        have e3 : len * n = (len - 1) * n + n := by
          conv => lhs; rw [show len = (len - 1) + 1 by omega]
          rw [Nat.add_mul, Nat.one_mul]
        omega
      exact rows_lst hblk h0 (fun x _ => hx x) hlast (by simp) hle hcell
end
end Go.Sy

/- The three laws of evict: what an argument may be, and the walk out of contracts. -/
set_option maxRecDepth 100000
namespace Go.Proofs.EvL
open Go Go.Am Go.ChangeShapes Go.WideShapes Go.ChangeAt Go.RowKit
open Go.Sy hiding ask
set_option linter.unusedVariables false
instance noDr : Inhabited DrP := ⟨⟨False⟩⟩
theorem dr0 : ¬ (default : DrP).dr := fun h => h
theorem okG1 : ∀ g C, conG1 g = some C → Go.Sy.ConOK Tryz.prog Tryz.tab g C := con_step (okDomainsV dr0) (con_step (okCutE dr0) conI7_ok)
theorem okG4 : ∀ g C, conG4 g = some C → Go.Sy.ConOK Tryz.prog Tryz.tab g C := conG4_ok okG1
section
variable {H : Type} {enc : TypeId × Value → H} {w : World} {base : Nat} {spare : Nat → Bool} {held : Bool} {Fz : Nat → Option AO} {N : Nat}
theorem dKey : Dec Tryz.prog w base spare held enc Fz N 24 CKey CKey.enc :=
  Dec.map (Dec.struct Tryz.underlying24 (by kernel_rfl)
    (.cons (by kernel_rfl) (Dec.str Tryz.underlying9) (.cons (by kernel_rfl) (Dec.str Tryz.underlying9) (.cons (by kernel_rfl) (Dec.str Tryz.underlying9) .nil)))) (fun x => ⟨x.1, x.2.1, x.2.2.1⟩) (fun x => rfl)
theorem dCookie : Dec Tryz.prog w base spare held enc Fz N 39 CCookie CCookie.enc :=
  Dec.map (Dec.struct Tryz.underlying39 (by kernel_rfl)
    (.cons (by kernel_rfl) (Dec.str Tryz.underlying9) (.cons (by kernel_rfl) (Dec.bool Tryz.underlying4) (.cons (by kernel_rfl) (Dec.bool Tryz.underlying4) (.cons (by kernel_rfl) (Dec.bool Tryz.underlying4) (.cons (by kernel_rfl) (Dec.bool Tryz.underlying4)
      (.cons (by kernel_rfl) (Dec.int Tryz.underlying3) (.cons (by kernel_rfl) (Dec.int Tryz.underlying3) (.cons (by kernel_rfl) (Dec.int Tryz.underlying3) .nil))))))))) (fun x => ⟨x.1, x.2.1, x.2.2.1, x.2.2.2.1, x.2.2.2.2.1, x.2.2.2.2.2.1, x.2.2.2.2.2.2.1, x.2.2.2.2.2.2.2.1⟩) (fun x => rfl)
theorem dItem : Dec Tryz.prog w base spare held enc Fz N 48 CItem CItem.enc :=
  Dec.map (Dec.struct Tryz.underlying48 (by kernel_rfl) (.cons (by kernel_rfl) dKey (.cons (by kernel_rfl) dCookie .nil))) (fun x => ⟨x.1, x.2.1⟩) (fun x => rfl)
theorem dItems : Dec Tryz.prog w base spare held enc (rowH Tryz.tab w).get w.heap.size 52 (List CItem) (fun L => [.lst CItem L CItem.enc]) := Dec.slice Tryz.underlying52 (show Tryz.prog.cellsOf 48 = 11 by kernel_rfl) (by omega) (fun _ => rfl) dItem
theorem dRules : Dec Tryz.prog w base spare held enc (rowH Tryz.tab w).get w.heap.size 70 (List Bs) (fun L => [.lst Bs L encTx]) := Dec.slice Tryz.underlying70 (show Tryz.prog.cellsOf 9 = 1 by kernel_rfl) (by omega) (fun _ => rfl) (Dec.str Tryz.underlying9)
theorem dConfig : Dec Tryz.prog w base spare held enc (rowH Tryz.tab w).get w.heap.size 72 CConfig CConfig.enc :=
  Dec.map (Dec.struct Tryz.underlying72 (by kernel_rfl)
    (.cons (by kernel_rfl) (Dec.int Tryz.underlying3) (.cons (by kernel_rfl) (Dec.int Tryz.underlying3) (.cons (by kernel_rfl) (Dec.int Tryz.underlying3) (.cons (by kernel_rfl) dRules .nil))))) (fun x => ⟨x.1, x.2.1, x.2.2.1, x.2.2.2.1⟩) (fun x => rfl)
theorem config_form {b0 : Nat} {r : Reach} {v : Value} {d : DataW H} {p : List MemPlace} (hv : Value.okWide Tryz.prog w r b0 72 v) (h : DataW.Trod enc Tryz.prog w base spare held 72 v d p) :
    ∃ cs, v = .agg cs ∧ ∃ x : CConfig, Lies (rowH Tryz.tab w).get w.heap.size x.enc cs.toList := by
  obtain ⟨cs, rfl, hsz⟩ := okWide_struct Tryz.underlying72 hv
  obtain ⟨fuel, hf⟩ := h
  exact ⟨cs, rfl, dConfig.one _ _ _ hf⟩
theorem items_form {b0 : Nat} {r : Reach} {v : Value} {d : DataW H} {p : List MemPlace} (hv : Value.okWide Tryz.prog w r b0 52 v) (h : DataW.Trod enc Tryz.prog w base spare held 52 v d p) :
    ∃ a n c, v = .slice a n c ∧ ∃ l : List CItem, SimP (rowH Tryz.tab w).get (items l) (absA w.heap.size (.slice a n c)) := by
  obtain ⟨a, n, c, rfl⟩ := okWide_slice Tryz.underlying52 hv
  obtain ⟨fuel, hf⟩ := h
  obtain ⟨l, hl⟩ := dItems.one _ _ _ hf
  exact ⟨a, n, c, rfl, l, hl.2 0 _ _ rfl rfl⟩
end
theorem walk {f : FuncId} {fn : Func} {body : Code} (hfn : Tryz.tab.fns.get f = some fn) (hb : fn.body = some body) (hc : Go.Sy.ConOK Tryz.prog Tryz.tab f cLawE) (x : CConfig) (l : List CItem) (now : Int) (cs : Array Value) (a : Option Addr) (n c : Nat) (w : World)
    (h1 : Lies (rowH Tryz.tab w).get w.heap.size x.enc cs.toList) (h2 : SimP (rowH Tryz.tab w).get (items l) (absA w.heap.size (.slice a n c))) :
    Calls Tryz.prog f #[.agg cs, .slice a n c, .int .i64 now] w fun e w' => e = .returned (.bool true) ∧ Below w.heap.size w w' := by
  refine Calls.mono (ConOK.calls Tryz.prOk.ok hc hfn hb (y := (x, l, now)) trivial (args := [.agg cs, .slice a n c, .int .i64 now]) (w := w) (PL.cons (simA_agg h1) (PL.cons h2 (PL.cons (.int _ _) PL.nil)))) ?_
  rintro e w' ⟨v, rfl, hv, hbel, _⟩
  exact ⟨by rw [rd_bool hv], hbel⟩
end Go.Proofs.EvL

