/- Part 12: an evaluator, proved sound, and its use at this seat; no condition. -/
import Derived.KernelRfl
import Derived.Test.YtmfohfbdddlilaaGreatP10
set_option linter.unusedSimpArgs false
set_option linter.unusedVariables false
set_option linter.unusedSectionVars false
set_option linter.deprecated false
set_option maxRecDepth 100000
set_option maxHeartbeats 40000000
namespace Go.Proofs
open Go Go.Am Go.RowKit Go.Sy
section
variable [Inhabited aD]
theorem KT {m:bh} {l:List af} {x:Nat} (h:x<l.length):iV m (l.take (x+1))=if(ew m l[x].key).1.dot=l[x].dot then iL (iV m (l.take x)) (ew m l[x].key).1 else iV m (l.take x):=qO _ _ h
end
end Go.Proofs
