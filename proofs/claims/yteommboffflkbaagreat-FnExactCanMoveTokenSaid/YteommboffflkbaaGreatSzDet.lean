/- Sizes and well-formedness of a detector (written by program). Conditions: none (definitions). -/
import Derived.Test.YteommboffflkbaaGreatShort
namespace Go.E
open Go.RowKit
set_option linter.unusedVariables false

def D.Detector.wf (x : D.Detector) : Prop := D.Cluster.wf x.Cluster ∧ I64 x.Holder ∧ I64 x.Count ∧ True ∧ WfL (fun _ => True) x.Stained ∧ I64 x.Rounds ∧ True ∧ True
def D.Detector.sz (x : D.Detector) : Nat := D.Cluster.sz x.Cluster + (x.Stained.length + (0))
end Go.E

