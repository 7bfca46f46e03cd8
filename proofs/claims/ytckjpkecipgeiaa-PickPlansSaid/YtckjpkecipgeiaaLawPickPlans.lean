/- Which compaction is due, of any levels under any configuration: the program's answer is the document's; what was handed in stays, and the answer is new memory. -/
import Derived.Test.YtckjpkecipgeiaaPkRoPickPlans
namespace Go.Proofs.Ytckjpkecipgeiaa
/-- The statement, for every input. -/
theorem pickPlans_holds : Rows.PickPlansSaid := Mo.pickPlans.over
#print axioms pickPlans_holds
end Go.Proofs.Ytckjpkecipgeiaa
