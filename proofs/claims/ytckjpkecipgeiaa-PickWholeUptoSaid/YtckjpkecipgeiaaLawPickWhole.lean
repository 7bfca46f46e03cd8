/- Nothing older stays above: no file of the plan's level that is not in it overlaps one that is, and no file of the next level that is not in it overlaps the span of all that are: at all levels, configurations and lists whose data together are small. -/
import Derived.Test.YtckjpkecipgeiaaPkRoPickWhole
namespace Go.Proofs.Ytckjpkecipgeiaa
/-- The statement, for every input. -/
theorem pickWhole_holds : Rows.PickWholeUptoSaid := Mo.pickWhole.over
#print axioms pickWhole_holds
end Go.Proofs.Ytckjpkecipgeiaa
