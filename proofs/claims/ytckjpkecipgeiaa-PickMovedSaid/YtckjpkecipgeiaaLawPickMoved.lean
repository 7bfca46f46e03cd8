/- behind a trivial plan's edit the levels are a version's, and each key asks the same files in the same order -/
import Derived.Test.YtckjpkecipgeiaaPkRoPickMoved
namespace Go.Proofs.Ytckjpkecipgeiaa
/-- The statement, for every input. -/
theorem pickMoved_holds : Rows.PickMovedSaid := Mo.pickMoved.over
#print axioms pickMoved_holds
end Go.Proofs.Ytckjpkecipgeiaa
