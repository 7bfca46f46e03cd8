/- A plan is of the fullest level, and there is one just if a level is full: at all levels, configurations and lists that the row speaks of. -/
import Derived.Test.YtckjpkecipgeiaaPkRoPickFullest
namespace Go.Proofs.Ytckjpkecipgeiaa
/-- The statement, for every input. -/
theorem pickFullest_holds : Rows.PickFullestSaid := Mo.pickFullest.over
#print axioms pickFullest_holds
end Go.Proofs.Ytckjpkecipgeiaa
