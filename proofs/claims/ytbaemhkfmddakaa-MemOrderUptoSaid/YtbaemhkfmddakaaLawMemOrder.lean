/- The same operations in another order, with other towers: the same entries, answers, sizes, for inputs of at most 1048576 parts. -/
import Derived.Test.YtbaemhkfmddakaaMeRoMemOrder
namespace Go.Proofs.Ytbaemhkfmddakaa
/-- The statement, for every input. -/
theorem memOrder_holds : Rows.MemOrderUptoSaid := Mo.memOrder.over
#print axioms memOrder_holds
end Go.Proofs.Ytbaemhkfmddakaa
