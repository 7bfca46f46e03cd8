/- Whatever the tombs and bounds: both cuts are the document's, lie in memory of their own, and leave what was handed in as it was. -/
import Derived.Test.YtmbhgfigffahbaaDoorTdRoTombCuts
namespace Go.Proofs.YtmbhgfigffahbaaDoor
/-- The statement, for every input. -/
theorem tombCuts_holds : Rows.TombCutsCardSaid := Mo.tombCuts.over
#print axioms tombCuts_holds
end Go.Proofs.YtmbhgfigffahbaaDoor
