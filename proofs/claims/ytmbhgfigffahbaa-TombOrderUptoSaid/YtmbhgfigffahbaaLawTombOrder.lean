/- The order of tombs, and one of them told twice, change no fragment and no cover; for inputs of at most 1048576 parts. -/
import Derived.Test.YtmbhgfigffahbaaTmRoTombOrder
namespace Go.Proofs.Ytmbhgfigffahbaa
/-- The statement, for every input. -/
theorem tombOrder_holds : Rows.TombOrderUptoSaid := Mo.tombOrder.over
#print axioms tombOrder_holds
end Go.Proofs.Ytmbhgfigffahbaa
