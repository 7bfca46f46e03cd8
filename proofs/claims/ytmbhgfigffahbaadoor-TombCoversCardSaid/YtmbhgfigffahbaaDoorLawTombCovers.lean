/- Whatever the tombs, the key and the number: cover and span are the document's, and what was handed in stays. -/
import Derived.Test.YtmbhgfigffahbaaDoorTdRoTombCovers
namespace Go.Proofs.YtmbhgfigffahbaaDoor
/-- The statement, for every input. -/
theorem tombCovers_holds : Rows.TombCoversCardSaid := Mo.tombCovers.over
#print axioms tombCovers_holds
end Go.Proofs.YtmbhgfigffahbaaDoor
