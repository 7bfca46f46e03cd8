/- Any tombs' fragments are the document's, each answer is new memory, and what was handed in stays; for inputs of at most 1048576 parts. -/
import Derived.Test.YtmbhgfigffahbaaDoorTdRoTombFragments
namespace Go.Proofs.YtmbhgfigffahbaaDoor
/-- The statement, for every input. -/
theorem tombFragments_holds : Rows.TombFragmentsUptoCardSaid := Mo.tombFragments.over
#print axioms tombFragments_holds
end Go.Proofs.YtmbhgfigffahbaaDoor
