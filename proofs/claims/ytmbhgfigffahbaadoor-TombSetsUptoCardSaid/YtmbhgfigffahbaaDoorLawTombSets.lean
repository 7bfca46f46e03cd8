/- A set of tombs to which others come, asked behind each of them, answers as the document says; for inputs of at most 1048576 parts. -/
import Derived.Test.YtmbhgfigffahbaaDoorTdRoTombSets
namespace Go.Proofs.YtmbhgfigffahbaaDoor
/-- The statement, for every input. -/
theorem tombSets_holds : Rows.TombSetsUptoCardSaid := Mo.tombSets.over
#print axioms tombSets_holds
end Go.Proofs.YtmbhgfigffahbaaDoor
