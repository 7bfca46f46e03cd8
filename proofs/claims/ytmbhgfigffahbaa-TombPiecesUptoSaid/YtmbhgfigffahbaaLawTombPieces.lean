/- TombPieces answers true for every input whose data are at most 1048576 cells and bytes in all: fragments rise and do not overlap, their numbers fall, and a key lies in one with a number just if a tomb with that number covers it. -/
import Derived.Test.YtmbhgfigffahbaaTmRoTombPieces
namespace Go.Proofs.Ytmbhgfigffahbaa
/-- The statement, for every input. -/
theorem tombPieces_holds : Rows.TombPiecesUptoSaid := Mo.tombPieces.over
#print axioms tombPieces_holds
end Go.Proofs.Ytmbhgfigffahbaa
