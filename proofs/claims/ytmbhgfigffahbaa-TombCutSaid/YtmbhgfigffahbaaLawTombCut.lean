/- TombCut: whatever tombs and whatever question are handed in, what is cut covers, between the bounds, just what was covered, with the same numbers, and nothing outside of them; the law returns true and what was handed in reads as it did. Conditions: none beyond the statement's own. -/
import Derived.Test.YtmbhgfigffahbaaTmbRoTombCut
namespace Go.Proofs.Ytmbhgfigffahbaa
/-- The statement, for every input. -/
theorem tombCut_holds : Rows.TombCutSaid := Mo.tombCut.over
#print axioms tombCut_holds
end Go.Proofs.Ytmbhgfigffahbaa
