/- A view over nothing, and a nil view, answer nothing; for every list of tombs, number and key. -/
import Derived.Test.YtlhmchndcilifaaGreatVzRoViewNil
namespace Go.Proofs.YtlhmchndcilifaaGreat
/-- The statement, for every input. -/
theorem viewNil_holds : Rows.ViewNilSaid := Mo.viewNil.over
#print axioms viewNil_holds
end Go.Proofs.YtlhmchndcilifaaGreat
