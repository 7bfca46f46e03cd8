/- Sets that no call gave answer nothing, for every input. -/
import Derived.Test.YtmbhgfigffahbaaTmRoTombNobody
namespace Go.Proofs.Ytmbhgfigffahbaa
/-- The statement, for every input. -/
theorem tombNobody_holds : Rows.TombNobodySaid := Mo.tombNobody.over
#print axioms tombNobody_holds
end Go.Proofs.Ytmbhgfigffahbaa
