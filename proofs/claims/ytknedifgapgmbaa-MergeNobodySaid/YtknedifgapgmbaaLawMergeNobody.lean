/- Merged cursors that no call gave answer nothing, and sources that are nil are empty ones. -/
import Derived.Test.YtknedifgapgmbaaMgRoMergeNobody
namespace Go.Proofs.Ytknedifgapgmbaa
/-- The statement, for every input. -/
theorem mergeNobody_holds : Rows.MergeNobodySaid := Mo.mergeNobody.over
#print axioms mergeNobody_holds
end Go.Proofs.Ytknedifgapgmbaa
