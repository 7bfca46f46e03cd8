/- Any lists' entries, merged, are the document's, what was handed in stays, each answer is new memory; for inputs of at most 1048576 parts. -/
import Derived.Test.YtknedifgapgmbaaMgRoMergeAll
namespace Go.Proofs.Ytknedifgapgmbaa
/-- The statement, for every input. -/
theorem mergeAll_holds : Rows.MergeAllUptoSaid := Mo.mergeAll.over
#print axioms mergeAll_holds
end Go.Proofs.Ytknedifgapgmbaa
