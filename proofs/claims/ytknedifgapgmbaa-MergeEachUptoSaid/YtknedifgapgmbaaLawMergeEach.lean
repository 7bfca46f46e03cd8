/- Lists merged: from First with Next all entries rise, each as often as the lists have it, and from behind with Prev the same backwards; for inputs of at most 1048576 parts. -/
import Derived.Test.YtknedifgapgmbaaMgRoMergeEach
namespace Go.Proofs.Ytknedifgapgmbaa
/-- The statement, for every input. -/
theorem mergeEach_holds : Rows.MergeEachUptoSaid := Mo.mergeEach.over
#print axioms mergeEach_holds
end Go.Proofs.Ytknedifgapgmbaa
