/- Any lists merged and walked by any moves: every answer, where the cursor stands and from which source, is the document's; for inputs of at most 1048576 parts. -/
import Derived.Test.YtknedifgapgmbaaMgRoMergeWalks
namespace Go.Proofs.Ytknedifgapgmbaa
/-- The statement, for every input. -/
theorem mergeWalks_holds : Rows.MergeWalksUptoSaid := Mo.mergeWalks.over
#print axioms mergeWalks_holds
end Go.Proofs.Ytknedifgapgmbaa
