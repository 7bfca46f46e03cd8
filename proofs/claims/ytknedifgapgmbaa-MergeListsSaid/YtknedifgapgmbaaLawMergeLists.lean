/- A list in any order, walked by any moves, answers as the document says, for every input. -/
import Derived.Test.YtknedifgapgmbaaMgRoMergeLists
namespace Go.Proofs.Ytknedifgapgmbaa
/-- The statement, for every input. -/
theorem mergeLists_holds : Rows.MergeListsSaid := Mo.mergeLists.over
#print axioms mergeLists_holds
end Go.Proofs.Ytknedifgapgmbaa
