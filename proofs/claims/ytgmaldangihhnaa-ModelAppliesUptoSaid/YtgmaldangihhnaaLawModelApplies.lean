/- Any pairs under any operations are what the document says, and both stay as they are; for inputs of at most 1048576 parts. -/
import Derived.Test.YtgmaldangihhnaaMoRoModelApplies
namespace Go.Proofs.Ytgmaldangihhnaa
/-- The statement, for every input. -/
theorem modelApplies_holds : Rows.ModelAppliesUptoSaid := Mo.modelApplies.over
#print axioms modelApplies_holds
end Go.Proofs.Ytgmaldangihhnaa
