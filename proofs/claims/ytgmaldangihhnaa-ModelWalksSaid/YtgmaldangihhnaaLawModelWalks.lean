/- Any pairs, walked over between any bounds, are told as the document says, and stay as they are. -/
import Derived.Test.YtgmaldangihhnaaMoRoModelWalks
namespace Go.Proofs.Ytgmaldangihhnaa
/-- The statement, for every input. -/
theorem modelWalks_holds : Rows.ModelWalksSaid := Mo.modelWalks.over
#print axioms modelWalks_holds
end Go.Proofs.Ytgmaldangihhnaa
