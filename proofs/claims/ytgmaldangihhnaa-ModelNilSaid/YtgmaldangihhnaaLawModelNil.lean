/- A nil model answers as the document says. -/
import Derived.Test.YtgmaldangihhnaaMoRoModelNil
namespace Go.Proofs.Ytgmaldangihhnaa
/-- The statement, for every input. -/
theorem modelNil_holds : Rows.ModelNilSaid := Mo.modelNil.over
#print axioms modelNil_holds
end Go.Proofs.Ytgmaldangihhnaa
