/- Two lists of operations, one behind the other, do what both joined do, and done twice nothing more; for inputs of at most 1048576 parts. -/
import Derived.Test.YtgmaldangihhnaaMoRoModelJoins
namespace Go.Proofs.Ytgmaldangihhnaa
/-- The statement, for every input. -/
theorem modelJoins_holds : Rows.ModelJoinsUptoSaid := Mo.modelJoins.over
#print axioms modelJoins_holds
end Go.Proofs.Ytgmaldangihhnaa
