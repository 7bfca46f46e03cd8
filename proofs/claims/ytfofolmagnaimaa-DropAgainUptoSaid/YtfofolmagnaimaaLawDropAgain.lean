/- What was kept is kept again by the same rule, and without anybody who looks all is kept; for inputs of at most 1048576 parts. -/
import Derived.Test.YtfofolmagnaimaaDpRoDropAgain
namespace Go.Proofs.Ytfofolmagnaimaa
/-- The statement, for every input. -/
theorem dropAgain_holds : Rows.DropAgainUptoSaid := Mo.dropAgain.over
#print axioms dropAgain_holds
end Go.Proofs.Ytfofolmagnaimaa
