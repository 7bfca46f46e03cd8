/- What is told of a key at a number stays: operations with greater numbers change nothing of it, and freezing changes nothing; for every two lists of operations and every question up to a size. -/
import Derived.Test.YtbaemhkfmddakaaGreatMzRoMemPast
namespace Go.Proofs.YtbaemhkfmddakaaGreat
/-- The statement, for every input. -/
theorem memPast_holds : Rows.MemPastUptoSaid := Mo.memPast.over
#print axioms memPast_holds
end Go.Proofs.YtbaemhkfmddakaaGreat
