/- A cursor's walk over a memtable that any operations filled tells all its entries, and the same from behind, and a step on and a step back come back; for every list of operations and every turn. -/
import Derived.Test.YtbaemhkfmddakaaGreatMzRoMemWalks
namespace Go.Proofs.YtbaemhkfmddakaaGreat
/-- The statement, for every input. -/
theorem memWalks_holds : Rows.MemWalksSaid := Mo.memWalks.over
#print axioms memWalks_holds
end Go.Proofs.YtbaemhkfmddakaaGreat
