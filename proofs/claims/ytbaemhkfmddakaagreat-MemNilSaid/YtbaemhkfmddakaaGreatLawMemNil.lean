/- Memtables, cursors and queues that are nil, or that no call gave, answer nothing. -/
import Derived.Test.YtbaemhkfmddakaaGreatMzRoMemNil
namespace Go.Proofs.YtbaemhkfmddakaaGreat
/-- The statement, for every input. -/
theorem memNil_holds : Rows.MemNilSaid := Mo.memNil.over
#print axioms memNil_holds
end Go.Proofs.YtbaemhkfmddakaaGreat
