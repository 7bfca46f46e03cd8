/- Two hundred calls or two thousand, a memtable answers Get, Entries, Tombs, Span, Log, Len and Size as the document says after any row of adds and questions, for inputs of at most 1048576 parts. -/
import Derived.Test.YtbaemhkfmddakaaGreatMzRoMemPlays
namespace Go.Proofs.YtbaemhkfmddakaaGreat
/-- The statement, for every input. -/
theorem memPlays_holds : Rows.MemPlaysUptoSaid := Mo.memPlays.over
#print axioms memPlays_holds
end Go.Proofs.YtbaemhkfmddakaaGreat
