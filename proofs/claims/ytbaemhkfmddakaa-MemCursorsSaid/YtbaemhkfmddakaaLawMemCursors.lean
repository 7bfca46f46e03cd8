/- Two cursors over a memtable that grows meanwhile stand where the document says; for every list of moves. -/
import Derived.Test.YtbaemhkfmddakaaMeRoMemCursors
namespace Go.Proofs.Ytbaemhkfmddakaa
/-- The statement, for every input. -/
theorem memCursors_holds : Rows.MemCursorsSaid := Mo.memCursors.over
#print axioms memCursors_holds
end Go.Proofs.Ytbaemhkfmddakaa
