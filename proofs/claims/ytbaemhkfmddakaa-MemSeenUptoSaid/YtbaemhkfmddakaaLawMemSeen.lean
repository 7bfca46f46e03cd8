/- What a memtable tells of a key is what its entries and tombs, looked at one by one, say: one rule, for inputs of at most 1048576 parts. -/
import Derived.Test.YtbaemhkfmddakaaMeRoMemSeen
namespace Go.Proofs.Ytbaemhkfmddakaa
/-- The statement, for every input. -/
theorem memSeen_holds : Rows.MemSeenUptoSaid := Mo.memSeen.over
#print axioms memSeen_holds
end Go.Proofs.Ytbaemhkfmddakaa
