/- any entries and tombs, any rule: what is kept is what the document keeps; what was handed in stays, each answer is new memory -/
import Derived.Test.YtfofolmagnaimaaDpRoDropKeeps
namespace Go.Proofs.Ytfofolmagnaimaa
/-- The statement, for every input. -/
theorem dropKeeps_holds : Rows.DropKeepsUptoSaid := Mo.dropKeeps.over
#print axioms dropKeeps_holds
end Go.Proofs.Ytfofolmagnaimaa
