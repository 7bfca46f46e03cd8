/- At each number at which somebody looks each key shows what it showed, with anything older below; for inputs of at most 1048576 parts. -/
import Derived.Test.YtfofolmagnaimaaDpRoDropUnseen
namespace Go.Proofs.Ytfofolmagnaimaa
/-- The statement, for every input. -/
theorem dropUnseen_holds : Rows.DropUnseenUptoSaid := Mo.dropUnseen.over
#print axioms dropUnseen_holds
end Go.Proofs.Ytfofolmagnaimaa
