/- DropStripes: whatever rule, number and key are handed in, both tell the same stripe, and both tell alike whether a file below bears on the key; the law returns true and what was handed in reads as it did. Conditions: none beyond the statement's own. -/
import Derived.Test.YtfofolmagnaimaaDrpRoDropStripes
namespace Go.Proofs.Ytfofolmagnaimaa
/-- The statement, for every input. -/
theorem dropStripes_holds : Rows.DropStripesSaid := Mo.dropStripes.over
#print axioms dropStripes_holds
end Go.Proofs.Ytfofolmagnaimaa
