/- With nothing below and one who looks at all, of each key at most one entry is kept, a put, and no tomb; for every input. -/
import Derived.Test.YtfofolmagnaimaaDpRoDropDeep
namespace Go.Proofs.Ytfofolmagnaimaa
/-- The statement, for every input. -/
theorem dropDeep_holds : Rows.DropDeepSaid := Mo.dropDeep.over
#print axioms dropDeep_holds
end Go.Proofs.Ytfofolmagnaimaa
