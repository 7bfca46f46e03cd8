/- any levels under any edit: the answer is the document's; both stay as they are, and the answer is new memory -/
import Derived.Test.YtbbepmmelpabbaaVerRoVersionApplies
namespace Go.Proofs.Ytbbepmmelpabbaa
/-- The statement, for every input. -/
theorem versionApplies_holds : Rows.VersionAppliesSaid := Mo.versionApplies.over
#print axioms versionApplies_holds
end Go.Proofs.Ytbbepmmelpabbaa
