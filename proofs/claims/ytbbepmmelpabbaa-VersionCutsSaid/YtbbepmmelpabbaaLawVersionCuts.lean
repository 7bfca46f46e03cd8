/- the files that a range of keys asks, cut in two anywhere in it, are those that both ask -/
import Derived.Test.YtbbepmmelpabbaaVerRoVersionCuts
namespace Go.Proofs.Ytbbepmmelpabbaa
/-- The statement, for every input. -/
theorem versionCuts_holds : Rows.VersionCutsSaid := Mo.versionCuts.over
#print axioms versionCuts_holds
end Go.Proofs.Ytbbepmmelpabbaa
