/- of each level but the first at most one file is asked for a key, and just those that bear on it -/
import Derived.Test.YtbbepmmelpabbaaVerRoVersionBears
namespace Go.Proofs.Ytbbepmmelpabbaa
/-- The statement, for every input. -/
theorem versionBears_holds : Rows.VersionBearsSaid := Mo.versionBears.over
#print axioms versionBears_holds
end Go.Proofs.Ytbbepmmelpabbaa
