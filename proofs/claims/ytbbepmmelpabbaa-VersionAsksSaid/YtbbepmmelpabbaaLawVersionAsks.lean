/- which files of any levels a range of keys, or a key, asks -/
import Derived.Test.YtbbepmmelpabbaaVerRoVersionAsks
namespace Go.Proofs.Ytbbepmmelpabbaa
/-- The statement, for every input. -/
theorem versionAsks_holds : Rows.VersionAsksSaid := Mo.versionAsks.over
#print axioms versionAsks_holds
end Go.Proofs.Ytbbepmmelpabbaa
