/- the keys of any files; whether any levels are the same -/
import Derived.Test.YtbbepmmelpabbaaVerRoVersionSpans
namespace Go.Proofs.Ytbbepmmelpabbaa
/-- The statement, for every input. -/
theorem versionSpans_holds : Rows.VersionSpansSaid := Mo.versionSpans.over
#print axioms versionSpans_holds
end Go.Proofs.Ytbbepmmelpabbaa
