/- behind an edit levels are a version's, with as many files as went and came; taken back they are as they were -/
import Derived.Test.YtbbepmmelpabbaaVerRoVersionBack
namespace Go.Proofs.Ytbbepmmelpabbaa
/-- The statement, for every input. -/
theorem versionBack_holds : Rows.VersionBackSaid := Mo.versionBack.over
#print axioms versionBack_holds
end Go.Proofs.Ytbbepmmelpabbaa
