/- what any levels have: bytes, files, numbers; one of a number; those below a level -/
import Derived.Test.YtbbepmmelpabbaaVerRoVersionTells
namespace Go.Proofs.Ytbbepmmelpabbaa
/-- The statement, for every input. -/
theorem versionTells_holds : Rows.VersionTellsSaid := Mo.versionTells.over
#print axioms versionTells_holds
end Go.Proofs.Ytbbepmmelpabbaa
