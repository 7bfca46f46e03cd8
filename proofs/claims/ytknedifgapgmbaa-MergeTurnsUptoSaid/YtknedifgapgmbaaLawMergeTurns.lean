/- Lists merged: wherever the cursor stands, Next behind Prev and Prev behind Next come back; for inputs of at most 1048576 parts. -/
import Derived.Test.YtknedifgapgmbaaMgRoMergeTurns
namespace Go.Proofs.Ytknedifgapgmbaa
/-- The statement, for every input. -/
theorem mergeTurns_holds : Rows.MergeTurnsUptoSaid := Mo.mergeTurns.over
#print axioms mergeTurns_holds
end Go.Proofs.Ytknedifgapgmbaa
