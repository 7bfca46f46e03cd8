import Derived.Test.YtknedifgapgmbaaSyEv
set_option linter.unusedVariables false
set_option linter.unusedSectionVars false
set_option linter.unusedSimpArgs false
namespace Go.Proofs.Ytknedifgapgmbaa.Sy
open Go
section
variable {ρ : Option Nat} {Δ : List Deferred} variable {P : Program} {a : Act} {w : World} {N : Nat} {L : List (Nat × Value)} {x y : Operand}
end
end Go.Proofs.Ytknedifgapgmbaa.Sy
