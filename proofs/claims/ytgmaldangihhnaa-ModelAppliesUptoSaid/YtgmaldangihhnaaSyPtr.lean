import Derived.Test.YtgmaldangihhnaaSyExt
import Derived.LoopNIn
set_option linter.unusedVariables false
set_option linter.unusedSectionVars false
set_option linter.unusedSimpArgs false
namespace Go.Proofs.Ytgmaldangihhnaa.Sy
open Go
section
variable {P : Program} {t e : Nat} {ps rs : Array TypeId} {vr : Bool}
end
section
variable {ρ : Option Nat} {Δ : List Deferred} variable {P : Program} {Q : Exit → Act → World → Prop} {a : Act} {w : World} {N : Nat} {L : List (Nat × Value)} {x y : Operand}
end
end Go.Proofs.Ytgmaldangihhnaa.Sy
