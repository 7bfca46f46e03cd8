import Derived.Test.YtbaemhkfmddakaaGreatSyRange
import Derived.Test.YtbaemhkfmddakaaGreatSyPlain
import Derived.Laws.Externs
import Derived.Lib.Bytealg
set_option linter.unusedVariables false
set_option linter.unusedSectionVars false
set_option linter.unusedSimpArgs false
namespace Go.Proofs.YtbaemhkfmddakaaGreat.Sy
open Go
section
variable {Δ : List Deferred} {P : Program} {a : Act} {w : World} {N : Nat} {L : List (Nat × Value)} {x y : Operand}
end
end Go.Proofs.YtbaemhkfmddakaaGreat.Sy
