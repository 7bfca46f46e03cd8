import Derived.Test.YtmbhgfigffahbaaDoorSyRange
import Derived.Test.YtmbhgfigffahbaaDoorSyPlain
import Derived.Laws.Externs
import Derived.Lib.Bytealg
set_option linter.unusedVariables false
set_option linter.unusedSectionVars false
set_option linter.unusedSimpArgs false
namespace Go.Proofs.YtmbhgfigffahbaaDoor.Sy
open Go
section
variable {Δ : List Deferred} {P : Program} {a : Act} {w : World} {N : Nat} {L : List (Nat × Value)} {x y : Operand}
end
end Go.Proofs.YtmbhgfigffahbaaDoor.Sy
