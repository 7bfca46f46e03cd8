import Derived.Test.YtbaemhkfmddakaaGreatSyEv
set_option linter.unusedVariables false
set_option linter.unusedSectionVars false
set_option linter.unusedSimpArgs false
namespace Go.Proofs.YtbaemhkfmddakaaGreat.Sy
open Go
section
variable {ρ : Option Nat} {Δ : List Deferred} variable {P : Program} {a : Act} {w : World} {N : Nat} {L : List (Nat × Value)} {x y : Operand}
theorem x_nilCheck {p : Addr} (hst : ST Δ N a L) (hx : ev L x = some (.pointer (some p))) : Tell P a w (.nilCheck x) (.pointer (some p)) := fun o ho => by
  simp [execOp, ho, hst.ev hx]
end
end Go.Proofs.YtbaemhkfmddakaaGreat.Sy
