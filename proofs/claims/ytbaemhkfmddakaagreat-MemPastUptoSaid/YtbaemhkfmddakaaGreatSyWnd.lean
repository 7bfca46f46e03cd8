import Derived.Test.YtbaemhkfmddakaaGreatSyPtr
set_option linter.unusedVariables false
set_option linter.unusedSectionVars false
set_option linter.unusedSimpArgs false
namespace Go.Proofs.YtbaemhkfmddakaaGreat.Sy
open Go
section
variable {α β : Type} {d : Kd α} {dk : Kd β} {e e' : TypeId} {off : Nat} {get : α → List β} {put : α → List β → α} {F : Nat → Prop} {w0 w : World} {M : List SP} {v u : Value}
end
end Go.Proofs.YtbaemhkfmddakaaGreat.Sy
