import Derived.Test.YtbaemhkfmddakaaGreatSyOb
import Derived.Test.YtbaemhkfmddakaaGreatSyIn
set_option linter.unusedVariables false
set_option linter.unusedSectionVars false
set_option linter.unusedSimpArgs false
namespace Go.Proofs.YtbaemhkfmddakaaGreat.Sy
open Go
section
variable {ρ : Option Nat} {Δ : List Deferred} variable {P : Program} {ops : Array Oper} {Q : Exit → Act → World → Prop} {a : Act} {w : World} {rest : List Oper} {N : Nat} {L : List (Nat × Value)}
variable {x y : Operand}
end
structure SlV where
  p : Option Addr
  n : Nat
  c : Nat
instance : BEq SlV := ⟨fun _ _ => true⟩
def SlV.nil : SlV := ⟨none, 0, 0⟩
end Go.Proofs.YtbaemhkfmddakaaGreat.Sy
namespace Go.Proofs.YtbaemhkfmddakaaGreat.Sy
open Go
end Go.Proofs.YtbaemhkfmddakaaGreat.Sy
namespace Go.Proofs.YtbaemhkfmddakaaGreat.Sy
open Go
section
variable {ρ : Option Nat} {Δ : List Deferred} {P : Program} {ops : Array Oper} {E B C X : World → Prop} {QQ : Act → Prop} {Q : Exit → Act → World → Prop} {a : Act} {w : World} {rest : List Oper} {N : Nat} {L : List (Nat × Value)}
variable {KK : (World → Prop) → (World → Prop) → Act → Prop} {restm : List (Nat × Oper)}
variable {d ty : Nat} {pos : String} {af : Array Edge} {gd : Option (Nat × Bool)} {x y z : Operand}
end
end Go.Proofs.YtbaemhkfmddakaaGreat.Sy
namespace Go.Proofs.YtbaemhkfmddakaaGreat.Sy
open Go
end Go.Proofs.YtbaemhkfmddakaaGreat.Sy
