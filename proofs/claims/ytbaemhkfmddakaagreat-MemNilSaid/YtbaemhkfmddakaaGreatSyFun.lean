import Derived.Test.YtbaemhkfmddakaaGreatSyApp
set_option linter.unusedVariables false
set_option linter.unusedSectionVars false
set_option linter.unusedSimpArgs false
namespace Go.Proofs.YtbaemhkfmddakaaGreat.Sy
open Go
theorem Same.sub {Z Z' : Nat → Prop} {wr w : World} (h : Same Z wr w) (hz : ∀ k, Z' k → Z k) : Same Z' wr w := fun k hk => h k (hz k hk)
section
variable {ρ : Option Nat} {Δ : List Deferred} variable {P : Program} {ops : Array Oper} {Q : Exit → Act → World → Prop} {a : Act} {w : World} {rest : List Oper} {N : Nat} {L : List (Nat × Value)}
variable {d ty : Nat} {pos : String} {af : Array Edge} {gd : Option (Nat × Bool)} {x y z : Operand}
variable {F : Nat → Prop} {w0 : World} {M : List SP} {C : World → Prop} {QQ : Act → Prop} {E B X : World → Prop} {restm : List (Nat × Oper)} {KK : (World → Prop) → (World → Prop) → Act → Prop}
end
end Go.Proofs.YtbaemhkfmddakaaGreat.Sy
