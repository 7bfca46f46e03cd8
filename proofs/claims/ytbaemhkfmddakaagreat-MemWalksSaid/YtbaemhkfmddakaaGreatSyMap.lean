import Derived.Test.YtbaemhkfmddakaaGreatSyView
import Derived.Maps.Views
import Derived.Maps.OwnSet
import Derived.Lib.AppendZeros
set_option linter.unusedVariables false
set_option linter.unusedSectionVars false
set_option linter.unusedSimpArgs false
namespace Go.Proofs.YtbaemhkfmddakaaGreat.Sy
open Go
section
variable {ρ : Option Nat} {Δ : List Deferred} variable {P : Program} {ops : Array Oper} {Q : Exit → Act → World → Prop} {a : Act} {w : World} {rest : List Oper} {N : Nat} {L : List (Nat × Value)}
variable {d ty : Nat} {pos : String} {af : Array Edge} {gd : Option (Nat × Bool)} {x y z : Operand}
variable {F : Nat → Prop} {w0 : World} {M : List SP}
end
section
variable {ρ : Option Nat} {Δ : List Deferred} variable {P : Program} {ops : Array Oper} {Q : Exit → Act → World → Prop} {a : Act} {w : World} {rest : List Oper} {N : Nat} {L : List (Nat × Value)} {x y : Operand}
theorem sh_cls {F : Nat → Prop} {w0 : World} {M M' : List SP} (σ τ : List Nat) (h1 : picks M σ = M') (h2 : picks M' τ = M) : (fun w' => SH F w0 w' M) = (fun w' => SH F w0 w' M') := by
  funext w'
  exact propext ⟨fun h => h1 ▸ h.pick σ, fun h => h2 ▸ h.pick τ⟩
theorem m_joinA {E : World → Prop} {ops : Array Oper} {Q : Exit → Act → World → Prop} {KK : (World → Prop) → (World → Prop) → Act → Prop} {B X : World → Prop} {l : List (Nat × Oper)} (n : Nat) (J : Act → Prop) (h1 : ∀ a, J a → wpM ρ P ops E Q KK (l.drop n) B X a) (h2 : (∀ a, J a → wpM ρ P ops E Q KK (l.drop n) B X a) → wpM ρ P ops E Q KK l B X a) : wpM ρ P ops E Q KK l B X a := h2 h1
theorem m_joinB {E : World → Prop} {ops : Array Oper} {Q : Exit → Act → World → Prop} {KK : (World → Prop) → (World → Prop) → Act → Prop} {B X : World → Prop} {l : List (Nat × Oper)} (n : Nat) (J : Act → (World → Prop) → (World → Prop) → Prop) (h1 : ∀ a B X, J a B X → wpM ρ P ops E Q KK (l.drop n) B X a) (h2 : (∀ a B X, J a B X → wpM ρ P ops E Q KK (l.drop n) B X a) → wpM ρ P ops E Q KK l B X a) : wpM ρ P ops E Q KK l B X a := h2 h1
end
end Go.Proofs.YtbaemhkfmddakaaGreat.Sy
