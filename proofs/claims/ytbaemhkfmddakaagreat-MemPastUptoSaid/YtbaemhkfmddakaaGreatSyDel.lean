import Derived.Test.YtbaemhkfmddakaaGreatSyFld
import Derived.ArgAppend
set_option linter.unusedVariables false
set_option linter.unusedSectionVars false
set_option linter.unusedSimpArgs false
namespace Go.Proofs.YtbaemhkfmddakaaGreat.Sy
open Go
section
variable {α : Type} {e : TypeId} {F : Nat → Prop} {w0 w : World} {M : List SP} {v : Value} {xs : List α} {sz : Nat} {enc : α → List Value} {hl : ∀ x, (enc x).length = sz} {h1 : ∀ x, ∀ u ∈ enc x, u.oneCell' = true}
theorem SH.front (h : SH F w0 w M) (i : Nat) {A : SP} (hi : M[i]? = some A) : SH F w0 w (A :: M.eraseIdx i) := by
  obtain ⟨G1, G2, h1, h2, h3, hA, hr⟩ := h.sep.pull i hi
  exact ⟨h.kp, G1, G2, h1, h2, h3, hA, hr⟩
end
section
variable {ρ : Option Nat} {Δ : List Deferred} variable {P : Program} {ops : Array Oper} {Q : Exit → Act → World → Prop} {a : Act} {w : World} {rest : List Oper} {N : Nat} {L : List (Nat × Value)}
variable {d ty : Nat} {pos : String} {af : Array Edge} {gd : Option (Nat × Bool)} {x y z : Operand}
variable {F : Nat → Prop} {w0 : World} {M : List SP}
end
end Go.Proofs.YtbaemhkfmddakaaGreat.Sy
