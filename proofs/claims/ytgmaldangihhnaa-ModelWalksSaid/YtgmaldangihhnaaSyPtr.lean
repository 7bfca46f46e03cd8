import Derived.Test.YtgmaldangihhnaaSyExt
import Derived.LoopNIn
set_option linter.unusedVariables false
set_option linter.unusedSectionVars false
set_option linter.unusedSimpArgs false
namespace Go.Proofs.Ytgmaldangihhnaa.Sy
open Go
/-- Two values that are told apart without memory. -/
def EqV (P : Program) (t : Nat) (u v : Value) (q : Bool) : Prop :=
  ((∀ w, (binOp .eql t u v).run P w = .ok (.bool q) w) ∧ ∀ w, (binOp .neq t u v).run P w = .ok (.bool (!q)) w) ∧ (∀ x y, eqGuard .eql t x y u v = pure ()) ∧ ∀ x y, eqGuard .neq t x y u v = pure ()
section
variable {P : Program} {t e : Nat} {ps rs : Array TypeId} {vr : Bool}
end
section
variable {ρ : Option Nat} {Δ : List Deferred} variable {P : Program} {Q : Exit → Act → World → Prop} {a : Act} {w : World} {N : Nat} {L : List (Nat × Value)} {x y : Operand}
end
end Go.Proofs.Ytgmaldangihhnaa.Sy
