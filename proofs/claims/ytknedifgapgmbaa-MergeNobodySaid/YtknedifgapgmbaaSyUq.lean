import Derived.Test.YtknedifgapgmbaaSyArr
set_option linter.unusedVariables false
set_option linter.unusedSectionVars false
set_option linter.unusedSimpArgs false
namespace Go.Proofs.Ytknedifgapgmbaa.Sy
open Go
/-- A strict order of all. -/
structure So {α : Type} (lt : α → α → Prop) : Prop where
  irr : ∀ x, ¬ lt x x
  tr : ∀ x y z, lt x y → lt y z → lt x z
  tri : ∀ x y, lt x y ∨ x = y ∨ lt y x
section
variable {α : Type} {lt : α → α → Prop} [DecidableRel lt]
theorem So.asymm (h : So lt) {x y : α} (k : lt x y) : ¬ lt y x := fun k2 => h.irr x (h.tr _ _ _ k k2)
end
/-- Of equal ones in a row one. -/
def dd {α : Type} [DecidableEq α] : List α → List α
  | [] => []
  | [x] => [x]
  | x :: y :: r => if x = y then dd (y :: r) else x :: dd (y :: r)
section
variable {α : Type} [DecidableEq α]
end
instance : DecidableRel slt := fun a b => inferInstance
end Go.Proofs.Ytknedifgapgmbaa.Sy
