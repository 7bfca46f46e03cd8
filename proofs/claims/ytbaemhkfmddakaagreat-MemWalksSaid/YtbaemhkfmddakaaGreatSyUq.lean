import Derived.Test.YtbaemhkfmddakaaGreatSyArr
set_option linter.unusedVariables false
set_option linter.unusedSectionVars false
set_option linter.unusedSimpArgs false
namespace Go.Proofs.YtbaemhkfmddakaaGreat.Sy
open Go
/-- A strict order of all. -/
structure So {α : Type} (lt : α → α → Prop) : Prop where
  irr : ∀ x, ¬ lt x x
  tr : ∀ x y z, lt x y → lt y z → lt x z
  tri : ∀ x y, lt x y ∨ x = y ∨ lt y x
section
variable {α : Type} {lt : α → α → Prop} [DecidableRel lt]
theorem So.asymm (h : So lt) {x y : α} (k : lt x y) : ¬ lt y x := fun k2 => h.irr x (h.tr _ _ _ k k2)
end
section
variable {α : Type} [DecidableEq α]
end
instance : DecidableRel slt := fun a b => inferInstance
end Go.Proofs.YtbaemhkfmddakaaGreat.Sy
