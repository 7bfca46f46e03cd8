import Derived.Test.YtbaemhkfmddakaaGreatSyQuiet
import Derived.Laws.Strings
set_option linter.unusedVariables false
set_option linter.unusedSectionVars false
namespace Go.Proofs.YtbaemhkfmddakaaGreat.Sy
open Go
/-- Strings' order. -/
def slt (a b : ByteArray) : Prop := a.toList < b.toList
instance (a b : ByteArray) : Decidable (slt a b) := inferInstanceAs (Decidable (a.toList < b.toList))
/-- at most -/
def sle (a b : ByteArray) : Prop := ¬ slt b a
instance (a b : ByteArray) : Decidable (sle a b) := inferInstanceAs (Decidable (¬ slt b a))
theorem w64_of {x : Int} (h1 : -9223372036854775808 ≤ x) (h2 : x ≤ 9223372036854775807) : w64 x = x := by
  unfold w64 IntKind.wrap
  simp [IntKind.bits, IntKind.signed]
  omega
end Go.Proofs.YtbaemhkfmddakaaGreat.Sy
