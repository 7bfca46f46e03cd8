/- The law, in plain words. -/
import Derived.Test.YtbaemhkfmddakaaGreatMzInMemNil
import Derived.Test.YtbaemhkfmddakaaGreatMzZ
set_option linter.unusedVariables false
set_option linter.unusedSectionVars false
set_option linter.unusedSimpArgs false
set_option maxRecDepth 100000
namespace Go.Proofs.YtbaemhkfmddakaaGreat.Mo.memNil
open Go Go.Proofs.YtbaemhkfmddakaaGreat.Sy Go.Proofs.YtbaemhkfmddakaaGreat.Mo

theorem pure : ∀ (a0 : L10_Act) (a1 : IKey), (L10_Act.good a0) → (L10_Act.szs a0) → (IKey.good a1) → (IKey.szs a1) → ∃ k, l10_MemNil k a0 a1 = some true := by
  intro a0 a1 _ _ _ _
  exact (memNil_law a0 a1).ex
end Go.Proofs.YtbaemhkfmddakaaGreat.Mo.memNil
