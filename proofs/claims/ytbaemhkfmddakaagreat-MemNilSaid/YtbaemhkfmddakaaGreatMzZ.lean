import Derived.Test.YtbaemhkfmddakaaGreatMzTw
import Derived.Test.YtbaemhkfmddakaaGreatSyEv
import Derived.Test.YtbaemhkfmddakaaGreatSyPlain
set_option linter.unusedVariables false
set_option linter.unusedSectionVars false
set_option linter.unusedSimpArgs false
set_option maxRecDepth 100000
namespace Go.Proofs.YtbaemhkfmddakaaGreat.Mo
open Go Go.Proofs.YtbaemhkfmddakaaGreat.Sy
theorem memNil_law (a0 : L10_Act) (a1 : IKey) : Ev (fun k => l10_MemNil k a0 a1) true := ⟨20, fun k hk => by
  obtain ⟨j, rfl⟩ := Nat.exists_eq_add_of_le' hk
  show l10_MemNil (j + 20) a0 a1 = some true
  kernel_rfl⟩
end Go.Proofs.YtbaemhkfmddakaaGreat.Mo
