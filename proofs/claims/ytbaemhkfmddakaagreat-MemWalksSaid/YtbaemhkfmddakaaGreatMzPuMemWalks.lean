/- The law, in plain words. -/
import Derived.Test.YtbaemhkfmddakaaGreatMzInMemWalks
import Derived.Test.YtbaemhkfmddakaaGreatMzZ
set_option linter.unusedVariables false
set_option linter.unusedSectionVars false
set_option linter.unusedSimpArgs false
set_option maxRecDepth 100000
namespace Go.Proofs.YtbaemhkfmddakaaGreat.Mo.memWalks
open Go Go.Proofs.YtbaemhkfmddakaaGreat.Sy Go.Proofs.YtbaemhkfmddakaaGreat.Mo

theorem pure : ∀ (a0 : (List L10_Act)) (a1 : Int), ((∀ y ∈ a0, L10_Act.good y) ∧ a0.length ≤ maxLen) → ((a0.length * 64 ≤ 140737488355327 ∧ ∀ y ∈ a0, L10_Act.szs y)) → ((Lit.int .i64 a1).wf = true) → ∃ k, l10_MemWalks k a0 a1 = some true := by
  intro a0 a1 h1 h2 h3
  exact (walks_law a0 a1 (by omega)).ex
end Go.Proofs.YtbaemhkfmddakaaGreat.Mo.memWalks
