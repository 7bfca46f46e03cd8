/- The law, in plain words. -/
import Derived.Test.YtbaemhkfmddakaaMeInMemCursors
import Derived.Test.YtbaemhkfmddakaaMeZ
set_option linter.unusedVariables false
set_option linter.unusedSectionVars false
set_option linter.unusedSimpArgs false
set_option maxRecDepth 100000
namespace Go.Proofs.Ytbaemhkfmddakaa.Mo.memCursors
open Go Go.Proofs.Ytbaemhkfmddakaa.Sy Go.Proofs.Ytbaemhkfmddakaa.Mo

theorem pure : ∀ (a0 : (List L10_Move)), ((∀ y ∈ a0, L10_Move.good y) ∧ a0.length ≤ maxLen) → ((a0.length * 112 ≤ 140737488355327 ∧ ∀ y ∈ a0, L10_Move.szs y)) → ∃ k, l10_MemCursors k a0 = some true := by
  intro a h1 h2
  exact (cursors_law a (by omega)).ex
end Go.Proofs.Ytbaemhkfmddakaa.Mo.memCursors
