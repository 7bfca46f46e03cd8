/- The law, in plain words. -/
import Derived.Test.YtknedifgapgmbaaMgInMergeNobody
import Derived.Test.YtknedifgapgmbaaMgZ
set_option linter.unusedVariables false
set_option linter.unusedSectionVars false
set_option linter.unusedSimpArgs false
set_option maxRecDepth 100000
namespace Go.Proofs.Ytknedifgapgmbaa.Mo.mergeNobody
open Go Go.Proofs.Ytknedifgapgmbaa.Sy Go.Proofs.Ytknedifgapgmbaa.Mo

theorem pure : ∀ (a0 : (List Entry)) (a1 : L19_Move), ((∀ y ∈ a0, Entry.good y) ∧ a0.length ≤ maxLen) → ((a0.length * 48 ≤ 140737488355327 ∧ ∀ y ∈ a0, Entry.szs y)) → (L19_Move.good a1) → (L19_Move.szs a1) → ∃ k, l19_MergeNobody k a0 a1 = some true := by
  intro a v h1 h2 h3 h4
  exact (nobody_law a (by omega) v).ex
end Go.Proofs.Ytknedifgapgmbaa.Mo.mergeNobody
