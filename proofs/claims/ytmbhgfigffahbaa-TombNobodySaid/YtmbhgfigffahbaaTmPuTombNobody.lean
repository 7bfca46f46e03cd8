/- The law, in plain words. -/
import Derived.Test.YtmbhgfigffahbaaTmInTombNobody
import Derived.Test.YtmbhgfigffahbaaTmZ
set_option linter.unusedVariables false
set_option linter.unusedSectionVars false
set_option linter.unusedSimpArgs false
set_option maxRecDepth 100000
namespace Go.Proofs.Ytmbhgfigffahbaa.Mo.tombNobody
open Go Go.Proofs.Ytmbhgfigffahbaa.Sy Go.Proofs.Ytmbhgfigffahbaa.Mo

theorem pure : ∀ (a0 : Tomb) (a1 : ByteArray) (a2 : Int), (Tomb.good a0) → (Tomb.szs a0) → (a1.size ≤ maxLen) → (a1.size ≤ 140737488355327) → ((Lit.int .u64 a2).wf = true) → ∃ k, l09_TombNobody k a0 a1 a2 = some true := by
  intro a0 a1 a2 _ _ _ _ _
  exact (nobody_law a0 a1 a2).ex
end Go.Proofs.Ytmbhgfigffahbaa.Mo.tombNobody
