/- The law, in plain words. -/
import Derived.Test.YtgmaldangihhnaaMoInModelWalks
import Derived.Test.YtgmaldangihhnaaMoZ
set_option linter.unusedVariables false
set_option linter.unusedSectionVars false
set_option linter.unusedSimpArgs false
set_option maxRecDepth 100000
namespace Go.Proofs.Ytgmaldangihhnaa.Mo.modelWalks
open Go Go.Proofs.Ytgmaldangihhnaa.Sy Go.Proofs.Ytgmaldangihhnaa.Mo

theorem pure : ∀ (a0 : (List model_Pair)) (a1 : L26_Look), ((∀ y ∈ a0, model_Pair.good y) ∧ a0.length ≤ maxLen) → ((a0.length * 32 ≤ 140737488355327 ∧ ∀ y ∈ a0, model_Pair.szs y)) → (L26_Look.good a1) → (L26_Look.szs a1) → ∃ k, l26_ModelWalks k a0 a1 = some true := by
  intro a b h1 h2 h3 h4
  exact (walks_law a b (by omega) (fun p hp => (h1.1 p hp).1) (by have := h4.2.2.1; omega)).ex
end Go.Proofs.Ytgmaldangihhnaa.Mo.modelWalks
