/- The law, in plain words. -/
import Derived.Test.YtgmaldangihhnaaMoInModelNil
import Derived.Test.YtgmaldangihhnaaMoZ
set_option linter.unusedVariables false
set_option linter.unusedSectionVars false
set_option linter.unusedSimpArgs false
set_option maxRecDepth 100000
namespace Go.Proofs.Ytgmaldangihhnaa.Mo.modelNil
open Go Go.Proofs.Ytgmaldangihhnaa.Sy Go.Proofs.Ytgmaldangihhnaa.Mo

theorem pure : ∀ (a0 : Int) (a1 : ByteArray) (a2 : (List Op)), ((Lit.int .i64 a0).wf = true) → (a1.size ≤ maxLen) → (a1.size ≤ 140737488355327) → ((∀ y ∈ a2, Op.good y) ∧ a2.length ≤ maxLen) → ((a2.length * 40 ≤ 140737488355327 ∧ ∀ y ∈ a2, Op.szs y)) → ∃ k, l26_ModelNil k a0 a1 a2 = some true := by
  intro a0 a1 a2 _ _ _ _ _
  exact (nil_law a0 a1 a2).ex
end Go.Proofs.Ytgmaldangihhnaa.Mo.modelNil
