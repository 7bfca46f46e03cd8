/- The law, in plain words. -/
import Derived.Test.YtlhmchndcilifaaGreatVzInViewNil
import Derived.Test.YtlhmchndcilifaaGreatVzZ
set_option linter.unusedVariables false
set_option linter.unusedSectionVars false
set_option linter.unusedSimpArgs false
set_option maxRecDepth 100000
namespace Go.Proofs.YtlhmchndcilifaaGreat.Mo.viewNil
open Go Go.Proofs.YtlhmchndcilifaaGreat.Sy Go.Proofs.YtlhmchndcilifaaGreat.Mo

theorem pure : ∀ (a0 : (List Tomb)) (a1 : Int) (a2 : ByteArray), ((∀ y ∈ a0, Tomb.good y) ∧ a0.length ≤ maxLen) → ((a0.length * 40 ≤ 140737488355327 ∧ ∀ y ∈ a0, Tomb.szs y)) → ((Lit.int .u64 a1).wf = true) → (a2.size ≤ maxLen) → (a2.size ≤ 140737488355327) → ∃ k, l20_ViewNil k a0 a1 a2 = some true := by
  intro a0 a1 a2 _ _ _ _ _
  exact (viewNil_law a0 a1 a2).ex
end Go.Proofs.YtlhmchndcilifaaGreat.Mo.viewNil
