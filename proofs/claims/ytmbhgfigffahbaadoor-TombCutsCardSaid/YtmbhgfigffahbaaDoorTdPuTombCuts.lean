/- TombCuts, in plain words. -/
import Derived.Test.YtmbhgfigffahbaaDoorTdInTombCuts
import Derived.Test.YtmbhgfigffahbaaDoorTdPl
set_option linter.unusedVariables false
set_option maxRecDepth 100000
namespace Go.Proofs.YtmbhgfigffahbaaDoor.Mo.tombCuts
open Go Go.Proofs.YtmbhgfigffahbaaDoor.Sy Go.Proofs.YtmbhgfigffahbaaDoor.Mo
theorem pure : ∀ (a0 : (List Tomb)) (a1 : ByteArray) (a2 : ByteArray), ((∀ y ∈ a0, Tomb.good y) ∧ a0.length ≤ maxLen) → ((a0.length * 40 ≤ 140737488355327 ∧ ∀ y ∈ a0, Tomb.szs y)) → (a1.size ≤ maxLen) → (a1.size ≤ 140737488355327) → (a2.size ≤ maxLen) → (a2.size ≤ 140737488355327) → ∃ k, l09_TombCuts k a0 a1 a2 = some true := by
  intro a0 a1 a2 hg hz h1 h2 h3 h4
  exact (tombCuts_true a0 a1 a2 (by omega)).ex
end Go.Proofs.YtmbhgfigffahbaaDoor.Mo.tombCuts
