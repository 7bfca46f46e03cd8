/- The law, in plain words. -/
import Derived.Test.YtknedifgapgmbaaMgInMergeLists
import Derived.Test.YtknedifgapgmbaaMgZ
set_option linter.unusedVariables false
set_option linter.unusedSectionVars false
set_option linter.unusedSimpArgs false
set_option maxRecDepth 100000
namespace Go.Proofs.Ytknedifgapgmbaa.Mo.mergeLists
open Go Go.Proofs.Ytknedifgapgmbaa.Sy Go.Proofs.Ytknedifgapgmbaa.Mo

theorem pure : ∀ (a0 : (List Entry)) (a1 : (List L19_Move)), ((∀ y ∈ a0, Entry.good y) ∧ a0.length ≤ maxLen) → ((a0.length * 48 ≤ 140737488355327 ∧ ∀ y ∈ a0, Entry.szs y)) → ((∀ y ∈ a1, L19_Move.good y) ∧ a1.length ≤ maxLen) → ((a1.length * 40 ≤ 140737488355327 ∧ ∀ y ∈ a1, L19_Move.szs y)) → ∃ k, l19_MergeLists k a0 a1 = some true := by
  intro l mv h1 s1 h2 s2
  exact (lists_law l (by have := s1.1; omega) mv (by have := s2.1; omega)).ex
end Go.Proofs.Ytknedifgapgmbaa.Mo.mergeLists
