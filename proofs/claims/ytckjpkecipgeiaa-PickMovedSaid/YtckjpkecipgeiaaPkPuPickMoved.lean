/- PickMoved, in plain words. -/
import Derived.Test.YtckjpkecipgeiaaPkInPickMoved
import Derived.Test.YtckjpkecipgeiaaPmv
set_option linter.unusedVariables false
set_option linter.unusedSectionVars false
set_option linter.unusedSimpArgs false
set_option maxRecDepth 100000
namespace Go.Proofs.Ytckjpkecipgeiaa.Mo.pickMoved
open Go Go.Proofs.Ytckjpkecipgeiaa.Sy Go.Proofs.Ytckjpkecipgeiaa.Mo

theorem goodL_of {a0 : List (List File)} (h : (∀ y ∈ a0, (∀ y1 ∈ y, File.good y1) ∧ y.length ≤ maxLen) ∧ a0.length ≤ maxLen) (h2 : a0.length * 24 ≤ 140737488355327 ∧ ∀ y ∈ a0, (y.length * 64 ≤ 140737488355327 ∧ ∀ y1 ∈ y, File.szs y1)) : goodL a0 := by
  refine ⟨fun y hy => ⟨?_, fun f hf => ?_⟩, by omega⟩
  · have := (h2.2 y hy).1
    omega
  · exact ((h.1 y hy).1 f hf).1

theorem pure : ∀ (a0 : (List (List File))) (a1 : Config) (a2 : ByteArray), ((∀ y ∈ a0, (∀ y1 ∈ y, File.good y1) ∧ y.length ≤ maxLen) ∧ a0.length ≤ maxLen) → ((a0.length * 24 ≤ 140737488355327 ∧ ∀ y ∈ a0, (y.length * 64 ≤ 140737488355327 ∧ ∀ y1 ∈ y, File.szs y1))) → (Config.good a1) → (Config.szs a1) → (a2.size ≤ maxLen) → (a2.size ≤ 140737488355327) → ∃ k, l22_PickMoved k a0 a1 a2 = some true := by
  intro l c key h1 h2 _ _ _ _
  exact (moved_law l (goodL_of h1 h2) c key).ex
end Go.Proofs.Ytckjpkecipgeiaa.Mo.pickMoved
