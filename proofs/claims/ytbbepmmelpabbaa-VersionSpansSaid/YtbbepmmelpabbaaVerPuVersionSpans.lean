/- VersionSpans, in plain words. -/
import Derived.Test.YtbbepmmelpabbaaVerInVersionSpans
import Derived.Test.YtbbepmmelpabbaaVvk
set_option linter.unusedVariables false
set_option linter.unusedSectionVars false
set_option linter.unusedSimpArgs false
set_option maxRecDepth 100000
namespace Go.Proofs.Ytbbepmmelpabbaa.Mo.versionSpans
open Go Go.Proofs.Ytbbepmmelpabbaa.Sy Go.Proofs.Ytbbepmmelpabbaa.Mo

theorem goodL_of {a0 : List (List File)} (h : (∀ y ∈ a0, (∀ y1 ∈ y, File.good y1) ∧ y.length ≤ maxLen) ∧ a0.length ≤ maxLen) (h2 : a0.length * 24 ≤ 140737488355327 ∧ ∀ y ∈ a0, (y.length * 64 ≤ 140737488355327 ∧ ∀ y1 ∈ y, File.szs y1)) : goodL a0 := by
  refine ⟨fun y hy => ⟨?_, fun f hf => ?_⟩, by omega⟩
  · have := (h2.2 y hy).1
    omega
  · exact ((h.1 y hy).1 f hf).1

theorem pure : ∀ (a0 : (List File)) (a1 : (List (List File))) (a2 : (List (List File))), ((∀ y ∈ a0, File.good y) ∧ a0.length ≤ maxLen) → ((a0.length * 64 ≤ 140737488355327 ∧ ∀ y ∈ a0, File.szs y)) → ((∀ y ∈ a1, (∀ y1 ∈ y, File.good y1) ∧ y.length ≤ maxLen) ∧ a1.length ≤ maxLen) → ((a1.length * 24 ≤ 140737488355327 ∧ ∀ y ∈ a1, (y.length * 64 ≤ 140737488355327 ∧ ∀ y1 ∈ y, File.szs y1))) → ((∀ y ∈ a2, (∀ y1 ∈ y, File.good y1) ∧ y.length ≤ maxLen) ∧ a2.length ≤ maxLen) → ((a2.length * 24 ≤ 140737488355327 ∧ ∀ y ∈ a2, (y.length * 64 ≤ 140737488355327 ∧ ∀ y1 ∈ y, File.szs y1))) → ∃ k, l16_VersionSpans k a0 a1 a2 = some true := by
  intro f a b h1 h2 h3 h4 h5 h6
  exact (spans_law f (by have := h2.1; omega) a b (goodL_of h3 h4) (by have := h4.1; omega) (goodL_of h5 h6)).ex
end Go.Proofs.Ytbbepmmelpabbaa.Mo.versionSpans
