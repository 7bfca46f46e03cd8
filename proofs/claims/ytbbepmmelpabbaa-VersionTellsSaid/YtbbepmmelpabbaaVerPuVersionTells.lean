/- VersionTells, in plain words. -/
import Derived.Test.YtbbepmmelpabbaaVerInVersionTells
import Derived.Test.YtbbepmmelpabbaaVvj
set_option linter.unusedVariables false
set_option linter.unusedSectionVars false
set_option linter.unusedSimpArgs false
set_option maxRecDepth 100000
namespace Go.Proofs.Ytbbepmmelpabbaa.Mo.versionTells
open Go Go.Proofs.Ytbbepmmelpabbaa.Sy Go.Proofs.Ytbbepmmelpabbaa.Mo

theorem goodL_of {a0 : List (List File)} (h : (∀ y ∈ a0, (∀ y1 ∈ y, File.good y1) ∧ y.length ≤ maxLen) ∧ a0.length ≤ maxLen) (h2 : a0.length * 24 ≤ 140737488355327 ∧ ∀ y ∈ a0, (y.length * 64 ≤ 140737488355327 ∧ ∀ y1 ∈ y, File.szs y1)) : goodL a0 := by
  refine ⟨fun y hy => ⟨?_, fun f hf => ?_⟩, by omega⟩
  · have := (h2.2 y hy).1
    omega
  · exact ((h.1 y hy).1 f hf).1

theorem pure : ∀ (a0 : (List (List File))) (a1 : Int) (a2 : Int), ((∀ y ∈ a0, (∀ y1 ∈ y, File.good y1) ∧ y.length ≤ maxLen) ∧ a0.length ≤ maxLen) → ((a0.length * 24 ≤ 140737488355327 ∧ ∀ y ∈ a0, (y.length * 64 ≤ 140737488355327 ∧ ∀ y1 ∈ y, File.szs y1))) → ((Lit.int .i64 a1).wf = true) → ((Lit.int .i64 a2).wf = true) → ∃ k, l16_VersionTells k a0 a1 a2 = some true := by
  intro l a n h1 h2 _ _
  exact (tells_law l (goodL_of h1 h2) (by have := h2.1; omega) a n).ex
end Go.Proofs.Ytbbepmmelpabbaa.Mo.versionTells
