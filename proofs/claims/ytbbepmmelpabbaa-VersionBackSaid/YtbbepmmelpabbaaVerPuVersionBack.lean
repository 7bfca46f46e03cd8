/- VersionBack, in plain words. -/
import Derived.Test.YtbbepmmelpabbaaVerInVersionBack
import Derived.Test.YtbbepmmelpabbaaVvv
set_option linter.unusedVariables false
set_option linter.unusedSectionVars false
set_option linter.unusedSimpArgs false
set_option maxRecDepth 100000
namespace Go.Proofs.Ytbbepmmelpabbaa.Mo.versionBack
open Go Go.Proofs.Ytbbepmmelpabbaa.Sy Go.Proofs.Ytbbepmmelpabbaa.Mo

theorem goodL_of {a0 : List (List File)} (h : (∀ y ∈ a0, (∀ y1 ∈ y, File.good y1) ∧ y.length ≤ maxLen) ∧ a0.length ≤ maxLen) (h2 : a0.length * 24 ≤ 140737488355327 ∧ ∀ y ∈ a0, (y.length * 64 ≤ 140737488355327 ∧ ∀ y1 ∈ y, File.szs y1)) : goodL a0 := by
  refine ⟨fun y hy => ⟨?_, fun f hf => ?_⟩, by omega⟩
  · have := (h2.2 y hy).1
    omega
  · exact ((h.1 y hy).1 f hf).1

theorem goodE_of {e : Edit} (h1 : Edit.good e) (h2 : Edit.szs e) : goodE e := by
  obtain ⟨_, _, _, _, h3⟩ := h1
  obtain ⟨_, _, _, h4, h5⟩ := h2
  exact ⟨by have := h4.1; omega, by have := h5.1; omega, fun c hc => (h3.1 c hc).2.1⟩

theorem pure : ∀ (a0 : (List (List File))) (a1 : Edit), ((∀ y ∈ a0, (∀ y1 ∈ y, File.good y1) ∧ y.length ≤ maxLen) ∧ a0.length ≤ maxLen) → ((a0.length * 24 ≤ 140737488355327 ∧ ∀ y ∈ a0, (y.length * 64 ≤ 140737488355327 ∧ ∀ y1 ∈ y, File.szs y1))) → (Edit.good a1) → (Edit.szs a1) → ∃ k, l16_VersionBack k a0 a1 = some true := by
  intro l e h1 h2 h3 h4
  exact (back_law l (goodL_of h1 h2) e (goodE_of h3 h4)).ex
end Go.Proofs.Ytbbepmmelpabbaa.Mo.versionBack
