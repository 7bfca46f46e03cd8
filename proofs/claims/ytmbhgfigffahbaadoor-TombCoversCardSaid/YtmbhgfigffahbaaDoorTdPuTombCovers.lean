/- TombCovers, in plain words. -/
import Derived.Test.YtmbhgfigffahbaaDoorTdInTombCovers
import Derived.Test.YtmbhgfigffahbaaDoorTdPl
set_option linter.unusedVariables false
set_option maxRecDepth 100000
namespace Go.Proofs.YtmbhgfigffahbaaDoor.Mo.tombCovers
open Go Go.Proofs.YtmbhgfigffahbaaDoor.Sy Go.Proofs.YtmbhgfigffahbaaDoor.Mo
theorem pure : ∀ (a0 : (List Tomb)) (a1 : ByteArray) (a2 : Int), ((∀ y ∈ a0, Tomb.good y) ∧ a0.length ≤ maxLen) → ((a0.length * 40 ≤ 140737488355327 ∧ ∀ y ∈ a0, Tomb.szs y)) → (a1.size ≤ maxLen) → (a1.size ≤ 140737488355327) → ((Lit.int .u64 a2).wf = true) → ∃ k, l09_TombCovers k a0 a1 a2 = some true := by
  intro a0 a1 a2 hg hz h1 h2 h3
  refine (tombCovers_true a0 a1 a2 (by omega) fun x hx => ?_).ex
  have h := (hg.1 x hx).2.2
  simp only [Lit.wf, Bool.and_eq_true, decide_eq_true_eq] at h
  have h0 : IntKind.min .u64 = 0 := by decide
  omega
end Go.Proofs.YtmbhgfigffahbaaDoor.Mo.tombCovers
