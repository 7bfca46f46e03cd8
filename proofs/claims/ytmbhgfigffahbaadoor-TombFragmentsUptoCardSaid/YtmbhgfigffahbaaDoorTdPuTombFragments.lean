/- The law, in plain words. -/
import Derived.Test.YtmbhgfigffahbaaDoorTdInTombFragments
import Derived.Test.YtmbhgfigffahbaaDoorTdZ
set_option linter.unusedVariables false
set_option linter.unusedSectionVars false
set_option linter.unusedSimpArgs false
set_option maxRecDepth 100000
namespace Go.Proofs.YtmbhgfigffahbaaDoor.Mo.tombFragments
open Go Go.Proofs.YtmbhgfigffahbaaDoor.Sy Go.Proofs.YtmbhgfigffahbaaDoor.Mo

theorem len_sum {α : Type} (f : α → Nat) (h : ∀ x, 1 ≤ f x) : ∀ l : List α, l.length ≤ (l.map f).sum
  | [] => by simp
  | x :: l => by
    have := len_sum f h l
    have := h x
    simp only [List.length_cons, List.map_cons, List.sum_cons]
    omega
theorem pure : ∀ (a0 : (List Tomb)), ((∀ y ∈ a0, Tomb.good y) ∧ a0.length ≤ maxLen) → ((a0.map fun y => Tomb.mz y).sum + 1) ≤ 1048576 → ∃ k, l09_TombFragments k a0 = some true := by
  intro l h1 hb
  have g1 : l.length ≤ (l.map fun y => Tomb.mz y).sum := len_sum Tomb.mz (fun x => by unfold Tomb.mz; omega) l
  exact (fragments_law l (by omega)).ex
end Go.Proofs.YtmbhgfigffahbaaDoor.Mo.tombFragments
