/- The law, in plain words. -/
import Derived.Test.YtlhmchndcilifaaVwInViewBatches
import Derived.Test.YtlhmchndcilifaaVwZ
set_option linter.unusedVariables false
set_option linter.unusedSectionVars false
set_option linter.unusedSimpArgs false
set_option maxRecDepth 100000
namespace Go.Proofs.Ytlhmchndcilifaa.Mo.viewBatches
open Go Go.Proofs.Ytlhmchndcilifaa.Sy Go.Proofs.Ytlhmchndcilifaa.Mo

theorem len_sum {α : Type} (f : α → Nat) (h : ∀ x, 1 ≤ f x) : ∀ l : List α, l.length ≤ (l.map f).sum
  | [] => by simp
  | x :: l => by
    have := len_sum f h l
    have := h x
    simp only [List.length_cons, List.map_cons, List.sum_cons]
    omega
theorem pure : ∀ (a0 : (List Op)), ((∀ y ∈ a0, Op.good y) ∧ a0.length ≤ maxLen) → ((a0.map fun y => Op.mz y).sum + 1) ≤ 1048576 → ∃ k, l20_ViewBatches k a0 = some true := by
  intro a0 h1 hb
  have g0 : a0.length ≤ (a0.map fun y => Op.mz y).sum := len_sum Op.mz (fun x => by unfold Op.mz; omega) a0
  exact (batches_law a0 (by omega)).ex
end Go.Proofs.Ytlhmchndcilifaa.Mo.viewBatches
