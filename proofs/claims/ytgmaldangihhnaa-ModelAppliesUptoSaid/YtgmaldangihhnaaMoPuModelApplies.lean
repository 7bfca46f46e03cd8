/- The law, in plain words. -/
import Derived.Test.YtgmaldangihhnaaMoInModelApplies
import Derived.Test.YtgmaldangihhnaaMoZ
set_option linter.unusedVariables false
set_option linter.unusedSectionVars false
set_option linter.unusedSimpArgs false
set_option maxRecDepth 100000
namespace Go.Proofs.Ytgmaldangihhnaa.Mo.modelApplies
open Go Go.Proofs.Ytgmaldangihhnaa.Sy Go.Proofs.Ytgmaldangihhnaa.Mo

theorem len_sum {α : Type} (f : α → Nat) (h : ∀ x, 1 ≤ f x) : ∀ l : List α, l.length ≤ (l.map f).sum
  | [] => by simp
  | x :: l => by
    have := len_sum f h l
    have := h x
    simp only [List.length_cons, List.map_cons, List.sum_cons]
    omega
theorem pure : ∀ (a0 : (List model_Pair)) (a1 : (List Op)), ((∀ y ∈ a0, model_Pair.good y) ∧ a0.length ≤ maxLen) → ((∀ y ∈ a1, Op.good y) ∧ a1.length ≤ maxLen) → ((a0.map fun y => model_Pair.mz y).sum + 1) + ((a1.map fun y => Op.mz y).sum + 1) ≤ 1048576 → ∃ k, l26_ModelApplies k a0 a1 = some true := by
  intro a b h1 h2 hb
  have g1 : a.length ≤ (a.map fun y => model_Pair.mz y).sum := len_sum model_Pair.mz (fun x => by unfold model_Pair.mz; omega) a
  have g2 : b.length ≤ (b.map fun y => Op.mz y).sum := len_sum Op.mz (fun x => by unfold Op.mz; omega) b
  exact (applies_law a b (by omega) (by omega) (fun p hp => (h1.1 p hp).1)).ex
end Go.Proofs.Ytgmaldangihhnaa.Mo.modelApplies
