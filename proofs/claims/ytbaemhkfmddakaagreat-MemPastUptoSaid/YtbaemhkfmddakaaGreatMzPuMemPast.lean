/- The law, in plain words. -/
import Derived.Test.YtbaemhkfmddakaaGreatMzInMemPast
import Derived.Test.YtbaemhkfmddakaaGreatMzZ
set_option linter.unusedVariables false
set_option linter.unusedSectionVars false
set_option linter.unusedSimpArgs false
set_option maxRecDepth 100000
namespace Go.Proofs.YtbaemhkfmddakaaGreat.Mo.memPast
open Go Go.Proofs.YtbaemhkfmddakaaGreat.Sy Go.Proofs.YtbaemhkfmddakaaGreat.Mo

theorem len_sum {α : Type} (f : α → Nat) (h : ∀ x, 1 ≤ f x) : ∀ l : List α, l.length ≤ (l.map f).sum
  | [] => by simp
  | x :: l => by
    have := len_sum f h l
    have := h x
    simp only [List.length_cons, List.map_cons, List.sum_cons]
    omega
theorem pure : ∀ (a0 : (List L10_Act)) (a1 : (List L10_Act)) (a2 : L10_Act), ((∀ y ∈ a0, L10_Act.good y) ∧ a0.length ≤ maxLen) → ((∀ y ∈ a1, L10_Act.good y) ∧ a1.length ≤ maxLen) → (L10_Act.good a2) → ((a0.map fun y => L10_Act.mz y).sum + 1) + ((a1.map fun y => L10_Act.mz y).sum + 1) + L10_Act.mz a2 ≤ 1048576 → ∃ k, l10_MemPast k a0 a1 a2 = some true := by
  intro a0 a1 a2 h1 h2 h3 hb
  have g0 : a0.length ≤ (a0.map fun y => L10_Act.mz y).sum := len_sum L10_Act.mz (fun x => by unfold L10_Act.mz; omega) a0
  have g1 : a1.length ≤ (a1.map fun y => L10_Act.mz y).sum := len_sum L10_Act.mz (fun x => by unfold L10_Act.mz; omega) a1
  exact (past_law a0 a1 a2 (by omega) (by omega)).ex
end Go.Proofs.YtbaemhkfmddakaaGreat.Mo.memPast
