/- The law, in plain words. -/
import Derived.Test.YtbaemhkfmddakaaGreatMzInMemPlays
import Derived.Test.YtbaemhkfmddakaaGreatMzZ
set_option linter.unusedVariables false
set_option linter.unusedSectionVars false
set_option linter.unusedSimpArgs false
set_option maxRecDepth 100000
namespace Go.Proofs.YtbaemhkfmddakaaGreat.Mo.memPlays
open Go Go.Proofs.YtbaemhkfmddakaaGreat.Sy Go.Proofs.YtbaemhkfmddakaaGreat.Mo

theorem len_sum {α : Type} (f : α → Nat) (h : ∀ x, 1 ≤ f x) : ∀ l : List α, l.length ≤ (l.map f).sum
  | [] => by simp
  | x :: l => by
    have := len_sum f h l
    have := h x
    simp only [List.length_cons, List.map_cons, List.sum_cons]
    omega
theorem pure : ∀ (a0 : Int) (a1 : (List L10_Act)), ((Lit.int .i64 a0).wf = true) → ((∀ y ∈ a1, L10_Act.good y) ∧ a1.length ≤ maxLen) → 1 + ((a1.map fun y => L10_Act.mz y).sum + 1) ≤ 1048576 → ∃ k, l10_MemPlays k a0 a1 = some true := by
  intro a b h1 h2 hb
  have g2 : b.length ≤ (b.map fun y => L10_Act.mz y).sum := len_sum L10_Act.mz (fun x => by unfold L10_Act.mz; omega) b
  exact (plays_law a b (by omega)).ex
end Go.Proofs.YtbaemhkfmddakaaGreat.Mo.memPlays
