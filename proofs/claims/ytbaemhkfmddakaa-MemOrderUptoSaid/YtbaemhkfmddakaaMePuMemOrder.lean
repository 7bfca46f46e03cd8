/- The law, in plain words. -/
import Derived.Test.YtbaemhkfmddakaaMeInMemOrder
import Derived.Test.YtbaemhkfmddakaaMeZ
set_option linter.unusedVariables false
set_option linter.unusedSectionVars false
set_option linter.unusedSimpArgs false
set_option maxRecDepth 100000
namespace Go.Proofs.Ytbaemhkfmddakaa.Mo.memOrder
open Go Go.Proofs.Ytbaemhkfmddakaa.Sy Go.Proofs.Ytbaemhkfmddakaa.Mo

theorem len_sum {α : Type} (f : α → Nat) (h : ∀ x, 1 ≤ f x) : ∀ l : List α, l.length ≤ (l.map f).sum
  | [] => by simp
  | x :: l => by
    have := len_sum f h l
    have := h x
    simp only [List.length_cons, List.map_cons, List.sum_cons]
    omega
theorem pure : ∀ (a0 : (List L10_Act)) (a1 : Int) (a2 : L10_Act), ((∀ y ∈ a0, L10_Act.good y) ∧ a0.length ≤ maxLen) → ((Lit.int .i64 a1).wf = true) → (L10_Act.good a2) → ((a0.map fun y => L10_Act.mz y).sum + 1) + 1 + L10_Act.mz a2 ≤ 1048576 → ∃ k, l10_MemOrder k a0 a1 a2 = some true := by
  intro a by_ ask h1 h2 h3 hb
  have g2 : a.length ≤ (a.map fun y => L10_Act.mz y).sum := len_sum L10_Act.mz (fun x => by unfold L10_Act.mz; omega) a
  exact (order_law a by_ ask (by omega)).ex
end Go.Proofs.Ytbaemhkfmddakaa.Mo.memOrder
