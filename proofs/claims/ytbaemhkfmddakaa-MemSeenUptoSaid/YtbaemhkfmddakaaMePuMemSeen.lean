/- The law, in plain words. -/
import Derived.Test.YtbaemhkfmddakaaMeInMemSeen
import Derived.Test.YtbaemhkfmddakaaMeZ
set_option linter.unusedVariables false
set_option linter.unusedSectionVars false
set_option linter.unusedSimpArgs false
set_option maxRecDepth 100000
namespace Go.Proofs.Ytbaemhkfmddakaa.Mo.memSeen
open Go Go.Proofs.Ytbaemhkfmddakaa.Sy Go.Proofs.Ytbaemhkfmddakaa.Mo

theorem len_sum {α : Type} (f : α → Nat) (h : ∀ x, 1 ≤ f x) : ∀ l : List α, l.length ≤ (l.map f).sum
  | [] => by simp
  | x :: l => by
    have := len_sum f h l
    have := h x
    simp only [List.length_cons, List.map_cons, List.sum_cons]
    omega
theorem pure : ∀ (a0 : (List L10_Act)) (a1 : ByteArray) (a2 : Int), ((∀ y ∈ a0, L10_Act.good y) ∧ a0.length ≤ maxLen) → (a1.size ≤ maxLen) → ((Lit.int .u64 a2).wf = true) → ((a0.map fun y => L10_Act.mz y).sum + 1) + (a1.size + 1) + 1 ≤ 1048576 → ∃ k, l10_MemSeen k a0 a1 a2 = some true := by
  intro a key n h1 h2 h3 hb
  have g2 : a.length ≤ (a.map fun y => L10_Act.mz y).sum := len_sum L10_Act.mz (fun x => by unfold L10_Act.mz; omega) a
  exact (seen_law a key n (by omega)).ex
end Go.Proofs.Ytbaemhkfmddakaa.Mo.memSeen
