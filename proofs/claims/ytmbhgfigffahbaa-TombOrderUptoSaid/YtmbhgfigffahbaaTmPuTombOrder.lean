/- The law, in plain words. -/
import Derived.Test.YtmbhgfigffahbaaTmInTombOrder
import Derived.Test.YtmbhgfigffahbaaTmZ
set_option linter.unusedVariables false
set_option linter.unusedSectionVars false
set_option linter.unusedSimpArgs false
set_option maxRecDepth 100000
namespace Go.Proofs.Ytmbhgfigffahbaa.Mo.tombOrder
open Go Go.Proofs.Ytmbhgfigffahbaa.Sy Go.Proofs.Ytmbhgfigffahbaa.Mo

theorem len_sum {α : Type} (f : α → Nat) (h : ∀ x, 1 ≤ f x) : ∀ l : List α, l.length ≤ (l.map f).sum
  | [] => by simp
  | x :: l => by
    have := len_sum f h l
    have := h x
    simp only [List.length_cons, List.map_cons, List.sum_cons]
    omega
theorem pure : ∀ (a0 : (List Tomb)) (a1 : ByteArray) (a2 : Int), ((∀ y ∈ a0, Tomb.good y) ∧ a0.length ≤ maxLen) → (a1.size ≤ maxLen) → ((Lit.int .u64 a2).wf = true) → ((a0.map fun y => Tomb.mz y).sum + 1) + (a1.size + 1) + 1 ≤ 1048576 → ∃ k, l09_TombOrder k a0 a1 a2 = some true := by
  intro l key n h1 h2 h3 hb
  have g1 : l.length ≤ (l.map fun y => Tomb.mz y).sum := len_sum Tomb.mz (fun x => by unfold Tomb.mz; omega) l
  refine (order_law l (by omega) (fun x hx => ?_) key n).ex
  have hw := (h1.1 x hx).2.2
  have h0 : IntKind.min .u64 = 0 := by decide
  simp only [Lit.wf, Bool.and_eq_true, decide_eq_true_eq] at hw
  omega
end Go.Proofs.Ytmbhgfigffahbaa.Mo.tombOrder
