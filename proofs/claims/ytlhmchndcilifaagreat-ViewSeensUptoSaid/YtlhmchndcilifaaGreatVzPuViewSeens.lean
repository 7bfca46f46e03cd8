/- The law, in plain words. -/
import Derived.Test.YtlhmchndcilifaaGreatVzInViewSeens
import Derived.Test.YtlhmchndcilifaaGreatVzZ
set_option linter.unusedVariables false
set_option linter.unusedSectionVars false
set_option linter.unusedSimpArgs false
set_option maxRecDepth 100000
namespace Go.Proofs.YtlhmchndcilifaaGreat.Mo.viewSeens
open Go Go.Proofs.YtlhmchndcilifaaGreat.Sy Go.Proofs.YtlhmchndcilifaaGreat.Mo

theorem len_sum {α : Type} (f : α → Nat) (h : ∀ x, 1 ≤ f x) : ∀ l : List α, l.length ≤ (l.map f).sum
  | [] => by simp
  | x :: l => by
    have := len_sum f h l
    have := h x
    simp only [List.length_cons, List.map_cons, List.sum_cons]
    omega
theorem pure : ∀ (a0 : (List Entry)) (a1 : (List Tomb)) (a2 : Int), ((∀ y ∈ a0, Entry.good y) ∧ a0.length ≤ maxLen) → ((∀ y ∈ a1, Tomb.good y) ∧ a1.length ≤ maxLen) → ((Lit.int .u64 a2).wf = true) → ((a0.map fun y => Entry.mz y).sum + 1) + ((a1.map fun y => Tomb.mz y).sum + 1) + 1 ≤ 1048576 → ∃ k, l20_ViewSeens k a0 a1 a2 = some true := by
  intro l t n h1 h2 h3 hb
  have g1 : l.length ≤ (l.map fun y => Entry.mz y).sum := len_sum Entry.mz (fun x => by unfold Entry.mz; omega) l
  have g2 : t.length ≤ (t.map fun y => Tomb.mz y).sum := len_sum Tomb.mz (fun x => by unfold Tomb.mz; omega) t
  refine (seens_law l (by omega) t (by omega) (fun x hx => ?_) n).ex
  have hw := (h2.1 x hx).2.2
  have h0 : IntKind.min .u64 = 0 := by decide
  simp only [Lit.wf, Bool.and_eq_true, decide_eq_true_eq] at hw
  omega
end Go.Proofs.YtlhmchndcilifaaGreat.Mo.viewSeens
