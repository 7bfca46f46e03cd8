/- The law, in plain words. -/
import Derived.Test.YtmbhgfigffahbaaDoorTdInTombSets
import Derived.Test.YtmbhgfigffahbaaDoorTdZ
set_option linter.unusedVariables false
set_option linter.unusedSectionVars false
set_option linter.unusedSimpArgs false
set_option maxRecDepth 100000
namespace Go.Proofs.YtmbhgfigffahbaaDoor.Mo.tombSets
open Go Go.Proofs.YtmbhgfigffahbaaDoor.Sy Go.Proofs.YtmbhgfigffahbaaDoor.Mo

theorem len_sum {α : Type} (f : α → Nat) (h : ∀ x, 1 ≤ f x) : ∀ l : List α, l.length ≤ (l.map f).sum
  | [] => by simp
  | x :: l => by
    have := len_sum f h l
    have := h x
    simp only [List.length_cons, List.map_cons, List.sum_cons]
    omega
theorem seqs0 {l : List Tomb} (h : ∀ y ∈ l, Tomb.good y) : ∀ e ∈ l, 0 ≤ e.Seq := fun e he => by
  have hw := (h e he).2.2
  have h0 : IntKind.min .u64 = 0 := by decide
  simp only [Lit.wf, Bool.and_eq_true, decide_eq_true_eq] at hw
  omega
theorem pure : ∀ (a0 : (List Tomb)) (a1 : (List Tomb)) (a2 : L09_Ask), ((∀ y ∈ a0, Tomb.good y) ∧ a0.length ≤ maxLen) → ((∀ y ∈ a1, Tomb.good y) ∧ a1.length ≤ maxLen) → (L09_Ask.good a2) → ((a0.map fun y => Tomb.mz y).sum + 1) + ((a1.map fun y => Tomb.mz y).sum + 1) + L09_Ask.mz a2 ≤ 1048576 → ∃ k, l09_TombSets k a0 a1 a2 = some true := by
  intro l more q h1 h2 h3 hb
  have g1 : l.length ≤ (l.map fun y => Tomb.mz y).sum := len_sum Tomb.mz (fun x => by unfold Tomb.mz; omega) l
  have g2 : more.length ≤ (more.map fun y => Tomb.mz y).sum := len_sum Tomb.mz (fun x => by unfold Tomb.mz; omega) more
  exact (sets_law l (by omega) (seqs0 h1.1) more (by omega) (seqs0 h2.1) q).ex
end Go.Proofs.YtmbhgfigffahbaaDoor.Mo.tombSets
