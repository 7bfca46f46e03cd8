/- The law, in plain words. -/
import Derived.Test.YtknedifgapgmbaaMgInMergeEach
import Derived.Test.YtknedifgapgmbaaMgZ
set_option linter.unusedVariables false
set_option linter.unusedSectionVars false
set_option linter.unusedSimpArgs false
set_option maxRecDepth 100000
namespace Go.Proofs.Ytknedifgapgmbaa.Mo.mergeEach
open Go Go.Proofs.Ytknedifgapgmbaa.Sy Go.Proofs.Ytknedifgapgmbaa.Mo

theorem len_sum {α : Type} (f : α → Nat) (h : ∀ x, 1 ≤ f x) : ∀ l : List α, l.length ≤ (l.map f).sum
  | [] => by simp
  | x :: l => by
    have := len_sum f h l
    have := h x
    simp only [List.length_cons, List.map_cons, List.sum_cons]
    omega
theorem flat_sum {α : Type} (f : α → Nat) (h : ∀ x, 1 ≤ f x) : ∀ l : List (List α), l.length ≤ (l.map fun y => (y.map f).sum + 1).sum ∧ l.flatten.length ≤ (l.map fun y => (y.map f).sum + 1).sum
  | [] => by simp
  | x :: l => by
    obtain ⟨h1, h2⟩ := flat_sum f h l
    have := len_sum f h x
    simp only [List.length_cons, List.map_cons, List.sum_cons, List.flatten_cons, List.length_append]
    omega
theorem pure : ∀ (a0 : (List (List Entry))), ((∀ y ∈ a0, (∀ y1 ∈ y, Entry.good y1) ∧ y.length ≤ maxLen) ∧ a0.length ≤ maxLen) → ((a0.map fun y => ((y.map fun y1 => Entry.mz y1).sum + 1)).sum + 1) ≤ 1048576 → ∃ k, l19_MergeEach k a0 = some true := by
  intro a h1 hb
  obtain ⟨g1, g2⟩ := flat_sum Entry.mz (fun x => by unfold Entry.mz; omega) a
  have hb' : ((a.map fun y => (y.map Entry.mz).sum + 1).sum + 1) ≤ 1048576 := hb
  exact (each_law a (by omega) (by omega)).ex
end Go.Proofs.Ytknedifgapgmbaa.Mo.mergeEach
