/- DropDeep, in plain words. -/
import Derived.Test.YtfofolmagnaimaaDpInDropDeep
import Derived.Test.YtfofolmagnaimaaDpZ
set_option linter.unusedVariables false
set_option linter.unusedSectionVars false
set_option linter.unusedSimpArgs false
set_option maxRecDepth 100000
namespace Go.Proofs.Ytfofolmagnaimaa.Mo.dropDeep
open Go Go.Proofs.Ytfofolmagnaimaa.Sy Go.Proofs.Ytfofolmagnaimaa.Mo

theorem seqs {l : List Entry} (h : ∀ y ∈ l, Entry.good y) : ∀ e ∈ l, 0 ≤ e.Seq ∧ e.Seq ≤ 18446744073709551615 := fun e he => by
  have hw := (h e he).2.1
  have h0 : IntKind.min .u64 = 0 := by decide
  have h1 : IntKind.max .u64 = 18446744073709551615 := by decide
  simp only [Lit.wf, Bool.and_eq_true, decide_eq_true_eq] at hw
  omega
theorem pure : ∀ (a0 : (List Entry)) (a1 : (List Tomb)), ((∀ y ∈ a0, Entry.good y) ∧ a0.length ≤ maxLen) → ((a0.length * 48 ≤ 140737488355327 ∧ ∀ y ∈ a0, Entry.szs y)) → ((∀ y ∈ a1, Tomb.good y) ∧ a1.length ≤ maxLen) → ((a1.length * 40 ≤ 140737488355327 ∧ ∀ y ∈ a1, Tomb.szs y)) → ∃ k, l21_DropDeep k a0 a1 = some true := by
  intro l t h1 s1 h2 s2
  exact (deep_law l (by have := s1.1; omega) t (by have := s2.1; omega) (seqs h1.1)).ex
end Go.Proofs.Ytfofolmagnaimaa.Mo.dropDeep
