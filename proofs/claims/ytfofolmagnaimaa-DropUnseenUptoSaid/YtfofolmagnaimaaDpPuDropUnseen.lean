/- DropUnseen, in plain words. -/
import Derived.Test.YtfofolmagnaimaaDpInDropUnseen
import Derived.Test.YtfofolmagnaimaaDpZ
set_option linter.unusedVariables false
set_option linter.unusedSectionVars false
set_option linter.unusedSimpArgs false
set_option maxRecDepth 100000
namespace Go.Proofs.Ytfofolmagnaimaa.Mo.dropUnseen
open Go Go.Proofs.Ytfofolmagnaimaa.Sy Go.Proofs.Ytfofolmagnaimaa.Mo

theorem len_sum {α : Type} (f : α → Nat) (h : ∀ x, 1 ≤ f x) : ∀ l : List α, l.length ≤ (l.map f).sum
  | [] => by simp
  | x :: l => by
    have := len_sum f h l
    have := h x
    simp only [List.length_cons, List.map_cons, List.sum_cons]
    omega
theorem seqs {l : List Entry} (h : ∀ y ∈ l, Entry.good y) : ∀ e ∈ l, 0 ≤ e.Seq ∧ e.Seq ≤ 18446744073709551615 := fun e he => by
  have hw := (h e he).2.1
  have h0 : IntKind.min .u64 = 0 := by decide
  have h1 : IntKind.max .u64 = 18446744073709551615 := by decide
  simp only [Lit.wf, Bool.and_eq_true, decide_eq_true_eq] at hw
  omega
theorem pure : ∀ (a0 : L21_Put) (a1 : R21_Rule) (a2 : L21_Older), (L21_Put.good a0) → (R21_Rule.good a1) → (L21_Older.good a2) → L21_Put.mz a0 + R21_Rule.mz a1 + L21_Older.mz a2 ≤ 1048576 → ∃ k, l21_DropUnseen k a0 a1 a2 = some true := by
  intro p r o h1 h2 h3 hb
  have g1 : p.Entries.length ≤ (p.Entries.map fun y => Entry.mz y).sum := len_sum Entry.mz (fun x => by unfold Entry.mz; omega) p.Entries
  have g2 : p.Tombs.length ≤ (p.Tombs.map fun y => Tomb.mz y).sum := len_sum Tomb.mz (fun x => by unfold Tomb.mz; omega) p.Tombs
  have g3 : r.Snaps.length ≤ (r.Snaps.map fun y => 1).sum := len_sum (fun _ : Int => 1) (fun _ => Nat.le_refl _) r.Snaps
  have g4 : r.Below.length ≤ (r.Below.map fun y => File.mz y).sum := len_sum File.mz (fun x => by unfold File.mz; omega) r.Below
  have g5 : o.Entries.length ≤ (o.Entries.map fun y => Entry.mz y).sum := len_sum Entry.mz (fun x => by unfold Entry.mz; omega) o.Entries
  have g6 : o.Tombs.length ≤ (o.Tombs.map fun y => Tomb.mz y).sum := len_sum Tomb.mz (fun x => by unfold Tomb.mz; omega) o.Tombs
  unfold R21_Rule.mz L21_Put.mz L21_Older.mz at hb
  exact (unseen_law p (by omega) (by omega) r (by omega) (by omega) o (by omega) (by omega) (seqs h1.1.1) (fun e he => (seqs h3.1.1 e he).1)).ex
end Go.Proofs.Ytfofolmagnaimaa.Mo.dropUnseen
