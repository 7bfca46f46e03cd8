import Derived.Test.YtlhmchndcilifaaGreatSyQuiet
import Derived.Laws.Strings
set_option linter.unusedVariables false
set_option linter.unusedSectionVars false
namespace Go.Proofs.YtlhmchndcilifaaGreat.Sy
open Go
theorem ba_inj {a b : ByteArray} (h : a.toList = b.toList) : a = b := by
  rw [ByteArray.toList_eq, ByteArray.toList_eq] at h
  obtain ⟨a⟩ := a
  obtain ⟨b⟩ := b
  simp only [ByteArray.mk.injEq]
  exact Array.toList_inj.1 h
theorem sEq_iff {a b : ByteArray} : sEq a b = true ↔ a = b := by
  unfold sEq
  constructor
  · intro h
    exact ba_inj (by simpa using h)
  · rintro rfl
    simp
theorem sEq_refl (a : ByteArray) : sEq a a = true := sEq_iff.2 rfl
theorem bytesLess_lt : ∀ (x y : List UInt8), Op.bytesLess x y = decide (x < y)
  | [], [] => by simp [Op.bytesLess]
  | _ :: _, [] => by simp [Op.bytesLess]
  | [], _ :: _ => by simp [Op.bytesLess]
  | a :: x, b :: y => by
    rw [Op.bytesLess, bytesLess_lt x y]
    simp only [List.cons_lt_cons_iff]
    by_cases h1 : a < b <;> by_cases h2 : a = b <;> by_cases h3 : x < y <;> simp [h1, h2, h3]
/-- Strings' order. -/
def slt (a b : ByteArray) : Prop := a.toList < b.toList
instance (a b : ByteArray) : Decidable (slt a b) := inferInstanceAs (Decidable (a.toList < b.toList))
theorem sLt_dec (a b : ByteArray) : sLt a b = decide (slt a b) := bytesLess_lt _ _
theorem sLt_iff {a b : ByteArray} : sLt a b = true ↔ slt a b := by rw [sLt_dec]; simp
/-- at most -/
def sle (a b : ByteArray) : Prop := ¬ slt b a
instance (a b : ByteArray) : Decidable (sle a b) := inferInstanceAs (Decidable (¬ slt b a))
theorem idx_nat {α : Type} (l : List α) (n : Nat) : idx l (n : Int) = l[n]? := by
  unfold idx
  simp
end Go.Proofs.YtlhmchndcilifaaGreat.Sy
