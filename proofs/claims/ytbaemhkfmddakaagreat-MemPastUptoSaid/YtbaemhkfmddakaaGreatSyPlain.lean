import Derived.Test.YtbaemhkfmddakaaGreatSyQuiet
import Derived.Laws.Strings
set_option linter.unusedVariables false
set_option linter.unusedSectionVars false
namespace Go.Proofs.YtbaemhkfmddakaaGreat.Sy
open Go
theorem ba_inj {a b : ByteArray} (h : a.toList = b.toList) : a = b := by
  rw [ByteArray.toList_eq, ByteArray.toList_eq] at h
  obtain ⟨a⟩ := a
  obtain ⟨b⟩ := b
  simp only [ByteArray.mk.injEq]
  exact Array.toList_inj.1 h
theorem sEq_iff {a b : ByteArray} : sEq a b = true ↔ a = b := by
  unfold sEq
  constructor
  · intro h
    exact ba_inj (by simpa using h)
  · rintro rfl
    simp
theorem sEq_false {a b : ByteArray} : sEq a b = false ↔ a ≠ b := by
  rw [← Bool.not_eq_true, sEq_iff]
theorem sEq_refl (a : ByteArray) : sEq a a = true := sEq_iff.2 rfl
theorem sEq_dec (a b : ByteArray) : sEq a b = decide (a = b) := by
  by_cases h : a = b
  · simp [h, sEq_refl]
  · simp [h, sEq_false.2 h]
theorem bytesLess_lt : ∀ (x y : List UInt8), Op.bytesLess x y = decide (x < y)
  | [], [] => by simp [Op.bytesLess]
  | _ :: _, [] => by simp [Op.bytesLess]
  | [], _ :: _ => by simp [Op.bytesLess]
  | a :: x, b :: y => by
    rw [Op.bytesLess, bytesLess_lt x y]
    simp only [List.cons_lt_cons_iff]
    by_cases h1 : a < b <;> by_cases h2 : a = b <;> by_cases h3 : x < y <;> simp [h1, h2, h3]
/-- Strings' order. -/
def slt (a b : ByteArray) : Prop := a.toList < b.toList
instance (a b : ByteArray) : Decidable (slt a b) := inferInstanceAs (Decidable (a.toList < b.toList))
theorem sLt_dec (a b : ByteArray) : sLt a b = decide (slt a b) := bytesLess_lt _ _
theorem sLt_iff {a b : ByteArray} : sLt a b = true ↔ slt a b := by rw [sLt_dec]; simp
theorem sLt_false {a b : ByteArray} : sLt a b = false ↔ ¬ slt a b := by rw [sLt_dec]; simp
theorem slt_irrefl (a : ByteArray) : ¬ slt a a := List.lt_irrefl _
theorem slt_trans {a b c : ByteArray} (h : slt a b) (k : slt b c) : slt a c := List.lt_trans h k
theorem slt_asymm {a b : ByteArray} (h : slt a b) : ¬ slt b a := fun k => slt_irrefl _ (slt_trans h k)
theorem slt_tri (a b : ByteArray) : slt a b ∨ a = b ∨ slt b a := by
  by_cases h : slt a b
  · exact .inl h
  by_cases k : slt b a
  · exact .inr (.inr k)
  refine .inr (.inl (ba_inj ?_))
  exact List.le_antisymm (List.not_lt.1 k) (List.not_lt.1 h)
/-- at most -/
def sle (a b : ByteArray) : Prop := ¬ slt b a
instance (a b : ByteArray) : Decidable (sle a b) := inferInstanceAs (Decidable (¬ slt b a))
theorem sle_refl (a : ByteArray) : sle a a := slt_irrefl a
theorem sle_of_lt {a b : ByteArray} (h : slt a b) : sle a b := slt_asymm h
theorem sle_trans {a b c : ByteArray} (h : sle a b) (k : sle b c) : sle a c := by
  intro hca
  rcases slt_tri a b with h1 | h1 | h1
  · exact k (slt_trans hca h1)
  · subst h1; exact k hca
  · exact h h1
theorem slt_of_le_lt {a b c : ByteArray} (h : sle a b) (k : slt b c) : slt a c := by
  rcases slt_tri a b with h1 | h1 | h1
  · exact slt_trans h1 k
  · subst h1; exact k
  · exact absurd h1 h
theorem slt_of_lt_le {a b c : ByteArray} (h : slt a b) (k : sle b c) : slt a c := by
  rcases slt_tri b c with h1 | h1 | h1
  · exact slt_trans h h1
  · subst h1; exact h
  · exact absurd h1 k
theorem sle_iff {a b : ByteArray} : sle a b ↔ slt a b ∨ a = b := by
  constructor
  · intro h
    rcases slt_tri a b with h1 | h1 | h1
    · exact .inl h1
    · exact .inr h1
    · exact absurd h1 h
  · rintro (h | rfl)
    · exact sle_of_lt h
    · exact sle_refl _
theorem sLe_dec (a b : ByteArray) : (sLt a b || sEq a b) = decide (sle a b) := by
  rw [sLt_dec, sEq_dec, ← Bool.decide_or]
  exact decide_eq_decide.2 sle_iff.symm
theorem idx_at {α : Type} (p : List α) (x : α) (s : List α) : idx (p ++ x :: s) (p.length : Int) = some x := by
  unfold idx
  simp
theorem idx_nat {α : Type} (l : List α) (n : Nat) : idx l (n : Int) = l[n]? := by
  unfold idx
  simp
theorem w64_of {x : Int} (h1 : -9223372036854775808 ≤ x) (h2 : x ≤ 9223372036854775807) : w64 x = x := by
  unfold w64 IntKind.wrap
  simp [IntKind.bits, IntKind.signed]
  omega
theorem w64_succ {n : Nat} (h : n < 9223372036854775807) : w64 ((n : Int) + 1) = ((n + 1 : Nat) : Int) := by
  rw [w64_of (by omega) (by omega)]
  rfl
theorem maxLen_val : maxLen = 9223372036854775807 := by decide
end Go.Proofs.YtbaemhkfmddakaaGreat.Sy
