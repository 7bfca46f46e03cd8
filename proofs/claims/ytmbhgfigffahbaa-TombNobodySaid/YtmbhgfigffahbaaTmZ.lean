import Derived.Test.YtmbhgfigffahbaaPqUD
import Derived.Test.YtmbhgfigffahbaaSyUq
import Derived.Test.YtmbhgfigffahbaaPqSD
set_option linter.unusedVariables false
set_option linter.unusedSectionVars false
set_option linter.unusedSimpArgs false
set_option maxRecDepth 100000
namespace Go.Proofs.Ytmbhgfigffahbaa.Mo
open Go Go.Proofs.Ytmbhgfigffahbaa.Sy
theorem cmp_l1_uint64 (a0 : List Int) {i0 : Nat} (hi0 : 1 ≤ i0) (hl : a0.length ≤ 1152921504606846976) : ∀ (n : Nat) (l : List Int) (k q : Nat), a0.length - (i0 + q) ≤ n → 1 ≤ q → i0 + q ≤ a0.length → l.length = a0.length → k + 1 ≤ i0 + q → l.take k = dd (a0.take (i0 + q)) →
    (∀ j, i0 + q ≤ j + 1 → l[j]? = a0[j]?) →
    ∃ l' k', l'.length = a0.length ∧ k' ≤ a0.length ∧ l'.take k' = dd a0 ∧ EvC2 (fun J f => slices_Compact_uint64.l1 a0 (i0 : Int) J f l (k : Int) (q : Int)) l' (k' : Int) := by
  intro n
  induction n with
  | zero =>
    intro l k q hn hq hiq hlen hk ht hr
    have hd : ¬ q < (l.drop i0).length := by simp; omega
    refine ⟨l, k, hlen, by omega, ?_, EvC2.succ ?_⟩
    · rw [ht, List.take_of_length_le (by omega)]
    · simp only [slices_Compact_uint64.l1, cut_drop (l := l) (i := i0) (n := a0.length) hlen.symm (by omega), Option.bind_some, dLtF hd, Bool.false_eq_true, if_false]
      exact EvC2.ret
  | succ n ih =>
    intro l k q hn hq hiq hlen hk ht hr
    by_cases hlt : i0 + q < a0.length
    · have hd : q < (l.drop i0).length := by simp; omega
      have gx : ∀ j, i0 + q ≤ j + 1 → j < a0.length → A 0 l j = A 0 a0 j := fun j h1 h2 => A_congr (hr j h1)
      have i1 : idx (l.drop i0) (q : Int) = some (A 0 a0 (i0 + q)) := by
        rw [idx_nat, List.getElem?_drop, hr _ (by omega), A_get? (d := 0) hlt]
      have i2 : idx (l.drop i0) ((q - 1 : Nat) : Int) = some (A 0 a0 (i0 + q - 1)) := by
        rw [idx_nat, List.getElem?_drop, hr _ (by omega), show i0 + (q - 1) = i0 + q - 1 by omega, A_get? (d := 0) (by omega)]
      have hpre : a0.take (i0 + (q + 1)) = a0.take (i0 + q - 1) ++ [A 0 a0 (i0 + q - 1), A 0 a0 (i0 + q)] := by
        obtain ⟨m, hm⟩ : ∃ m, i0 + q = m + 1 := ⟨i0 + q - 1, by omega⟩
        rw [show i0 + (q + 1) = m + 2 by omega, show i0 + q - 1 = m by omega, hm, List.take_add_one, List.take_add_one, A_get? (d := 0) (show m < a0.length by omega), A_get? (d := 0) (show m + 1 < a0.length by omega)]
        simp
      have hpre0 : a0.take (i0 + q) = a0.take (i0 + q - 1) ++ [A 0 a0 (i0 + q - 1)] := by
        obtain ⟨m, hm⟩ : ∃ m, i0 + q = m + 1 := ⟨i0 + q - 1, by omega⟩
        rw [show i0 + q - 1 = m by omega, hm, List.take_add_one, A_get? (d := 0) (show m < a0.length by omega)]
        simp
      have hdd := dd_snoc (A 0 a0 (i0 + q - 1)) (A 0 a0 (i0 + q)) (a0.take (i0 + q - 1))
      rw [← hpre, ← hpre0] at hdd
      by_cases he : A 0 a0 (i0 + q) = A 0 a0 (i0 + q - 1)
      · rw [if_pos he.symm] at hdd
        obtain ⟨l', k', g1, g2, g3, n1, g4⟩ := ih l k (q + 1) (by omega) (by omega) (by omega) hlen (by omega) (by rw [ht, hdd]) (fun j hj => hr j (by omega))
        dsimp only at g4
        refine ⟨l', k', g1, g2, g3, n1 + 1, fun f hf J => ?_⟩
        obtain ⟨f, rfl⟩ : ∃ j, f = j + 1 := ⟨f - 1, by omega⟩
        simp only [slices_Compact_uint64.l1, Jn, cut_drop (l := l) (i := i0) (n := a0.length) hlen.symm (by omega), Option.bind_some, dLt hd, if_true, i1, wP (n := q) (by omega) (by omega), i2, he, bne_self_eq_false, sEq_refl, Bool.not_true, Bool.false_eq_true, if_false, wS (n := q) (by omega)]
        exact g4 f (by omega) J
      · rw [if_neg (fun e => he e.symm)] at hdd
        have hu : upd l (k : Int) (A 0 a0 (i0 + q)) = some (l.set k (A 0 a0 (i0 + q))) := by unfold upd; rw [if_pos ⟨by omega, by omega⟩]; simp
        obtain ⟨l', k', g1, g2, g3, n1, g4⟩ := ih (l.set k (A 0 a0 (i0 + q))) (k + 1) (q + 1) (by omega) (by omega) (by omega) (by simpa using hlen) (by omega)
          (by
            rw [show i0 + (q + 1) = i0 + (q + 1) from rfl, hdd, ← ht, List.take_add_one, List.take_set, List.getElem?_set_self (by omega)]
            rw [List.set_eq_of_length_le (by simp; omega)]
            rfl)
          (fun j hj => by rw [List.getElem?_set_ne (by omega)]; exact hr j (by omega))
        dsimp only at g4
        refine ⟨l', k', g1, g2, g3, n1 + 1, fun f hf J => ?_⟩
        obtain ⟨f, rfl⟩ : ∃ j, f = j + 1 := ⟨f - 1, by omega⟩
        have hb : (A 0 a0 (i0 + q) != A 0 a0 (i0 + q - 1)) = true := by simpa using he
        simp only [slices_Compact_uint64.l1, Jn, cut_drop (l := l) (i := i0) (n := a0.length) hlen.symm (by omega), Option.bind_some, dLt hd, if_true, i1, wP (n := q) (by omega) (by omega), i2, hb, wS (n := q) (by omega), idx_A (d := 0) (show k < l.length by omega), hu, wS (n := k) (by omega)]
        exact g4 f (by omega) J
    · have hd : ¬ q < (l.drop i0).length := by simp; omega
      refine ⟨l, k, hlen, by omega, ?_, EvC2.succ ?_⟩
      · rw [ht, List.take_of_length_le (by omega)]
      · simp only [slices_Compact_uint64.l1, cut_drop (l := l) (i := i0) (n := a0.length) hlen.symm (by omega), Option.bind_some, dLtF hd, Bool.false_eq_true, if_false]
        exact EvC2.ret
theorem cmp_l0_uint64 (a0 : List Int) (hl : a0.length ≤ 1152921504606846976) : ∀ (n i : Nat), a0.length - i ≤ n → 1 ≤ i → i ≤ a0.length → (∀ k, 0 < k → k < i → A 0 a0 k ≠ A 0 a0 (k - 1)) → Ev (fun k => slices_Compact_uint64.l0 a0 k (i : Int)) (dd a0) := by
  intro n
  induction n with
  | zero =>
    intro i hn hi hle hne
    refine Ev.succ ?_
    simp only [slices_Compact_uint64.l0, dLtF (show ¬ i < a0.length by omega), Bool.false_eq_true, if_false]
    rw [dd_id 0 a0 fun k h0 hk => hne k h0 (by omega)]
    exact Ev.ret
  | succ n ih =>
    intro i hn hi hle hne
    by_cases hlt : i < a0.length
    · by_cases he : A 0 a0 i = A 0 a0 (i - 1)
      · have hid : dd (a0.take i) = a0.take i := dd_id 0 _ fun k h0 hk => by
          simp only [List.length_take] at hk
          have e : ∀ j, j < i → A 0 (a0.take i) j = A 0 a0 j := fun j hj => A_congr (by rw [List.getElem?_take, if_pos hj])
          rw [e k (by omega), e (k - 1) (by omega)]
          exact hne k h0 (by omega)
        have ht : a0.take i = dd (a0.take (i + 1)) := by
          obtain ⟨m, rfl⟩ : ∃ m, i = m + 1 := ⟨i - 1, by omega⟩
          have h1 : a0.take (m + 1 + 1) = a0.take m ++ [A 0 a0 m, A 0 a0 (m + 1)] := by
            rw [List.take_add_one, List.take_add_one, A_get? (d := 0) (show m < a0.length by omega), A_get? (d := 0) hlt]; simp
          have h2 : a0.take (m + 1) = a0.take m ++ [A 0 a0 m] := by
            rw [List.take_add_one, A_get? (d := 0) (show m < a0.length by omega)]; simp
          rw [h1, dd_snoc, if_pos (by simpa using he.symm), ← h2, hid]
        obtain ⟨l', k', g1, g2, g3, g4⟩ := cmp_l1_uint64 a0 hi hl _ a0 i 1 (Nat.le_refl _) (Nat.le_refl _) (by omega) rfl (by omega) ht (fun j _ => rfl)
        have hc1 : cut l' (k' : Int) (l'.length : Int) = some (l'.drop k') := cut_drop rfl (by omega)
        have hc2 : cut (clr l' k' l'.length 0) 0 (k' : Int) = some (dd a0) := by
          rw [cut_take (by simp [clr]; omega)]
          congr 1
          rw [← g3]
          simp only [clr, List.append_assoc]
          rw [List.take_append_of_le_length (by simp; omega), List.take_take, Nat.min_self]
        refine Ev.succ ?_
        simp only [slices_Compact_uint64.l0, Jn, dLt hlt, if_true, wP (n := i) (by omega) (by omega), idx_A (d := 0) hlt, idx_A (d := 0) (show i - 1 < a0.length by omega), Option.bind_some, he, beq_self_eq_true, sEq_refl, cut_drop (l := a0) (i := i) (n := a0.length) rfl (by omega)]
        refine g4.ev (J := fun k (l_671 : List Int) (i_672 : Int) => (cut l_671 i_672 (l_671.length : Int)).bind fun l1488 => (cut (clr l_671 (Int.toNat i_672) (Int.toNat (l_671.length : Int)) 0) 0 i_672).bind fun l1490 => some l1490) ?_
        simp only [hc1, Int.toNat_natCast, hc2, Option.bind_some]
        exact Ev.ret
      · have hb : (A 0 a0 i == A 0 a0 (i - 1)) = false := by simpa using he
        have := ih (i + 1) (by omega) (by omega) (by omega) (fun k h0 hk => by
          by_cases c : k = i
          · subst c; exact he
          · exact hne k h0 (by omega))
        refine Ev.succ ?_
        simp only [slices_Compact_uint64.l0, Jn, dLt hlt, if_true, wP (n := i) (by omega) (by omega), idx_A (d := 0) hlt, idx_A (d := 0) (show i - 1 < a0.length by omega), Option.bind_some, hb, Bool.false_eq_true, if_false, wS (n := i) (by omega)]
        exact this
    · refine Ev.succ ?_
      simp only [slices_Compact_uint64.l0, dLtF hlt, Bool.false_eq_true, if_false]
      rw [dd_id 0 a0 fun k h0 hk => hne k h0 (by omega)]
      exact Ev.ret
theorem compact_uint64 (a0 : List Int) (hl : a0.length ≤ 1152921504606846976) : Ev (fun k => slices_Compact_uint64 k a0) (dd a0) := by
  by_cases h : a0.length < 2
  · have hd : decide ((a0.length : Int) < 2) = true := decide_eq_true (by omega)
    simp only [slices_Compact_uint64, hd, if_true]
    have : dd a0 = a0 := by
      match a0, h with
      | [], _ => rfl
      | [x], _ => rfl
    rw [this]
    exact Ev.ret
  · have hd : decide ((a0.length : Int) < 2) = false := decide_eq_false (by omega)
    simp only [slices_Compact_uint64, hd, Bool.false_eq_true, if_false]
    exact cmp_l0_uint64 a0 hl _ 1 (Nat.le_refl _) (Nat.le_refl _) (by omega) (fun k h0 hk => by omega)
theorem less_uint64 (x y : Int) : cmp_Less_uint64 x y = some (decide ((fun x y : Int => x < y) x y)) := by
  simp only [cmp_Less_uint64, cmp_isNaN_uint64, Jn, Option.bind_some, bne_self_eq_false, Bool.false_eq_true, if_false, Bool.false_or]
/-- Sorted, each once. -/
theorem unlike_uint64 (a0 : List Int) (hl : a0.length ≤ 1152921504606846976) : Ev (fun k => (slices_Sort_uint64 k a0).bind fun r1 => slices_Compact_uint64 k r1) (uq (fun x y : Int => x < y) a0) := by
  obtain ⟨l', g1, g2, g3⟩ := sort_uint64 0 (lt := (fun x y : Int => x < y)) less_uint64 so_int.wo a0 hl
  refine Ev.bind g3 ((compact_uint64 l' (by rw [← g2.length_eq]; exact hl)).to ?_)
  exact pw_uniq so_int (dd_pw so_int g1) (uq_pw so_int a0) fun x => by rw [mem_dd, mem_uq so_int]; exact g2.mem_iff.symm
end Go.Proofs.Ytmbhgfigffahbaa.Mo

set_option maxRecDepth 100000
namespace Go.Proofs.Ytmbhgfigffahbaa.Mo
open Go Go.Proofs.Ytmbhgfigffahbaa.Sy
theorem cmp_l1_string (a0 : List ByteArray) {i0 : Nat} (hi0 : 1 ≤ i0) (hl : a0.length ≤ 1152921504606846976) : ∀ (n : Nat) (l : List ByteArray) (k q : Nat), a0.length - (i0 + q) ≤ n → 1 ≤ q → i0 + q ≤ a0.length → l.length = a0.length → k + 1 ≤ i0 + q → l.take k = dd (a0.take (i0 + q)) →
    (∀ j, i0 + q ≤ j + 1 → l[j]? = a0[j]?) →
    ∃ l' k', l'.length = a0.length ∧ k' ≤ a0.length ∧ l'.take k' = dd a0 ∧ EvC2 (fun J f => slices_Compact_string.l1 a0 (i0 : Int) J f l (k : Int) (q : Int)) l' (k' : Int) := by
  intro n
  induction n with
  | zero =>
    intro l k q hn hq hiq hlen hk ht hr
    have hd : ¬ q < (l.drop i0).length := by simp; omega
    refine ⟨l, k, hlen, by omega, ?_, EvC2.succ ?_⟩
    · rw [ht, List.take_of_length_le (by omega)]
    · simp only [slices_Compact_string.l1, cut_drop (l := l) (i := i0) (n := a0.length) hlen.symm (by omega), Option.bind_some, dLtF hd, Bool.false_eq_true, if_false]
      exact EvC2.ret
  | succ n ih =>
    intro l k q hn hq hiq hlen hk ht hr
    by_cases hlt : i0 + q < a0.length
    · have hd : q < (l.drop i0).length := by simp; omega
      have gx : ∀ j, i0 + q ≤ j + 1 → j < a0.length → A (ByteArray.mk #[]) l j = A (ByteArray.mk #[]) a0 j := fun j h1 h2 => A_congr (hr j h1)
      have i1 : idx (l.drop i0) (q : Int) = some (A (ByteArray.mk #[]) a0 (i0 + q)) := by
        rw [idx_nat, List.getElem?_drop, hr _ (by omega), A_get? (d := (ByteArray.mk #[])) hlt]
      have i2 : idx (l.drop i0) ((q - 1 : Nat) : Int) = some (A (ByteArray.mk #[]) a0 (i0 + q - 1)) := by
        rw [idx_nat, List.getElem?_drop, hr _ (by omega), show i0 + (q - 1) = i0 + q - 1 by omega, A_get? (d := (ByteArray.mk #[])) (by omega)]
      have hpre : a0.take (i0 + (q + 1)) = a0.take (i0 + q - 1) ++ [A (ByteArray.mk #[]) a0 (i0 + q - 1), A (ByteArray.mk #[]) a0 (i0 + q)] := by
        obtain ⟨m, hm⟩ : ∃ m, i0 + q = m + 1 := ⟨i0 + q - 1, by omega⟩
        rw [show i0 + (q + 1) = m + 2 by omega, show i0 + q - 1 = m by omega, hm, List.take_add_one, List.take_add_one, A_get? (d := (ByteArray.mk #[])) (show m < a0.length by omega), A_get? (d := (ByteArray.mk #[])) (show m + 1 < a0.length by omega)]
        simp
      have hpre0 : a0.take (i0 + q) = a0.take (i0 + q - 1) ++ [A (ByteArray.mk #[]) a0 (i0 + q - 1)] := by
        obtain ⟨m, hm⟩ : ∃ m, i0 + q = m + 1 := ⟨i0 + q - 1, by omega⟩
        rw [show i0 + q - 1 = m by omega, hm, List.take_add_one, A_get? (d := (ByteArray.mk #[])) (show m < a0.length by omega)]
        simp
      have hdd := dd_snoc (A (ByteArray.mk #[]) a0 (i0 + q - 1)) (A (ByteArray.mk #[]) a0 (i0 + q)) (a0.take (i0 + q - 1))
      rw [← hpre, ← hpre0] at hdd
      by_cases he : A (ByteArray.mk #[]) a0 (i0 + q) = A (ByteArray.mk #[]) a0 (i0 + q - 1)
      · rw [if_pos he.symm] at hdd
        obtain ⟨l', k', g1, g2, g3, n1, g4⟩ := ih l k (q + 1) (by omega) (by omega) (by omega) hlen (by omega) (by rw [ht, hdd]) (fun j hj => hr j (by omega))
        dsimp only at g4
        refine ⟨l', k', g1, g2, g3, n1 + 1, fun f hf J => ?_⟩
        obtain ⟨f, rfl⟩ : ∃ j, f = j + 1 := ⟨f - 1, by omega⟩
        simp only [slices_Compact_string.l1, Jn, cut_drop (l := l) (i := i0) (n := a0.length) hlen.symm (by omega), Option.bind_some, dLt hd, if_true, i1, wP (n := q) (by omega) (by omega), i2, he, bne_self_eq_false, sEq_refl, Bool.not_true, Bool.false_eq_true, if_false, wS (n := q) (by omega)]
        exact g4 f (by omega) J
      · rw [if_neg (fun e => he e.symm)] at hdd
        have hu : upd l (k : Int) (A (ByteArray.mk #[]) a0 (i0 + q)) = some (l.set k (A (ByteArray.mk #[]) a0 (i0 + q))) := by unfold upd; rw [if_pos ⟨by omega, by omega⟩]; simp
        obtain ⟨l', k', g1, g2, g3, n1, g4⟩ := ih (l.set k (A (ByteArray.mk #[]) a0 (i0 + q))) (k + 1) (q + 1) (by omega) (by omega) (by omega) (by simpa using hlen) (by omega)
          (by
            rw [show i0 + (q + 1) = i0 + (q + 1) from rfl, hdd, ← ht, List.take_add_one, List.take_set, List.getElem?_set_self (by omega)]
            rw [List.set_eq_of_length_le (by simp; omega)]
            rfl)
          (fun j hj => by rw [List.getElem?_set_ne (by omega)]; exact hr j (by omega))
        dsimp only at g4
        refine ⟨l', k', g1, g2, g3, n1 + 1, fun f hf J => ?_⟩
        obtain ⟨f, rfl⟩ : ∃ j, f = j + 1 := ⟨f - 1, by omega⟩
        have hb : (!sEq (A (ByteArray.mk #[]) a0 (i0 + q)) (A (ByteArray.mk #[]) a0 (i0 + q - 1))) = true := by rw [sEq_false.2 he]; rfl
        simp only [slices_Compact_string.l1, Jn, cut_drop (l := l) (i := i0) (n := a0.length) hlen.symm (by omega), Option.bind_some, dLt hd, if_true, i1, wP (n := q) (by omega) (by omega), i2, hb, wS (n := q) (by omega), idx_A (d := (ByteArray.mk #[])) (show k < l.length by omega), hu, wS (n := k) (by omega)]
        exact g4 f (by omega) J
    · have hd : ¬ q < (l.drop i0).length := by simp; omega
      refine ⟨l, k, hlen, by omega, ?_, EvC2.succ ?_⟩
      · rw [ht, List.take_of_length_le (by omega)]
      · simp only [slices_Compact_string.l1, cut_drop (l := l) (i := i0) (n := a0.length) hlen.symm (by omega), Option.bind_some, dLtF hd, Bool.false_eq_true, if_false]
        exact EvC2.ret
theorem cmp_l0_string (a0 : List ByteArray) (hl : a0.length ≤ 1152921504606846976) : ∀ (n i : Nat), a0.length - i ≤ n → 1 ≤ i → i ≤ a0.length → (∀ k, 0 < k → k < i → A (ByteArray.mk #[]) a0 k ≠ A (ByteArray.mk #[]) a0 (k - 1)) → Ev (fun k => slices_Compact_string.l0 a0 k (i : Int)) (dd a0) := by
  intro n
  induction n with
  | zero =>
    intro i hn hi hle hne
    refine Ev.succ ?_
    simp only [slices_Compact_string.l0, dLtF (show ¬ i < a0.length by omega), Bool.false_eq_true, if_false]
    rw [dd_id (ByteArray.mk #[]) a0 fun k h0 hk => hne k h0 (by omega)]
    exact Ev.ret
  | succ n ih =>
    intro i hn hi hle hne
    by_cases hlt : i < a0.length
    · by_cases he : A (ByteArray.mk #[]) a0 i = A (ByteArray.mk #[]) a0 (i - 1)
      · have hid : dd (a0.take i) = a0.take i := dd_id (ByteArray.mk #[]) _ fun k h0 hk => by
          simp only [List.length_take] at hk
          have e : ∀ j, j < i → A (ByteArray.mk #[]) (a0.take i) j = A (ByteArray.mk #[]) a0 j := fun j hj => A_congr (by rw [List.getElem?_take, if_pos hj])
          rw [e k (by omega), e (k - 1) (by omega)]
          exact hne k h0 (by omega)
        have ht : a0.take i = dd (a0.take (i + 1)) := by
          obtain ⟨m, rfl⟩ : ∃ m, i = m + 1 := ⟨i - 1, by omega⟩
          have h1 : a0.take (m + 1 + 1) = a0.take m ++ [A (ByteArray.mk #[]) a0 m, A (ByteArray.mk #[]) a0 (m + 1)] := by
            rw [List.take_add_one, List.take_add_one, A_get? (d := (ByteArray.mk #[])) (show m < a0.length by omega), A_get? (d := (ByteArray.mk #[])) hlt]; simp
          have h2 : a0.take (m + 1) = a0.take m ++ [A (ByteArray.mk #[]) a0 m] := by
            rw [List.take_add_one, A_get? (d := (ByteArray.mk #[])) (show m < a0.length by omega)]; simp
          rw [h1, dd_snoc, if_pos (by simpa using he.symm), ← h2, hid]
        obtain ⟨l', k', g1, g2, g3, g4⟩ := cmp_l1_string a0 hi hl _ a0 i 1 (Nat.le_refl _) (Nat.le_refl _) (by omega) rfl (by omega) ht (fun j _ => rfl)
        have hc1 : cut l' (k' : Int) (l'.length : Int) = some (l'.drop k') := cut_drop rfl (by omega)
        have hc2 : cut (clr l' k' l'.length (ByteArray.mk #[])) 0 (k' : Int) = some (dd a0) := by
          rw [cut_take (by simp [clr]; omega)]
          congr 1
          rw [← g3]
          simp only [clr, List.append_assoc]
          rw [List.take_append_of_le_length (by simp; omega), List.take_take, Nat.min_self]
        refine Ev.succ ?_
        simp only [slices_Compact_string.l0, Jn, dLt hlt, if_true, wP (n := i) (by omega) (by omega), idx_A (d := (ByteArray.mk #[])) hlt, idx_A (d := (ByteArray.mk #[])) (show i - 1 < a0.length by omega), Option.bind_some, he, beq_self_eq_true, sEq_refl, cut_drop (l := a0) (i := i) (n := a0.length) rfl (by omega)]
        refine g4.ev (J := fun k (l_671 : List ByteArray) (i_672 : Int) => (cut l_671 i_672 (l_671.length : Int)).bind fun l1488 => (cut (clr l_671 (Int.toNat i_672) (Int.toNat (l_671.length : Int)) (ByteArray.mk #[])) 0 i_672).bind fun l1490 => some l1490) ?_
        simp only [hc1, Int.toNat_natCast, hc2, Option.bind_some]
        exact Ev.ret
      · have hb : sEq (A (ByteArray.mk #[]) a0 i) (A (ByteArray.mk #[]) a0 (i - 1)) = false := by exact sEq_false.2 he
        have := ih (i + 1) (by omega) (by omega) (by omega) (fun k h0 hk => by
          by_cases c : k = i
          · subst c; exact he
          · exact hne k h0 (by omega))
        refine Ev.succ ?_
        simp only [slices_Compact_string.l0, Jn, dLt hlt, if_true, wP (n := i) (by omega) (by omega), idx_A (d := (ByteArray.mk #[])) hlt, idx_A (d := (ByteArray.mk #[])) (show i - 1 < a0.length by omega), Option.bind_some, hb, Bool.false_eq_true, if_false, wS (n := i) (by omega)]
        exact this
    · refine Ev.succ ?_
      simp only [slices_Compact_string.l0, dLtF hlt, Bool.false_eq_true, if_false]
      rw [dd_id (ByteArray.mk #[]) a0 fun k h0 hk => hne k h0 (by omega)]
      exact Ev.ret
theorem compact_string (a0 : List ByteArray) (hl : a0.length ≤ 1152921504606846976) : Ev (fun k => slices_Compact_string k a0) (dd a0) := by
  by_cases h : a0.length < 2
  · have hd : decide ((a0.length : Int) < 2) = true := decide_eq_true (by omega)
    simp only [slices_Compact_string, hd, if_true]
    have : dd a0 = a0 := by
      match a0, h with
      | [], _ => rfl
      | [x], _ => rfl
    rw [this]
    exact Ev.ret
  · have hd : decide ((a0.length : Int) < 2) = false := decide_eq_false (by omega)
    simp only [slices_Compact_string, hd, Bool.false_eq_true, if_false]
    exact cmp_l0_string a0 hl _ 1 (Nat.le_refl _) (Nat.le_refl _) (by omega) (fun k h0 hk => by omega)
theorem less_string (x y : ByteArray) : cmp_Less_string x y = some (decide (slt x y)) := by
  simp only [cmp_Less_string, cmp_isNaN_string, Jn, Option.bind_some, sEq_refl, Bool.not_true, Bool.false_eq_true, if_false, Bool.false_or, sLt_dec]
/-- Sorted, each once. -/
theorem unlike_string (a0 : List ByteArray) (hl : a0.length ≤ 1152921504606846976) : Ev (fun k => (slices_Sort_string k a0).bind fun r1 => slices_Compact_string k r1) (uq slt a0) := by
  obtain ⟨l', g1, g2, g3⟩ := sort_string (ByteArray.mk #[]) (lt := slt) less_string so_str.wo a0 hl
  refine Ev.bind g3 ((compact_string l' (by rw [← g2.length_eq]; exact hl)).to ?_)
  exact pw_uniq so_str (dd_pw so_str g1) (uq_pw so_str a0) fun x => by rw [mem_dd, mem_uq so_str]; exact g2.mem_iff.symm
end Go.Proofs.Ytmbhgfigffahbaa.Mo

set_option maxRecDepth 100000
namespace Go.Proofs.Ytmbhgfigffahbaa.Mo
open Go Go.Proofs.Ytmbhgfigffahbaa.Sy
/-- A valid tomb. -/
def okT (x : Tomb) : Bool := (tomb_Valid x).getD false
theorem valid_eq (x : Tomb) : tomb_Valid x = some (okT x) := rfl
theorem valid_l0 (l : List Tomb) (h : l.length < 5629499534059) : ∀ s p acc, l = p ++ s → acc.length ≤ p.length → Ev (fun k => tomb_valid.l0 l k acc (p.length : Int)) (acc ++ s.filter okT) := by
  intro s
  induction s with
  | nil =>
    intro p acc hl ha
    subst hl
    refine Ev.succ ?_
    simp only [tomb_valid.l0, lt_end, Bool.false_eq_true, if_false]
    simpa using Ev.ret
  | cons x s ih =>
    intro p acc hl ha
    have hm : (p ++ x :: s).length ≤ maxLen := by rw [maxLen_val, ← hl]; omega
    have hp : p.length < 5629499534059 := by rw [hl] at h; simp at h; omega
    refine Ev.succ ?_
    subst hl
    simp only [tomb_valid.l0, lt_at, if_true, Jn, idx_at, Option.bind_some, valid_eq, step_at p s x hm]
    by_cases hx : okT x = true
    · simp only [hx, if_true, push_ok (xs := acc) (x := x) (Nat.lt_of_le_of_lt ha hp), Option.bind_some]
      exact (ih (p ++ [x]) (acc ++ [x]) (by simp) (by simp; omega)).to (by simp [hx])
    · simp only [hx, if_false]
      exact (ih (p ++ [x]) acc (by simp) (by simp; omega)).to (by simp [hx])
theorem valid_ev (l : List Tomb) (h : l.length < 5629499534059) : Ev (fun k => tomb_valid k l) (l.filter okT) := by
  have := valid_l0 l h l [] [] rfl (Nat.le_refl _)
  simpa [tomb_valid] using this
theorem reverse_l0 : ∀ (n : Nat) (m p s : List Int), m.length ≤ n → (p ++ m ++ s).length ≤ 1152921504606846976 → Ev (fun k => slices_Reverse_uint64.l0 k (p ++ m ++ s) (p.length : Int) (((p ++ m).length : Int) - 1)) (p ++ m.reverse ++ s) := by
  intro n
  induction n with
  | zero =>
    intro m p s hm hl
    obtain rfl : m = [] := List.eq_nil_of_length_eq_zero (by omega)
    refine Ev.succ ?_
    have h : decide ((p.length : Int) < ((p ++ ([] : List Int)).length : Int) - 1) = false := decide_eq_false (by simp; omega)
    simp only [slices_Reverse_uint64.l0, h, Bool.false_eq_true, if_false]
    simpa using Ev.ret
  | succ n ih =>
    intro m p s hm hl
    cases m with
    | nil =>
      refine Ev.succ ?_
      have h : decide ((p.length : Int) < ((p ++ ([] : List Int)).length : Int) - 1) = false := decide_eq_false (by simp; omega)
      simp only [slices_Reverse_uint64.l0, h, Bool.false_eq_true, if_false]
      simpa using Ev.ret
    | cons x m =>
      rcases nil_or_snoc m with rfl | ⟨m, y, rfl⟩
      · refine Ev.succ ?_
        have h : decide ((p.length : Int) < ((p ++ [x]).length : Int) - 1) = false := decide_eq_false (by simp)
        simp only [slices_Reverse_uint64.l0, h, Bool.false_eq_true, if_false]
        simpa using Ev.ret
      · have hl' := hl
        simp only [List.length_append, List.length_cons, List.length_nil] at hl' hm
        have h : decide ((p.length : Int) < ((p ++ x :: (m ++ [y])).length : Int) - 1) = true := decide_eq_true (by simp; omega)
        have hj : ((p ++ x :: (m ++ [y])).length : Int) - 1 = ((p ++ x :: m).length : Int) := by simp; omega
        rw [hj] at h ⊢
        have e1 : idx (p ++ x :: (m ++ [y]) ++ s) ((p ++ x :: m).length : Int) = some y := idx_as (p := p ++ x :: m) (s := s) (by simp) rfl
        have e2 : idx (p ++ x :: (m ++ [y]) ++ s) (p.length : Int) = some x := idx_as (p := p) (s := m ++ [y] ++ s) (by simp) rfl
        have e3 : upd (p ++ x :: (m ++ [y]) ++ s) (p.length : Int) y = some (p ++ y :: (m ++ [y] ++ s)) := upd_as (p := p) (x := x) (s := m ++ [y] ++ s) y (by simp) rfl
        have e4 : idx (p ++ y :: (m ++ [y] ++ s)) ((p ++ x :: m).length : Int) = some y := idx_as (p := p ++ y :: m) (s := s) (by simp) (by simp)
        have e5 : upd (p ++ y :: (m ++ [y] ++ s)) ((p ++ x :: m).length : Int) x = some (p ++ y :: m ++ x :: s) := upd_as (p := p ++ y :: m) (x := y) (s := s) x (by simp) (by simp)
        have w1 : w64 ((p.length : Int) + 1) = ((p ++ [y]).length : Int) := by simp only [List.length_append, List.length_cons, List.length_nil]; rw [w64_of (by omega) (by omega)]; omega
        have w2 : w64 (((p ++ x :: m).length : Int) - 1) = ((p ++ [y] ++ m).length : Int) - 1 := by simp only [List.length_append, List.length_cons, List.length_nil]; rw [w64_of (by omega) (by omega)]; omega
        have := ih m (p ++ [y]) (x :: s) (by omega) (by simp; omega)
        refine Ev.succ ?_
        simp only [slices_Reverse_uint64.l0, h, if_true, e1, e2, e3, e4, e5, Option.bind_some, w1, w2]
        have e6 : p ++ y :: m ++ x :: s = p ++ [y] ++ m ++ x :: s := by simp
        rw [e6]
        exact this.to (by simp)
theorem reverse_ev (m : List Int) (hl : m.length ≤ 1152921504606846976) : Ev (fun k => slices_Reverse_uint64 k m) m.reverse := by
  have := reverse_l0 m.length m [] [] (Nat.le_refl _) (by simpa using hl)
  simp only [List.nil_append, List.append_nil, List.length_nil] at this
  have w : w64 ((m.length : Int) - 1) = (m.length : Int) - 1 := w64_of (by omega) (by omega)
  simp only [slices_Reverse_uint64, w]
  exact this
theorem equal_l0 (a b : List Int) (hab : a.length = b.length) (hl : a.length ≤ 1152921504606846976) : ∀ s p t, a = p ++ s → b = p ++ t → Ev (fun k => slices_Equal_uint64.l0 a b k (p.length : Int)) (decide (s = t)) := by
  intro s
  induction s with
  | nil =>
    intro p t ha hb
    obtain rfl : t = [] := by rw [ha, hb] at hab; simpa using hab
    subst ha
    refine Ev.succ ?_
    simp only [slices_Equal_uint64.l0, lt_end, Bool.false_eq_true, if_false]
    exact Ev.ret.to (by simp)
  | cons x s ih =>
    intro p t ha hb
    cases t with
    | nil => rw [ha, hb] at hab; simp at hab
    | cons y t =>
      have e1 : idx a (p.length : Int) = some x := by rw [ha]; exact idx_at _ _ _
      have e2 : idx b (p.length : Int) = some y := by rw [hb]; exact idx_at _ _ _
      have hd : decide ((p.length : Int) < (a.length : Int)) = true := by rw [ha]; exact lt_at _ _ _
      have hw : w64 ((p.length : Int) + 1) = ((p ++ [x]).length : Int) := by rw [ha] at hl; simp at hl; rw [wS (by omega)]; simp
      refine Ev.succ ?_
      simp only [slices_Equal_uint64.l0, hd, if_true, e1, e2, Option.bind_some]
      by_cases hxy : x = y
      · subst hxy
        simp only [bne_self_eq_false, Bool.false_eq_true, if_false, hw]
        exact (ih (p ++ [x]) t (by simp [ha]) (by simp [hb])).to (by simp)
      · have hb : (x != y) = true := by simpa using hxy
        simp only [hb, if_true]
        exact Ev.ret.to (by simp [hxy])
theorem equal_ev (a b : List Int) (hl : b.length ≤ 1152921504606846976) : Ev (fun k => slices_Equal_uint64 k a b) (decide (a = b)) := by
  by_cases h : a.length = b.length
  · have hb : ((a.length : Int) != (b.length : Int)) = false := by simp [h]
    simp only [slices_Equal_uint64, hb, Bool.false_eq_true, if_false]
    exact equal_l0 a b h (by omega) a [] b rfl rfl
  · have hb : ((a.length : Int) != (b.length : Int)) = true := by simp; omega
    simp only [slices_Equal_uint64, hb, if_true]
    exact Ev.ret.to (by simp; intro e; subst e; exact h rfl)
theorem unlikeU_ev (a0 : List Int) (hl : a0.length ≤ 1152921504606846976) : Ev (fun k => tomb_unlike_uint64 k a0) (uq (fun x y : Int => x < y) a0) := by
  refine Ev.congr (fun k => ?_) (unlike_uint64 a0 hl)
  simp only [tomb_unlike_uint64]
  cases slices_Sort_uint64 k a0 with
  | none => rfl
  | some r => simp only [Option.bind_some]; cases slices_Compact_uint64 k r <;> rfl
theorem unlikeS_ev (a0 : List ByteArray) (hl : a0.length ≤ 1152921504606846976) : Ev (fun k => tomb_unlike_string k a0) (uq slt a0) := by
  refine Ev.congr (fun k => ?_) (unlike_string a0 hl)
  simp only [tomb_unlike_string]
  cases slices_Sort_string k a0 with
  | none => rfl
  | some r => simp only [Option.bind_some]; cases slices_Compact_string k r <;> rfl
def onSeg (b e : ByteArray) (t : Tomb) : Bool := decide (sle t.Begin b) && decide (sle e t.End)
def seqsOf (l : List Tomb) (b e : ByteArray) : List Int := (uq (fun x y : Int => x < y) ((l.filter (onSeg b e)).map (·.Seq))).reverse
def addF (out : List Fragment) (b e : ByteArray) (s : List Int) : List Fragment :=
  if s = [] then out else
  match out.getLast? with
  | some f => if f.End = b ∧ f.Seqs = s then out.dropLast ++ [⟨f.Begin, e, f.Seqs⟩] else out ++ [⟨b, e, s⟩]
  | none => out ++ [⟨b, e, s⟩]
def build (l : List Tomb) : ByteArray → List ByteArray → List Fragment → List Fragment
  | _, [], out => out
  | b, e :: r, out => build l e r (addF out b e (seqsOf l b e))
def endsOf (l : List Tomb) : List ByteArray := l.flatMap fun t => [t.Begin, t.End]
def fragsU (l : List Tomb) : List ByteArray → List Fragment
  | [] => []
  | b :: r => build l b r []
def frags (l : List Tomb) : List Fragment := fragsU l (uq slt (endsOf l))
theorem addF_len (out : List Fragment) (b e : ByteArray) (s : List Int) : (addF out b e s).length ≤ out.length + 1 := by
  unfold addF
  split
  · omega
  · split
    · split
      · simp
      · simp
    · simp
theorem frag_l2 (r1 : List Tomb) (b e : ByteArray) (h : r1.length < 28147497670912) : ∀ s p acc, r1 = p ++ s → acc.length ≤ p.length → EvC (fun J k => tomb_Fragments.l2 r1 b e J k acc (p.length : Int)) (acc ++ (s.filter (onSeg b e)).map (·.Seq)) := by
  intro s
  induction s with
  | nil =>
    intro p acc hl ha
    subst hl
    refine EvC.succ ?_
    simp only [tomb_Fragments.l2, lt_end, Bool.false_eq_true, if_false]
    simpa using EvC.ret
  | cons x s ih =>
    intro p acc hl ha
    have hm : (p ++ x :: s).length ≤ maxLen := by rw [maxLen_val, ← hl]; omega
    have hp : p.length < 28147497670912 := by rw [hl] at h; simp at h; omega
    subst hl
    by_cases hx : onSeg b e x = true
    · have hx' := hx
      simp only [onSeg, Bool.and_eq_true, ← sLe_dec] at hx'
      refine EvC.succ ?_
      simp only [tomb_Fragments.l2, lt_at, if_true, Jn, idx_at, Option.bind_some, step_at p s x hm, hx'.1, hx'.2, Bool.and_self, push_ok (xs := acc) (x := x.Seq) (Nat.lt_of_le_of_lt ha hp)]
      exact (ih (p ++ [x]) (acc ++ [x.Seq]) (by simp) (by simp; omega)).to (by simp [hx])
    · have hx' : ((sLt x.Begin b || sEq x.Begin b) && (sLt e x.End || sEq e x.End)) = false := by
        rw [sLe_dec, sLe_dec]; simpa [onSeg] using hx
      refine EvC.succ ?_
      simp only [tomb_Fragments.l2, lt_at, if_true, Jn, idx_at, Option.bind_some, step_at p s x hm, hx', Bool.false_eq_true, if_false]
      exact (ih (p ++ [x]) acc (by simp) (by simp; omega)).to (by simp [hx])
theorem frag_l1 (r1 : List Tomb) (us : List ByteArray) (h : r1.length < 1099511627776) (hu : us.length < 2199023255552) : ∀ s p b acc, us = p ++ b :: s → acc.length ≤ p.length →
    EvC (fun J k => tomb_Fragments.l1 r1 us J k acc ((p.length + 1 : Nat) : Int)) (build r1 b s acc) := by
  intro s
  induction s with
  | nil =>
    intro p b acc hl ha
    refine EvC.succ ?_
    have hd : decide (((p.length + 1 : Nat) : Int) < (us.length : Int)) = false := decide_eq_false (by rw [hl]; simp)
    simp only [tomb_Fragments.l1, hd, Bool.false_eq_true, if_false]
    exact EvC.ret
  | cons e s ih =>
    intro p b acc hl ha
    have hlen : us.length = p.length + 2 + s.length := by rw [hl]; simp; omega
    have hd : decide (((p.length + 1 : Nat) : Int) < (us.length : Int)) = true := decide_eq_true (by omega)
    have i1 : idx us ((p.length : Nat) : Int) = some b := by rw [hl]; exact idx_at _ _ _
    have i2 : idx us ((p.length + 1 : Nat) : Int) = some e := idx_as (p := p ++ [b]) (s := s) (by simp [hl]) (by simp)
    have w1 : w64 (((p.length + 1 : Nat) : Int) - 1) = (p.length : Int) := by rw [wP (by omega) (by omega)]; rfl
    have w2 : w64 (((p.length + 1 : Nat) : Int) + 1) = ((p.length + 1 + 1 : Nat) : Int) := wS (by omega)
    obtain ⟨n2, h2⟩ := frag_l2 r1 b e (by omega) r1 [] [] rfl (Nat.le_refl _)
    dsimp only at h2
    simp only [List.nil_append, List.length_nil, Int.natCast_zero] at h2
    obtain ⟨vals, hv⟩ : ∃ vals, vals = (r1.filter (onSeg b e)).map (·.Seq) := ⟨_, rfl⟩
    have hvl : vals.length ≤ r1.length := by rw [hv, List.length_map]; exact List.length_filter_le _ _
    rw [← hv] at h2
    have hsq : seqsOf r1 b e = (uq (fun x y : Int => x < y) vals).reverse := by unfold seqsOf; rw [hv]
    have hih := ih (p ++ [b]) e (addF acc b e (seqsOf r1 b e)) (by simp [hl]) (by have := addF_len acc b e (seqsOf r1 b e); simp; omega)
    simp only [List.length_append, List.length_singleton] at hih
    obtain ⟨n3, h3⟩ := hih
    dsimp only at h3
    by_cases hnil : vals = []
    · have ha2 : addF acc b e (seqsOf r1 b e) = acc := by unfold addF; rw [if_pos (by rw [hsq, hnil]; rfl)]
      rw [ha2] at h3
      refine ⟨max n2 n3 + 1, fun k hk J => ?_⟩
      obtain ⟨k, rfl⟩ : ∃ j, k = j + 1 := ⟨k - 1, by omega⟩
      simp only [tomb_Fragments.l1, hd, if_true, Jn, i1, i2, w1, w2, Option.bind_some, h2 k (by omega), hnil, List.length_nil, Int.natCast_zero, beq_self_eq_true, build, ha2]
      exact h3 k (by omega) J
    · have hne : ((vals.length : Int) == 0) = false := by simp; exact hnil
      obtain ⟨n4, h4⟩ := unlikeU_ev vals (by omega)
      obtain ⟨n5, h5⟩ := reverse_ev (uq (fun x y : Int => x < y) vals) (Nat.le_trans (uq_len _) (by omega))
      dsimp only at h4 h5
      rw [← hsq] at h5
      have hs0 : seqsOf r1 b e ≠ [] := by
        rw [hsq]
        intro h0
        obtain ⟨x, hx⟩ := List.exists_mem_of_ne_nil _ hnil
        have := (mem_uq so_int).2 hx
        rw [List.reverse_eq_nil_iff.1 h0] at this
        simp at this
      obtain ⟨sq, hsq'⟩ : ∃ sq, sq = seqsOf r1 b e := ⟨_, rfl⟩
      rw [← hsq'] at h5 hs0 h3
      rcases nil_or_snoc acc with rfl | ⟨acc, f, rfl⟩
      · have ha2 : addF [] b e sq = [⟨b, e, sq⟩] := by unfold addF; rw [if_neg hs0]; rfl
        rw [ha2] at h3
        refine ⟨max n2 (max n3 (max n4 n5)) + 1, fun k hk J => ?_⟩
        obtain ⟨k, rfl⟩ : ∃ j, k = j + 1 := ⟨k - 1, by omega⟩
        have hz : decide ((0 : Int) < ((([] : List Fragment).length : Nat) : Int)) = false := by decide
        simp only [tomb_Fragments.l1, hd, if_true, Jn, i1, i2, w1, w2, Option.bind_some, h2 k (by omega), hne, Bool.false_eq_true, if_false, h4 k (by omega), h5 k (by omega), hz, push_ok (xs := ([] : List Fragment)) (x := (⟨b, e, sq⟩ : Fragment)) (N := 4021071095713) (by simp), List.nil_append, build, ← hsq', ha2]
        exact h3 k (by omega) J
      · simp only [List.length_append, List.length_singleton] at ha
        have hz : decide ((0 : Int) < (((acc ++ [f]).length : Nat) : Int)) = true := decide_eq_true (by simp)
        have wl : w64 (((acc ++ [f]).length : Int) - 1) = (acc.length : Int) := by
          simp only [List.length_append, List.length_singleton]; rw [wP (by omega) (by omega)]; rfl
        have il : idx (acc ++ [f]) (acc.length : Int) = some f := idx_at acc f []
        obtain ⟨n7, h7⟩ := equal_ev f.Seqs sq (by rw [hsq', hsq, List.length_reverse]; exact Nat.le_trans (uq_len _) (by omega))
        dsimp only at h7
        by_cases he : f.End = b
        · by_cases hq : f.Seqs = sq
          · have ha2 : addF (acc ++ [f]) b e sq = acc ++ [⟨f.Begin, e, f.Seqs⟩] := by unfold addF; rw [if_neg hs0]; simp [he, hq]
            rw [ha2] at h3
            refine ⟨max n2 (max n3 (max n4 (max n5 n7))) + 1, fun k hk J => ?_⟩
            obtain ⟨k, rfl⟩ : ∃ j, k = j + 1 := ⟨k - 1, by omega⟩
            simp only [tomb_Fragments.l1, hd, if_true, Jn, i1, i2, w1, w2, Option.bind_some, h2 k (by omega), hne, Bool.false_eq_true, if_false, h4 k (by omega), h5 k (by omega), hz, wl, il, sEq_iff.2 he, h7 k (by omega), decide_eq_true hq, upd_at, build, ← hsq', ha2]
            exact h3 k (by omega) J
          · have ha2 : addF (acc ++ [f]) b e sq = acc ++ [f] ++ [⟨b, e, sq⟩] := by unfold addF; rw [if_neg hs0]; simp [hq]
            rw [ha2] at h3
            refine ⟨max n2 (max n3 (max n4 (max n5 n7))) + 1, fun k hk J => ?_⟩
            obtain ⟨k, rfl⟩ : ∃ j, k = j + 1 := ⟨k - 1, by omega⟩
            simp only [tomb_Fragments.l1, hd, if_true, Jn, i1, i2, w1, w2, Option.bind_some, h2 k (by omega), hne, Bool.false_eq_true, if_false, h4 k (by omega), h5 k (by omega), hz, wl, il, sEq_iff.2 he, h7 k (by omega), decide_eq_false hq, push_ok (xs := acc ++ [f]) (x := (⟨b, e, sq⟩ : Fragment)) (N := 4021071095713) (by simp; omega), build, ← hsq', ha2]
            exact h3 k (by omega) J
        · have ha2 : addF (acc ++ [f]) b e sq = acc ++ [f] ++ [⟨b, e, sq⟩] := by unfold addF; rw [if_neg hs0]; simp [he]
          rw [ha2] at h3
          refine ⟨max n2 (max n3 (max n4 n5)) + 1, fun k hk J => ?_⟩
          obtain ⟨k, rfl⟩ : ∃ j, k = j + 1 := ⟨k - 1, by omega⟩
          simp only [tomb_Fragments.l1, hd, if_true, Jn, i1, i2, w1, w2, Option.bind_some, h2 k (by omega), hne, Bool.false_eq_true, if_false, h4 k (by omega), h5 k (by omega), hz, wl, il, sEq_false.2 he, push_ok (xs := acc ++ [f]) (x := (⟨b, e, sq⟩ : Fragment)) (N := 4021071095713) (by simp; omega), build, ← hsq', ha2]
          exact h3 k (by omega) J
theorem frag_l0 (r1 : List Tomb) (h : r1.length < 1099511627776) : ∀ s p acc, r1 = p ++ s → acc.length = 2 * p.length → Ev (fun k => tomb_Fragments.l0 r1 k acc (p.length : Int)) (fragsU r1 (uq slt (acc ++ endsOf s))) := by
  intro s
  induction s with
  | nil =>
    intro p acc hl ha
    have hpl : r1.length = p.length := by rw [hl]; simp
    refine Ev.succ ?_
    have hd : decide ((p.length : Int) < (r1.length : Int)) = false := decide_eq_false (by omega)
    simp only [tomb_Fragments.l0, hd, Bool.false_eq_true, if_false]
    have hz : endsOf [] = [] := rfl
    rw [hz, List.append_nil]
    refine Ev.bind (unlikeS_ev acc (by omega)) ?_
    have hul : (uq slt acc).length < 2199023255552 := Nat.lt_of_le_of_lt (uq_len _) (by omega)
    obtain ⟨us, hus⟩ : ∃ us, us = uq slt acc := ⟨_, rfl⟩
    rw [← hus] at hul ⊢
    simp only [Jn]
    cases us with
    | nil =>
      refine Ev.succ ?_
      have hd : decide ((1 : Int) < ((([] : List ByteArray).length : Nat) : Int)) = false := by decide
      simp only [tomb_Fragments.l1, hd, Bool.false_eq_true, if_false]
      exact Ev.ret
    | cons b r =>
      have := frag_l1 r1 (b :: r) h hul r [] b [] rfl (Nat.le_refl _)
      exact this.ev (J := fun _ l => some l) Ev.ret
  | cons x s ih =>
    intro p acc hl ha
    have hpl : r1.length = p.length + 1 + s.length := by rw [hl]; simp; omega
    have hm : (p ++ x :: s).length ≤ maxLen := by rw [maxLen_val, ← hl]; omega
    refine Ev.succ ?_
    have e1 : idx r1 (p.length : Int) = some x := by rw [hl]; exact idx_at _ _ _
    have hd : decide ((p.length : Int) < (r1.length : Int)) = true := decide_eq_true (by omega)
    simp only [tomb_Fragments.l0, hd, if_true, e1, Option.bind_some, pushN_ok (xs := acc) (zs := [x.Begin, x.End]) (N := 14073748835379) (by simp; omega), step_at p s x hm]
    exact (ih (p ++ [x]) (acc ++ [x.Begin, x.End]) (by simp [hl]) (by simp; omega)).to (by simp [endsOf])
theorem frags_ev (l : List Tomb) (h : l.length < 1099511627776) : Ev (fun k => tomb_Fragments k l) (frags (l.filter okT)) := by
  simp only [tomb_Fragments]
  refine Ev.bind (valid_ev l (by omega)) ?_
  have := frag_l0 (l.filter okT) (Nat.lt_of_le_of_lt (List.length_filter_le _ _) h) (l.filter okT) [] [] rfl rfl
  simpa [frags] using this
end Go.Proofs.Ytmbhgfigffahbaa.Mo

set_option maxRecDepth 100000
namespace Go.Proofs.Ytmbhgfigffahbaa.Mo
open Go Go.Proofs.Ytmbhgfigffahbaa.Sy
end Go.Proofs.Ytmbhgfigffahbaa.Mo

set_option maxRecDepth 100000
namespace Go.Proofs.Ytmbhgfigffahbaa.Mo
open Go Go.Proofs.Ytmbhgfigffahbaa.Sy
def onF (key : ByteArray) (f : Fragment) : Bool := !(sLt key f.Begin || !sLt key f.End)
def setF (key : ByteArray) (n : Int) : List Fragment → Option Int
  | [] => none
  | f :: s => if onF key f = true then (match f.Seqs.find? (fun x => decide (x ≤ n)) with
    | some v => some v
    | none => setF key n s) else setF key n s
theorem clone_eq (l : List Tomb) (h : l.length ≤ 3518437208883) : slices_Clone_Tomb l = some l := by
  simp only [slices_Clone_Tomb, pushN_ok (show ([] : List Tomb).length + l.length ≤ 5629499534059 by rw [List.length_nil]; omega), Option.bind_some, List.nil_append]
end Go.Proofs.Ytmbhgfigffahbaa.Mo

set_option maxRecDepth 100000
namespace Go.Proofs.Ytmbhgfigffahbaa.Mo
open Go Go.Proofs.Ytmbhgfigffahbaa.Sy
theorem frags_nil : Ev (fun k => tomb_Fragments k []) [] := frags_ev [] (by simp)
theorem nobody_law (a0 : Tomb) (a1 : ByteArray) (a2 : Int) : Ev (fun k => l09_TombNobody k a0 a1 a2) true := by
  have hd : decide ((0 : Int) < ((([] : List Fragment).length : Nat) : Int)) = false := by decide
  unfold l09_TombNobody
  simp only [Jn]
  refine Ev.bind frags_nil ?_
  refine Ev.succ ?_
  simp only [l09_TombNobody.l4, hd, Bool.false_eq_true, if_false, bne_self_eq_false, Bool.or_self]
  refine Ev.bind frags_nil.shift ?_
  simp only [l09_TombNobody.l0, hd, Bool.false_eq_true, if_false, bne_self_eq_false, Bool.or_self, Jn]
  have hc : slices_Clone_Tomb [] = some [] := clone_eq [] (by simp)
  simp only [hc, Option.bind_some]
  refine Ev.bind frags_nil ?_
  refine Ev.succ ?_
  simp only [l09_TombNobody.l2, hd, Bool.false_eq_true, if_false, bne_self_eq_false, Bool.or_self]
  have h0 : (((([] : List Tomb).length : Nat) : Int) != 0) = false := by decide
  simp only [h0, Bool.false_eq_true, if_false]
  refine Ev.bind frags_nil.shift ?_
  simp only [l09_TombNobody.l1, hd, Bool.false_eq_true, if_false]
  exact Ev.ret
end Go.Proofs.Ytmbhgfigffahbaa.Mo
