import Derived.Test.YtmbhgfigffahbaaPqUD
import Derived.Test.YtmbhgfigffahbaaSyUq
import Derived.Test.YtmbhgfigffahbaaPqSD
set_option linter.unusedVariables false
set_option linter.unusedSectionVars false
set_option linter.unusedSimpArgs false
set_option maxRecDepth 100000
namespace Go.Proofs.Ytmbhgfigffahbaa.Mo
open Go Go.Proofs.Ytmbhgfigffahbaa.Sy
theorem cmp_l1_uint64 (a0 : List Int) {i0 : Nat} (hi0 : 1 ≤ i0) (hl : a0.length ≤ 1152921504606846976) : ∀ (n : Nat) (l : List Int) (k q : Nat), a0.length - (i0 + q) ≤ n → 1 ≤ q → i0 + q ≤ a0.length → l.length = a0.length → k + 1 ≤ i0 + q → l.take k = dd (a0.take (i0 + q)) →
    (∀ j, i0 + q ≤ j + 1 → l[j]? = a0[j]?) →
    ∃ l' k', l'.length = a0.length ∧ k' ≤ a0.length ∧ l'.take k' = dd a0 ∧ EvC2 (fun J f => slices_Compact_uint64.l1 a0 (i0 : Int) J f l (k : Int) (q : Int)) l' (k' : Int) := by
  intro n
  induction n with
  | zero =>
    intro l k q hn hq hiq hlen hk ht hr
    have hd : ¬ q < (l.drop i0).length := by simp; omega
    refine ⟨l, k, hlen, by omega, ?_, EvC2.succ ?_⟩
    · rw [ht, List.take_of_length_le (by omega)]
    · simp only [slices_Compact_uint64.l1, cut_drop (l := l) (i := i0) (n := a0.length) hlen.symm (by omega), Option.bind_some, dLtF hd, Bool.false_eq_true, if_false]
      exact EvC2.ret
  | succ n ih =>
    intro l k q hn hq hiq hlen hk ht hr
    by_cases hlt : i0 + q < a0.length
    · have hd : q < (l.drop i0).length := by simp; omega
      have gx : ∀ j, i0 + q ≤ j + 1 → j < a0.length → A 0 l j = A 0 a0 j := fun j h1 h2 => A_congr (hr j h1)
      have i1 : idx (l.drop i0) (q : Int) = some (A 0 a0 (i0 + q)) := by
        rw [idx_nat, List.getElem?_drop, hr _ (by omega), A_get? (d := 0) hlt]
      have i2 : idx (l.drop i0) ((q - 1 : Nat) : Int) = some (A 0 a0 (i0 + q - 1)) := by
        rw [idx_nat, List.getElem?_drop, hr _ (by omega), show i0 + (q - 1) = i0 + q - 1 by omega, A_get? (d := 0) (by omega)]
      have hpre : a0.take (i0 + (q + 1)) = a0.take (i0 + q - 1) ++ [A 0 a0 (i0 + q - 1), A 0 a0 (i0 + q)] := by
        obtain ⟨m, hm⟩ : ∃ m, i0 + q = m + 1 := ⟨i0 + q - 1, by omega⟩
        rw [show i0 + (q + 1) = m + 2 by omega, show i0 + q - 1 = m by omega, hm, List.take_add_one, List.take_add_one, A_get? (d := 0) (show m < a0.length by omega), A_get? (d := 0) (show m + 1 < a0.length by omega)]
        simp
      have hpre0 : a0.take (i0 + q) = a0.take (i0 + q - 1) ++ [A 0 a0 (i0 + q - 1)] := by
        obtain ⟨m, hm⟩ : ∃ m, i0 + q = m + 1 := ⟨i0 + q - 1, by omega⟩
        rw [show i0 + q - 1 = m by omega, hm, List.take_add_one, A_get? (d := 0) (show m < a0.length by omega)]
        simp
      have hdd := dd_snoc (A 0 a0 (i0 + q - 1)) (A 0 a0 (i0 + q)) (a0.take (i0 + q - 1))
      rw [← hpre, ← hpre0] at hdd
      by_cases he : A 0 a0 (i0 + q) = A 0 a0 (i0 + q - 1)
      · rw [if_pos he.symm] at hdd
        obtain ⟨l', k', g1, g2, g3, n1, g4⟩ := ih l k (q + 1) (by omega) (by omega) (by omega) hlen (by omega) (by rw [ht, hdd]) (fun j hj => hr j (by omega))
        dsimp only at g4
        refine ⟨l', k', g1, g2, g3, n1 + 1, fun f hf J => ?_⟩
        obtain ⟨f, rfl⟩ : ∃ j, f = j + 1 := ⟨f - 1, by omega⟩
        simp only [slices_Compact_uint64.l1, Jn, cut_drop (l := l) (i := i0) (n := a0.length) hlen.symm (by omega), Option.bind_some, dLt hd, if_true, i1, wP (n := q) (by omega) (by omega), i2, he, bne_self_eq_false, sEq_refl, Bool.not_true, Bool.false_eq_true, if_false, wS (n := q) (by omega)]
        exact g4 f (by omega) J
      · rw [if_neg (fun e => he e.symm)] at hdd
        have hu : upd l (k : Int) (A 0 a0 (i0 + q)) = some (l.set k (A 0 a0 (i0 + q))) := by unfold upd; rw [if_pos ⟨by omega, by omega⟩]; simp
        obtain ⟨l', k', g1, g2, g3, n1, g4⟩ := ih (l.set k (A 0 a0 (i0 + q))) (k + 1) (q + 1) (by omega) (by omega) (by omega) (by simpa using hlen) (by omega)
          (by
            rw [show i0 + (q + 1) = i0 + (q + 1) from rfl, hdd, ← ht, List.take_add_one, List.take_set, List.getElem?_set_self (by omega)]
            rw [List.set_eq_of_length_le (by simp; omega)]
            rfl)
          (fun j hj => by rw [List.getElem?_set_ne (by omega)]; exact hr j (by omega))
        dsimp only at g4
        refine ⟨l', k', g1, g2, g3, n1 + 1, fun f hf J => ?_⟩
        obtain ⟨f, rfl⟩ : ∃ j, f = j + 1 := ⟨f - 1, by omega⟩
        have hb : (A 0 a0 (i0 + q) != A 0 a0 (i0 + q - 1)) = true := by simpa using he
        simp only [slices_Compact_uint64.l1, Jn, cut_drop (l := l) (i := i0) (n := a0.length) hlen.symm (by omega), Option.bind_some, dLt hd, if_true, i1, wP (n := q) (by omega) (by omega), i2, hb, wS (n := q) (by omega), idx_A (d := 0) (show k < l.length by omega), hu, wS (n := k) (by omega)]
        exact g4 f (by omega) J
    · have hd : ¬ q < (l.drop i0).length := by simp; omega
      refine ⟨l, k, hlen, by omega, ?_, EvC2.succ ?_⟩
      · rw [ht, List.take_of_length_le (by omega)]
      · simp only [slices_Compact_uint64.l1, cut_drop (l := l) (i := i0) (n := a0.length) hlen.symm (by omega), Option.bind_some, dLtF hd, Bool.false_eq_true, if_false]
        exact EvC2.ret
theorem cmp_l0_uint64 (a0 : List Int) (hl : a0.length ≤ 1152921504606846976) : ∀ (n i : Nat), a0.length - i ≤ n → 1 ≤ i → i ≤ a0.length → (∀ k, 0 < k → k < i → A 0 a0 k ≠ A 0 a0 (k - 1)) → Ev (fun k => slices_Compact_uint64.l0 a0 k (i : Int)) (dd a0) := by
  intro n
  induction n with
  | zero =>
    intro i hn hi hle hne
    refine Ev.succ ?_
    simp only [slices_Compact_uint64.l0, dLtF (show ¬ i < a0.length by omega), Bool.false_eq_true, if_false]
    rw [dd_id 0 a0 fun k h0 hk => hne k h0 (by omega)]
    exact Ev.ret
  | succ n ih =>
    intro i hn hi hle hne
    by_cases hlt : i < a0.length
    · by_cases he : A 0 a0 i = A 0 a0 (i - 1)
      · have hid : dd (a0.take i) = a0.take i := dd_id 0 _ fun k h0 hk => by
          simp only [List.length_take] at hk
          have e : ∀ j, j < i → A 0 (a0.take i) j = A 0 a0 j := fun j hj => A_congr (by rw [List.getElem?_take, if_pos hj])
          rw [e k (by omega), e (k - 1) (by omega)]
          exact hne k h0 (by omega)
        have ht : a0.take i = dd (a0.take (i + 1)) := by
          obtain ⟨m, rfl⟩ : ∃ m, i = m + 1 := ⟨i - 1, by omega⟩
          have h1 : a0.take (m + 1 + 1) = a0.take m ++ [A 0 a0 m, A 0 a0 (m + 1)] := by
            rw [List.take_add_one, List.take_add_one, A_get? (d := 0) (show m < a0.length by omega), A_get? (d := 0) hlt]; simp
          have h2 : a0.take (m + 1) = a0.take m ++ [A 0 a0 m] := by
            rw [List.take_add_one, A_get? (d := 0) (show m < a0.length by omega)]; simp
          rw [h1, dd_snoc, if_pos (by simpa using he.symm), ← h2, hid]
        obtain ⟨l', k', g1, g2, g3, g4⟩ := cmp_l1_uint64 a0 hi hl _ a0 i 1 (Nat.le_refl _) (Nat.le_refl _) (by omega) rfl (by omega) ht (fun j _ => rfl)
        have hc1 : cut l' (k' : Int) (l'.length : Int) = some (l'.drop k') := cut_drop rfl (by omega)
        have hc2 : cut (clr l' k' l'.length 0) 0 (k' : Int) = some (dd a0) := by
          rw [cut_take (by simp [clr]; omega)]
          congr 1
          rw [← g3]
          simp only [clr, List.append_assoc]
          rw [List.take_append_of_le_length (by simp; omega), List.take_take, Nat.min_self]
        refine Ev.succ ?_
        simp only [slices_Compact_uint64.l0, Jn, dLt hlt, if_true, wP (n := i) (by omega) (by omega), idx_A (d := 0) hlt, idx_A (d := 0) (show i - 1 < a0.length by omega), Option.bind_some, he, beq_self_eq_true, sEq_refl, cut_drop (l := a0) (i := i) (n := a0.length) rfl (by omega)]
        refine g4.ev (J := fun k (l_671 : List Int) (i_672 : Int) => (cut l_671 i_672 (l_671.length : Int)).bind fun l1488 => (cut (clr l_671 (Int.toNat i_672) (Int.toNat (l_671.length : Int)) 0) 0 i_672).bind fun l1490 => some l1490) ?_
        simp only [hc1, Int.toNat_natCast, hc2, Option.bind_some]
        exact Ev.ret
      · have hb : (A 0 a0 i == A 0 a0 (i - 1)) = false := by simpa using he
        have := ih (i + 1) (by omega) (by omega) (by omega) (fun k h0 hk => by
          by_cases c : k = i
          · subst c; exact he
          · exact hne k h0 (by omega))
        refine Ev.succ ?_
        simp only [slices_Compact_uint64.l0, Jn, dLt hlt, if_true, wP (n := i) (by omega) (by omega), idx_A (d := 0) hlt, idx_A (d := 0) (show i - 1 < a0.length by omega), Option.bind_some, hb, Bool.false_eq_true, if_false, wS (n := i) (by omega)]
        exact this
    · refine Ev.succ ?_
      simp only [slices_Compact_uint64.l0, dLtF hlt, Bool.false_eq_true, if_false]
      rw [dd_id 0 a0 fun k h0 hk => hne k h0 (by omega)]
      exact Ev.ret
theorem compact_uint64 (a0 : List Int) (hl : a0.length ≤ 1152921504606846976) : Ev (fun k => slices_Compact_uint64 k a0) (dd a0) := by
  by_cases h : a0.length < 2
  · have hd : decide ((a0.length : Int) < 2) = true := decide_eq_true (by omega)
    simp only [slices_Compact_uint64, hd, if_true]
    have : dd a0 = a0 := by
      match a0, h with
      | [], _ => rfl
      | [x], _ => rfl
    rw [this]
    exact Ev.ret
  · have hd : decide ((a0.length : Int) < 2) = false := decide_eq_false (by omega)
    simp only [slices_Compact_uint64, hd, Bool.false_eq_true, if_false]
    exact cmp_l0_uint64 a0 hl _ 1 (Nat.le_refl _) (Nat.le_refl _) (by omega) (fun k h0 hk => by omega)
theorem less_uint64 (x y : Int) : cmp_Less_uint64 x y = some (decide ((fun x y : Int => x < y) x y)) := by
  simp only [cmp_Less_uint64, cmp_isNaN_uint64, Jn, Option.bind_some, bne_self_eq_false, Bool.false_eq_true, if_false, Bool.false_or]
/-- Sorted, each once. -/
theorem unlike_uint64 (a0 : List Int) (hl : a0.length ≤ 1152921504606846976) : Ev (fun k => (slices_Sort_uint64 k a0).bind fun r1 => slices_Compact_uint64 k r1) (uq (fun x y : Int => x < y) a0) := by
  obtain ⟨l', g1, g2, g3⟩ := sort_uint64 0 (lt := (fun x y : Int => x < y)) less_uint64 so_int.wo a0 hl
  refine Ev.bind g3 ((compact_uint64 l' (by rw [← g2.length_eq]; exact hl)).to ?_)
  exact pw_uniq so_int (dd_pw so_int g1) (uq_pw so_int a0) fun x => by rw [mem_dd, mem_uq so_int]; exact g2.mem_iff.symm
end Go.Proofs.Ytmbhgfigffahbaa.Mo

set_option maxRecDepth 100000
namespace Go.Proofs.Ytmbhgfigffahbaa.Mo
open Go Go.Proofs.Ytmbhgfigffahbaa.Sy
theorem cmp_l1_string (a0 : List ByteArray) {i0 : Nat} (hi0 : 1 ≤ i0) (hl : a0.length ≤ 1152921504606846976) : ∀ (n : Nat) (l : List ByteArray) (k q : Nat), a0.length - (i0 + q) ≤ n → 1 ≤ q → i0 + q ≤ a0.length → l.length = a0.length → k + 1 ≤ i0 + q → l.take k = dd (a0.take (i0 + q)) →
    (∀ j, i0 + q ≤ j + 1 → l[j]? = a0[j]?) →
    ∃ l' k', l'.length = a0.length ∧ k' ≤ a0.length ∧ l'.take k' = dd a0 ∧ EvC2 (fun J f => slices_Compact_string.l1 a0 (i0 : Int) J f l (k : Int) (q : Int)) l' (k' : Int) := by
  intro n
  induction n with
  | zero =>
    intro l k q hn hq hiq hlen hk ht hr
    have hd : ¬ q < (l.drop i0).length := by simp; omega
    refine ⟨l, k, hlen, by omega, ?_, EvC2.succ ?_⟩
    · rw [ht, List.take_of_length_le (by omega)]
    · simp only [slices_Compact_string.l1, cut_drop (l := l) (i := i0) (n := a0.length) hlen.symm (by omega), Option.bind_some, dLtF hd, Bool.false_eq_true, if_false]
      exact EvC2.ret
  | succ n ih =>
    intro l k q hn hq hiq hlen hk ht hr
    by_cases hlt : i0 + q < a0.length
    · have hd : q < (l.drop i0).length := by simp; omega
      have gx : ∀ j, i0 + q ≤ j + 1 → j < a0.length → A (ByteArray.mk #[]) l j = A (ByteArray.mk #[]) a0 j := fun j h1 h2 => A_congr (hr j h1)
      have i1 : idx (l.drop i0) (q : Int) = some (A (ByteArray.mk #[]) a0 (i0 + q)) := by
        rw [idx_nat, List.getElem?_drop, hr _ (by omega), A_get? (d := (ByteArray.mk #[])) hlt]
      have i2 : idx (l.drop i0) ((q - 1 : Nat) : Int) = some (A (ByteArray.mk #[]) a0 (i0 + q - 1)) := by
        rw [idx_nat, List.getElem?_drop, hr _ (by omega), show i0 + (q - 1) = i0 + q - 1 by omega, A_get? (d := (ByteArray.mk #[])) (by omega)]
      have hpre : a0.take (i0 + (q + 1)) = a0.take (i0 + q - 1) ++ [A (ByteArray.mk #[]) a0 (i0 + q - 1), A (ByteArray.mk #[]) a0 (i0 + q)] := by
        obtain ⟨m, hm⟩ : ∃ m, i0 + q = m + 1 := ⟨i0 + q - 1, by omega⟩
        rw [show i0 + (q + 1) = m + 2 by omega, show i0 + q - 1 = m by omega, hm, List.take_add_one, List.take_add_one, A_get? (d := (ByteArray.mk #[])) (show m < a0.length by omega), A_get? (d := (ByteArray.mk #[])) (show m + 1 < a0.length by omega)]
        simp
      have hpre0 : a0.take (i0 + q) = a0.take (i0 + q - 1) ++ [A (ByteArray.mk #[]) a0 (i0 + q - 1)] := by
        obtain ⟨m, hm⟩ : ∃ m, i0 + q = m + 1 := ⟨i0 + q - 1, by omega⟩
        rw [show i0 + q - 1 = m by omega, hm, List.take_add_one, A_get? (d := (ByteArray.mk #[])) (show m < a0.length by omega)]
        simp
      have hdd := dd_snoc (A (ByteArray.mk #[]) a0 (i0 + q - 1)) (A (ByteArray.mk #[]) a0 (i0 + q)) (a0.take (i0 + q - 1))
      rw [← hpre, ← hpre0] at hdd
      by_cases he : A (ByteArray.mk #[]) a0 (i0 + q) = A (ByteArray.mk #[]) a0 (i0 + q - 1)
      · rw [if_pos he.symm] at hdd
        obtain ⟨l', k', g1, g2, g3, n1, g4⟩ := ih l k (q + 1) (by omega) (by omega) (by omega) hlen (by omega) (by rw [ht, hdd]) (fun j hj => hr j (by omega))
        dsimp only at g4
        refine ⟨l', k', g1, g2, g3, n1 + 1, fun f hf J => ?_⟩
        obtain ⟨f, rfl⟩ : ∃ j, f = j + 1 := ⟨f - 1, by omega⟩
        simp only [slices_Compact_string.l1, Jn, cut_drop (l := l) (i := i0) (n := a0.length) hlen.symm (by omega), Option.bind_some, dLt hd, if_true, i1, wP (n := q) (by omega) (by omega), i2, he, bne_self_eq_false, sEq_refl, Bool.not_true, Bool.false_eq_true, if_false, wS (n := q) (by omega)]
        exact g4 f (by omega) J
      · rw [if_neg (fun e => he e.symm)] at hdd
        have hu : upd l (k : Int) (A (ByteArray.mk #[]) a0 (i0 + q)) = some (l.set k (A (ByteArray.mk #[]) a0 (i0 + q))) := by unfold upd; rw [if_pos ⟨by omega, by omega⟩]; simp
        obtain ⟨l', k', g1, g2, g3, n1, g4⟩ := ih (l.set k (A (ByteArray.mk #[]) a0 (i0 + q))) (k + 1) (q + 1) (by omega) (by omega) (by omega) (by simpa using hlen) (by omega)
          (by
            rw [show i0 + (q + 1) = i0 + (q + 1) from rfl, hdd, ← ht, List.take_add_one, List.take_set, List.getElem?_set_self (by omega)]
            rw [List.set_eq_of_length_le (by simp; omega)]
            rfl)
          (fun j hj => by rw [List.getElem?_set_ne (by omega)]; exact hr j (by omega))
        dsimp only at g4
        refine ⟨l', k', g1, g2, g3, n1 + 1, fun f hf J => ?_⟩
        obtain ⟨f, rfl⟩ : ∃ j, f = j + 1 := ⟨f - 1, by omega⟩
        have hb : (!sEq (A (ByteArray.mk #[]) a0 (i0 + q)) (A (ByteArray.mk #[]) a0 (i0 + q - 1))) = true := by rw [sEq_false.2 he]; rfl
        simp only [slices_Compact_string.l1, Jn, cut_drop (l := l) (i := i0) (n := a0.length) hlen.symm (by omega), Option.bind_some, dLt hd, if_true, i1, wP (n := q) (by omega) (by omega), i2, hb, wS (n := q) (by omega), idx_A (d := (ByteArray.mk #[])) (show k < l.length by omega), hu, wS (n := k) (by omega)]
        exact g4 f (by omega) J
    · have hd : ¬ q < (l.drop i0).length := by simp; omega
      refine ⟨l, k, hlen, by omega, ?_, EvC2.succ ?_⟩
      · rw [ht, List.take_of_length_le (by omega)]
      · simp only [slices_Compact_string.l1, cut_drop (l := l) (i := i0) (n := a0.length) hlen.symm (by omega), Option.bind_some, dLtF hd, Bool.false_eq_true, if_false]
        exact EvC2.ret
theorem cmp_l0_string (a0 : List ByteArray) (hl : a0.length ≤ 1152921504606846976) : ∀ (n i : Nat), a0.length - i ≤ n → 1 ≤ i → i ≤ a0.length → (∀ k, 0 < k → k < i → A (ByteArray.mk #[]) a0 k ≠ A (ByteArray.mk #[]) a0 (k - 1)) → Ev (fun k => slices_Compact_string.l0 a0 k (i : Int)) (dd a0) := by
  intro n
  induction n with
  | zero =>
    intro i hn hi hle hne
    refine Ev.succ ?_
    simp only [slices_Compact_string.l0, dLtF (show ¬ i < a0.length by omega), Bool.false_eq_true, if_false]
    rw [dd_id (ByteArray.mk #[]) a0 fun k h0 hk => hne k h0 (by omega)]
    exact Ev.ret
  | succ n ih =>
    intro i hn hi hle hne
    by_cases hlt : i < a0.length
    · by_cases he : A (ByteArray.mk #[]) a0 i = A (ByteArray.mk #[]) a0 (i - 1)
      · have hid : dd (a0.take i) = a0.take i := dd_id (ByteArray.mk #[]) _ fun k h0 hk => by
          simp only [List.length_take] at hk
          have e : ∀ j, j < i → A (ByteArray.mk #[]) (a0.take i) j = A (ByteArray.mk #[]) a0 j := fun j hj => A_congr (by rw [List.getElem?_take, if_pos hj])
          rw [e k (by omega), e (k - 1) (by omega)]
          exact hne k h0 (by omega)
        have ht : a0.take i = dd (a0.take (i + 1)) := by
          obtain ⟨m, rfl⟩ : ∃ m, i = m + 1 := ⟨i - 1, by omega⟩
          have h1 : a0.take (m + 1 + 1) = a0.take m ++ [A (ByteArray.mk #[]) a0 m, A (ByteArray.mk #[]) a0 (m + 1)] := by
            rw [List.take_add_one, List.take_add_one, A_get? (d := (ByteArray.mk #[])) (show m < a0.length by omega), A_get? (d := (ByteArray.mk #[])) hlt]; simp
          have h2 : a0.take (m + 1) = a0.take m ++ [A (ByteArray.mk #[]) a0 m] := by
            rw [List.take_add_one, A_get? (d := (ByteArray.mk #[])) (show m < a0.length by omega)]; simp
          rw [h1, dd_snoc, if_pos (by simpa using he.symm), ← h2, hid]
        obtain ⟨l', k', g1, g2, g3, g4⟩ := cmp_l1_string a0 hi hl _ a0 i 1 (Nat.le_refl _) (Nat.le_refl _) (by omega) rfl (by omega) ht (fun j _ => rfl)
        have hc1 : cut l' (k' : Int) (l'.length : Int) = some (l'.drop k') := cut_drop rfl (by omega)
        have hc2 : cut (clr l' k' l'.length (ByteArray.mk #[])) 0 (k' : Int) = some (dd a0) := by
          rw [cut_take (by simp [clr]; omega)]
          congr 1
          rw [← g3]
          simp only [clr, List.append_assoc]
          rw [List.take_append_of_le_length (by simp; omega), List.take_take, Nat.min_self]
        refine Ev.succ ?_
        simp only [slices_Compact_string.l0, Jn, dLt hlt, if_true, wP (n := i) (by omega) (by omega), idx_A (d := (ByteArray.mk #[])) hlt, idx_A (d := (ByteArray.mk #[])) (show i - 1 < a0.length by omega), Option.bind_some, he, beq_self_eq_true, sEq_refl, cut_drop (l := a0) (i := i) (n := a0.length) rfl (by omega)]
        refine g4.ev (J := fun k (l_671 : List ByteArray) (i_672 : Int) => (cut l_671 i_672 (l_671.length : Int)).bind fun l1488 => (cut (clr l_671 (Int.toNat i_672) (Int.toNat (l_671.length : Int)) (ByteArray.mk #[])) 0 i_672).bind fun l1490 => some l1490) ?_
        simp only [hc1, Int.toNat_natCast, hc2, Option.bind_some]
        exact Ev.ret
      · have hb : sEq (A (ByteArray.mk #[]) a0 i) (A (ByteArray.mk #[]) a0 (i - 1)) = false := by exact sEq_false.2 he
        have := ih (i + 1) (by omega) (by omega) (by omega) (fun k h0 hk => by
          by_cases c : k = i
          · subst c; exact he
          · exact hne k h0 (by omega))
        refine Ev.succ ?_
        simp only [slices_Compact_string.l0, Jn, dLt hlt, if_true, wP (n := i) (by omega) (by omega), idx_A (d := (ByteArray.mk #[])) hlt, idx_A (d := (ByteArray.mk #[])) (show i - 1 < a0.length by omega), Option.bind_some, hb, Bool.false_eq_true, if_false, wS (n := i) (by omega)]
        exact this
    · refine Ev.succ ?_
      simp only [slices_Compact_string.l0, dLtF hlt, Bool.false_eq_true, if_false]
      rw [dd_id (ByteArray.mk #[]) a0 fun k h0 hk => hne k h0 (by omega)]
      exact Ev.ret
theorem compact_string (a0 : List ByteArray) (hl : a0.length ≤ 1152921504606846976) : Ev (fun k => slices_Compact_string k a0) (dd a0) := by
  by_cases h : a0.length < 2
  · have hd : decide ((a0.length : Int) < 2) = true := decide_eq_true (by omega)
    simp only [slices_Compact_string, hd, if_true]
    have : dd a0 = a0 := by
      match a0, h with
      | [], _ => rfl
      | [x], _ => rfl
    rw [this]
    exact Ev.ret
  · have hd : decide ((a0.length : Int) < 2) = false := decide_eq_false (by omega)
    simp only [slices_Compact_string, hd, Bool.false_eq_true, if_false]
    exact cmp_l0_string a0 hl _ 1 (Nat.le_refl _) (Nat.le_refl _) (by omega) (fun k h0 hk => by omega)
theorem less_string (x y : ByteArray) : cmp_Less_string x y = some (decide (slt x y)) := by
  simp only [cmp_Less_string, cmp_isNaN_string, Jn, Option.bind_some, sEq_refl, Bool.not_true, Bool.false_eq_true, if_false, Bool.false_or, sLt_dec]
/-- Sorted, each once. -/
theorem unlike_string (a0 : List ByteArray) (hl : a0.length ≤ 1152921504606846976) : Ev (fun k => (slices_Sort_string k a0).bind fun r1 => slices_Compact_string k r1) (uq slt a0) := by
  obtain ⟨l', g1, g2, g3⟩ := sort_string (ByteArray.mk #[]) (lt := slt) less_string so_str.wo a0 hl
  refine Ev.bind g3 ((compact_string l' (by rw [← g2.length_eq]; exact hl)).to ?_)
  exact pw_uniq so_str (dd_pw so_str g1) (uq_pw so_str a0) fun x => by rw [mem_dd, mem_uq so_str]; exact g2.mem_iff.symm
end Go.Proofs.Ytmbhgfigffahbaa.Mo

set_option maxRecDepth 100000
namespace Go.Proofs.Ytmbhgfigffahbaa.Mo
open Go Go.Proofs.Ytmbhgfigffahbaa.Sy
/-- A valid tomb. -/
def okT (x : Tomb) : Bool := (tomb_Valid x).getD false
theorem valid_eq (x : Tomb) : tomb_Valid x = some (okT x) := rfl
theorem valid_l0 (l : List Tomb) (h : l.length < 5629499534059) : ∀ s p acc, l = p ++ s → acc.length ≤ p.length → Ev (fun k => tomb_valid.l0 l k acc (p.length : Int)) (acc ++ s.filter okT) := by
  intro s
  induction s with
  | nil =>
    intro p acc hl ha
    subst hl
    refine Ev.succ ?_
    simp only [tomb_valid.l0, lt_end, Bool.false_eq_true, if_false]
    simpa using Ev.ret
  | cons x s ih =>
    intro p acc hl ha
    have hm : (p ++ x :: s).length ≤ maxLen := by rw [maxLen_val, ← hl]; omega
    have hp : p.length < 5629499534059 := by rw [hl] at h; simp at h; omega
    refine Ev.succ ?_
    subst hl
    simp only [tomb_valid.l0, lt_at, if_true, Jn, idx_at, Option.bind_some, valid_eq, step_at p s x hm]
    by_cases hx : okT x = true
    · simp only [hx, if_true, push_ok (xs := acc) (x := x) (Nat.lt_of_le_of_lt ha hp), Option.bind_some]
      exact (ih (p ++ [x]) (acc ++ [x]) (by simp) (by simp; omega)).to (by simp [hx])
    · simp only [hx, if_false]
      exact (ih (p ++ [x]) acc (by simp) (by simp; omega)).to (by simp [hx])
theorem valid_ev (l : List Tomb) (h : l.length < 5629499534059) : Ev (fun k => tomb_valid k l) (l.filter okT) := by
  have := valid_l0 l h l [] [] rfl (Nat.le_refl _)
  simpa [tomb_valid] using this
def cov (key : ByteArray) (n : Int) (x : Tomb) : Bool := okT x && decide (x.Seq ≤ n) && (sLt x.Begin key || sEq x.Begin key) && sLt key x.End
def covers (key : ByteArray) (n : Int) : List Tomb → Int × Bool → Int × Bool
  | [], c => c
  | x :: s, c => covers key n s (if cov key n x = true then (maxI c.1 x.Seq, true) else c)
theorem cover_l0 (key : ByteArray) (n : Int) (l : List Tomb) (h : l.length < 5629499534059) : ∀ s p c, l = p ++ s → Ev (fun k => tomb_Cover.l0 l key n k c.1 c.2 (p.length : Int)) (covers key n s c) := by
  intro s
  induction s with
  | nil =>
    intro p c hl
    subst hl
    refine Ev.succ ?_
    simp only [tomb_Cover.l0, lt_end, Bool.false_eq_true, if_false]
    exact Ev.ret
  | cons x s ih =>
    intro p c hl
    have hm : (p ++ x :: s).length ≤ maxLen := by rw [maxLen_val, ← hl]; omega
    refine Ev.succ ?_
    subst hl
    simp only [tomb_Cover.l0, lt_at, if_true, Jn, idx_at, Option.bind_some, valid_eq, step_at p s x hm]
    by_cases hx : cov key n x = true
    · have hx' := hx
      simp only [cov] at hx'
      simp only [hx', if_true]
      exact (ih (p ++ [x]) (maxI c.1 x.Seq, true) (by simp)).to (by simp [covers, hx])
    · have hx' := hx
      simp only [cov] at hx'
      simp only [hx', if_false]
      exact (ih (p ++ [x]) c (by simp)).to (by simp [covers, hx])
theorem cover_ev (key : ByteArray) (n : Int) (l : List Tomb) (h : l.length < 5629499534059) : Ev (fun k => tomb_Cover k l key n) (covers key n l (0, false)) := by
  have := cover_l0 key n l h l [] (0, false) rfl
  simpa [tomb_Cover] using this
theorem covers_ok (key : ByteArray) (n : Int) : ∀ (l : List Tomb) (c : Int × Bool), ((covers key n l c).2 = true ↔ c.2 = true ∨ ∃ x ∈ l, cov key n x = true)
  | [], c => by simp [covers]
  | x :: s, c => by
    rw [covers, covers_ok key n s]
    by_cases h : cov key n x = true <;> simp [h]
theorem covers_max (key : ByteArray) (n : Int) : ∀ (l : List Tomb) (c : Int × Bool), c.1 ≤ (covers key n l c).1 ∧ (∀ x ∈ l, cov key n x = true → x.Seq ≤ (covers key n l c).1) ∧ ((covers key n l c).1 = c.1 ∨ ∃ x ∈ l, cov key n x = true ∧ (covers key n l c).1 = x.Seq)
  | [], c => by simp [covers]
  | x :: s, c => by
    rw [covers]
    by_cases h : cov key n x = true
    · simp only [h, if_true]
      obtain ⟨h1, h2, h3⟩ := covers_max key n s (maxI c.1 x.Seq, true)
      have hm : c.1 ≤ maxI c.1 x.Seq ∧ x.Seq ≤ maxI c.1 x.Seq ∧ (maxI c.1 x.Seq = c.1 ∨ maxI c.1 x.Seq = x.Seq) := by unfold maxI; split <;> omega
      refine ⟨Int.le_trans hm.1 h1, fun y hy k => ?_, ?_⟩
      · rcases List.mem_cons.1 hy with e | e
        · subst e; exact Int.le_trans hm.2.1 h1
        · exact h2 y e k
      · rcases h3 with e | ⟨y, hy, k, e⟩
        · rcases hm.2.2 with e2 | e2
          · exact .inl (e.trans e2)
          · exact .inr ⟨x, by simp, h, e.trans e2⟩
        · exact .inr ⟨y, by simp [hy], k, e⟩
    · simp only [h, if_false]
      obtain ⟨h1, h2, h3⟩ := covers_max key n s c
      refine ⟨h1, fun y hy k => ?_, ?_⟩
      · rcases List.mem_cons.1 hy with e | e
        · subst e; exact absurd k h
        · exact h2 y e k
      · rcases h3 with e | ⟨y, hy, k, e⟩
        · exact .inl e
        · exact .inr ⟨y, by simp [hy], k, e⟩
theorem reverse_l0 : ∀ (n : Nat) (m p s : List Int), m.length ≤ n → (p ++ m ++ s).length ≤ 1152921504606846976 → Ev (fun k => slices_Reverse_uint64.l0 k (p ++ m ++ s) (p.length : Int) (((p ++ m).length : Int) - 1)) (p ++ m.reverse ++ s) := by
  intro n
  induction n with
  | zero =>
    intro m p s hm hl
    obtain rfl : m = [] := List.eq_nil_of_length_eq_zero (by omega)
    refine Ev.succ ?_
    have h : decide ((p.length : Int) < ((p ++ ([] : List Int)).length : Int) - 1) = false := decide_eq_false (by simp; omega)
    simp only [slices_Reverse_uint64.l0, h, Bool.false_eq_true, if_false]
    simpa using Ev.ret
  | succ n ih =>
    intro m p s hm hl
    cases m with
    | nil =>
      refine Ev.succ ?_
      have h : decide ((p.length : Int) < ((p ++ ([] : List Int)).length : Int) - 1) = false := decide_eq_false (by simp; omega)
      simp only [slices_Reverse_uint64.l0, h, Bool.false_eq_true, if_false]
      simpa using Ev.ret
    | cons x m =>
      rcases nil_or_snoc m with rfl | ⟨m, y, rfl⟩
      · refine Ev.succ ?_
        have h : decide ((p.length : Int) < ((p ++ [x]).length : Int) - 1) = false := decide_eq_false (by simp)
        simp only [slices_Reverse_uint64.l0, h, Bool.false_eq_true, if_false]
        simpa using Ev.ret
      · have hl' := hl
        simp only [List.length_append, List.length_cons, List.length_nil] at hl' hm
        have h : decide ((p.length : Int) < ((p ++ x :: (m ++ [y])).length : Int) - 1) = true := decide_eq_true (by simp; omega)
        have hj : ((p ++ x :: (m ++ [y])).length : Int) - 1 = ((p ++ x :: m).length : Int) := by simp; omega
        rw [hj] at h ⊢
        have e1 : idx (p ++ x :: (m ++ [y]) ++ s) ((p ++ x :: m).length : Int) = some y := idx_as (p := p ++ x :: m) (s := s) (by simp) rfl
        have e2 : idx (p ++ x :: (m ++ [y]) ++ s) (p.length : Int) = some x := idx_as (p := p) (s := m ++ [y] ++ s) (by simp) rfl
        have e3 : upd (p ++ x :: (m ++ [y]) ++ s) (p.length : Int) y = some (p ++ y :: (m ++ [y] ++ s)) := upd_as (p := p) (x := x) (s := m ++ [y] ++ s) y (by simp) rfl
        have e4 : idx (p ++ y :: (m ++ [y] ++ s)) ((p ++ x :: m).length : Int) = some y := idx_as (p := p ++ y :: m) (s := s) (by simp) (by simp)
        have e5 : upd (p ++ y :: (m ++ [y] ++ s)) ((p ++ x :: m).length : Int) x = some (p ++ y :: m ++ x :: s) := upd_as (p := p ++ y :: m) (x := y) (s := s) x (by simp) (by simp)
        have w1 : w64 ((p.length : Int) + 1) = ((p ++ [y]).length : Int) := by simp only [List.length_append, List.length_cons, List.length_nil]; rw [w64_of (by omega) (by omega)]; omega
        have w2 : w64 (((p ++ x :: m).length : Int) - 1) = ((p ++ [y] ++ m).length : Int) - 1 := by simp only [List.length_append, List.length_cons, List.length_nil]; rw [w64_of (by omega) (by omega)]; omega
        have := ih m (p ++ [y]) (x :: s) (by omega) (by simp; omega)
        refine Ev.succ ?_
        simp only [slices_Reverse_uint64.l0, h, if_true, e1, e2, e3, e4, e5, Option.bind_some, w1, w2]
        have e6 : p ++ y :: m ++ x :: s = p ++ [y] ++ m ++ x :: s := by simp
        rw [e6]
        exact this.to (by simp)
theorem reverse_ev (m : List Int) (hl : m.length ≤ 1152921504606846976) : Ev (fun k => slices_Reverse_uint64 k m) m.reverse := by
  have := reverse_l0 m.length m [] [] (Nat.le_refl _) (by simpa using hl)
  simp only [List.nil_append, List.append_nil, List.length_nil] at this
  have w : w64 ((m.length : Int) - 1) = (m.length : Int) - 1 := w64_of (by omega) (by omega)
  simp only [slices_Reverse_uint64, w]
  exact this
theorem equal_l0 (a b : List Int) (hab : a.length = b.length) (hl : a.length ≤ 1152921504606846976) : ∀ s p t, a = p ++ s → b = p ++ t → Ev (fun k => slices_Equal_uint64.l0 a b k (p.length : Int)) (decide (s = t)) := by
  intro s
  induction s with
  | nil =>
    intro p t ha hb
    obtain rfl : t = [] := by rw [ha, hb] at hab; simpa using hab
    subst ha
    refine Ev.succ ?_
    simp only [slices_Equal_uint64.l0, lt_end, Bool.false_eq_true, if_false]
    exact Ev.ret.to (by simp)
  | cons x s ih =>
    intro p t ha hb
    cases t with
    | nil => rw [ha, hb] at hab; simp at hab
    | cons y t =>
      have e1 : idx a (p.length : Int) = some x := by rw [ha]; exact idx_at _ _ _
      have e2 : idx b (p.length : Int) = some y := by rw [hb]; exact idx_at _ _ _
      have hd : decide ((p.length : Int) < (a.length : Int)) = true := by rw [ha]; exact lt_at _ _ _
      have hw : w64 ((p.length : Int) + 1) = ((p ++ [x]).length : Int) := by rw [ha] at hl; simp at hl; rw [wS (by omega)]; simp
      refine Ev.succ ?_
      simp only [slices_Equal_uint64.l0, hd, if_true, e1, e2, Option.bind_some]
      by_cases hxy : x = y
      · subst hxy
        simp only [bne_self_eq_false, Bool.false_eq_true, if_false, hw]
        exact (ih (p ++ [x]) t (by simp [ha]) (by simp [hb])).to (by simp)
      · have hb : (x != y) = true := by simpa using hxy
        simp only [hb, if_true]
        exact Ev.ret.to (by simp [hxy])
theorem equal_ev (a b : List Int) (hl : b.length ≤ 1152921504606846976) : Ev (fun k => slices_Equal_uint64 k a b) (decide (a = b)) := by
  by_cases h : a.length = b.length
  · have hb : ((a.length : Int) != (b.length : Int)) = false := by simp [h]
    simp only [slices_Equal_uint64, hb, Bool.false_eq_true, if_false]
    exact equal_l0 a b h (by omega) a [] b rfl rfl
  · have hb : ((a.length : Int) != (b.length : Int)) = true := by simp; omega
    simp only [slices_Equal_uint64, hb, if_true]
    exact Ev.ret.to (by simp; intro e; subst e; exact h rfl)
theorem unlikeU_ev (a0 : List Int) (hl : a0.length ≤ 1152921504606846976) : Ev (fun k => tomb_unlike_uint64 k a0) (uq (fun x y : Int => x < y) a0) := by
  refine Ev.congr (fun k => ?_) (unlike_uint64 a0 hl)
  simp only [tomb_unlike_uint64]
  cases slices_Sort_uint64 k a0 with
  | none => rfl
  | some r => simp only [Option.bind_some]; cases slices_Compact_uint64 k r <;> rfl
theorem unlikeS_ev (a0 : List ByteArray) (hl : a0.length ≤ 1152921504606846976) : Ev (fun k => tomb_unlike_string k a0) (uq slt a0) := by
  refine Ev.congr (fun k => ?_) (unlike_string a0 hl)
  simp only [tomb_unlike_string]
  cases slices_Sort_string k a0 with
  | none => rfl
  | some r => simp only [Option.bind_some]; cases slices_Compact_string k r <;> rfl
def onSeg (b e : ByteArray) (t : Tomb) : Bool := decide (sle t.Begin b) && decide (sle e t.End)
def seqsOf (l : List Tomb) (b e : ByteArray) : List Int := (uq (fun x y : Int => x < y) ((l.filter (onSeg b e)).map (·.Seq))).reverse
def addF (out : List Fragment) (b e : ByteArray) (s : List Int) : List Fragment :=
  if s = [] then out else
  match out.getLast? with
  | some f => if f.End = b ∧ f.Seqs = s then out.dropLast ++ [⟨f.Begin, e, f.Seqs⟩] else out ++ [⟨b, e, s⟩]
  | none => out ++ [⟨b, e, s⟩]
def build (l : List Tomb) : ByteArray → List ByteArray → List Fragment → List Fragment
  | _, [], out => out
  | b, e :: r, out => build l e r (addF out b e (seqsOf l b e))
def endsOf (l : List Tomb) : List ByteArray := l.flatMap fun t => [t.Begin, t.End]
def fragsU (l : List Tomb) : List ByteArray → List Fragment
  | [] => []
  | b :: r => build l b r []
def frags (l : List Tomb) : List Fragment := fragsU l (uq slt (endsOf l))
theorem addF_len (out : List Fragment) (b e : ByteArray) (s : List Int) : (addF out b e s).length ≤ out.length + 1 := by
  unfold addF
  split
  · omega
  · split
    · split
      · simp
      · simp
    · simp
theorem frag_l2 (r1 : List Tomb) (b e : ByteArray) (h : r1.length < 28147497670912) : ∀ s p acc, r1 = p ++ s → acc.length ≤ p.length → EvC (fun J k => tomb_Fragments.l2 r1 b e J k acc (p.length : Int)) (acc ++ (s.filter (onSeg b e)).map (·.Seq)) := by
  intro s
  induction s with
  | nil =>
    intro p acc hl ha
    subst hl
    refine EvC.succ ?_
    simp only [tomb_Fragments.l2, lt_end, Bool.false_eq_true, if_false]
    simpa using EvC.ret
  | cons x s ih =>
    intro p acc hl ha
    have hm : (p ++ x :: s).length ≤ maxLen := by rw [maxLen_val, ← hl]; omega
    have hp : p.length < 28147497670912 := by rw [hl] at h; simp at h; omega
    subst hl
    by_cases hx : onSeg b e x = true
    · have hx' := hx
      simp only [onSeg, Bool.and_eq_true, ← sLe_dec] at hx'
      refine EvC.succ ?_
      simp only [tomb_Fragments.l2, lt_at, if_true, Jn, idx_at, Option.bind_some, step_at p s x hm, hx'.1, hx'.2, Bool.and_self, push_ok (xs := acc) (x := x.Seq) (Nat.lt_of_le_of_lt ha hp)]
      exact (ih (p ++ [x]) (acc ++ [x.Seq]) (by simp) (by simp; omega)).to (by simp [hx])
    · have hx' : ((sLt x.Begin b || sEq x.Begin b) && (sLt e x.End || sEq e x.End)) = false := by
        rw [sLe_dec, sLe_dec]; simpa [onSeg] using hx
      refine EvC.succ ?_
      simp only [tomb_Fragments.l2, lt_at, if_true, Jn, idx_at, Option.bind_some, step_at p s x hm, hx', Bool.false_eq_true, if_false]
      exact (ih (p ++ [x]) acc (by simp) (by simp; omega)).to (by simp [hx])
theorem frag_l1 (r1 : List Tomb) (us : List ByteArray) (h : r1.length < 1099511627776) (hu : us.length < 2199023255552) : ∀ s p b acc, us = p ++ b :: s → acc.length ≤ p.length →
    EvC (fun J k => tomb_Fragments.l1 r1 us J k acc ((p.length + 1 : Nat) : Int)) (build r1 b s acc) := by
  intro s
  induction s with
  | nil =>
    intro p b acc hl ha
    refine EvC.succ ?_
    have hd : decide (((p.length + 1 : Nat) : Int) < (us.length : Int)) = false := decide_eq_false (by rw [hl]; simp)
    simp only [tomb_Fragments.l1, hd, Bool.false_eq_true, if_false]
    exact EvC.ret
  | cons e s ih =>
    intro p b acc hl ha
    have hlen : us.length = p.length + 2 + s.length := by rw [hl]; simp; omega
    have hd : decide (((p.length + 1 : Nat) : Int) < (us.length : Int)) = true := decide_eq_true (by omega)
    have i1 : idx us ((p.length : Nat) : Int) = some b := by rw [hl]; exact idx_at _ _ _
    have i2 : idx us ((p.length + 1 : Nat) : Int) = some e := idx_as (p := p ++ [b]) (s := s) (by simp [hl]) (by simp)
    have w1 : w64 (((p.length + 1 : Nat) : Int) - 1) = (p.length : Int) := by rw [wP (by omega) (by omega)]; rfl
    have w2 : w64 (((p.length + 1 : Nat) : Int) + 1) = ((p.length + 1 + 1 : Nat) : Int) := wS (by omega)
    obtain ⟨n2, h2⟩ := frag_l2 r1 b e (by omega) r1 [] [] rfl (Nat.le_refl _)
    dsimp only at h2
    simp only [List.nil_append, List.length_nil, Int.natCast_zero] at h2
    obtain ⟨vals, hv⟩ : ∃ vals, vals = (r1.filter (onSeg b e)).map (·.Seq) := ⟨_, rfl⟩
    have hvl : vals.length ≤ r1.length := by rw [hv, List.length_map]; exact List.length_filter_le _ _
    rw [← hv] at h2
    have hsq : seqsOf r1 b e = (uq (fun x y : Int => x < y) vals).reverse := by unfold seqsOf; rw [hv]
    have hih := ih (p ++ [b]) e (addF acc b e (seqsOf r1 b e)) (by simp [hl]) (by have := addF_len acc b e (seqsOf r1 b e); simp; omega)
    simp only [List.length_append, List.length_singleton] at hih
    obtain ⟨n3, h3⟩ := hih
    dsimp only at h3
    by_cases hnil : vals = []
    · have ha2 : addF acc b e (seqsOf r1 b e) = acc := by unfold addF; rw [if_pos (by rw [hsq, hnil]; rfl)]
      rw [ha2] at h3
      refine ⟨max n2 n3 + 1, fun k hk J => ?_⟩
      obtain ⟨k, rfl⟩ : ∃ j, k = j + 1 := ⟨k - 1, by omega⟩
      simp only [tomb_Fragments.l1, hd, if_true, Jn, i1, i2, w1, w2, Option.bind_some, h2 k (by omega), hnil, List.length_nil, Int.natCast_zero, beq_self_eq_true, build, ha2]
      exact h3 k (by omega) J
    · have hne : ((vals.length : Int) == 0) = false := by simp; exact hnil
      obtain ⟨n4, h4⟩ := unlikeU_ev vals (by omega)
      obtain ⟨n5, h5⟩ := reverse_ev (uq (fun x y : Int => x < y) vals) (Nat.le_trans (uq_len _) (by omega))
      dsimp only at h4 h5
      rw [← hsq] at h5
      have hs0 : seqsOf r1 b e ≠ [] := by
        rw [hsq]
        intro h0
        obtain ⟨x, hx⟩ := List.exists_mem_of_ne_nil _ hnil
        have := (mem_uq so_int).2 hx
        rw [List.reverse_eq_nil_iff.1 h0] at this
        simp at this
      obtain ⟨sq, hsq'⟩ : ∃ sq, sq = seqsOf r1 b e := ⟨_, rfl⟩
      rw [← hsq'] at h5 hs0 h3
      rcases nil_or_snoc acc with rfl | ⟨acc, f, rfl⟩
      · have ha2 : addF [] b e sq = [⟨b, e, sq⟩] := by unfold addF; rw [if_neg hs0]; rfl
        rw [ha2] at h3
        refine ⟨max n2 (max n3 (max n4 n5)) + 1, fun k hk J => ?_⟩
        obtain ⟨k, rfl⟩ : ∃ j, k = j + 1 := ⟨k - 1, by omega⟩
        have hz : decide ((0 : Int) < ((([] : List Fragment).length : Nat) : Int)) = false := by decide
        simp only [tomb_Fragments.l1, hd, if_true, Jn, i1, i2, w1, w2, Option.bind_some, h2 k (by omega), hne, Bool.false_eq_true, if_false, h4 k (by omega), h5 k (by omega), hz, push_ok (xs := ([] : List Fragment)) (x := (⟨b, e, sq⟩ : Fragment)) (N := 4021071095713) (by simp), List.nil_append, build, ← hsq', ha2]
        exact h3 k (by omega) J
      · simp only [List.length_append, List.length_singleton] at ha
        have hz : decide ((0 : Int) < (((acc ++ [f]).length : Nat) : Int)) = true := decide_eq_true (by simp)
        have wl : w64 (((acc ++ [f]).length : Int) - 1) = (acc.length : Int) := by
          simp only [List.length_append, List.length_singleton]; rw [wP (by omega) (by omega)]; rfl
        have il : idx (acc ++ [f]) (acc.length : Int) = some f := idx_at acc f []
        obtain ⟨n7, h7⟩ := equal_ev f.Seqs sq (by rw [hsq', hsq, List.length_reverse]; exact Nat.le_trans (uq_len _) (by omega))
        dsimp only at h7
        by_cases he : f.End = b
        · by_cases hq : f.Seqs = sq
          · have ha2 : addF (acc ++ [f]) b e sq = acc ++ [⟨f.Begin, e, f.Seqs⟩] := by unfold addF; rw [if_neg hs0]; simp [he, hq]
            rw [ha2] at h3
            refine ⟨max n2 (max n3 (max n4 (max n5 n7))) + 1, fun k hk J => ?_⟩
            obtain ⟨k, rfl⟩ : ∃ j, k = j + 1 := ⟨k - 1, by omega⟩
            simp only [tomb_Fragments.l1, hd, if_true, Jn, i1, i2, w1, w2, Option.bind_some, h2 k (by omega), hne, Bool.false_eq_true, if_false, h4 k (by omega), h5 k (by omega), hz, wl, il, sEq_iff.2 he, h7 k (by omega), decide_eq_true hq, upd_at, build, ← hsq', ha2]
            exact h3 k (by omega) J
          · have ha2 : addF (acc ++ [f]) b e sq = acc ++ [f] ++ [⟨b, e, sq⟩] := by unfold addF; rw [if_neg hs0]; simp [hq]
            rw [ha2] at h3
            refine ⟨max n2 (max n3 (max n4 (max n5 n7))) + 1, fun k hk J => ?_⟩
            obtain ⟨k, rfl⟩ : ∃ j, k = j + 1 := ⟨k - 1, by omega⟩
            simp only [tomb_Fragments.l1, hd, if_true, Jn, i1, i2, w1, w2, Option.bind_some, h2 k (by omega), hne, Bool.false_eq_true, if_false, h4 k (by omega), h5 k (by omega), hz, wl, il, sEq_iff.2 he, h7 k (by omega), decide_eq_false hq, push_ok (xs := acc ++ [f]) (x := (⟨b, e, sq⟩ : Fragment)) (N := 4021071095713) (by simp; omega), build, ← hsq', ha2]
            exact h3 k (by omega) J
        · have ha2 : addF (acc ++ [f]) b e sq = acc ++ [f] ++ [⟨b, e, sq⟩] := by unfold addF; rw [if_neg hs0]; simp [he]
          rw [ha2] at h3
          refine ⟨max n2 (max n3 (max n4 n5)) + 1, fun k hk J => ?_⟩
          obtain ⟨k, rfl⟩ : ∃ j, k = j + 1 := ⟨k - 1, by omega⟩
          simp only [tomb_Fragments.l1, hd, if_true, Jn, i1, i2, w1, w2, Option.bind_some, h2 k (by omega), hne, Bool.false_eq_true, if_false, h4 k (by omega), h5 k (by omega), hz, wl, il, sEq_false.2 he, push_ok (xs := acc ++ [f]) (x := (⟨b, e, sq⟩ : Fragment)) (N := 4021071095713) (by simp; omega), build, ← hsq', ha2]
          exact h3 k (by omega) J
theorem frag_l0 (r1 : List Tomb) (h : r1.length < 1099511627776) : ∀ s p acc, r1 = p ++ s → acc.length = 2 * p.length → Ev (fun k => tomb_Fragments.l0 r1 k acc (p.length : Int)) (fragsU r1 (uq slt (acc ++ endsOf s))) := by
  intro s
  induction s with
  | nil =>
    intro p acc hl ha
    have hpl : r1.length = p.length := by rw [hl]; simp
    refine Ev.succ ?_
    have hd : decide ((p.length : Int) < (r1.length : Int)) = false := decide_eq_false (by omega)
    simp only [tomb_Fragments.l0, hd, Bool.false_eq_true, if_false]
    have hz : endsOf [] = [] := rfl
    rw [hz, List.append_nil]
    refine Ev.bind (unlikeS_ev acc (by omega)) ?_
    have hul : (uq slt acc).length < 2199023255552 := Nat.lt_of_le_of_lt (uq_len _) (by omega)
    obtain ⟨us, hus⟩ : ∃ us, us = uq slt acc := ⟨_, rfl⟩
    rw [← hus] at hul ⊢
    simp only [Jn]
    cases us with
    | nil =>
      refine Ev.succ ?_
      have hd : decide ((1 : Int) < ((([] : List ByteArray).length : Nat) : Int)) = false := by decide
      simp only [tomb_Fragments.l1, hd, Bool.false_eq_true, if_false]
      exact Ev.ret
    | cons b r =>
      have := frag_l1 r1 (b :: r) h hul r [] b [] rfl (Nat.le_refl _)
      exact this.ev (J := fun _ l => some l) Ev.ret
  | cons x s ih =>
    intro p acc hl ha
    have hpl : r1.length = p.length + 1 + s.length := by rw [hl]; simp; omega
    have hm : (p ++ x :: s).length ≤ maxLen := by rw [maxLen_val, ← hl]; omega
    refine Ev.succ ?_
    have e1 : idx r1 (p.length : Int) = some x := by rw [hl]; exact idx_at _ _ _
    have hd : decide ((p.length : Int) < (r1.length : Int)) = true := decide_eq_true (by omega)
    simp only [tomb_Fragments.l0, hd, if_true, e1, Option.bind_some, pushN_ok (xs := acc) (zs := [x.Begin, x.End]) (N := 14073748835379) (by simp; omega), step_at p s x hm]
    exact (ih (p ++ [x]) (acc ++ [x.Begin, x.End]) (by simp [hl]) (by simp; omega)).to (by simp [endsOf])
theorem frags_ev (l : List Tomb) (h : l.length < 1099511627776) : Ev (fun k => tomb_Fragments k l) (frags (l.filter okT)) := by
  simp only [tomb_Fragments]
  refine Ev.bind (valid_ev l (by omega)) ?_
  have := frag_l0 (l.filter okT) (Nat.lt_of_le_of_lt (List.length_filter_le _ _) h) (l.filter okT) [] [] rfl rfl
  simpa [frags] using this
end Go.Proofs.Ytmbhgfigffahbaa.Mo

set_option maxRecDepth 100000
namespace Go.Proofs.Ytmbhgfigffahbaa.Mo
open Go Go.Proofs.Ytmbhgfigffahbaa.Sy
def onKey (key : ByteArray) (t : Tomb) : Bool := decide (sle t.Begin key) && decide (slt key t.End)
/-- The numbers of the tombs that cover a key, falling, each once. -/
def covS (l : List Tomb) (key : ByteArray) : List Int := (uq (fun x y : Int => x < y) ((l.filter (onKey key)).map (·.Seq))).reverse
theorem mem_covS {l : List Tomb} {key : ByteArray} {n : Int} : n ∈ covS l key ↔ ∃ t ∈ l, onKey key t = true ∧ t.Seq = n := by
  unfold covS
  rw [List.mem_reverse, mem_uq so_int]
  simp [and_assoc]
theorem covS_pw (l : List Tomb) (key : ByteArray) : (covS l key).Pairwise (fun x y => y < x) := by
  unfold covS
  rw [List.pairwise_reverse]
  exact uq_pw so_int _
theorem covS_seg {l : List Tomb} {b e key : ByteArray} (h1 : sle b key) (h2 : slt key e) (hc : ∀ t ∈ l, (sle t.Begin b ∨ sle e t.Begin) ∧ (sle t.End b ∨ sle e t.End)) : covS l key = seqsOf l b e := by
  unfold covS seqsOf
  congr 3
  refine List.filter_congr fun t ht => ?_
  obtain ⟨c1, c2⟩ := hc t ht
  unfold onKey onSeg
  congr 1
  · refine decide_eq_decide.2 ⟨fun h => ?_, fun h => sle_trans h h1⟩
    rcases c1 with c | c
    · exact c
    · exact absurd (slt_of_le_lt h h2) c
  · refine decide_eq_decide.2 ⟨fun h => ?_, fun h => slt_of_lt_le h2 h⟩
    rcases c2 with c | c
    · exact absurd (slt_of_le_lt h1 h) c
    · exact c
structure FI (l : List Tomb) (b : ByteArray) (out : List Fragment) : Prop where
  ok : ∀ f ∈ out, slt f.Begin f.End ∧ f.Seqs ≠ [] ∧ sle f.End b ∧ ∀ key, sle f.Begin key → slt key f.End → f.Seqs = covS l key
  pw : out.Pairwise fun f g => sle f.End g.Begin
  all : ∀ key, slt key b → covS l key ≠ [] → ∃ f ∈ out, sle f.Begin key ∧ slt key f.End
theorem FI.step {l : List Tomb} {b e : ByteArray} {out : List Fragment} (h : FI l b out) (hbe : slt b e) (hc : ∀ t ∈ l, (sle t.Begin b ∨ sle e t.Begin) ∧ (sle t.End b ∨ sle e t.End)) : FI l e (addF out b e (seqsOf l b e)) := by
  have hseg : ∀ key, sle b key → slt key e → covS l key = seqsOf l b e := fun key h1 h2 => covS_seg h1 h2 hc
  have hbs : sle b e := sle_of_lt hbe
  have two : ∀ key, slt key e → slt key b ∨ sle b key := fun key _ => by
    rcases slt_tri key b with k | k | k
    · exact .inl k
    · subst k; exact .inr (sle_refl _)
    · exact .inr (sle_of_lt k)
  unfold addF
  split
  · rename_i hs
    refine ⟨fun f hf => ?_, h.pw, fun key hk hne => ?_⟩
    · obtain ⟨h1, h2, h3, h4⟩ := h.ok f hf
      exact ⟨h1, h2, sle_trans h3 hbs, h4⟩
    · rcases two key hk with k | k
      · exact h.all key k hne
      · exact absurd ((hseg key k hk).trans hs) hne
  · rename_i hs
    have pushed : FI l e (out ++ [⟨b, e, seqsOf l b e⟩]) := by
      refine ⟨fun f hf => ?_, ?_, fun key hk hne => ?_⟩
      · rcases List.mem_append.1 hf with hf | hf
        · obtain ⟨h1, h2, h3, h4⟩ := h.ok f hf
          exact ⟨h1, h2, sle_trans h3 hbs, h4⟩
        · simp at hf; subst hf
          exact ⟨hbe, hs, sle_refl _, fun key h1 h2 => (hseg key h1 h2).symm⟩
      · refine List.pairwise_append.2 ⟨h.pw, List.pairwise_singleton _ _, fun f hf g hg => ?_⟩
        simp at hg; subst hg
        exact (h.ok f hf).2.2.1
      · rcases two key hk with k | k
        · obtain ⟨f, hf, q⟩ := h.all key k hne
          exact ⟨f, by simp [hf], q⟩
        · exact ⟨⟨b, e, seqsOf l b e⟩, by simp, k, hk⟩
    split
    · rename_i f hf
      obtain ⟨out', rfl⟩ : ∃ out', out = out' ++ [f] := by
        rcases nil_or_snoc out with rfl | ⟨o, x, rfl⟩
        · simp at hf
        · simp at hf; subst hf; exact ⟨o, rfl⟩
      split
      · rename_i hfe
        obtain ⟨hfe, hfs⟩ := hfe
        obtain ⟨k1, k2, k3, k4⟩ := h.ok f (by simp)
        simp only [List.dropLast_concat]
        obtain ⟨p1, p2, p3⟩ := List.pairwise_append.1 h.pw
        refine ⟨fun g hg => ?_, ?_, fun key hk hne => ?_⟩
        · rcases List.mem_append.1 hg with hg | hg
          · obtain ⟨h1, h2, h3, h4⟩ := h.ok g (by simp [hg])
            exact ⟨h1, h2, sle_trans h3 hbs, h4⟩
          · simp at hg; subst hg
            refine ⟨slt_trans (by rw [← hfe]; exact k1) hbe, k2, sle_refl _, fun key h1 h2 => ?_⟩
            rcases two key h2 with k | k
            · exact k4 key h1 (by rw [hfe]; exact k)
            · show f.Seqs = _
              rw [hfs]; exact (hseg key k h2).symm
        · refine List.pairwise_append.2 ⟨p1, List.pairwise_singleton _ _, fun g hg g' hg' => ?_⟩
          simp at hg'; subst hg'
          exact p3 g hg f (by simp)
        · rcases two key hk with k | k
          · obtain ⟨g, hg, q1, q2⟩ := h.all key k hne
            rcases List.mem_append.1 hg with hg | hg
            · exact ⟨g, by simp [hg], q1, q2⟩
            · simp at hg; subst hg
              exact ⟨⟨g.Begin, e, g.Seqs⟩, by simp, q1, hk⟩
          · exact ⟨⟨f.Begin, e, f.Seqs⟩, by simp, sle_trans (sle_of_lt (by rw [← hfe]; exact k1)) k, hk⟩
      · exact pushed
    · exact pushed
theorem build_FI {l : List Tomb} : ∀ (s : List ByteArray) (b : ByteArray) (out : List Fragment), (b :: s).Pairwise slt → (∀ t ∈ l, (sle t.Begin b ∨ t.Begin ∈ s) ∧ (sle t.End b ∨ t.End ∈ s)) → FI l b out → ∃ b', (∀ t ∈ l, sle t.End b') ∧ FI l b' (build l b s out)
  | [], b, out, _, hm, h => ⟨b, fun t ht => by rcases (hm t ht).2 with k | k; exact k; simp at k, h⟩
  | e :: s, b, out, hp, hm, h => by
    have hp' := List.pairwise_cons.1 hp
    have hp2 := List.pairwise_cons.1 hp'.2
    have split : ∀ x, (sle x b ∨ x ∈ e :: s) → (sle x b ∨ sle e x) ∧ (sle x e ∨ x ∈ s) := fun x hx => by
      rcases hx with k | k
      · exact ⟨.inl k, .inl (sle_trans k (sle_of_lt (hp'.1 e (by simp))))⟩
      · rcases List.mem_cons.1 k with k | k
        · subst k; exact ⟨.inr (sle_refl _), .inl (sle_refl _)⟩
        · exact ⟨.inr (sle_of_lt (hp2.1 x k)), .inr k⟩
    refine build_FI s e _ hp'.2 (fun t ht => ⟨(split _ (hm t ht).1).2, (split _ (hm t ht).2).2⟩) ?_
    exact h.step (hp'.1 e (by simp)) fun t ht => ⟨(split _ (hm t ht).1).1, (split _ (hm t ht).2).1⟩
theorem frags_spec (l : List Tomb) : (∀ f ∈ frags l, slt f.Begin f.End ∧ f.Seqs ≠ [] ∧ ∀ key, sle f.Begin key → slt key f.End → f.Seqs = covS l key) ∧ (frags l).Pairwise (fun f g => sle f.End g.Begin) ∧
    (∀ key, covS l key ≠ [] → ∃ f ∈ frags l, sle f.Begin key ∧ slt key f.End) := by
  have hmem : ∀ t ∈ l, t.Begin ∈ uq slt (endsOf l) ∧ t.End ∈ uq slt (endsOf l) := fun t ht => by
    rw [mem_uq so_str, mem_uq so_str]
    unfold endsOf
    rw [List.mem_flatMap, List.mem_flatMap]
    exact ⟨⟨t, ht, by simp⟩, ⟨t, ht, by simp⟩⟩
  have hpw := uq_pw so_str (endsOf l)
  unfold frags
  cases hu : uq slt (endsOf l) with
  | nil =>
    rw [hu] at hmem
    refine ⟨fun f hf => by simp [fragsU] at hf, List.Pairwise.nil, fun key hne => ?_⟩
    obtain ⟨n, hn⟩ := List.exists_mem_of_ne_nil _ hne
    obtain ⟨t, ht, _⟩ := mem_covS.1 hn
    have := (hmem t ht).1
    simp at this
  | cons b s =>
    rw [hu] at hmem hpw
    have hb := (List.pairwise_cons.1 hpw).1
    have hle : ∀ x, x ∈ b :: s → sle b x := fun x hx => by
      rcases List.mem_cons.1 hx with e | e
      · subst e; exact sle_refl _
      · exact sle_of_lt (hb x e)
    have start : FI l b [] := by
      refine ⟨fun f hf => by simp at hf, List.Pairwise.nil, fun key hk hne => ?_⟩
      obtain ⟨n, hn⟩ := List.exists_mem_of_ne_nil _ hne
      obtain ⟨t, ht, hk2, _⟩ := mem_covS.1 hn
      unfold onKey at hk2
      simp only [Bool.and_eq_true, decide_eq_true_eq] at hk2
      exact absurd (slt_of_le_lt (sle_trans (hle _ (hmem t ht).1) hk2.1) hk) (slt_irrefl _)
    obtain ⟨b', hend, hF⟩ := build_FI (l := l) s b [] hpw (fun t ht => by
      obtain ⟨h1, h2⟩ := hmem t ht
      refine ⟨?_, ?_⟩
      · rcases List.mem_cons.1 h1 with e | e
        · exact .inl (by rw [e]; exact sle_refl _)
        · exact .inr e
      · rcases List.mem_cons.1 h2 with e | e
        · exact .inl (by rw [e]; exact sle_refl _)
        · exact .inr e) start
    refine ⟨fun f hf => ?_, hF.pw, fun key hne => ?_⟩
    · obtain ⟨h1, h2, h3, h4⟩ := hF.ok f hf
      exact ⟨h1, h2, h4⟩
    · obtain ⟨n, hn⟩ := List.exists_mem_of_ne_nil _ hne
      obtain ⟨t, ht, hk2, _⟩ := mem_covS.1 hn
      unfold onKey at hk2
      simp only [Bool.and_eq_true, decide_eq_true_eq] at hk2
      exact hF.all key (slt_of_lt_le hk2.2 (hend t ht)) hne
end Go.Proofs.Ytmbhgfigffahbaa.Mo

set_option maxRecDepth 100000
namespace Go.Proofs.Ytmbhgfigffahbaa.Mo
open Go Go.Proofs.Ytmbhgfigffahbaa.Sy
theorem covers_congr {l m : List Tomb} (h : ∀ x, x ∈ m ↔ x ∈ l) (key : ByteArray) (n : Int) : covers key n m (0, false) = covers key n l (0, false) := by
  have a1 := covers_ok key n l (0, false)
  have b1 := covers_ok key n m (0, false)
  obtain ⟨a2, a3, a4⟩ := covers_max key n l (0, false)
  obtain ⟨b2, b3, b4⟩ := covers_max key n m (0, false)
  refine Prod.ext ?_ ?_
  · simp only at a2 a4 b2 b4
    refine Int.le_antisymm ?_ ?_
    · rcases b4 with e | ⟨x, hx, hc, e⟩
      · omega
      · have := a3 x ((h x).1 hx) hc
        omega
    · rcases a4 with e | ⟨x, hx, hc, e⟩
      · omega
      · have := b3 x ((h x).2 hx) hc
        omega
  · rw [Bool.eq_iff_iff, a1, b1]
    constructor
    · rintro (h0 | ⟨x, hx, hc⟩)
      · exact .inl h0
      · exact .inr ⟨x, (h x).1 hx, hc⟩
    · rintro (h0 | ⟨x, hx, hc⟩)
      · exact .inl h0
      · exact .inr ⟨x, (h x).2 hx, hc⟩
theorem uqS_congr {a b : List ByteArray} (h : ∀ x, x ∈ a ↔ x ∈ b) : uq slt a = uq slt b := pw_uniq so_str (uq_pw so_str a) (uq_pw so_str b) fun x => by rw [mem_uq so_str, mem_uq so_str]; exact h x
theorem uqI_congr {a b : List Int} (h : ∀ x, x ∈ a ↔ x ∈ b) : uq (fun x y : Int => x < y) a = uq (fun x y : Int => x < y) b := pw_uniq so_int (uq_pw so_int a) (uq_pw so_int b) fun x => by rw [mem_uq so_int, mem_uq so_int]; exact h x
theorem seqsOf_congr {l m : List Tomb} (h : ∀ x, x ∈ m ↔ x ∈ l) (b e : ByteArray) : seqsOf m b e = seqsOf l b e := by
  unfold seqsOf
  congr 1
  refine uqI_congr fun x => ?_
  simp only [List.mem_map, List.mem_filter]
  constructor
  · rintro ⟨t, ⟨h1, h2⟩, h3⟩; exact ⟨t, ⟨(h t).1 h1, h2⟩, h3⟩
  · rintro ⟨t, ⟨h1, h2⟩, h3⟩; exact ⟨t, ⟨(h t).2 h1, h2⟩, h3⟩
theorem build_congr {l m : List Tomb} (h : ∀ x, x ∈ m ↔ x ∈ l) : ∀ (s : List ByteArray) (b : ByteArray) (out : List Fragment), build m b s out = build l b s out
  | [], _, _ => rfl
  | e :: s, b, out => by rw [build, build, seqsOf_congr h, build_congr h s]
theorem frags_congr {l m : List Tomb} (h : ∀ x, x ∈ m ↔ x ∈ l) : frags m = frags l := by
  have hu : uq slt (endsOf m) = uq slt (endsOf l) := uqS_congr fun x => by
    unfold endsOf
    simp only [List.mem_flatMap]
    constructor
    · rintro ⟨t, h1, h2⟩; exact ⟨t, (h t).1 h1, h2⟩
    · rintro ⟨t, h1, h2⟩; exact ⟨t, (h t).2 h1, h2⟩
  unfold frags
  rw [hu]
  cases uq slt (endsOf l) with
  | nil => rfl
  | cons b r => exact build_congr h r b []
theorem build_len (l : List Tomb) : ∀ (s : List ByteArray) (b : ByteArray) (out : List Fragment), (build l b s out).length ≤ out.length + s.length
  | [], _, out => by simp [build]
  | e :: s, b, out => by
    have h1 := build_len l s e (addF out b e (seqsOf l b e))
    have h2 := addF_len out b e (seqsOf l b e)
    rw [build, List.length_cons]
    omega
theorem ends_len (l : List Tomb) : (endsOf l).length = 2 * l.length := by
  unfold endsOf
  induction l with
  | nil => rfl
  | cons x l ih => rw [List.flatMap_cons, List.length_append, ih]; simp; omega
theorem frags_len (l : List Tomb) : (frags l).length ≤ 2 * l.length := by
  have h := uq_len (lt := slt) (endsOf l)
  rw [ends_len] at h
  unfold frags
  cases hu : uq slt (endsOf l) with
  | nil => simp [fragsU]
  | cons b r =>
    have := build_len l r b []
    rw [hu] at h
    simp only [List.length_cons, List.length_nil] at this h
    show (build l b r []).length ≤ _
    omega
theorem covS_len (l : List Tomb) (key : ByteArray) : (covS l key).length ≤ l.length := by
  unfold covS
  rw [List.length_reverse]
  exact Nat.le_trans (uq_len _) (by rw [List.length_map]; exact List.length_filter_le _ _)
theorem frags_seqs {l : List Tomb} {f : Fragment} (hf : f ∈ frags l) : f.Seqs.length ≤ l.length := by
  obtain ⟨h1, h2, h3⟩ := (frags_spec l).1 f hf
  rw [h3 f.Begin (sle_refl _) h1]
  exact covS_len _ _
def onF (key : ByteArray) (f : Fragment) : Bool := !(sLt key f.Begin || !sLt key f.End)
def setF (key : ByteArray) (n : Int) : List Fragment → Option Int
  | [] => none
  | f :: s => if onF key f = true then (match f.Seqs.find? (fun x => decide (x ≤ n)) with
    | some v => some v
    | none => setF key n s) else setF key n s
def setC (key : ByteArray) (n : Int) (fs : List Fragment) : Int × Bool := match setF key n fs with
  | some v => (v, true)
  | none => (0, false)
theorem onF_iff {key : ByteArray} {f : Fragment} : onF key f = true ↔ sle f.Begin key ∧ slt key f.End := by
  unfold onF
  rw [Bool.not_eq_true', Bool.or_eq_false_iff, sLt_false, Bool.not_eq_false', sLt_iff]
  rfl
theorem setF_all {key : ByteArray} {n : Int} {o : Option Int} : ∀ (fs : List Fragment), (∀ f ∈ fs, onF key f = true → f.Seqs.find? (fun x => decide (x ≤ n)) = o) → setF key n fs = none ∨ setF key n fs = o
  | [], _ => .inl rfl
  | f :: s, h => by
    have ih := setF_all s fun g hg => h g (List.mem_cons_of_mem _ hg)
    rw [setF]
    by_cases hc : onF key f = true
    · rw [if_pos hc, h f (by simp) hc]
      cases o with
      | none => exact ih.elim .inl .inl
      | some v => exact .inr rfl
    · rw [if_neg hc]; exact ih
theorem setF_some {key : ByteArray} {n v : Int} : ∀ (fs : List Fragment), (∀ f ∈ fs, onF key f = true → f.Seqs.find? (fun x => decide (x ≤ n)) = some v) → (∃ f ∈ fs, onF key f = true) → setF key n fs = some v
  | [], _, h => by obtain ⟨f, hf, _⟩ := h; simp at hf
  | f :: s, h, ⟨g, hg, hc⟩ => by
    rw [setF]
    by_cases hf : onF key f = true
    · rw [if_pos hf, h f (by simp) hf]
    · rw [if_neg hf]
      rcases List.mem_cons.1 hg with e | e
      · subst e; exact absurd hc hf
      · exact setF_some s (fun g hg => h g (List.mem_cons_of_mem _ hg)) ⟨g, e, hc⟩
theorem setF_eq (l : List Tomb) (key : ByteArray) (n : Int) : setF key n (frags l) = (covS l key).find? (fun x => decide (x ≤ n)) := by
  obtain ⟨h1, _, h3⟩ := frags_spec l
  have hs : ∀ f ∈ frags l, onF key f = true → f.Seqs.find? (fun x => decide (x ≤ n)) = (covS l key).find? (fun x => decide (x ≤ n)) := fun f hf hc => by
    rw [onF_iff] at hc
    rw [(h1 f hf).2.2 key hc.1 hc.2]
  cases hf : (covS l key).find? (fun x => decide (x ≤ n)) with
  | none =>
    rw [hf] at hs
    rcases setF_all (frags l) hs with e | e <;> exact e
  | some v =>
    rw [hf] at hs
    refine setF_some _ hs ?_
    have hne : covS l key ≠ [] := fun e => by rw [e] at hf; simp at hf
    obtain ⟨f, g1, g2, g3⟩ := h3 key hne
    exact ⟨f, g1, onF_iff.2 ⟨g2, g3⟩⟩
theorem pw_find {n : Int} : ∀ {l : List Int}, l.Pairwise (fun x y => y < x) → ∀ {v}, l.find? (fun x => decide (x ≤ n)) = some v → v ∈ l ∧ v ≤ n ∧ ∀ x ∈ l, x ≤ n → x ≤ v
  | [], _, v, h => by simp at h
  | a :: l, hp, v, h => by
    have hp' := List.pairwise_cons.1 hp
    rw [List.find?_cons] at h
    by_cases ha : a ≤ n
    · rw [decide_eq_true ha] at h
      simp at h
      subst h
      refine ⟨by simp, ha, fun x hx _ => ?_⟩
      rcases List.mem_cons.1 hx with e | e
      · omega
      · have := hp'.1 x e; omega
    · rw [decide_eq_false ha] at h
      obtain ⟨h1, h2, h3⟩ := pw_find hp'.2 h
      refine ⟨List.mem_cons_of_mem _ h1, h2, fun x hx hn => ?_⟩
      rcases List.mem_cons.1 hx with e | e
      · subst e; exact absurd hn ha
      · exact h3 x e hn
theorem cov_iff {key : ByteArray} {n : Int} {t : Tomb} : cov key n t = true ↔ okT t = true ∧ t.Seq ≤ n ∧ onKey key t = true := by
  unfold cov onKey
  rw [sLe_dec, sLt_dec]
  simp only [Bool.and_eq_true, decide_eq_true_eq, and_assoc]
/-- A set says of a key what its tombs say. -/
theorem setC_eq (l : List Tomb) (hs : ∀ t ∈ l, 0 ≤ t.Seq) (key : ByteArray) (n : Int) : setC key n (frags (l.filter okT)) = covers key n l (0, false) := by
  have hok := covers_ok key n l (0, false)
  obtain ⟨c2, c3, c4⟩ := covers_max key n l (0, false)
  unfold setC
  rw [setF_eq]
  cases hf : (covS (l.filter okT) key).find? (fun x => decide (x ≤ n)) with
  | none =>
    have hno : ∀ t ∈ l, ¬ cov key n t = true := fun t ht hc => by
      obtain ⟨h1, h2, h3⟩ := cov_iff.1 hc
      rw [List.find?_eq_none] at hf
      have := hf t.Seq (mem_covS.2 ⟨t, List.mem_filter.2 ⟨ht, h1⟩, h3, rfl⟩)
      simp at this
      omega
    refine Prod.ext ?_ ?_
    · rcases c4 with e | ⟨x, hx, hc, _⟩
      · exact e.symm
      · exact absurd hc (hno x hx)
    · simp only
      symm
      rw [Bool.eq_false_iff]
      intro h
      rcases hok.1 h with e | ⟨x, hx, hc⟩
      · cases e
      · exact hno x hx hc
  | some v =>
    obtain ⟨h1, h2, h3⟩ := pw_find (covS_pw (l.filter okT) key) hf
    obtain ⟨t, ht, hk, rfl⟩ := mem_covS.1 h1
    obtain ⟨ht1, ht2⟩ := List.mem_filter.1 ht
    have hc : cov key n t = true := cov_iff.2 ⟨ht2, h2, hk⟩
    refine Prod.ext ?_ ?_
    · have hge := c3 t ht1 hc
      simp only at c4 ⊢
      rcases c4 with e | ⟨x, hx, hcx, e⟩
      · have := hs t ht1; omega
      · obtain ⟨x1, x2, x3⟩ := cov_iff.1 hcx
        have := h3 x.Seq (mem_covS.2 ⟨x, List.mem_filter.2 ⟨hx, x1⟩, x3, rfl⟩) x2
        omega
    · exact (hok.2 (.inr ⟨t, ht1, hc⟩)).symm
theorem filter_ok2 (l : List Tomb) : (l.filter okT).filter okT = l.filter okT := List.filter_eq_self.2 fun x hx => (List.mem_filter.1 hx).2
theorem clone_eq (l : List Tomb) (h : l.length ≤ 3518437208883) : slices_Clone_Tomb l = some l := by
  simp only [slices_Clone_Tomb, pushN_ok (show ([] : List Tomb).length + l.length ≤ 5629499534059 by rw [List.length_nil]; omega), Option.bind_some, List.nil_append]
theorem piece_l0 (f : Fragment) (hl : f.Seqs.length < 1099511627776) : ∀ (s p : List Int), f.Seqs = p ++ s → Ev (fun k => l09_piece.l0 f f k (p.length : Int)) true
  | [], p, hp => by
    have e1 : decide ((p.length : Int) < (f.Seqs.length : Int)) = false := by rw [hp]; exact lt_end p
    refine Ev.succ ?_
    simp only [l09_piece.l0, e1, Bool.false_eq_true, if_false]
    exact Ev.ret
  | x :: s, p, hp => by
    have e1 : decide ((p.length : Int) < (f.Seqs.length : Int)) = true := by rw [hp]; exact lt_at p s x
    have e2 : idx f.Seqs (p.length : Int) = some x := by rw [hp]; exact idx_at p x s
    have hw := step_at p s x (by rw [← hp, maxLen_val]; omega)
    refine Ev.succ ?_
    simp only [l09_piece.l0, e1, e2, if_true, Option.bind_some, bne_self_eq_false, Bool.false_eq_true, if_false, hw]
    exact piece_l0 f hl s (p ++ [x]) (by simp [hp])
theorem piece_ev (f : Fragment) (hl : f.Seqs.length < 1099511627776) : Ev (fun k => l09_piece k f f) true := by
  simp only [l09_piece, sEq_refl, bne_self_eq_false, Bool.not_true, Bool.or_self, Bool.false_eq_true, if_false]
  exact piece_l0 f hl f.Seqs [] rfl
theorem pieces_l2 (p s : List Fragment) : ∀ (d j : Nat) (f : Fragment) (J : Nat → List Fragment → Option Bool), f.Seqs.length = j + d → f.Seqs.length < 1099511627776 → (∀ f' : Fragment, f'.Seqs.length = f.Seqs.length → Ev (fun k => J k (p ++ f' :: s)) true) →
    Ev (fun k => l09_pieces.l2 (p.length : Int) (J k) k (p ++ f :: s) (j : Int)) true
  | 0, j, f, J, hd, hl, hJ => by
    refine Ev.succ ?_
    simp only [l09_pieces.l2, idx_at, Option.bind_some, decF (show f.Seqs.length ≤ j by omega), Bool.false_eq_true, if_false]
    exact (hJ f rfl).shift
  | d + 1, j, f, J, hd, hl, hJ => by
    have hj : j < f.Seqs.length := by omega
    have hu : upd f.Seqs (j : Int) 1152921504606846976 = some (f.Seqs.set j 1152921504606846976) := by
      unfold upd
      rw [if_pos ⟨by omega, by omega⟩, Int.toNat_natCast]
    have hw : w64 ((j : Int) + 1) = ((j + 1 : Nat) : Int) := w64_succ (by omega)
    have hset : List.set (p ++ f :: s) (Int.toNat (p.length : Int)) (⟨f.Begin, f.End, f.Seqs.set j 1152921504606846976⟩ : Fragment) = p ++ (⟨f.Begin, f.End, f.Seqs.set j 1152921504606846976⟩ : Fragment) :: s := by
      rw [Int.toNat_natCast, List.set_append_right _ _ (Nat.le_refl _)]
      simp
    refine Ev.succ ?_
    simp only [l09_pieces.l2, idx_at, Option.bind_some, decT hj, if_true, getD_idx hj, hu, hw, hset]
    refine pieces_l2 p s d (j + 1) (⟨f.Begin, f.End, f.Seqs.set j 1152921504606846976⟩ : Fragment) (fun k => J (k + 1)) (by simp; omega) (by simpa using hl) fun f' hf' => (hJ f' (by simpa using hf')).shift
theorem pieces_l1 : ∀ (s p : List Fragment), (p ++ s).length < 1099511627776 → (∀ f ∈ s, f.Seqs.length < 1099511627776) → Ev (fun k => l09_pieces.l1 (some true) k (p ++ s) (p.length : Int)) true
  | [], p, hl, hs => by
    refine Ev.succ ?_
    simp only [l09_pieces.l1, lt_end, Bool.false_eq_true, if_false]
    exact Ev.ret
  | f :: s, p, hl, hs => by
    refine Ev.succ ?_
    simp only [l09_pieces.l1, lt_at, if_true, Jn, step_at p s f (by rw [maxLen_val]; omega)]
    refine pieces_l2 p s f.Seqs.length 0 f (fun k l_345 => (idx l_345 (p.length : Int)).bind fun x2505 => (upd l_345 (p.length : Int) (⟨(ByteArray.mk #[115, 112, 111, 105, 108, 116]), (ByteArray.mk #[]), []⟩ : Fragment)).bind fun l2510 => l09_pieces.l1 (some true) k l2510 ((p ++ [f]).length : Int)) (by omega) (hs f (by simp)) fun f' hf' => ?_
    simp only [idx_at, upd_at, Option.bind_some]
    have := pieces_l1 s (p ++ [(⟨(ByteArray.mk #[115, 112, 111, 105, 108, 116]), (ByteArray.mk #[]), []⟩ : Fragment)]) (by simp at hl ⊢; omega) fun g hg => hs g (List.mem_cons_of_mem _ hg)
    simpa using this
theorem pieces_l0 (F : List Fragment) (hl : F.length < 1099511627776) (hs : ∀ f ∈ F, f.Seqs.length < 1099511627776) : ∀ (s p : List Fragment), F = p ++ s → Ev (fun k => l09_pieces.l0 F F k (p.length : Int)) true
  | [], p, hp => by
    have e1 : decide ((p.length : Int) < (F.length : Int)) = false := by rw [hp]; exact lt_end p
    refine Ev.succ ?_
    simp only [l09_pieces.l0, e1, Bool.false_eq_true, if_false, Jn]
    exact pieces_l1 F [] (by simpa using hl) hs
  | x :: s, p, hp => by
    have e1 : decide ((p.length : Int) < (F.length : Int)) = true := by rw [hp]; exact lt_at p s x
    have e2 : idx F (p.length : Int) = some x := by rw [hp]; exact idx_at p x s
    have hw := step_at p s x (by rw [← hp, maxLen_val]; omega)
    refine Ev.succ ?_
    simp only [l09_pieces.l0, e1, e2, if_true, Option.bind_some, hw]
    refine Ev.bind (piece_ev x (hs x (by rw [hp]; simp))) ?_
    simp only [Bool.not_true, Bool.false_eq_true, if_false]
    exact pieces_l0 F hl hs s (p ++ [x]) (by simp [hp])
theorem pieces_ev (F : List Fragment) (hl : F.length < 1099511627776) (hs : ∀ f ∈ F, f.Seqs.length < 1099511627776) : Ev (fun k => l09_pieces k F F) true := by
  simp only [l09_pieces, bne_self_eq_false, Bool.false_eq_true, if_false]
  exact pieces_l0 F hl hs F [] rfl
end Go.Proofs.Ytmbhgfigffahbaa.Mo

set_option maxRecDepth 100000
namespace Go.Proofs.Ytmbhgfigffahbaa.Mo
open Go Go.Proofs.Ytmbhgfigffahbaa.Sy
theorem order_l2 (n : Int) (J : Nat → Int → Bool → Option Bool) (f : Fragment) (hf : f.Seqs.length < 1099511627776) (K : Nat → Option Bool) (R : Bool) : ∀ (s p : List Int), f.Seqs = p ++ s →
    (Ev (fun k => match s.find? (fun x => decide (x ≤ n)) with | some v => J k v true | none => K k) R) → Ev (fun k => l09_TombOrder.l2 n (J k) f (K k) k (p.length : Int)) R
  | [], p, hp, h => by
    have e1 : decide ((p.length : Int) < (f.Seqs.length : Int)) = false := by rw [hp]; exact lt_end p
    refine Ev.succ ?_
    simp only [l09_TombOrder.l2, e1, Bool.false_eq_true, if_false]
    exact (show Ev K R from h).shift
  | x :: s, p, hp, h => by
    have e1 : decide ((p.length : Int) < (f.Seqs.length : Int)) = true := by rw [hp]; exact lt_at p s x
    have e2 : idx f.Seqs (p.length : Int) = some x := by rw [hp]; exact idx_at p x s
    have hw := step_at p s x (by rw [← hp, maxLen_val]; omega)
    refine Ev.succ ?_
    simp only [l09_TombOrder.l2, e1, e2, if_true, Option.bind_some, hw]
    rw [List.find?_cons] at h
    by_cases hx : x ≤ n
    · simp only [decide_eq_true hx, if_true] at h ⊢
      exact h.shift
    · simp only [decide_eq_false hx, Bool.false_eq_true, if_false] at h ⊢
      exact order_l2 n (fun k => J (k + 1)) f hf (fun k => K (k + 1)) R s (p ++ [x]) (by simp [hp]) h.shift
theorem order_l1 (key : ByteArray) (n : Int) (R : Bool) (F : List Fragment) (hF : F.length < 1099511627776) (hs : ∀ f ∈ F, f.Seqs.length < 1099511627776) : ∀ (s p : List Fragment) (J : Nat → Int → Bool → Option Bool), F = p ++ s →
    (Ev (fun k => J k (setC key n s).1 (setC key n s).2) R) → Ev (fun k => l09_TombOrder.l1 key n (J k) (J k 0 false) F k (p.length : Int)) R
  | [], p, J, hp, h => by
    have e1 : decide ((p.length : Int) < (F.length : Int)) = false := by rw [hp]; exact lt_end p
    refine Ev.succ ?_
    simp only [l09_TombOrder.l1, e1, Bool.false_eq_true, if_false]
    exact (show Ev (fun k => J k 0 false) R from h).shift
  | f :: s, p, J, hp, h => by
    have e1 : decide ((p.length : Int) < (F.length : Int)) = true := by rw [hp]; exact lt_at p s f
    have e2 : idx F (p.length : Int) = some f := by rw [hp]; exact idx_at p f s
    have hw := step_at p s f (by rw [← hp, maxLen_val]; omega)
    refine Ev.succ ?_
    simp only [l09_TombOrder.l1, e1, e2, if_true, Option.bind_some, hw, Jn]
    have next : setF key n (f :: s) = setF key n s → Ev (fun k => l09_TombOrder.l1 key n (J (k + 1)) (J (k + 1) 0 false) F k ((p ++ [f]).length : Int)) R := fun e => by
      refine order_l1 key n R F hF hs s (p ++ [f]) (fun k => J (k + 1)) (by simp [hp]) ?_
      have he : setC key n (f :: s) = setC key n s := by unfold setC; rw [e]
      rw [he] at h
      exact h.shift
    by_cases hc : onF key f = true
    · have hc' : (sLt key f.Begin || !sLt key f.End) = false := by simpa [onF] using hc
      simp only [hc', Bool.false_eq_true, if_false]
      refine order_l2 n (fun k => J (k + 1)) f (hs f (by rw [hp]; simp)) (fun k => l09_TombOrder.l1 key n (J (k + 1)) (J (k + 1) 0 false) F k ((p ++ [f]).length : Int)) R f.Seqs [] rfl ?_
      cases hfd : f.Seqs.find? (fun x => decide (x ≤ n)) with
      | some v =>
        have he : setC key n (f :: s) = (v, true) := by unfold setC; rw [setF, if_pos hc, hfd]
        rw [he] at h
        exact h.shift
      | none => exact next (by rw [setF, if_pos hc, hfd])
    · have hc' : (sLt key f.Begin || !sLt key f.End) = true := by
        have := Bool.eq_false_iff.2 hc
        rw [onF, Bool.not_eq_false'] at this
        exact this
      simp only [hc', if_true]
      exact next (by rw [setF, if_neg hc])
theorem probe_cov : covers (ByteArray.mk #[98]) 9 [(⟨(ByteArray.mk #[97]), (ByteArray.mk #[99]), 5⟩ : Tomb)] (0, false) = (5, true) := by decide +kernel
theorem order_end (a0 : List Tomb) (h0 : a0.length ≤ 1048576) (hs0 : ∀ t ∈ a0, 0 ≤ t.Seq) (key : ByteArray) (n : Int) (m : List Tomb) (hm : ∀ x, x ∈ m ↔ x ∈ a0) (hl : m.length ≤ 2097152) : Ev (fun k => l09_TombOrder.l0 a0 key n k m (-1)) true := by
  have hneg : decide ((0 : Int) ≤ -1) = false := by decide
  have hsm : ∀ t ∈ m, 0 ≤ t.Seq := fun t ht => hs0 t ((hm t).1 ht)
  have hfm : (m.filter okT).length ≤ 2097152 := Nat.le_trans (List.length_filter_le _ _) hl
  have hf0 : (a0.filter okT).length ≤ 1048576 := Nat.le_trans (List.length_filter_le _ _) h0
  have hmf : ∀ x, x ∈ m.filter okT ↔ x ∈ a0.filter okT := fun x => by rw [List.mem_filter, List.mem_filter, hm]
  refine Ev.succ ?_
  simp only [l09_TombOrder.l0, hneg, Bool.false_eq_true, if_false, Jn]
  refine Ev.bind (cover_ev key n a0 (by omega)) ?_
  refine Ev.bind (cover_ev key n m (by omega)) ?_
  refine Ev.bind (valid_ev m (by omega)) ?_
  refine Ev.bind0 (clone_eq (m.filter okT) (by omega)) ?_
  refine Ev.bind (frags_ev (m.filter okT) (by omega)) ?_
  rw [filter_ok2]
  have hfl := frags_len (m.filter okT)
  refine order_l1 key n true (frags (m.filter okT)) (by omega) (fun f hf => by have := frags_seqs hf; omega) (frags (m.filter okT)) [] _ rfl ?_
  have hp := cover_ev (ByteArray.mk #[98]) 9 [(⟨(ByteArray.mk #[97]), (ByteArray.mk #[99]), 5⟩ : Tomb)] (by simp)
  rw [probe_cov] at hp
  refine Ev.bind hp ?_
  rw [setC_eq m hsm, covers_congr hm]
  simp only [beq_self_eq_true, Bool.and_self, if_true]
  refine Ev.bind (frags_ev a0 (by omega)) ?_
  refine Ev.bind (frags_ev m (by omega)) ?_
  rw [frags_congr hmf]
  have hfl0 := frags_len (a0.filter okT)
  refine Ev.bind (pieces_ev (frags (a0.filter okT)) (by omega) (fun f hf => by have := frags_seqs hf; omega)) Ev.ret
theorem order_l0 (a0 : List Tomb) (h0 : a0.length ≤ 1048576) (hs0 : ∀ t ∈ a0, 0 ≤ t.Seq) (key : ByteArray) (n : Int) : ∀ (i : Nat), i ≤ a0.length → ∀ (m : List Tomb), (∀ x ∈ m, x ∈ a0) → (∀ j x, i ≤ j → a0[j]? = some x → x ∈ m) → m.length + 2 * i ≤ 2 * a0.length →
    Ev (fun k => l09_TombOrder.l0 a0 key n k m ((i : Int) - 1)) true
  | 0, hi, m, h1, h2, h3 => by
    refine order_end a0 h0 hs0 key n m (fun x => ⟨h1 x, fun hx => ?_⟩) (by omega)
    obtain ⟨j, hj⟩ := List.getElem?_of_mem hx
    exact h2 j x (Nat.zero_le _) hj
  | i + 1, hi, m, h1, h2, h3 => by
    have hi' : i < a0.length := by omega
    have e0 : ((i + 1 : Nat) : Int) - 1 = (i : Int) := by omega
    have ed : decide ((0 : Int) ≤ (i : Int)) = true := decide_eq_true (by omega)
    have ei : idx a0 (i : Int) = some a0[i] := getD_idx hi'
    have ew : w64 ((i : Int) - 1) = (i : Int) - 1 := w64_of (by omega) (by omega)
    have cov1 : ∀ (m' : List Tomb), (∀ x ∈ m, x ∈ m') → a0[i] ∈ m' → ∀ j x, i ≤ j → a0[j]? = some x → x ∈ m' := fun m' hm' hx j x hj hjx => by
      by_cases e : j = i
      · subst e
        rw [List.getElem?_eq_getElem hi'] at hjx
        simp at hjx; subst hjx; exact hx
      · exact hm' x (h2 j x (by omega) hjx)
    refine Ev.succ ?_
    rw [e0]
    simp only [l09_TombOrder.l0, ed, if_true, ei, Option.bind_some, push_ok (show m.length < 5629499534059 by omega), ew, Jn]
    by_cases hev : (Int.tmod (i : Int) 2 == 0) = true
    · simp only [hev, if_true]
      have hq : w64 (Int.tdiv (i : Int) 2) = ((i / 2 : Nat) : Int) := by
        have : Int.tdiv (i : Int) 2 = ((i / 2 : Nat) : Int) := by
          rw [Int.tdiv_eq_ediv_of_nonneg (by omega)]; omega
        rw [this, w64_of (by omega) (by omega)]
      have hi2 : i / 2 < a0.length := by omega
      simp only [hq, getD_idx hi2, Option.bind_some, push_ok (show (m ++ [a0[i]]).length < 5629499534059 by rw [List.length_append, List.length_singleton]; omega)]
      refine order_l0 a0 h0 hs0 key n i (by omega) (m ++ [a0[i]] ++ [a0[i / 2]]) (fun x hx => ?_) (cov1 _ (fun x hx => by simp [hx]) (by simp)) (by simp; omega)
      simp only [List.mem_append, List.mem_singleton] at hx
      rcases hx with (hx | hx) | hx
      · exact h1 x hx
      · subst hx; exact List.getElem_mem hi'
      · subst hx; exact List.getElem_mem hi2
    · simp only [hev, if_false, Bool.false_eq_true]
      refine order_l0 a0 h0 hs0 key n i (by omega) (m ++ [a0[i]]) (fun x hx => ?_) (cov1 _ (fun x hx => by simp [hx]) (by simp)) (by simp; omega)
      simp only [List.mem_append, List.mem_singleton] at hx
      rcases hx with hx | hx
      · exact h1 x hx
      · subst hx; exact List.getElem_mem hi'
theorem order_law (a0 : List Tomb) (h0 : a0.length ≤ 1048576) (hs0 : ∀ t ∈ a0, 0 ≤ t.Seq) (key : ByteArray) (n : Int) : Ev (fun k => l09_TombOrder k a0 key n) true := by
  unfold l09_TombOrder
  rw [w64_of (by omega) (by omega)]
  exact order_l0 a0 h0 hs0 key n a0.length (Nat.le_refl _) [] (by simp) (fun j x hj hx => by
    have := (List.getElem?_eq_some_iff.1 hx).1
    omega) (by simp)
end Go.Proofs.Ytmbhgfigffahbaa.Mo
