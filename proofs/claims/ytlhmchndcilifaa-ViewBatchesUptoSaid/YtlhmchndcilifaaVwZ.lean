import Derived.Test.YtlhmchndcilifaaPWUD
import Derived.Test.YtlhmchndcilifaaSyUq
import Derived.Test.YtlhmchndcilifaaVwTw
import Derived.Test.YtlhmchndcilifaaSySt
import Derived.Test.YtlhmchndcilifaaSyArr
import Derived.Test.YtlhmchndcilifaaSyEv
import Derived.Test.YtlhmchndcilifaaSyPlain
import Derived.KernelRfl
set_option linter.unusedVariables false
set_option linter.unusedSectionVars false
set_option linter.unusedSimpArgs false
set_option maxRecDepth 100000
namespace Go.Proofs.Ytlhmchndcilifaa.Mo
open Go Go.Proofs.Ytlhmchndcilifaa.Sy
theorem cmp_l1_uint64 (a0 : List Int) {i0 : Nat} (hi0 : 1 ≤ i0) (hl : a0.length ≤ 1152921504606846976) : ∀ (n : Nat) (l : List Int) (k q : Nat), a0.length - (i0 + q) ≤ n → 1 ≤ q → i0 + q ≤ a0.length → l.length = a0.length → k + 1 ≤ i0 + q → l.take k = dd (a0.take (i0 + q)) →
    (∀ j, i0 + q ≤ j + 1 → l[j]? = a0[j]?) →
    ∃ l' k', l'.length = a0.length ∧ k' ≤ a0.length ∧ l'.take k' = dd a0 ∧ EvC2 (fun J f => slices_Compact_uint64.l1 a0 (i0 : Int) J f l (k : Int) (q : Int)) l' (k' : Int) := by
  intro n
  induction n with
  | zero =>
    intro l k q hn hq hiq hlen hk ht hr
    have hd : ¬ q < (l.drop i0).length := by simp; omega
    refine ⟨l, k, hlen, by omega, ?_, EvC2.succ ?_⟩
    · rw [ht, List.take_of_length_le (by omega)]
    · simp only [slices_Compact_uint64.l1, cut_drop (l := l) (i := i0) (n := a0.length) hlen.symm (by omega), Option.bind_some, dLtF hd, Bool.false_eq_true, if_false]
      exact EvC2.ret
  | succ n ih =>
    intro l k q hn hq hiq hlen hk ht hr
    by_cases hlt : i0 + q < a0.length
    · have hd : q < (l.drop i0).length := by simp; omega
      have gx : ∀ j, i0 + q ≤ j + 1 → j < a0.length → A 0 l j = A 0 a0 j := fun j h1 h2 => A_congr (hr j h1)
      have i1 : idx (l.drop i0) (q : Int) = some (A 0 a0 (i0 + q)) := by
        rw [idx_nat, List.getElem?_drop, hr _ (by omega), A_get? (d := 0) hlt]
      have i2 : idx (l.drop i0) ((q - 1 : Nat) : Int) = some (A 0 a0 (i0 + q - 1)) := by
        rw [idx_nat, List.getElem?_drop, hr _ (by omega), show i0 + (q - 1) = i0 + q - 1 by omega, A_get? (d := 0) (by omega)]
      have hpre : a0.take (i0 + (q + 1)) = a0.take (i0 + q - 1) ++ [A 0 a0 (i0 + q - 1), A 0 a0 (i0 + q)] := by
        obtain ⟨m, hm⟩ : ∃ m, i0 + q = m + 1 := ⟨i0 + q - 1, by omega⟩
        rw [show i0 + (q + 1) = m + 2 by omega, show i0 + q - 1 = m by omega, hm, List.take_add_one, List.take_add_one, A_get? (d := 0) (show m < a0.length by omega), A_get? (d := 0) (show m + 1 < a0.length by omega)]
        simp
      have hpre0 : a0.take (i0 + q) = a0.take (i0 + q - 1) ++ [A 0 a0 (i0 + q - 1)] := by
        obtain ⟨m, hm⟩ : ∃ m, i0 + q = m + 1 := ⟨i0 + q - 1, by omega⟩
        rw [show i0 + q - 1 = m by omega, hm, List.take_add_one, A_get? (d := 0) (show m < a0.length by omega)]
        simp
      have hdd := dd_snoc (A 0 a0 (i0 + q - 1)) (A 0 a0 (i0 + q)) (a0.take (i0 + q - 1))
      rw [← hpre, ← hpre0] at hdd
      by_cases he : A 0 a0 (i0 + q) = A 0 a0 (i0 + q - 1)
      · rw [if_pos he.symm] at hdd
        obtain ⟨l', k', g1, g2, g3, n1, g4⟩ := ih l k (q + 1) (by omega) (by omega) (by omega) hlen (by omega) (by rw [ht, hdd]) (fun j hj => hr j (by omega))
        dsimp only at g4
        refine ⟨l', k', g1, g2, g3, n1 + 1, fun f hf J => ?_⟩
        obtain ⟨f, rfl⟩ : ∃ j, f = j + 1 := ⟨f - 1, by omega⟩
        simp only [slices_Compact_uint64.l1, Jn, cut_drop (l := l) (i := i0) (n := a0.length) hlen.symm (by omega), Option.bind_some, dLt hd, if_true, i1, wP (n := q) (by omega) (by omega), i2, he, bne_self_eq_false, sEq_refl, Bool.not_true, Bool.false_eq_true, if_false, wS (n := q) (by omega)]
        exact g4 f (by omega) J
      · rw [if_neg (fun e => he e.symm)] at hdd
        have hu : upd l (k : Int) (A 0 a0 (i0 + q)) = some (l.set k (A 0 a0 (i0 + q))) := by unfold upd; rw [if_pos ⟨by omega, by omega⟩]; simp
        obtain ⟨l', k', g1, g2, g3, n1, g4⟩ := ih (l.set k (A 0 a0 (i0 + q))) (k + 1) (q + 1) (by omega) (by omega) (by omega) (by simpa using hlen) (by omega)
          (by
            rw [show i0 + (q + 1) = i0 + (q + 1) from rfl, hdd, ← ht, List.take_add_one, List.take_set, List.getElem?_set_self (by omega)]
            rw [List.set_eq_of_length_le (by simp; omega)]
            rfl)
          (fun j hj => by rw [List.getElem?_set_ne (by omega)]; exact hr j (by omega))
        dsimp only at g4
        refine ⟨l', k', g1, g2, g3, n1 + 1, fun f hf J => ?_⟩
        obtain ⟨f, rfl⟩ : ∃ j, f = j + 1 := ⟨f - 1, by omega⟩
        have hb : (A 0 a0 (i0 + q) != A 0 a0 (i0 + q - 1)) = true := by simpa using he
        simp only [slices_Compact_uint64.l1, Jn, cut_drop (l := l) (i := i0) (n := a0.length) hlen.symm (by omega), Option.bind_some, dLt hd, if_true, i1, wP (n := q) (by omega) (by omega), i2, hb, wS (n := q) (by omega), idx_A (d := 0) (show k < l.length by omega), hu, wS (n := k) (by omega)]
        exact g4 f (by omega) J
    · have hd : ¬ q < (l.drop i0).length := by simp; omega
      refine ⟨l, k, hlen, by omega, ?_, EvC2.succ ?_⟩
      · rw [ht, List.take_of_length_le (by omega)]
      · simp only [slices_Compact_uint64.l1, cut_drop (l := l) (i := i0) (n := a0.length) hlen.symm (by omega), Option.bind_some, dLtF hd, Bool.false_eq_true, if_false]
        exact EvC2.ret
theorem cmp_l0_uint64 (a0 : List Int) (hl : a0.length ≤ 1152921504606846976) : ∀ (n i : Nat), a0.length - i ≤ n → 1 ≤ i → i ≤ a0.length → (∀ k, 0 < k → k < i → A 0 a0 k ≠ A 0 a0 (k - 1)) → Ev (fun k => slices_Compact_uint64.l0 a0 k (i : Int)) (dd a0) := by
  intro n
  induction n with
  | zero =>
    intro i hn hi hle hne
    refine Ev.succ ?_
    simp only [slices_Compact_uint64.l0, dLtF (show ¬ i < a0.length by omega), Bool.false_eq_true, if_false]
    rw [dd_id 0 a0 fun k h0 hk => hne k h0 (by omega)]
    exact Ev.ret
  | succ n ih =>
    intro i hn hi hle hne
    by_cases hlt : i < a0.length
    · by_cases he : A 0 a0 i = A 0 a0 (i - 1)
      · have hid : dd (a0.take i) = a0.take i := dd_id 0 _ fun k h0 hk => by
          simp only [List.length_take] at hk
          have e : ∀ j, j < i → A 0 (a0.take i) j = A 0 a0 j := fun j hj => A_congr (by rw [List.getElem?_take, if_pos hj])
          rw [e k (by omega), e (k - 1) (by omega)]
          exact hne k h0 (by omega)
        have ht : a0.take i = dd (a0.take (i + 1)) := by
          obtain ⟨m, rfl⟩ : ∃ m, i = m + 1 := ⟨i - 1, by omega⟩
          have h1 : a0.take (m + 1 + 1) = a0.take m ++ [A 0 a0 m, A 0 a0 (m + 1)] := by
            rw [List.take_add_one, List.take_add_one, A_get? (d := 0) (show m < a0.length by omega), A_get? (d := 0) hlt]; simp
          have h2 : a0.take (m + 1) = a0.take m ++ [A 0 a0 m] := by
            rw [List.take_add_one, A_get? (d := 0) (show m < a0.length by omega)]; simp
          rw [h1, dd_snoc, if_pos (by simpa using he.symm), ← h2, hid]
        obtain ⟨l', k', g1, g2, g3, g4⟩ := cmp_l1_uint64 a0 hi hl _ a0 i 1 (Nat.le_refl _) (Nat.le_refl _) (by omega) rfl (by omega) ht (fun j _ => rfl)
        have hc1 : cut l' (k' : Int) (l'.length : Int) = some (l'.drop k') := cut_drop rfl (by omega)
        have hc2 : cut (clr l' k' l'.length 0) 0 (k' : Int) = some (dd a0) := by
          rw [cut_take (by simp [clr]; omega)]
          congr 1
          rw [← g3]
          simp only [clr, List.append_assoc]
          rw [List.take_append_of_le_length (by simp; omega), List.take_take, Nat.min_self]
        refine Ev.succ ?_
        simp only [slices_Compact_uint64.l0, Jn, dLt hlt, if_true, wP (n := i) (by omega) (by omega), idx_A (d := 0) hlt, idx_A (d := 0) (show i - 1 < a0.length by omega), Option.bind_some, he, beq_self_eq_true, sEq_refl, cut_drop (l := a0) (i := i) (n := a0.length) rfl (by omega)]
        refine g4.ev (J := fun k (l_671 : List Int) (i_672 : Int) => (cut l_671 i_672 (l_671.length : Int)).bind fun l1488 => (cut (clr l_671 (Int.toNat i_672) (Int.toNat (l_671.length : Int)) 0) 0 i_672).bind fun l1490 => some l1490) ?_
        simp only [hc1, Int.toNat_natCast, hc2, Option.bind_some]
        exact Ev.ret
      · have hb : (A 0 a0 i == A 0 a0 (i - 1)) = false := by simpa using he
        have := ih (i + 1) (by omega) (by omega) (by omega) (fun k h0 hk => by
          by_cases c : k = i
          · subst c; exact he
          · exact hne k h0 (by omega))
        refine Ev.succ ?_
        simp only [slices_Compact_uint64.l0, Jn, dLt hlt, if_true, wP (n := i) (by omega) (by omega), idx_A (d := 0) hlt, idx_A (d := 0) (show i - 1 < a0.length by omega), Option.bind_some, hb, Bool.false_eq_true, if_false, wS (n := i) (by omega)]
        exact this
    · refine Ev.succ ?_
      simp only [slices_Compact_uint64.l0, dLtF hlt, Bool.false_eq_true, if_false]
      rw [dd_id 0 a0 fun k h0 hk => hne k h0 (by omega)]
      exact Ev.ret
theorem compact_uint64 (a0 : List Int) (hl : a0.length ≤ 1152921504606846976) : Ev (fun k => slices_Compact_uint64 k a0) (dd a0) := by
  by_cases h : a0.length < 2
  · have hd : decide ((a0.length : Int) < 2) = true := decide_eq_true (by omega)
    simp only [slices_Compact_uint64, hd, if_true]
    have : dd a0 = a0 := by
      match a0, h with
      | [], _ => rfl
      | [x], _ => rfl
    rw [this]
    exact Ev.ret
  · have hd : decide ((a0.length : Int) < 2) = false := decide_eq_false (by omega)
    simp only [slices_Compact_uint64, hd, Bool.false_eq_true, if_false]
    exact cmp_l0_uint64 a0 hl _ 1 (Nat.le_refl _) (Nat.le_refl _) (by omega) (fun k h0 hk => by omega)
theorem less_uint64 (x y : Int) : cmp_Less_uint64 x y = some (decide ((fun x y : Int => x < y) x y)) := by
  simp only [cmp_Less_uint64, cmp_isNaN_uint64, Jn, Option.bind_some, bne_self_eq_false, Bool.false_eq_true, if_false, Bool.false_or]
/-- Sorted, each once. -/
theorem unlike_uint64 (a0 : List Int) (hl : a0.length ≤ 1152921504606846976) : Ev (fun k => (slices_Sort_uint64 k a0).bind fun r1 => slices_Compact_uint64 k r1) (uq (fun x y : Int => x < y) a0) := by
  obtain ⟨l', g1, g2, g3⟩ := sort_uint64 0 (lt := (fun x y : Int => x < y)) less_uint64 so_int.wo a0 hl
  refine Ev.bind g3 ((compact_uint64 l' (by rw [← g2.length_eq]; exact hl)).to ?_)
  exact pw_uniq so_int (dd_pw so_int g1) (uq_pw so_int a0) fun x => by rw [mem_dd, mem_uq so_int]; exact g2.mem_iff.symm
end Go.Proofs.Ytlhmchndcilifaa.Mo

set_option maxRecDepth 100000
namespace Go.Proofs.Ytlhmchndcilifaa.Mo
open Go Go.Proofs.Ytlhmchndcilifaa.Sy
theorem cmp_l1_string (a0 : List ByteArray) {i0 : Nat} (hi0 : 1 ≤ i0) (hl : a0.length ≤ 1152921504606846976) : ∀ (n : Nat) (l : List ByteArray) (k q : Nat), a0.length - (i0 + q) ≤ n → 1 ≤ q → i0 + q ≤ a0.length → l.length = a0.length → k + 1 ≤ i0 + q → l.take k = dd (a0.take (i0 + q)) →
    (∀ j, i0 + q ≤ j + 1 → l[j]? = a0[j]?) →
    ∃ l' k', l'.length = a0.length ∧ k' ≤ a0.length ∧ l'.take k' = dd a0 ∧ EvC2 (fun J f => slices_Compact_string.l1 a0 (i0 : Int) J f l (k : Int) (q : Int)) l' (k' : Int) := by
  intro n
  induction n with
  | zero =>
    intro l k q hn hq hiq hlen hk ht hr
    have hd : ¬ q < (l.drop i0).length := by simp; omega
    refine ⟨l, k, hlen, by omega, ?_, EvC2.succ ?_⟩
    · rw [ht, List.take_of_length_le (by omega)]
    · simp only [slices_Compact_string.l1, cut_drop (l := l) (i := i0) (n := a0.length) hlen.symm (by omega), Option.bind_some, dLtF hd, Bool.false_eq_true, if_false]
      exact EvC2.ret
  | succ n ih =>
    intro l k q hn hq hiq hlen hk ht hr
    by_cases hlt : i0 + q < a0.length
    · have hd : q < (l.drop i0).length := by simp; omega
      have gx : ∀ j, i0 + q ≤ j + 1 → j < a0.length → A (ByteArray.mk #[]) l j = A (ByteArray.mk #[]) a0 j := fun j h1 h2 => A_congr (hr j h1)
      have i1 : idx (l.drop i0) (q : Int) = some (A (ByteArray.mk #[]) a0 (i0 + q)) := by
        rw [idx_nat, List.getElem?_drop, hr _ (by omega), A_get? (d := (ByteArray.mk #[])) hlt]
      have i2 : idx (l.drop i0) ((q - 1 : Nat) : Int) = some (A (ByteArray.mk #[]) a0 (i0 + q - 1)) := by
        rw [idx_nat, List.getElem?_drop, hr _ (by omega), show i0 + (q - 1) = i0 + q - 1 by omega, A_get? (d := (ByteArray.mk #[])) (by omega)]
      have hpre : a0.take (i0 + (q + 1)) = a0.take (i0 + q - 1) ++ [A (ByteArray.mk #[]) a0 (i0 + q - 1), A (ByteArray.mk #[]) a0 (i0 + q)] := by
        obtain ⟨m, hm⟩ : ∃ m, i0 + q = m + 1 := ⟨i0 + q - 1, by omega⟩
        rw [show i0 + (q + 1) = m + 2 by omega, show i0 + q - 1 = m by omega, hm, List.take_add_one, List.take_add_one, A_get? (d := (ByteArray.mk #[])) (show m < a0.length by omega), A_get? (d := (ByteArray.mk #[])) (show m + 1 < a0.length by omega)]
        simp
      have hpre0 : a0.take (i0 + q) = a0.take (i0 + q - 1) ++ [A (ByteArray.mk #[]) a0 (i0 + q - 1)] := by
        obtain ⟨m, hm⟩ : ∃ m, i0 + q = m + 1 := ⟨i0 + q - 1, by omega⟩
        rw [show i0 + q - 1 = m by omega, hm, List.take_add_one, A_get? (d := (ByteArray.mk #[])) (show m < a0.length by omega)]
        simp
      have hdd := dd_snoc (A (ByteArray.mk #[]) a0 (i0 + q - 1)) (A (ByteArray.mk #[]) a0 (i0 + q)) (a0.take (i0 + q - 1))
      rw [← hpre, ← hpre0] at hdd
      by_cases he : A (ByteArray.mk #[]) a0 (i0 + q) = A (ByteArray.mk #[]) a0 (i0 + q - 1)
      · rw [if_pos he.symm] at hdd
        obtain ⟨l', k', g1, g2, g3, n1, g4⟩ := ih l k (q + 1) (by omega) (by omega) (by omega) hlen (by omega) (by rw [ht, hdd]) (fun j hj => hr j (by omega))
        dsimp only at g4
        refine ⟨l', k', g1, g2, g3, n1 + 1, fun f hf J => ?_⟩
        obtain ⟨f, rfl⟩ : ∃ j, f = j + 1 := ⟨f - 1, by omega⟩
        simp only [slices_Compact_string.l1, Jn, cut_drop (l := l) (i := i0) (n := a0.length) hlen.symm (by omega), Option.bind_some, dLt hd, if_true, i1, wP (n := q) (by omega) (by omega), i2, he, bne_self_eq_false, sEq_refl, Bool.not_true, Bool.false_eq_true, if_false, wS (n := q) (by omega)]
        exact g4 f (by omega) J
      · rw [if_neg (fun e => he e.symm)] at hdd
        have hu : upd l (k : Int) (A (ByteArray.mk #[]) a0 (i0 + q)) = some (l.set k (A (ByteArray.mk #[]) a0 (i0 + q))) := by unfold upd; rw [if_pos ⟨by omega, by omega⟩]; simp
        obtain ⟨l', k', g1, g2, g3, n1, g4⟩ := ih (l.set k (A (ByteArray.mk #[]) a0 (i0 + q))) (k + 1) (q + 1) (by omega) (by omega) (by omega) (by simpa using hlen) (by omega)
          (by
            rw [show i0 + (q + 1) = i0 + (q + 1) from rfl, hdd, ← ht, List.take_add_one, List.take_set, List.getElem?_set_self (by omega)]
            rw [List.set_eq_of_length_le (by simp; omega)]
            rfl)
          (fun j hj => by rw [List.getElem?_set_ne (by omega)]; exact hr j (by omega))
        dsimp only at g4
        refine ⟨l', k', g1, g2, g3, n1 + 1, fun f hf J => ?_⟩
        obtain ⟨f, rfl⟩ : ∃ j, f = j + 1 := ⟨f - 1, by omega⟩
        have hb : (!sEq (A (ByteArray.mk #[]) a0 (i0 + q)) (A (ByteArray.mk #[]) a0 (i0 + q - 1))) = true := by rw [sEq_false.2 he]; rfl
        simp only [slices_Compact_string.l1, Jn, cut_drop (l := l) (i := i0) (n := a0.length) hlen.symm (by omega), Option.bind_some, dLt hd, if_true, i1, wP (n := q) (by omega) (by omega), i2, hb, wS (n := q) (by omega), idx_A (d := (ByteArray.mk #[])) (show k < l.length by omega), hu, wS (n := k) (by omega)]
        exact g4 f (by omega) J
    · have hd : ¬ q < (l.drop i0).length := by simp; omega
      refine ⟨l, k, hlen, by omega, ?_, EvC2.succ ?_⟩
      · rw [ht, List.take_of_length_le (by omega)]
      · simp only [slices_Compact_string.l1, cut_drop (l := l) (i := i0) (n := a0.length) hlen.symm (by omega), Option.bind_some, dLtF hd, Bool.false_eq_true, if_false]
        exact EvC2.ret
theorem cmp_l0_string (a0 : List ByteArray) (hl : a0.length ≤ 1152921504606846976) : ∀ (n i : Nat), a0.length - i ≤ n → 1 ≤ i → i ≤ a0.length → (∀ k, 0 < k → k < i → A (ByteArray.mk #[]) a0 k ≠ A (ByteArray.mk #[]) a0 (k - 1)) → Ev (fun k => slices_Compact_string.l0 a0 k (i : Int)) (dd a0) := by
  intro n
  induction n with
  | zero =>
    intro i hn hi hle hne
    refine Ev.succ ?_
    simp only [slices_Compact_string.l0, dLtF (show ¬ i < a0.length by omega), Bool.false_eq_true, if_false]
    rw [dd_id (ByteArray.mk #[]) a0 fun k h0 hk => hne k h0 (by omega)]
    exact Ev.ret
  | succ n ih =>
    intro i hn hi hle hne
    by_cases hlt : i < a0.length
    · by_cases he : A (ByteArray.mk #[]) a0 i = A (ByteArray.mk #[]) a0 (i - 1)
      · have hid : dd (a0.take i) = a0.take i := dd_id (ByteArray.mk #[]) _ fun k h0 hk => by
          simp only [List.length_take] at hk
          have e : ∀ j, j < i → A (ByteArray.mk #[]) (a0.take i) j = A (ByteArray.mk #[]) a0 j := fun j hj => A_congr (by rw [List.getElem?_take, if_pos hj])
          rw [e k (by omega), e (k - 1) (by omega)]
          exact hne k h0 (by omega)
        have ht : a0.take i = dd (a0.take (i + 1)) := by
          obtain ⟨m, rfl⟩ : ∃ m, i = m + 1 := ⟨i - 1, by omega⟩
          have h1 : a0.take (m + 1 + 1) = a0.take m ++ [A (ByteArray.mk #[]) a0 m, A (ByteArray.mk #[]) a0 (m + 1)] := by
            rw [List.take_add_one, List.take_add_one, A_get? (d := (ByteArray.mk #[])) (show m < a0.length by omega), A_get? (d := (ByteArray.mk #[])) hlt]; simp
          have h2 : a0.take (m + 1) = a0.take m ++ [A (ByteArray.mk #[]) a0 m] := by
            rw [List.take_add_one, A_get? (d := (ByteArray.mk #[])) (show m < a0.length by omega)]; simp
          rw [h1, dd_snoc, if_pos (by simpa using he.symm), ← h2, hid]
        obtain ⟨l', k', g1, g2, g3, g4⟩ := cmp_l1_string a0 hi hl _ a0 i 1 (Nat.le_refl _) (Nat.le_refl _) (by omega) rfl (by omega) ht (fun j _ => rfl)
        have hc1 : cut l' (k' : Int) (l'.length : Int) = some (l'.drop k') := cut_drop rfl (by omega)
        have hc2 : cut (clr l' k' l'.length (ByteArray.mk #[])) 0 (k' : Int) = some (dd a0) := by
          rw [cut_take (by simp [clr]; omega)]
          congr 1
          rw [← g3]
          simp only [clr, List.append_assoc]
          rw [List.take_append_of_le_length (by simp; omega), List.take_take, Nat.min_self]
        refine Ev.succ ?_
        simp only [slices_Compact_string.l0, Jn, dLt hlt, if_true, wP (n := i) (by omega) (by omega), idx_A (d := (ByteArray.mk #[])) hlt, idx_A (d := (ByteArray.mk #[])) (show i - 1 < a0.length by omega), Option.bind_some, he, beq_self_eq_true, sEq_refl, cut_drop (l := a0) (i := i) (n := a0.length) rfl (by omega)]
        refine g4.ev (J := fun k (l_671 : List ByteArray) (i_672 : Int) => (cut l_671 i_672 (l_671.length : Int)).bind fun l1488 => (cut (clr l_671 (Int.toNat i_672) (Int.toNat (l_671.length : Int)) (ByteArray.mk #[])) 0 i_672).bind fun l1490 => some l1490) ?_
        simp only [hc1, Int.toNat_natCast, hc2, Option.bind_some]
        exact Ev.ret
      · have hb : sEq (A (ByteArray.mk #[]) a0 i) (A (ByteArray.mk #[]) a0 (i - 1)) = false := by exact sEq_false.2 he
        have := ih (i + 1) (by omega) (by omega) (by omega) (fun k h0 hk => by
          by_cases c : k = i
          · subst c; exact he
          · exact hne k h0 (by omega))
        refine Ev.succ ?_
        simp only [slices_Compact_string.l0, Jn, dLt hlt, if_true, wP (n := i) (by omega) (by omega), idx_A (d := (ByteArray.mk #[])) hlt, idx_A (d := (ByteArray.mk #[])) (show i - 1 < a0.length by omega), Option.bind_some, hb, Bool.false_eq_true, if_false, wS (n := i) (by omega)]
        exact this
    · refine Ev.succ ?_
      simp only [slices_Compact_string.l0, dLtF hlt, Bool.false_eq_true, if_false]
      rw [dd_id (ByteArray.mk #[]) a0 fun k h0 hk => hne k h0 (by omega)]
      exact Ev.ret
theorem compact_string (a0 : List ByteArray) (hl : a0.length ≤ 1152921504606846976) : Ev (fun k => slices_Compact_string k a0) (dd a0) := by
  by_cases h : a0.length < 2
  · have hd : decide ((a0.length : Int) < 2) = true := decide_eq_true (by omega)
    simp only [slices_Compact_string, hd, if_true]
    have : dd a0 = a0 := by
      match a0, h with
      | [], _ => rfl
      | [x], _ => rfl
    rw [this]
    exact Ev.ret
  · have hd : decide ((a0.length : Int) < 2) = false := decide_eq_false (by omega)
    simp only [slices_Compact_string, hd, Bool.false_eq_true, if_false]
    exact cmp_l0_string a0 hl _ 1 (Nat.le_refl _) (Nat.le_refl _) (by omega) (fun k h0 hk => by omega)
/-- Sorted, each once. -/
theorem unlike_string (a0 : List ByteArray) (hl : a0.length ≤ 1152921504606846976) : Ev (fun k => (slices_Sort_string k a0).bind fun r1 => slices_Compact_string k r1) (uq slt a0) := by
  obtain ⟨g1, g2⟩ := sortB_spec a0
  have g3 : Ev (fun k => slices_Sort_string k a0) (sortB a0) := Ev.of fun k => by unfold slices_Sort_string; rw [if_pos hl, sortI_eq]
  refine Ev.bind g3 ((compact_string (sortB a0) (by rw [← g2.length_eq]; exact hl)).to ?_)
  exact pw_uniq so_str (dd_pw so_str g1) (uq_pw so_str a0) fun x => by rw [mem_dd, mem_uq so_str]; exact g2.mem_iff.symm
end Go.Proofs.Ytlhmchndcilifaa.Mo

set_option maxRecDepth 100000
namespace Go.Proofs.Ytlhmchndcilifaa.Mo
open Go Go.Proofs.Ytlhmchndcilifaa.Sy
/-- A valid tomb. -/
def okT (x : Tomb) : Bool := (tomb_Valid x).getD false
theorem valid_eq (x : Tomb) : tomb_Valid x = some (okT x) := rfl
theorem valid_l0 (l : List Tomb) (h : l.length < 5629499534059) : ∀ s p acc, l = p ++ s → acc.length ≤ p.length → Ev (fun k => tomb_valid.l0 l k acc (p.length : Int)) (acc ++ s.filter okT) := by
  intro s
  induction s with
  | nil =>
    intro p acc hl ha
    subst hl
    refine Ev.succ ?_
    simp only [tomb_valid.l0, lt_end, Bool.false_eq_true, if_false]
    simpa using Ev.ret
  | cons x s ih =>
    intro p acc hl ha
    have hm : (p ++ x :: s).length ≤ maxLen := by rw [maxLen_val, ← hl]; omega
    have hp : p.length < 5629499534059 := by rw [hl] at h; simp at h; omega
    refine Ev.succ ?_
    subst hl
    simp only [tomb_valid.l0, lt_at, if_true, Jn, idx_at, Option.bind_some, valid_eq, step_at p s x hm]
    by_cases hx : okT x = true
    · simp only [hx, if_true, push_ok (xs := acc) (x := x) (Nat.lt_of_le_of_lt ha hp), Option.bind_some]
      exact (ih (p ++ [x]) (acc ++ [x]) (by simp) (by simp; omega)).to (by simp [hx])
    · simp only [hx, if_false]
      exact (ih (p ++ [x]) acc (by simp) (by simp; omega)).to (by simp [hx])
theorem valid_ev (l : List Tomb) (h : l.length < 5629499534059) : Ev (fun k => tomb_valid k l) (l.filter okT) := by
  have := valid_l0 l h l [] [] rfl (Nat.le_refl _)
  simpa [tomb_valid] using this
def cov (key : ByteArray) (n : Int) (x : Tomb) : Bool := okT x && decide (x.Seq ≤ n) && (sLt x.Begin key || sEq x.Begin key) && sLt key x.End
def covers (key : ByteArray) (n : Int) : List Tomb → Int × Bool → Int × Bool
  | [], c => c
  | x :: s, c => covers key n s (if cov key n x = true then (maxI c.1 x.Seq, true) else c)
theorem covers_ok (key : ByteArray) (n : Int) : ∀ (l : List Tomb) (c : Int × Bool), ((covers key n l c).2 = true ↔ c.2 = true ∨ ∃ x ∈ l, cov key n x = true)
  | [], c => by simp [covers]
  | x :: s, c => by
    rw [covers, covers_ok key n s]
    by_cases h : cov key n x = true <;> simp [h]
theorem covers_max (key : ByteArray) (n : Int) : ∀ (l : List Tomb) (c : Int × Bool), c.1 ≤ (covers key n l c).1 ∧ (∀ x ∈ l, cov key n x = true → x.Seq ≤ (covers key n l c).1) ∧ ((covers key n l c).1 = c.1 ∨ ∃ x ∈ l, cov key n x = true ∧ (covers key n l c).1 = x.Seq)
  | [], c => by simp [covers]
  | x :: s, c => by
    rw [covers]
    by_cases h : cov key n x = true
    · simp only [h, if_true]
      obtain ⟨h1, h2, h3⟩ := covers_max key n s (maxI c.1 x.Seq, true)
      have hm : c.1 ≤ maxI c.1 x.Seq ∧ x.Seq ≤ maxI c.1 x.Seq ∧ (maxI c.1 x.Seq = c.1 ∨ maxI c.1 x.Seq = x.Seq) := by unfold maxI; split <;> omega
      refine ⟨Int.le_trans hm.1 h1, fun y hy k => ?_, ?_⟩
      · rcases List.mem_cons.1 hy with e | e
        · subst e; exact Int.le_trans hm.2.1 h1
        · exact h2 y e k
      · rcases h3 with e | ⟨y, hy, k, e⟩
        · rcases hm.2.2 with e2 | e2
          · exact .inl (e.trans e2)
          · exact .inr ⟨x, by simp, h, e.trans e2⟩
        · exact .inr ⟨y, by simp [hy], k, e⟩
    · simp only [h, if_false]
      obtain ⟨h1, h2, h3⟩ := covers_max key n s c
      refine ⟨h1, fun y hy k => ?_, ?_⟩
      · rcases List.mem_cons.1 hy with e | e
        · subst e; exact absurd k h
        · exact h2 y e k
      · rcases h3 with e | ⟨y, hy, k, e⟩
        · exact .inl e
        · exact .inr ⟨y, by simp [hy], k, e⟩
theorem reverse_l0 : ∀ (n : Nat) (m p s : List Int), m.length ≤ n → (p ++ m ++ s).length ≤ 1152921504606846976 → Ev (fun k => slices_Reverse_uint64.l0 k (p ++ m ++ s) (p.length : Int) (((p ++ m).length : Int) - 1)) (p ++ m.reverse ++ s) := by
  intro n
  induction n with
  | zero =>
    intro m p s hm hl
    obtain rfl : m = [] := List.eq_nil_of_length_eq_zero (by omega)
    refine Ev.succ ?_
    have h : decide ((p.length : Int) < ((p ++ ([] : List Int)).length : Int) - 1) = false := decide_eq_false (by simp; omega)
    simp only [slices_Reverse_uint64.l0, h, Bool.false_eq_true, if_false]
    simpa using Ev.ret
  | succ n ih =>
    intro m p s hm hl
    cases m with
    | nil =>
      refine Ev.succ ?_
      have h : decide ((p.length : Int) < ((p ++ ([] : List Int)).length : Int) - 1) = false := decide_eq_false (by simp; omega)
      simp only [slices_Reverse_uint64.l0, h, Bool.false_eq_true, if_false]
      simpa using Ev.ret
    | cons x m =>
      rcases nil_or_snoc m with rfl | ⟨m, y, rfl⟩
      · refine Ev.succ ?_
        have h : decide ((p.length : Int) < ((p ++ [x]).length : Int) - 1) = false := decide_eq_false (by simp)
        simp only [slices_Reverse_uint64.l0, h, Bool.false_eq_true, if_false]
        simpa using Ev.ret
      · have hl' := hl
        simp only [List.length_append, List.length_cons, List.length_nil] at hl' hm
        have h : decide ((p.length : Int) < ((p ++ x :: (m ++ [y])).length : Int) - 1) = true := decide_eq_true (by simp; omega)
        have hj : ((p ++ x :: (m ++ [y])).length : Int) - 1 = ((p ++ x :: m).length : Int) := by simp; omega
        rw [hj] at h ⊢
        have e1 : idx (p ++ x :: (m ++ [y]) ++ s) ((p ++ x :: m).length : Int) = some y := idx_as (p := p ++ x :: m) (s := s) (by simp) rfl
        have e2 : idx (p ++ x :: (m ++ [y]) ++ s) (p.length : Int) = some x := idx_as (p := p) (s := m ++ [y] ++ s) (by simp) rfl
        have e3 : upd (p ++ x :: (m ++ [y]) ++ s) (p.length : Int) y = some (p ++ y :: (m ++ [y] ++ s)) := upd_as (p := p) (x := x) (s := m ++ [y] ++ s) y (by simp) rfl
        have e4 : idx (p ++ y :: (m ++ [y] ++ s)) ((p ++ x :: m).length : Int) = some y := idx_as (p := p ++ y :: m) (s := s) (by simp) (by simp)
        have e5 : upd (p ++ y :: (m ++ [y] ++ s)) ((p ++ x :: m).length : Int) x = some (p ++ y :: m ++ x :: s) := upd_as (p := p ++ y :: m) (x := y) (s := s) x (by simp) (by simp)
        have w1 : w64 ((p.length : Int) + 1) = ((p ++ [y]).length : Int) := by simp only [List.length_append, List.length_cons, List.length_nil]; rw [w64_of (by omega) (by omega)]; omega
        have w2 : w64 (((p ++ x :: m).length : Int) - 1) = ((p ++ [y] ++ m).length : Int) - 1 := by simp only [List.length_append, List.length_cons, List.length_nil]; rw [w64_of (by omega) (by omega)]; omega
        have := ih m (p ++ [y]) (x :: s) (by omega) (by simp; omega)
        refine Ev.succ ?_
        simp only [slices_Reverse_uint64.l0, h, if_true, e1, e2, e3, e4, e5, Option.bind_some, w1, w2]
        have e6 : p ++ y :: m ++ x :: s = p ++ [y] ++ m ++ x :: s := by simp
        rw [e6]
        exact this.to (by simp)
theorem reverse_ev (m : List Int) (hl : m.length ≤ 1152921504606846976) : Ev (fun k => slices_Reverse_uint64 k m) m.reverse := by
  have := reverse_l0 m.length m [] [] (Nat.le_refl _) (by simpa using hl)
  simp only [List.nil_append, List.append_nil, List.length_nil] at this
  have w : w64 ((m.length : Int) - 1) = (m.length : Int) - 1 := w64_of (by omega) (by omega)
  simp only [slices_Reverse_uint64, w]
  exact this
theorem equal_l0 (a b : List Int) (hab : a.length = b.length) (hl : a.length ≤ 1152921504606846976) : ∀ s p t, a = p ++ s → b = p ++ t → Ev (fun k => slices_Equal_uint64.l0 a b k (p.length : Int)) (decide (s = t)) := by
  intro s
  induction s with
  | nil =>
    intro p t ha hb
    obtain rfl : t = [] := by rw [ha, hb] at hab; simpa using hab
    subst ha
    refine Ev.succ ?_
    simp only [slices_Equal_uint64.l0, lt_end, Bool.false_eq_true, if_false]
    exact Ev.ret.to (by simp)
  | cons x s ih =>
    intro p t ha hb
    cases t with
    | nil => rw [ha, hb] at hab; simp at hab
    | cons y t =>
      have e1 : idx a (p.length : Int) = some x := by rw [ha]; exact idx_at _ _ _
      have e2 : idx b (p.length : Int) = some y := by rw [hb]; exact idx_at _ _ _
      have hd : decide ((p.length : Int) < (a.length : Int)) = true := by rw [ha]; exact lt_at _ _ _
      have hw : w64 ((p.length : Int) + 1) = ((p ++ [x]).length : Int) := by rw [ha] at hl; simp at hl; rw [wS (by omega)]; simp
      refine Ev.succ ?_
      simp only [slices_Equal_uint64.l0, hd, if_true, e1, e2, Option.bind_some]
      by_cases hxy : x = y
      · subst hxy
        simp only [bne_self_eq_false, Bool.false_eq_true, if_false, hw]
        exact (ih (p ++ [x]) t (by simp [ha]) (by simp [hb])).to (by simp)
      · have hb : (x != y) = true := by simpa using hxy
        simp only [hb, if_true]
        exact Ev.ret.to (by simp [hxy])
theorem equal_ev (a b : List Int) (hl : b.length ≤ 1152921504606846976) : Ev (fun k => slices_Equal_uint64 k a b) (decide (a = b)) := by
  by_cases h : a.length = b.length
  · have hb : ((a.length : Int) != (b.length : Int)) = false := by simp [h]
    simp only [slices_Equal_uint64, hb, Bool.false_eq_true, if_false]
    exact equal_l0 a b h (by omega) a [] b rfl rfl
  · have hb : ((a.length : Int) != (b.length : Int)) = true := by simp; omega
    simp only [slices_Equal_uint64, hb, if_true]
    exact Ev.ret.to (by simp; intro e; subst e; exact h rfl)
theorem unlikeU_ev (a0 : List Int) (hl : a0.length ≤ 1152921504606846976) : Ev (fun k => tomb_unlike_uint64 k a0) (uq (fun x y : Int => x < y) a0) := by
  refine Ev.congr (fun k => ?_) (unlike_uint64 a0 hl)
  simp only [tomb_unlike_uint64]
  cases slices_Sort_uint64 k a0 with
  | none => rfl
  | some r => simp only [Option.bind_some]; cases slices_Compact_uint64 k r <;> rfl
theorem unlikeS_ev (a0 : List ByteArray) (hl : a0.length ≤ 1152921504606846976) : Ev (fun k => tomb_unlike_string k a0) (uq slt a0) := by
  refine Ev.congr (fun k => ?_) (unlike_string a0 hl)
  simp only [tomb_unlike_string]
  cases slices_Sort_string k a0 with
  | none => rfl
  | some r => simp only [Option.bind_some]; cases slices_Compact_string k r <;> rfl
def onSeg (b e : ByteArray) (t : Tomb) : Bool := decide (sle t.Begin b) && decide (sle e t.End)
def seqsOf (l : List Tomb) (b e : ByteArray) : List Int := (uq (fun x y : Int => x < y) ((l.filter (onSeg b e)).map (·.Seq))).reverse
def addF (out : List Fragment) (b e : ByteArray) (s : List Int) : List Fragment :=
  if s = [] then out else
  match out.getLast? with
  | some f => if f.End = b ∧ f.Seqs = s then out.dropLast ++ [⟨f.Begin, e, f.Seqs⟩] else out ++ [⟨b, e, s⟩]
  | none => out ++ [⟨b, e, s⟩]
def build (l : List Tomb) : ByteArray → List ByteArray → List Fragment → List Fragment
  | _, [], out => out
  | b, e :: r, out => build l e r (addF out b e (seqsOf l b e))
def endsOf (l : List Tomb) : List ByteArray := l.flatMap fun t => [t.Begin, t.End]
def fragsU (l : List Tomb) : List ByteArray → List Fragment
  | [] => []
  | b :: r => build l b r []
def frags (l : List Tomb) : List Fragment := fragsU l (uq slt (endsOf l))
theorem addF_len (out : List Fragment) (b e : ByteArray) (s : List Int) : (addF out b e s).length ≤ out.length + 1 := by
  unfold addF
  split
  · omega
  · split
    · split
      · simp
      · simp
    · simp
theorem frag_l2 (r1 : List Tomb) (b e : ByteArray) (h : r1.length < 28147497670912) : ∀ s p acc, r1 = p ++ s → acc.length ≤ p.length → EvC (fun J k => tomb_Fragments.l2 r1 b e J k acc (p.length : Int)) (acc ++ (s.filter (onSeg b e)).map (·.Seq)) := by
  intro s
  induction s with
  | nil =>
    intro p acc hl ha
    subst hl
    refine EvC.succ ?_
    simp only [tomb_Fragments.l2, lt_end, Bool.false_eq_true, if_false]
    simpa using EvC.ret
  | cons x s ih =>
    intro p acc hl ha
    have hm : (p ++ x :: s).length ≤ maxLen := by rw [maxLen_val, ← hl]; omega
    have hp : p.length < 28147497670912 := by rw [hl] at h; simp at h; omega
    subst hl
    by_cases hx : onSeg b e x = true
    · have hx' := hx
      simp only [onSeg, Bool.and_eq_true, ← sLe_dec] at hx'
      refine EvC.succ ?_
      simp only [tomb_Fragments.l2, lt_at, if_true, Jn, idx_at, Option.bind_some, step_at p s x hm, hx'.1, hx'.2, Bool.and_self, push_ok (xs := acc) (x := x.Seq) (Nat.lt_of_le_of_lt ha hp)]
      exact (ih (p ++ [x]) (acc ++ [x.Seq]) (by simp) (by simp; omega)).to (by simp [hx])
    · have hx' : ((sLt x.Begin b || sEq x.Begin b) && (sLt e x.End || sEq e x.End)) = false := by
        rw [sLe_dec, sLe_dec]; simpa [onSeg] using hx
      refine EvC.succ ?_
      simp only [tomb_Fragments.l2, lt_at, if_true, Jn, idx_at, Option.bind_some, step_at p s x hm, hx', Bool.false_eq_true, if_false]
      exact (ih (p ++ [x]) acc (by simp) (by simp; omega)).to (by simp [hx])
theorem frag_l1 (r1 : List Tomb) (us : List ByteArray) (h : r1.length < 1099511627776) (hu : us.length < 2199023255552) : ∀ s p b acc, us = p ++ b :: s → acc.length ≤ p.length →
    EvC (fun J k => tomb_Fragments.l1 r1 us J k acc ((p.length + 1 : Nat) : Int)) (build r1 b s acc) := by
  intro s
  induction s with
  | nil =>
    intro p b acc hl ha
    refine EvC.succ ?_
    have hd : decide (((p.length + 1 : Nat) : Int) < (us.length : Int)) = false := decide_eq_false (by rw [hl]; simp)
    simp only [tomb_Fragments.l1, hd, Bool.false_eq_true, if_false]
    exact EvC.ret
  | cons e s ih =>
    intro p b acc hl ha
    have hlen : us.length = p.length + 2 + s.length := by rw [hl]; simp; omega
    have hd : decide (((p.length + 1 : Nat) : Int) < (us.length : Int)) = true := decide_eq_true (by omega)
    have i1 : idx us ((p.length : Nat) : Int) = some b := by rw [hl]; exact idx_at _ _ _
    have i2 : idx us ((p.length + 1 : Nat) : Int) = some e := idx_as (p := p ++ [b]) (s := s) (by simp [hl]) (by simp)
    have w1 : w64 (((p.length + 1 : Nat) : Int) - 1) = (p.length : Int) := by rw [wP (by omega) (by omega)]; rfl
    have w2 : w64 (((p.length + 1 : Nat) : Int) + 1) = ((p.length + 1 + 1 : Nat) : Int) := wS (by omega)
    obtain ⟨n2, h2⟩ := frag_l2 r1 b e (by omega) r1 [] [] rfl (Nat.le_refl _)
    dsimp only at h2
    simp only [List.nil_append, List.length_nil, Int.natCast_zero] at h2
    obtain ⟨vals, hv⟩ : ∃ vals, vals = (r1.filter (onSeg b e)).map (·.Seq) := ⟨_, rfl⟩
    have hvl : vals.length ≤ r1.length := by rw [hv, List.length_map]; exact List.length_filter_le _ _
    rw [← hv] at h2
    have hsq : seqsOf r1 b e = (uq (fun x y : Int => x < y) vals).reverse := by unfold seqsOf; rw [hv]
    have hih := ih (p ++ [b]) e (addF acc b e (seqsOf r1 b e)) (by simp [hl]) (by have := addF_len acc b e (seqsOf r1 b e); simp; omega)
    simp only [List.length_append, List.length_singleton] at hih
    obtain ⟨n3, h3⟩ := hih
    dsimp only at h3
    by_cases hnil : vals = []
    · have ha2 : addF acc b e (seqsOf r1 b e) = acc := by unfold addF; rw [if_pos (by rw [hsq, hnil]; rfl)]
      rw [ha2] at h3
      refine ⟨max n2 n3 + 1, fun k hk J => ?_⟩
      obtain ⟨k, rfl⟩ : ∃ j, k = j + 1 := ⟨k - 1, by omega⟩
      simp only [tomb_Fragments.l1, hd, if_true, Jn, i1, i2, w1, w2, Option.bind_some, h2 k (by omega), hnil, List.length_nil, Int.natCast_zero, beq_self_eq_true, build, ha2]
      exact h3 k (by omega) J
    · have hne : ((vals.length : Int) == 0) = false := by simp; exact hnil
      obtain ⟨n4, h4⟩ := unlikeU_ev vals (by omega)
      obtain ⟨n5, h5⟩ := reverse_ev (uq (fun x y : Int => x < y) vals) (Nat.le_trans (uq_len _) (by omega))
      dsimp only at h4 h5
      rw [← hsq] at h5
      have hs0 : seqsOf r1 b e ≠ [] := by
        rw [hsq]
        intro h0
        obtain ⟨x, hx⟩ := List.exists_mem_of_ne_nil _ hnil
        have := (mem_uq so_int).2 hx
        rw [List.reverse_eq_nil_iff.1 h0] at this
        simp at this
      obtain ⟨sq, hsq'⟩ : ∃ sq, sq = seqsOf r1 b e := ⟨_, rfl⟩
      rw [← hsq'] at h5 hs0 h3
      rcases nil_or_snoc acc with rfl | ⟨acc, f, rfl⟩
      · have ha2 : addF [] b e sq = [⟨b, e, sq⟩] := by unfold addF; rw [if_neg hs0]; rfl
        rw [ha2] at h3
        refine ⟨max n2 (max n3 (max n4 n5)) + 1, fun k hk J => ?_⟩
        obtain ⟨k, rfl⟩ : ∃ j, k = j + 1 := ⟨k - 1, by omega⟩
        have hz : decide ((0 : Int) < ((([] : List Fragment).length : Nat) : Int)) = false := by decide
        simp only [tomb_Fragments.l1, hd, if_true, Jn, i1, i2, w1, w2, Option.bind_some, h2 k (by omega), hne, Bool.false_eq_true, if_false, h4 k (by omega), h5 k (by omega), hz, push_ok (xs := ([] : List Fragment)) (x := (⟨b, e, sq⟩ : Fragment)) (N := 4021071095713) (by simp), List.nil_append, build, ← hsq', ha2]
        exact h3 k (by omega) J
      · simp only [List.length_append, List.length_singleton] at ha
        have hz : decide ((0 : Int) < (((acc ++ [f]).length : Nat) : Int)) = true := decide_eq_true (by simp)
        have wl : w64 (((acc ++ [f]).length : Int) - 1) = (acc.length : Int) := by
          simp only [List.length_append, List.length_singleton]; rw [wP (by omega) (by omega)]; rfl
        have il : idx (acc ++ [f]) (acc.length : Int) = some f := idx_at acc f []
        obtain ⟨n7, h7⟩ := equal_ev f.Seqs sq (by rw [hsq', hsq, List.length_reverse]; exact Nat.le_trans (uq_len _) (by omega))
        dsimp only at h7
        by_cases he : f.End = b
        · by_cases hq : f.Seqs = sq
          · have ha2 : addF (acc ++ [f]) b e sq = acc ++ [⟨f.Begin, e, f.Seqs⟩] := by unfold addF; rw [if_neg hs0]; simp [he, hq]
            rw [ha2] at h3
            refine ⟨max n2 (max n3 (max n4 (max n5 n7))) + 1, fun k hk J => ?_⟩
            obtain ⟨k, rfl⟩ : ∃ j, k = j + 1 := ⟨k - 1, by omega⟩
            simp only [tomb_Fragments.l1, hd, if_true, Jn, i1, i2, w1, w2, Option.bind_some, h2 k (by omega), hne, Bool.false_eq_true, if_false, h4 k (by omega), h5 k (by omega), hz, wl, il, sEq_iff.2 he, h7 k (by omega), decide_eq_true hq, upd_at, build, ← hsq', ha2]
            exact h3 k (by omega) J
          · have ha2 : addF (acc ++ [f]) b e sq = acc ++ [f] ++ [⟨b, e, sq⟩] := by unfold addF; rw [if_neg hs0]; simp [hq]
            rw [ha2] at h3
            refine ⟨max n2 (max n3 (max n4 (max n5 n7))) + 1, fun k hk J => ?_⟩
            obtain ⟨k, rfl⟩ : ∃ j, k = j + 1 := ⟨k - 1, by omega⟩
            simp only [tomb_Fragments.l1, hd, if_true, Jn, i1, i2, w1, w2, Option.bind_some, h2 k (by omega), hne, Bool.false_eq_true, if_false, h4 k (by omega), h5 k (by omega), hz, wl, il, sEq_iff.2 he, h7 k (by omega), decide_eq_false hq, push_ok (xs := acc ++ [f]) (x := (⟨b, e, sq⟩ : Fragment)) (N := 4021071095713) (by simp; omega), build, ← hsq', ha2]
            exact h3 k (by omega) J
        · have ha2 : addF (acc ++ [f]) b e sq = acc ++ [f] ++ [⟨b, e, sq⟩] := by unfold addF; rw [if_neg hs0]; simp [he]
          rw [ha2] at h3
          refine ⟨max n2 (max n3 (max n4 n5)) + 1, fun k hk J => ?_⟩
          obtain ⟨k, rfl⟩ : ∃ j, k = j + 1 := ⟨k - 1, by omega⟩
          simp only [tomb_Fragments.l1, hd, if_true, Jn, i1, i2, w1, w2, Option.bind_some, h2 k (by omega), hne, Bool.false_eq_true, if_false, h4 k (by omega), h5 k (by omega), hz, wl, il, sEq_false.2 he, push_ok (xs := acc ++ [f]) (x := (⟨b, e, sq⟩ : Fragment)) (N := 4021071095713) (by simp; omega), build, ← hsq', ha2]
          exact h3 k (by omega) J
theorem frag_l0 (r1 : List Tomb) (h : r1.length < 1099511627776) : ∀ s p acc, r1 = p ++ s → acc.length = 2 * p.length → Ev (fun k => tomb_Fragments.l0 r1 k acc (p.length : Int)) (fragsU r1 (uq slt (acc ++ endsOf s))) := by
  intro s
  induction s with
  | nil =>
    intro p acc hl ha
    have hpl : r1.length = p.length := by rw [hl]; simp
    refine Ev.succ ?_
    have hd : decide ((p.length : Int) < (r1.length : Int)) = false := decide_eq_false (by omega)
    simp only [tomb_Fragments.l0, hd, Bool.false_eq_true, if_false]
    have hz : endsOf [] = [] := rfl
    rw [hz, List.append_nil]
    refine Ev.bind (unlikeS_ev acc (by omega)) ?_
    have hul : (uq slt acc).length < 2199023255552 := Nat.lt_of_le_of_lt (uq_len _) (by omega)
    obtain ⟨us, hus⟩ : ∃ us, us = uq slt acc := ⟨_, rfl⟩
    rw [← hus] at hul ⊢
    simp only [Jn]
    cases us with
    | nil =>
      refine Ev.succ ?_
      have hd : decide ((1 : Int) < ((([] : List ByteArray).length : Nat) : Int)) = false := by decide
      simp only [tomb_Fragments.l1, hd, Bool.false_eq_true, if_false]
      exact Ev.ret
    | cons b r =>
      have := frag_l1 r1 (b :: r) h hul r [] b [] rfl (Nat.le_refl _)
      exact this.ev (J := fun _ l => some l) Ev.ret
  | cons x s ih =>
    intro p acc hl ha
    have hpl : r1.length = p.length + 1 + s.length := by rw [hl]; simp; omega
    have hm : (p ++ x :: s).length ≤ maxLen := by rw [maxLen_val, ← hl]; omega
    refine Ev.succ ?_
    have e1 : idx r1 (p.length : Int) = some x := by rw [hl]; exact idx_at _ _ _
    have hd : decide ((p.length : Int) < (r1.length : Int)) = true := decide_eq_true (by omega)
    simp only [tomb_Fragments.l0, hd, if_true, e1, Option.bind_some, pushN_ok (xs := acc) (zs := [x.Begin, x.End]) (N := 14073748835379) (by simp; omega), step_at p s x hm]
    exact (ih (p ++ [x]) (acc ++ [x.Begin, x.End]) (by simp [hl]) (by simp; omega)).to (by simp [endsOf])
theorem frags_ev (l : List Tomb) (h : l.length < 1099511627776) : Ev (fun k => tomb_Fragments k l) (frags (l.filter okT)) := by
  simp only [tomb_Fragments]
  refine Ev.bind (valid_ev l (by omega)) ?_
  have := frag_l0 (l.filter okT) (Nat.lt_of_le_of_lt (List.length_filter_le _ _) h) (l.filter okT) [] [] rfl rfl
  simpa [frags] using this
end Go.Proofs.Ytlhmchndcilifaa.Mo

set_option maxRecDepth 100000
namespace Go.Proofs.Ytlhmchndcilifaa.Mo
open Go Go.Proofs.Ytlhmchndcilifaa.Sy
def onKey (key : ByteArray) (t : Tomb) : Bool := decide (sle t.Begin key) && decide (slt key t.End)
/-- The numbers of the tombs that cover a key, falling, each once. -/
def covS (l : List Tomb) (key : ByteArray) : List Int := (uq (fun x y : Int => x < y) ((l.filter (onKey key)).map (·.Seq))).reverse
theorem mem_covS {l : List Tomb} {key : ByteArray} {n : Int} : n ∈ covS l key ↔ ∃ t ∈ l, onKey key t = true ∧ t.Seq = n := by
  unfold covS
  rw [List.mem_reverse, mem_uq so_int]
  simp [and_assoc]
theorem covS_pw (l : List Tomb) (key : ByteArray) : (covS l key).Pairwise (fun x y => y < x) := by
  unfold covS
  rw [List.pairwise_reverse]
  exact uq_pw so_int _
theorem covS_seg {l : List Tomb} {b e key : ByteArray} (h1 : sle b key) (h2 : slt key e) (hc : ∀ t ∈ l, (sle t.Begin b ∨ sle e t.Begin) ∧ (sle t.End b ∨ sle e t.End)) : covS l key = seqsOf l b e := by
  unfold covS seqsOf
  congr 3
  refine List.filter_congr fun t ht => ?_
  obtain ⟨c1, c2⟩ := hc t ht
  unfold onKey onSeg
  congr 1
  · refine decide_eq_decide.2 ⟨fun h => ?_, fun h => sle_trans h h1⟩
    rcases c1 with c | c
    · exact c
    · exact absurd (slt_of_le_lt h h2) c
  · refine decide_eq_decide.2 ⟨fun h => ?_, fun h => slt_of_lt_le h2 h⟩
    rcases c2 with c | c
    · exact absurd (slt_of_le_lt h1 h) c
    · exact c
structure FI (l : List Tomb) (b : ByteArray) (out : List Fragment) : Prop where
  ok : ∀ f ∈ out, slt f.Begin f.End ∧ f.Seqs ≠ [] ∧ sle f.End b ∧ ∀ key, sle f.Begin key → slt key f.End → f.Seqs = covS l key
  pw : out.Pairwise fun f g => sle f.End g.Begin
  all : ∀ key, slt key b → covS l key ≠ [] → ∃ f ∈ out, sle f.Begin key ∧ slt key f.End
theorem FI.step {l : List Tomb} {b e : ByteArray} {out : List Fragment} (h : FI l b out) (hbe : slt b e) (hc : ∀ t ∈ l, (sle t.Begin b ∨ sle e t.Begin) ∧ (sle t.End b ∨ sle e t.End)) : FI l e (addF out b e (seqsOf l b e)) := by
  have hseg : ∀ key, sle b key → slt key e → covS l key = seqsOf l b e := fun key h1 h2 => covS_seg h1 h2 hc
  have hbs : sle b e := sle_of_lt hbe
  have two : ∀ key, slt key e → slt key b ∨ sle b key := fun key _ => by
    rcases slt_tri key b with k | k | k
    · exact .inl k
    · subst k; exact .inr (sle_refl _)
    · exact .inr (sle_of_lt k)
  unfold addF
  split
  · rename_i hs
    refine ⟨fun f hf => ?_, h.pw, fun key hk hne => ?_⟩
    · obtain ⟨h1, h2, h3, h4⟩ := h.ok f hf
      exact ⟨h1, h2, sle_trans h3 hbs, h4⟩
    · rcases two key hk with k | k
      · exact h.all key k hne
      · exact absurd ((hseg key k hk).trans hs) hne
  · rename_i hs
    have pushed : FI l e (out ++ [⟨b, e, seqsOf l b e⟩]) := by
      refine ⟨fun f hf => ?_, ?_, fun key hk hne => ?_⟩
      · rcases List.mem_append.1 hf with hf | hf
        · obtain ⟨h1, h2, h3, h4⟩ := h.ok f hf
          exact ⟨h1, h2, sle_trans h3 hbs, h4⟩
        · simp at hf; subst hf
          exact ⟨hbe, hs, sle_refl _, fun key h1 h2 => (hseg key h1 h2).symm⟩
      · refine List.pairwise_append.2 ⟨h.pw, List.pairwise_singleton _ _, fun f hf g hg => ?_⟩
        simp at hg; subst hg
        exact (h.ok f hf).2.2.1
      · rcases two key hk with k | k
        · obtain ⟨f, hf, q⟩ := h.all key k hne
          exact ⟨f, by simp [hf], q⟩
        · exact ⟨⟨b, e, seqsOf l b e⟩, by simp, k, hk⟩
    split
    · rename_i f hf
      obtain ⟨out', rfl⟩ : ∃ out', out = out' ++ [f] := by
        rcases nil_or_snoc out with rfl | ⟨o, x, rfl⟩
        · simp at hf
        · simp at hf; subst hf; exact ⟨o, rfl⟩
      split
      · rename_i hfe
        obtain ⟨hfe, hfs⟩ := hfe
        obtain ⟨k1, k2, k3, k4⟩ := h.ok f (by simp)
        simp only [List.dropLast_concat]
        obtain ⟨p1, p2, p3⟩ := List.pairwise_append.1 h.pw
        refine ⟨fun g hg => ?_, ?_, fun key hk hne => ?_⟩
        · rcases List.mem_append.1 hg with hg | hg
          · obtain ⟨h1, h2, h3, h4⟩ := h.ok g (by simp [hg])
            exact ⟨h1, h2, sle_trans h3 hbs, h4⟩
          · simp at hg; subst hg
            refine ⟨slt_trans (by rw [← hfe]; exact k1) hbe, k2, sle_refl _, fun key h1 h2 => ?_⟩
            rcases two key h2 with k | k
            · exact k4 key h1 (by rw [hfe]; exact k)
            · show f.Seqs = _
              rw [hfs]; exact (hseg key k h2).symm
        · refine List.pairwise_append.2 ⟨p1, List.pairwise_singleton _ _, fun g hg g' hg' => ?_⟩
          simp at hg'; subst hg'
          exact p3 g hg f (by simp)
        · rcases two key hk with k | k
          · obtain ⟨g, hg, q1, q2⟩ := h.all key k hne
            rcases List.mem_append.1 hg with hg | hg
            · exact ⟨g, by simp [hg], q1, q2⟩
            · simp at hg; subst hg
              exact ⟨⟨g.Begin, e, g.Seqs⟩, by simp, q1, hk⟩
          · exact ⟨⟨f.Begin, e, f.Seqs⟩, by simp, sle_trans (sle_of_lt (by rw [← hfe]; exact k1)) k, hk⟩
      · exact pushed
    · exact pushed
theorem build_FI {l : List Tomb} : ∀ (s : List ByteArray) (b : ByteArray) (out : List Fragment), (b :: s).Pairwise slt → (∀ t ∈ l, (sle t.Begin b ∨ t.Begin ∈ s) ∧ (sle t.End b ∨ t.End ∈ s)) → FI l b out → ∃ b', (∀ t ∈ l, sle t.End b') ∧ FI l b' (build l b s out)
  | [], b, out, _, hm, h => ⟨b, fun t ht => by rcases (hm t ht).2 with k | k; exact k; simp at k, h⟩
  | e :: s, b, out, hp, hm, h => by
    have hp' := List.pairwise_cons.1 hp
    have hp2 := List.pairwise_cons.1 hp'.2
    have split : ∀ x, (sle x b ∨ x ∈ e :: s) → (sle x b ∨ sle e x) ∧ (sle x e ∨ x ∈ s) := fun x hx => by
      rcases hx with k | k
      · exact ⟨.inl k, .inl (sle_trans k (sle_of_lt (hp'.1 e (by simp))))⟩
      · rcases List.mem_cons.1 k with k | k
        · subst k; exact ⟨.inr (sle_refl _), .inl (sle_refl _)⟩
        · exact ⟨.inr (sle_of_lt (hp2.1 x k)), .inr k⟩
    refine build_FI s e _ hp'.2 (fun t ht => ⟨(split _ (hm t ht).1).2, (split _ (hm t ht).2).2⟩) ?_
    exact h.step (hp'.1 e (by simp)) fun t ht => ⟨(split _ (hm t ht).1).1, (split _ (hm t ht).2).1⟩
theorem frags_spec (l : List Tomb) : (∀ f ∈ frags l, slt f.Begin f.End ∧ f.Seqs ≠ [] ∧ ∀ key, sle f.Begin key → slt key f.End → f.Seqs = covS l key) ∧ (frags l).Pairwise (fun f g => sle f.End g.Begin) ∧
    (∀ key, covS l key ≠ [] → ∃ f ∈ frags l, sle f.Begin key ∧ slt key f.End) := by
  have hmem : ∀ t ∈ l, t.Begin ∈ uq slt (endsOf l) ∧ t.End ∈ uq slt (endsOf l) := fun t ht => by
    rw [mem_uq so_str, mem_uq so_str]
    unfold endsOf
    rw [List.mem_flatMap, List.mem_flatMap]
    exact ⟨⟨t, ht, by simp⟩, ⟨t, ht, by simp⟩⟩
  have hpw := uq_pw so_str (endsOf l)
  unfold frags
  cases hu : uq slt (endsOf l) with
  | nil =>
    rw [hu] at hmem
    refine ⟨fun f hf => by simp [fragsU] at hf, List.Pairwise.nil, fun key hne => ?_⟩
    obtain ⟨n, hn⟩ := List.exists_mem_of_ne_nil _ hne
    obtain ⟨t, ht, _⟩ := mem_covS.1 hn
    have := (hmem t ht).1
    simp at this
  | cons b s =>
    rw [hu] at hmem hpw
    have hb := (List.pairwise_cons.1 hpw).1
    have hle : ∀ x, x ∈ b :: s → sle b x := fun x hx => by
      rcases List.mem_cons.1 hx with e | e
      · subst e; exact sle_refl _
      · exact sle_of_lt (hb x e)
    have start : FI l b [] := by
      refine ⟨fun f hf => by simp at hf, List.Pairwise.nil, fun key hk hne => ?_⟩
      obtain ⟨n, hn⟩ := List.exists_mem_of_ne_nil _ hne
      obtain ⟨t, ht, hk2, _⟩ := mem_covS.1 hn
      unfold onKey at hk2
      simp only [Bool.and_eq_true, decide_eq_true_eq] at hk2
      exact absurd (slt_of_le_lt (sle_trans (hle _ (hmem t ht).1) hk2.1) hk) (slt_irrefl _)
    obtain ⟨b', hend, hF⟩ := build_FI (l := l) s b [] hpw (fun t ht => by
      obtain ⟨h1, h2⟩ := hmem t ht
      refine ⟨?_, ?_⟩
      · rcases List.mem_cons.1 h1 with e | e
        · exact .inl (by rw [e]; exact sle_refl _)
        · exact .inr e
      · rcases List.mem_cons.1 h2 with e | e
        · exact .inl (by rw [e]; exact sle_refl _)
        · exact .inr e) start
    refine ⟨fun f hf => ?_, hF.pw, fun key hne => ?_⟩
    · obtain ⟨h1, h2, h3, h4⟩ := hF.ok f hf
      exact ⟨h1, h2, h4⟩
    · obtain ⟨n, hn⟩ := List.exists_mem_of_ne_nil _ hne
      obtain ⟨t, ht, hk2, _⟩ := mem_covS.1 hn
      unfold onKey at hk2
      simp only [Bool.and_eq_true, decide_eq_true_eq] at hk2
      exact hF.all key (slt_of_lt_le hk2.2 (hend t ht)) hne
end Go.Proofs.Ytlhmchndcilifaa.Mo

set_option maxRecDepth 100000
namespace Go.Proofs.Ytlhmchndcilifaa.Mo
open Go Go.Proofs.Ytlhmchndcilifaa.Sy
theorem build_len (l : List Tomb) : ∀ (s : List ByteArray) (b : ByteArray) (out : List Fragment), (build l b s out).length ≤ out.length + s.length
  | [], _, out => by simp [build]
  | e :: s, b, out => by
    have h1 := build_len l s e (addF out b e (seqsOf l b e))
    have h2 := addF_len out b e (seqsOf l b e)
    rw [build, List.length_cons]
    omega
theorem ends_len (l : List Tomb) : (endsOf l).length = 2 * l.length := by
  unfold endsOf
  induction l with
  | nil => rfl
  | cons x l ih => rw [List.flatMap_cons, List.length_append, ih]; simp; omega
theorem frags_len (l : List Tomb) : (frags l).length ≤ 2 * l.length := by
  have h := uq_len (lt := slt) (endsOf l)
  rw [ends_len] at h
  unfold frags
  cases hu : uq slt (endsOf l) with
  | nil => simp [fragsU]
  | cons b r =>
    have := build_len l r b []
    rw [hu] at h
    simp only [List.length_cons, List.length_nil] at this h
    show (build l b r []).length ≤ _
    omega
theorem covS_len (l : List Tomb) (key : ByteArray) : (covS l key).length ≤ l.length := by
  unfold covS
  rw [List.length_reverse]
  exact Nat.le_trans (uq_len _) (by rw [List.length_map]; exact List.length_filter_le _ _)
theorem frags_seqs {l : List Tomb} {f : Fragment} (hf : f ∈ frags l) : f.Seqs.length ≤ l.length := by
  obtain ⟨h1, h2, h3⟩ := (frags_spec l).1 f hf
  rw [h3 f.Begin (sle_refl _) h1]
  exact covS_len _ _
def onF (key : ByteArray) (f : Fragment) : Bool := !(sLt key f.Begin || !sLt key f.End)
def setF (key : ByteArray) (n : Int) : List Fragment → Option Int
  | [] => none
  | f :: s => if onF key f = true then (match f.Seqs.find? (fun x => decide (x ≤ n)) with
    | some v => some v
    | none => setF key n s) else setF key n s
def setC (key : ByteArray) (n : Int) (fs : List Fragment) : Int × Bool := match setF key n fs with
  | some v => (v, true)
  | none => (0, false)
theorem onF_iff {key : ByteArray} {f : Fragment} : onF key f = true ↔ sle f.Begin key ∧ slt key f.End := by
  unfold onF
  rw [Bool.not_eq_true', Bool.or_eq_false_iff, sLt_false, Bool.not_eq_false', sLt_iff]
  rfl
theorem setF_all {key : ByteArray} {n : Int} {o : Option Int} : ∀ (fs : List Fragment), (∀ f ∈ fs, onF key f = true → f.Seqs.find? (fun x => decide (x ≤ n)) = o) → setF key n fs = none ∨ setF key n fs = o
  | [], _ => .inl rfl
  | f :: s, h => by
    have ih := setF_all s fun g hg => h g (List.mem_cons_of_mem _ hg)
    rw [setF]
    by_cases hc : onF key f = true
    · rw [if_pos hc, h f (by simp) hc]
      cases o with
      | none => exact ih.elim .inl .inl
      | some v => exact .inr rfl
    · rw [if_neg hc]; exact ih
theorem setF_some {key : ByteArray} {n v : Int} : ∀ (fs : List Fragment), (∀ f ∈ fs, onF key f = true → f.Seqs.find? (fun x => decide (x ≤ n)) = some v) → (∃ f ∈ fs, onF key f = true) → setF key n fs = some v
  | [], _, h => by obtain ⟨f, hf, _⟩ := h; simp at hf
  | f :: s, h, ⟨g, hg, hc⟩ => by
    rw [setF]
    by_cases hf : onF key f = true
    · rw [if_pos hf, h f (by simp) hf]
    · rw [if_neg hf]
      rcases List.mem_cons.1 hg with e | e
      · subst e; exact absurd hc hf
      · exact setF_some s (fun g hg => h g (List.mem_cons_of_mem _ hg)) ⟨g, e, hc⟩
theorem setF_eq (l : List Tomb) (key : ByteArray) (n : Int) : setF key n (frags l) = (covS l key).find? (fun x => decide (x ≤ n)) := by
  obtain ⟨h1, _, h3⟩ := frags_spec l
  have hs : ∀ f ∈ frags l, onF key f = true → f.Seqs.find? (fun x => decide (x ≤ n)) = (covS l key).find? (fun x => decide (x ≤ n)) := fun f hf hc => by
    rw [onF_iff] at hc
    rw [(h1 f hf).2.2 key hc.1 hc.2]
  cases hf : (covS l key).find? (fun x => decide (x ≤ n)) with
  | none =>
    rw [hf] at hs
    rcases setF_all (frags l) hs with e | e <;> exact e
  | some v =>
    rw [hf] at hs
    refine setF_some _ hs ?_
    have hne : covS l key ≠ [] := fun e => by rw [e] at hf; simp at hf
    obtain ⟨f, g1, g2, g3⟩ := h3 key hne
    exact ⟨f, g1, onF_iff.2 ⟨g2, g3⟩⟩
theorem pw_find {n : Int} : ∀ {l : List Int}, l.Pairwise (fun x y => y < x) → ∀ {v}, l.find? (fun x => decide (x ≤ n)) = some v → v ∈ l ∧ v ≤ n ∧ ∀ x ∈ l, x ≤ n → x ≤ v
  | [], _, v, h => by simp at h
  | a :: l, hp, v, h => by
    have hp' := List.pairwise_cons.1 hp
    rw [List.find?_cons] at h
    by_cases ha : a ≤ n
    · rw [decide_eq_true ha] at h
      simp at h
      subst h
      refine ⟨by simp, ha, fun x hx _ => ?_⟩
      rcases List.mem_cons.1 hx with e | e
      · omega
      · have := hp'.1 x e; omega
    · rw [decide_eq_false ha] at h
      obtain ⟨h1, h2, h3⟩ := pw_find hp'.2 h
      refine ⟨List.mem_cons_of_mem _ h1, h2, fun x hx hn => ?_⟩
      rcases List.mem_cons.1 hx with e | e
      · subst e; exact absurd hn ha
      · exact h3 x e hn
theorem cov_iff {key : ByteArray} {n : Int} {t : Tomb} : cov key n t = true ↔ okT t = true ∧ t.Seq ≤ n ∧ onKey key t = true := by
  unfold cov onKey
  rw [sLe_dec, sLt_dec]
  simp only [Bool.and_eq_true, decide_eq_true_eq, and_assoc]
/-- A set says of a key what its tombs say. -/
theorem setC_eq (l : List Tomb) (hs : ∀ t ∈ l, 0 ≤ t.Seq) (key : ByteArray) (n : Int) : setC key n (frags (l.filter okT)) = covers key n l (0, false) := by
  have hok := covers_ok key n l (0, false)
  obtain ⟨c2, c3, c4⟩ := covers_max key n l (0, false)
  unfold setC
  rw [setF_eq]
  cases hf : (covS (l.filter okT) key).find? (fun x => decide (x ≤ n)) with
  | none =>
    have hno : ∀ t ∈ l, ¬ cov key n t = true := fun t ht hc => by
      obtain ⟨h1, h2, h3⟩ := cov_iff.1 hc
      rw [List.find?_eq_none] at hf
      have := hf t.Seq (mem_covS.2 ⟨t, List.mem_filter.2 ⟨ht, h1⟩, h3, rfl⟩)
      simp at this
      omega
    refine Prod.ext ?_ ?_
    · rcases c4 with e | ⟨x, hx, hc, _⟩
      · exact e.symm
      · exact absurd hc (hno x hx)
    · simp only
      symm
      rw [Bool.eq_false_iff]
      intro h
      rcases hok.1 h with e | ⟨x, hx, hc⟩
      · cases e
      · exact hno x hx hc
  | some v =>
    obtain ⟨h1, h2, h3⟩ := pw_find (covS_pw (l.filter okT) key) hf
    obtain ⟨t, ht, hk, rfl⟩ := mem_covS.1 h1
    obtain ⟨ht1, ht2⟩ := List.mem_filter.1 ht
    have hc : cov key n t = true := cov_iff.2 ⟨ht2, h2, hk⟩
    refine Prod.ext ?_ ?_
    · have hge := c3 t ht1 hc
      simp only at c4 ⊢
      rcases c4 with e | ⟨x, hx, hcx, e⟩
      · have := hs t ht1; omega
      · obtain ⟨x1, x2, x3⟩ := cov_iff.1 hcx
        have := h3 x.Seq (mem_covS.2 ⟨x, List.mem_filter.2 ⟨hx, x1⟩, x3, rfl⟩) x2
        omega
    · exact (hok.2 (.inr ⟨t, ht1, hc⟩)).symm
end Go.Proofs.Ytlhmchndcilifaa.Mo

set_option maxRecDepth 100000
namespace Go.Proofs.Ytlhmchndcilifaa.Mo
open Go Go.Proofs.Ytlhmchndcilifaa.Sy
abbrev ltcEntry (c : Entry → Entry → Int) : Entry → Entry → Prop := fun x y => c x y < 0
section
variable {cmp : Entry → Entry → Option Int} {c : Entry → Entry → Int}
theorem ins_l1_Entry (hc : ∀ x y, cmp x y = some (c x y)) (hw : Wo (ltcEntry c)) : ∀ (n : Nat) (q p s : List Entry) (x : Entry), q.length = n → Srt (ltcEntry c) q → (p ++ q ++ x :: s).length ≤ 1152921504606846976 →
    ∃ q1 q2, q = q1 ++ q2 ∧ (∀ y ∈ q1, ¬ ltcEntry c x y) ∧ (∀ y ∈ q2, ltcEntry c x y) ∧ EvC (fun J k => slices_insertionSortCmpFunc_Entry.l1 (p.length : Int) cmp J k (p ++ q ++ x :: s) ((p ++ q).length : Int)) (p ++ q1 ++ x :: q2 ++ s) := by
  intro n
  induction n with
  | zero =>
    intro q p s x hq hs hb
    obtain rfl : q = [] := List.eq_nil_of_length_eq_zero hq
    refine ⟨[], [], rfl, by simp, by simp, EvC.succ ?_⟩
    have h1 : decide ((p.length : Int) < ((p ++ ([] : List Entry)).length : Int)) = false := by simp
    simp only [slices_insertionSortCmpFunc_Entry.l1, Jn, h1, Bool.false_eq_true, if_false]
    simpa using EvC.ret
  | succ n ih =>
    intro q p s x hq hs hb
    rcases nil_or_snoc q with rfl | ⟨q, y, rfl⟩
    · simp at hq
    have hb' := hb
    simp only [List.length_append, List.length_cons, List.length_nil] at hb' hq
    have h1 : decide ((p.length : Int) < ((p ++ (q ++ [y])).length : Int)) = true := by simp only [List.length_append, List.length_cons, List.length_nil]; exact decide_eq_true (by omega)
    have hi : w64 (((p ++ (q ++ [y])).length : Int) - 1) = ((p ++ q).length : Int) := by
      simp only [List.length_append, List.length_cons, List.length_nil]
      rw [w64_of (by omega) (by omega)]
      omega
    have hx : idx (p ++ (q ++ [y]) ++ x :: s) ((p ++ (q ++ [y])).length : Int) = some x := idx_at _ _ _
    have hy : idx (p ++ (q ++ [y]) ++ x :: s) ((p ++ q).length : Int) = some y := idx_as (p := p ++ q) (s := x :: s) (by simp) rfl
    rw [Srt.app] at hs
    by_cases hlt : c x y < 0
    · have hu : upd (p ++ (q ++ [y]) ++ x :: s) ((p ++ (q ++ [y])).length : Int) y = some (p ++ (q ++ [y]) ++ y :: s) := upd_at _ _ _ _
      have hy2 : idx (p ++ (q ++ [y]) ++ y :: s) ((p ++ q).length : Int) = some y := idx_as (p := p ++ q) (s := y :: s) (by simp) rfl
      have hu2 : upd (p ++ (q ++ [y]) ++ y :: s) ((p ++ q).length : Int) x = some (p ++ q ++ x :: (y :: s)) := upd_as (p := p ++ q) (x := y) (s := y :: s) x (by simp) rfl
      obtain ⟨q1, q2, rfl, g1, g2, g3⟩ := ih q p (y :: s) x (by omega) hs.1 (by simp only [List.length_append, List.length_cons]; simp only [List.length_append, List.length_cons, List.length_nil] at hb; omega)
      refine ⟨q1, q2 ++ [y], by simp, g1, fun z hz => ?_, EvC.succ ?_⟩
      · rcases List.mem_append.1 hz with h | h
        · exact g2 z h
        · simp at h; subst h; exact hlt
      · simp only [slices_insertionSortCmpFunc_Entry.l1, Jn, h1, if_true, hi, hx, hy, hc, Option.bind_some, decide_eq_true hlt, hu, hy2, hu2]
        exact g3.to (by simp)
    · refine ⟨q ++ [y], [], by simp, fun z hz => ?_, by simp, EvC.succ ?_⟩
      · rcases List.mem_append.1 hz with h | h
        · have := hs.2.2 z h y (by simp)
          exact hw.neg x y z hlt this
        · simp at h; subst h; exact hlt
      · simp only [slices_insertionSortCmpFunc_Entry.l1, Jn, h1, if_true, hi, hx, hy, hc, Option.bind_some, decide_eq_false hlt, Bool.false_eq_true, if_false]
        exact EvC.ret.to (by simp)
theorem ins_l0_Entry (hc : ∀ x y, cmp x y = some (c x y)) (hw : Wo (ltcEntry c)) (a b : Nat) : ∀ (m q p s : List Entry), Srt (ltcEntry c) q → p.length = a → (p ++ q ++ m).length = b → (p ++ q ++ m ++ s).length ≤ 1152921504606846976 →
    ∃ m', Srt (ltcEntry c) m' ∧ Sst (ltcEntry c) (q ++ m) m' ∧ Ev (fun k => slices_insertionSortCmpFunc_Entry.l0 (a : Int) (b : Int) cmp k (p ++ q ++ m ++ s) ((p ++ q).length : Int)) (p ++ m' ++ s) := by
  intro m
  induction m with
  | nil =>
    intro q p s hs ha hb hl
    refine ⟨q, hs, by simpa using Sst.refl q, Ev.succ ?_⟩
    subst hb
    have h1 : decide (((p ++ q).length : Int) < ((p ++ q ++ ([] : List Entry)).length : Int)) = false := by simp
    simp only [slices_insertionSortCmpFunc_Entry.l0, h1, Bool.false_eq_true, if_false]
    simpa using Ev.ret
  | cons x m ih =>
    intro q p s hs ha hb hl
    have hl' := hl
    simp only [List.length_append, List.length_cons] at hl' hb
    obtain ⟨q1, q2, rfl, g1, g2, g3⟩ := ins_l1_Entry hc hw q.length q p (m ++ s) x rfl hs (by simp only [List.length_append, List.length_cons]; omega)
    obtain ⟨m', k1, k2, k3⟩ := ih (q1 ++ x :: q2) p s (ins_srt hw hs g1 g2) ha (by simp only [List.length_append, List.length_cons] at hb ⊢; omega) (by simp only [List.length_append, List.length_cons] at hl ⊢; omega)
    refine ⟨m', k1, Sst.trans ?_ k2, Ev.succ ?_⟩
    · have := (ins_sst (q1 := q1) hw g2).app (Sst.refl (lt := ltcEntry c) m)
      simpa using this
    · have h1 : decide (((p ++ (q1 ++ q2)).length : Int) < (b : Int)) = true := decide_eq_true (by simp only [List.length_append] at hb ⊢; omega)
      have h2 : w64 (((p ++ (q1 ++ q2)).length : Int) + 1) = ((p ++ (q1 ++ x :: q2)).length : Int) := by
        simp only [List.length_append, List.length_cons] at hl' ⊢
        rw [w64_of (by omega) (by omega)]
        omega
      have e1 : p ++ (q1 ++ q2) ++ x :: m ++ s = p ++ (q1 ++ q2) ++ x :: (m ++ s) := by simp
      subst ha
      simp only [slices_insertionSortCmpFunc_Entry.l0, h1, if_true, Jn, e1]
      refine g3.ev (J := fun k l => slices_insertionSortCmpFunc_Entry.l0 (p.length : Int) (b : Int) cmp k l (w64 (((p ++ (q1 ++ q2)).length : Int) + 1))) ?_
      simp only [h2]
      have e2 : p ++ q1 ++ x :: q2 ++ (m ++ s) = p ++ (q1 ++ x :: q2) ++ m ++ s := by simp
      rw [e2]
      exact k3
theorem ins_Entry (hc : ∀ x y, cmp x y = some (c x y)) (hw : Wo (ltcEntry c)) {a b : Nat} (m p s : List Entry) (ha : p.length = a) (hb : (p ++ m).length = b) (hl : (p ++ m ++ s).length ≤ 1152921504606846976) :
    ∃ m', Srt (ltcEntry c) m' ∧ Sst (ltcEntry c) m m' ∧ Ev (fun k => slices_insertionSortCmpFunc_Entry k (p ++ m ++ s) (a : Int) (b : Int) cmp) (p ++ m' ++ s) := by
  have ha9 : w64 ((a : Int) + 1) = ((a + 1 : Nat) : Int) := by simp only [List.length_append] at hl; rw [w64_of (by omega) (by omega)]; omega
  cases m with
  | nil =>
    refine ⟨[], Srt.nil, Sst.refl _, ?_⟩
    have h1 : decide (((a + 1 : Nat) : Int) < (b : Int)) = false := decide_eq_false (by simp at hb; omega)
    simp only [slices_insertionSortCmpFunc_Entry, ha9]
    refine Ev.succ ?_
    simp only [slices_insertionSortCmpFunc_Entry.l0, h1, Bool.false_eq_true, if_false]
    exact Ev.ret
  | cons x m =>
    obtain ⟨m', k1, k2, k3⟩ := ins_l0_Entry hc hw a b m [x] p s (Srt.one x) ha (by simpa using hb) (by simpa using hl)
    refine ⟨m', k1, by simpa using k2, ?_⟩
    simp only [slices_insertionSortCmpFunc_Entry, ha9]
    have e : ((p ++ [x]).length : Int) = ((a + 1 : Nat) : Int) := by simp; omega
    rw [e] at k3
    simpa using k3
theorem swr_l0_Entry (a b : Nat) : ∀ (X2 Y2 X1 Y1 p q s : List Entry), X1.length = Y1.length → X2.length = Y2.length → p.length = a → (p ++ Y1 ++ X2 ++ q).length = b → (p ++ Y1 ++ X2 ++ q ++ X1 ++ Y2 ++ s).length ≤ 1152921504606846976 →
    Ev (fun k => slices_swapRangeCmpFunc_Entry.l0 (a : Int) (b : Int) ((X1 ++ X2).length : Int) k (p ++ Y1 ++ X2 ++ q ++ X1 ++ Y2 ++ s) (X1.length : Int)) (p ++ (Y1 ++ Y2) ++ q ++ (X1 ++ X2) ++ s) := by
  intro X2
  induction X2 with
  | nil =>
    intro Y2 X1 Y1 p q s h1 h2 ha hb hl
    obtain rfl : Y2 = [] := List.eq_nil_of_length_eq_zero h2.symm
    refine Ev.succ ?_
    have h1 : decide ((X1.length : Int) < ((X1 ++ ([] : List Entry)).length : Int)) = false := by simp
    simp only [slices_swapRangeCmpFunc_Entry.l0, h1, Bool.false_eq_true, if_false]
    simpa using Ev.ret
  | cons x X2 ih =>
    intro Y2 X1 Y1 p q s h1 h2 ha hb hl
    cases Y2 with
    | nil => simp at h2
    | cons y Y2 =>
      have hl' := hl
      have hb' := hb
      simp only [List.length_append, List.length_cons] at hl' hb' h2
      have g1 : decide ((X1.length : Int) < ((X1 ++ x :: X2).length : Int)) = true := decide_eq_true (by simp only [List.length_append, List.length_cons]; omega)
      have i1 : w64 ((b : Int) + (X1.length : Int)) = ((p ++ Y1 ++ x :: X2 ++ q ++ X1).length : Int) := by
        simp only [List.length_append, List.length_cons]
        rw [w64_of (by omega) (by omega)]
        omega
      have i2 : w64 ((a : Int) + (X1.length : Int)) = ((p ++ Y1).length : Int) := by
        simp only [List.length_append, List.length_cons]
        rw [w64_of (by omega) (by omega)]
        omega
      have i3 : w64 ((X1.length : Int) + 1) = ((X1 ++ [x]).length : Int) := by
        simp only [List.length_append, List.length_cons, List.length_nil]
        rw [w64_of (by omega) (by omega)]
        omega
      have e1 : idx (p ++ Y1 ++ x :: X2 ++ q ++ X1 ++ y :: Y2 ++ s) ((p ++ Y1 ++ x :: X2 ++ q ++ X1).length : Int) = some y := idx_as (p := p ++ Y1 ++ x :: X2 ++ q ++ X1) (s := Y2 ++ s) (by simp) rfl
      have e2 : idx (p ++ Y1 ++ x :: X2 ++ q ++ X1 ++ y :: Y2 ++ s) ((p ++ Y1).length : Int) = some x := idx_as (p := p ++ Y1) (s := X2 ++ q ++ X1 ++ y :: Y2 ++ s) (by simp) rfl
      have e3 : upd (p ++ Y1 ++ x :: X2 ++ q ++ X1 ++ y :: Y2 ++ s) ((p ++ Y1).length : Int) y = some (p ++ Y1 ++ y :: (X2 ++ q ++ X1 ++ y :: Y2 ++ s)) := upd_as (p := p ++ Y1) (x := x) (s := X2 ++ q ++ X1 ++ y :: Y2 ++ s) y (by simp) rfl
      have e4 : idx (p ++ Y1 ++ y :: (X2 ++ q ++ X1 ++ y :: Y2 ++ s)) ((p ++ Y1 ++ x :: X2 ++ q ++ X1).length : Int) = some y := idx_as (p := p ++ Y1 ++ y :: X2 ++ q ++ X1) (s := Y2 ++ s) (by simp) (by simp)
      have e5 : upd (p ++ Y1 ++ y :: (X2 ++ q ++ X1 ++ y :: Y2 ++ s)) ((p ++ Y1 ++ x :: X2 ++ q ++ X1).length : Int) x = some (p ++ Y1 ++ y :: X2 ++ q ++ X1 ++ x :: (Y2 ++ s)) := upd_as (p := p ++ Y1 ++ y :: X2 ++ q ++ X1) (x := y) (s := Y2 ++ s) x (by simp) (by simp)
      refine Ev.succ ?_
      simp only [slices_swapRangeCmpFunc_Entry.l0, g1, if_true, i1, i2, i3, e1, e2, e3, e4, e5, Option.bind_some]
      have := ih Y2 (X1 ++ [x]) (Y1 ++ [y]) p q s (by simp; omega) (by omega) ha (by simp at hb' ⊢; omega) (by simp at hl' ⊢; omega)
      simpa using this
theorem swr_Entry {a b n : Nat} (X Y p q s : List Entry) (h : X.length = Y.length) (hn : X.length = n) (ha : p.length = a) (hb : (p ++ X ++ q).length = b) (hl : (p ++ X ++ q ++ Y ++ s).length ≤ 1152921504606846976) :
    Ev (fun k => slices_swapRangeCmpFunc_Entry k (p ++ X ++ q ++ Y ++ s) (a : Int) (b : Int) (n : Int) cmp) (p ++ Y ++ q ++ X ++ s) := by
  have := swr_l0_Entry a b X Y [] [] p q s rfl h ha (by simpa using hb) (by simpa using hl)
  subst hn
  simpa [slices_swapRangeCmpFunc_Entry] using this
theorem rot_l0_Entry : ∀ (n : Nat) (U V p s : List Entry) (m i j : Nat), U.length + V.length ≤ n → U.length = i → V.length = j → 0 < i → 0 < j → (p ++ U).length = m → (p ++ U ++ V ++ s).length ≤ 1152921504606846976 →
    Ev (fun k => slices_rotateCmpFunc_Entry.l0 (m : Int) cmp k (p ++ U ++ V ++ s) (i : Int) (j : Int)) (p ++ V ++ U ++ s) := by
  intro n
  induction n with
  | zero => intro U V p s m i j hn hi hj i0 j0 hm hl; omega
  | succ n ih =>
    intro U V p s m i j hn hi hj i0 j0 hm hl
    have hl' := hl
    simp only [List.length_append] at hl' hm
    have w1 : w64 ((m : Int) - (i : Int)) = ((m - i : Nat) : Int) := by rw [w64_of (by omega) (by omega)]; omega
    have w2 : w64 ((m : Int) + (j : Int)) = ((m + j : Nat) : Int) := by rw [w64_of (by omega) (by omega)]; omega
    refine Ev.succ ?_
    by_cases hij : i = j
    · subst hij
      have c1 : ((i : Int) != (i : Int)) = false := by simp
      simp only [slices_rotateCmpFunc_Entry.l0, c1, Bool.false_eq_true, if_false, w1]
      have := swr_Entry (cmp := cmp) (a := m - i) (b := m) (n := i) U V p [] s (by omega) hi (by omega) (by simp; omega) (by simpa using hl)
      simp only [List.append_nil] at this
      exact this.bind Ev.ret
    · have c1 : ((i : Int) != (j : Int)) = true := by simp; omega
      by_cases hlt : j < i
      · have c2 : decide ((j : Int) < (i : Int)) = true := decide_eq_true (by omega)
        have w3 : w64 ((i : Int) - (j : Int)) = ((i - j : Nat) : Int) := by rw [w64_of (by omega) (by omega)]; omega
        simp only [slices_rotateCmpFunc_Entry.l0, c1, c2, if_true, w1, w3]
        obtain ⟨U1, U2, rfl, hU⟩ : ∃ U1 U2, U = U1 ++ U2 ∧ U1.length = j := ⟨U.take j, U.drop j, (List.take_append_drop _ _).symm, by simp; omega⟩
        simp only [List.length_append] at hi hn hm hl'
        have := swr_Entry (cmp := cmp) (a := m - i) (b := m) (n := j) U1 V p U2 s (by omega) hU (by omega) (by simp; omega) (by simpa using hl)
        have e : p ++ (U1 ++ U2) ++ V ++ s = p ++ U1 ++ U2 ++ V ++ s := by simp
        rw [e]
        refine this.bind ?_
        have h2 := ih U2 U1 (p ++ V) s m (i - j) j (by omega) (by omega) hU (by omega) j0 (by simp; omega) (by simp; omega)
        exact h2.to (by simp)
      · have c2 : decide ((j : Int) < (i : Int)) = false := decide_eq_false (by omega)
        have w3 : w64 ((j : Int) - (i : Int)) = ((j - i : Nat) : Int) := by rw [w64_of (by omega) (by omega)]; omega
        have w4 : w64 (((m + j : Nat) : Int) - (i : Int)) = ((m + j - i : Nat) : Int) := by rw [w64_of (by omega) (by omega)]; omega
        simp only [slices_rotateCmpFunc_Entry.l0, c1, c2, if_true, Bool.false_eq_true, if_false, w1, w2, w3, w4]
        obtain ⟨V1, V2, rfl, hV⟩ : ∃ V1 V2, V = V1 ++ V2 ∧ V2.length = i := ⟨V.take (j - i), V.drop (j - i), (List.take_append_drop _ _).symm, by simp; omega⟩
        simp only [List.length_append] at hj hn hm hl'
        have := swr_Entry (cmp := cmp) (a := m - i) (b := m + j - i) (n := i) U V2 p V1 s (by omega) hi (by omega) (by simp; omega) (by simpa using hl)
        have e : p ++ U ++ (V1 ++ V2) ++ s = p ++ U ++ V1 ++ V2 ++ s := by simp
        rw [e]
        refine this.bind ?_
        have h2 := ih V2 V1 p (U ++ s) m i (j - i) (by omega) hV (by omega) i0 (by omega) (by simp; omega) (by simp; omega)
        have e2 : p ++ V2 ++ V1 ++ U ++ s = p ++ V2 ++ V1 ++ (U ++ s) := by simp
        rw [e2]
        exact h2.to (by simp)
theorem rot_Entry {a m b : Nat} (U V p s : List Entry) (ha : p.length = a) (hm : (p ++ U).length = m) (hb : (p ++ U ++ V).length = b) (hU : 0 < U.length) (hV : 0 < V.length) (hl : (p ++ U ++ V ++ s).length ≤ 1152921504606846976) :
    Ev (fun k => slices_rotateCmpFunc_Entry k (p ++ U ++ V ++ s) (a : Int) (m : Int) (b : Int) cmp) (p ++ V ++ U ++ s) := by
  have hl' := hl
  simp only [List.length_append] at hl' hm hb
  have w1 : w64 ((m : Int) - (a : Int)) = ((m - a : Nat) : Int) := by rw [w64_of (by omega) (by omega)]; omega
  have w2 : w64 ((b : Int) - (m : Int)) = ((b - m : Nat) : Int) := by rw [w64_of (by omega) (by omega)]; omega
  simp only [slices_rotateCmpFunc_Entry, w1, w2]
  exact rot_l0_Entry _ U V p s m _ _ (Nat.le_refl _) (by omega) (by omega) (by omega) (by omega) (by simpa using hm) hl
theorem mvr_Entry : ∀ (V p s : List Entry) (x : Entry) (t : Nat), (p ++ V).length + 1 = t → (p ++ x :: V ++ s).length ≤ 1152921504606846976 →
    EvC (fun J k => slices_symMergeCmpFunc_Entry.l3 (t : Int) J k (p ++ x :: V ++ s) (p.length : Int)) (p ++ V ++ x :: s) := by
  intro V
  induction V with
  | nil =>
    intro p s x t ht hl
    simp only [List.length_append, List.length_cons, List.length_nil] at ht hl
    refine EvC.succ ?_
    have w : w64 ((t : Int) - 1) = ((p.length : Nat) : Int) := by rw [w64_of (by omega) (by omega)]; omega
    have h1 : decide ((p.length : Int) < (p.length : Int)) = false := by simp
    simp only [slices_symMergeCmpFunc_Entry.l3, w, h1, Bool.false_eq_true, if_false]
    exact EvC.ret.to (by simp)
  | cons y V ih =>
    intro p s x t ht hl
    have hl' := hl
    simp only [List.length_append, List.length_cons] at ht hl'
    have w : w64 ((t : Int) - 1) = ((t - 1 : Nat) : Int) := by rw [w64_of (by omega) (by omega)]; omega
    have w2 : w64 ((p.length : Int) + 1) = ((p ++ [y]).length : Int) := by simp only [List.length_append, List.length_cons, List.length_nil]; rw [w64_of (by omega) (by omega)]; omega
    have h1 : decide ((p.length : Int) < ((t - 1 : Nat) : Int)) = true := decide_eq_true (by omega)
    have e1 : idx (p ++ x :: y :: V ++ s) ((p ++ [y]).length : Int) = some y := idx_as (p := p ++ [x]) (s := V ++ s) (by simp) (by simp)
    have e2 : idx (p ++ x :: y :: V ++ s) (p.length : Int) = some x := idx_as (p := p) (s := y :: V ++ s) (by simp) rfl
    have e3 : upd (p ++ x :: y :: V ++ s) (p.length : Int) y = some (p ++ y :: (y :: V ++ s)) := upd_as (p := p) (x := x) (s := y :: V ++ s) y (by simp) rfl
    have e4 : idx (p ++ y :: (y :: V ++ s)) ((p ++ [y]).length : Int) = some y := idx_as (p := p ++ [y]) (s := V ++ s) (by simp) rfl
    have e5 : upd (p ++ y :: (y :: V ++ s)) ((p ++ [y]).length : Int) x = some (p ++ [y] ++ x :: (V ++ s)) := upd_as (p := p ++ [y]) (x := y) (s := V ++ s) x (by simp) rfl
    have := ih (p ++ [y]) s x t (by simp only [List.length_append, List.length_cons, List.length_nil]; omega) (by simp only [List.length_append, List.length_cons, List.length_nil]; omega)
    refine EvC.succ ?_
    simp only [slices_symMergeCmpFunc_Entry.l3, w, w2, h1, if_true, e1, e2, e3, e4, e5, Option.bind_some]
    have e6 : p ++ [y] ++ x :: (V ++ s) = p ++ [y] ++ x :: V ++ s := by simp
    rw [e6]
    exact this.to (by simp)
theorem mvl_Entry : ∀ (n : Nat) (U p s : List Entry) (y : Entry), U.length = n → (p ++ U ++ y :: s).length ≤ 1152921504606846976 →
    EvC (fun J k => slices_symMergeCmpFunc_Entry.l1 (p.length : Int) J k (p ++ U ++ y :: s) ((p ++ U).length : Int)) (p ++ y :: U ++ s) := by
  intro n
  induction n with
  | zero =>
    intro U p s y hU hl
    obtain rfl : U = [] := List.eq_nil_of_length_eq_zero hU
    refine EvC.succ ?_
    have h1 : decide ((p.length : Int) < ((p ++ ([] : List Entry)).length : Int)) = false := by simp
    simp only [slices_symMergeCmpFunc_Entry.l1, h1, Bool.false_eq_true, if_false]
    exact EvC.ret.to (by simp)
  | succ n ih =>
    intro U p s y hU hl
    rcases nil_or_snoc U with rfl | ⟨U, x, rfl⟩
    · simp at hU
    have hl' := hl
    simp only [List.length_append, List.length_cons, List.length_nil] at hU hl'
    have w : w64 (((p ++ (U ++ [x])).length : Int) - 1) = ((p ++ U).length : Int) := by simp only [List.length_append, List.length_cons, List.length_nil]; rw [w64_of (by omega) (by omega)]; omega
    have h1 : decide ((p.length : Int) < ((p ++ (U ++ [x])).length : Int)) = true := decide_eq_true (by simp only [List.length_append, List.length_cons, List.length_nil]; omega)
    have e1 : idx (p ++ (U ++ [x]) ++ y :: s) ((p ++ U).length : Int) = some x := idx_as (p := p ++ U) (s := y :: s) (by simp) rfl
    have e2 : idx (p ++ (U ++ [x]) ++ y :: s) ((p ++ (U ++ [x])).length : Int) = some y := idx_at _ _ _
    have e3 : upd (p ++ (U ++ [x]) ++ y :: s) ((p ++ (U ++ [x])).length : Int) x = some (p ++ (U ++ [x]) ++ x :: s) := upd_at _ _ _ _
    have e4 : idx (p ++ (U ++ [x]) ++ x :: s) ((p ++ U).length : Int) = some x := idx_as (p := p ++ U) (s := x :: s) (by simp) rfl
    have e5 : upd (p ++ (U ++ [x]) ++ x :: s) ((p ++ U).length : Int) y = some (p ++ U ++ y :: (x :: s)) := upd_as (p := p ++ U) (x := x) (s := x :: s) y (by simp) rfl
    have := ih U p (x :: s) y (by omega) (by simp only [List.length_append, List.length_cons]; omega)
    refine EvC.succ ?_
    simp only [slices_symMergeCmpFunc_Entry.l1, w, h1, if_true, e1, e2, e3, e4, e5, Option.bind_some]
    exact this.to (by simp)
set_option maxHeartbeats 4000000 in
theorem sym_Entry (hc : ∀ x y, cmp x y = some (c x y)) (hw : Wo (ltcEntry c)) : ∀ (n : Nat) (U V p s : List Entry) (a m b : Nat), U.length + V.length ≤ n → 0 < U.length → 0 < V.length → Srt (ltcEntry c) U → Srt (ltcEntry c) V →
    p.length = a → (p ++ U).length = m → (p ++ U ++ V).length = b → (p ++ U ++ V ++ s).length ≤ 1152921504606846976 →
    ∃ M, Srt (ltcEntry c) M ∧ Sst (ltcEntry c) (U ++ V) M ∧ Ev (fun k => slices_symMergeCmpFunc_Entry k (p ++ U ++ V ++ s) (a : Int) (m : Int) (b : Int) cmp) (p ++ M ++ s) := by
  intro n
  induction n with
  | zero => intro U V p s a m b hn hU hV; omega
  | succ n ih =>
    intro U V p s a m b hn hU hV sU sV ha hm hb hl
    have hl' := hl
    simp only [List.length_append] at hl' hm hb
    have wma : w64 ((m : Int) - (a : Int)) = ((m - a : Nat) : Int) := by rw [w64_of (by omega) (by omega)]; omega
    have wbm : w64 ((b : Int) - (m : Int)) = ((b - m : Nat) : Int) := by rw [w64_of (by omega) (by omega)]; omega
    by_cases c1 : m - a = 1
    · -- one ahead
      obtain ⟨x, rfl⟩ : ∃ x, U = [x] := List.length_eq_one_iff.1 (by omega)
      have hx : idx (p ++ [x] ++ V ++ s) (a : Int) = some x := idx_as (p := p) (s := V ++ s) (by simp) (by omega)
      let P : Nat → Prop := fun h => c ((p ++ [x] ++ V ++ s).getD h x) x < 0
      letI : DecidablePred P := fun h => inferInstanceAs (Decidable (c ((p ++ [x] ++ V ++ s).getD h x) x < 0))
      obtain ⟨t, t1, t2, t3, t4, t5⟩ := bsearch P (fun J k i j => slices_symMergeCmpFunc_Entry.l4 (p ++ [x] ++ V ++ s) (a : Int) cmp J k i j) m b
        (by intro J k i; simp [slices_symMergeCmpFunc_Entry.l4])
        (by
          intro J k i j h1 h2 h3
          have e : decide ((i : Int) < (j : Int)) = true := decide_eq_true (by omega)
          have hq : (i + j) / 2 < (p ++ [x] ++ V ++ s).length := by simp only [List.length_append]; omega
          have w1 : w64 ((((i + j) / 2 : Nat) : Int) + 1) = (((i + j) / 2 + 1 : Nat) : Int) := by rw [w64_of (by omega) (by omega)]; omega
          simp only [slices_symMergeCmpFunc_Entry.l4, e, if_true, mid_eq (i := i) (j := j) (by omega), getD_idx2 x hq, hx, Option.bind_some, hc, w1, decide_eq_true_eq]
          rfl) _ m b (Nat.le_refl _) (Nat.le_refl _) (by omega) (Nat.le_refl _) (.inl rfl) (.inl rfl)
      obtain ⟨V1, V2, rfl, hV1⟩ : ∃ V1 V2, V = V1 ++ V2 ∧ V1.length = t - m := ⟨V.take (t - m), V.drop (t - m), (List.take_append_drop _ _).symm, by simp; omega⟩
      simp only [List.length_append, List.length_cons, List.length_nil] at hb hm hV
      rw [Srt.app] at sV
      have F1 : ∀ y ∈ V1, ltcEntry c y x := by
        intro y hy
        rcases nil_or_snoc V1 with rfl | ⟨V1, z, rfl⟩
        · simp at hy
        · simp only [List.length_append, List.length_cons, List.length_nil] at hV1
          have hz : c z x < 0 := by
            rcases t3 with e | e
            · omega
            · have := getD_as (l := p ++ [x] ++ (V1 ++ [z] ++ V2) ++ s) (p := p ++ [x] ++ V1) (s := V2 ++ s) (x := z) (d := x) (i := t - 1) (by simp) (by simp; omega)
              simp only [P] at e
              rw [this] at e
              exact e
          have sV1 := Srt.app.1 sV.1
          rcases List.mem_append.1 hy with h | h
          · exact hw.le_lt (sV1.2.2 y h z (by simp)) hz
          · simp at h; subst h; exact hz
      have F2 : ∀ z ∈ V2, ¬ ltcEntry c z x := by
        intro z hz
        cases V2 with
        | nil => simp at hz
        | cons z0 V2 =>
          have hz0 : ¬ c z0 x < 0 := by
            rcases t4 with e | e
            · simp only [List.length_cons] at hb; omega
            · have := getD_as (l := p ++ [x] ++ (V1 ++ z0 :: V2) ++ s) (p := p ++ [x] ++ V1) (s := V2 ++ s) (x := z0) (d := x) (i := t) (by simp) (by simp; omega)
              simp only [P] at e
              rw [this] at e
              exact e
          rcases List.mem_cons.1 hz with h | h
          · subst h; exact hz0
          · exact hw.neg z z0 x ((List.pairwise_cons.1 sV.2.1).1 z h) hz0
      refine ⟨V1 ++ x :: V2, ?_, ?_, Ev.succ ?_⟩
      · refine Srt.app.2 ⟨sV.1, List.pairwise_cons.2 ⟨F2, sV.2.1⟩, fun y hy z hz => ?_⟩
        rcases List.mem_cons.1 hz with h | h
        · subst h; exact hw.asymm _ _ (F1 y hy)
        · exact sV.2.2 y hy z h
      · have := (Sst.swap (lt := ltcEntry c) hw (u := [x]) (v := V1) (fun q hq y hy => by simp at hq; subst hq; exact F1 y hy)).app (Sst.refl V2)
        simpa using this
      · have e1 : ((((m - a : Nat) : Int)) == 1) = true := by simp; omega
        simp only [slices_symMergeCmpFunc_Entry, Jn, wma, e1, if_true]
        refine t5.ev (J := fun k i => slices_symMergeCmpFunc_Entry.l3 i (fun l => some l) k (p ++ [x] ++ (V1 ++ V2) ++ s) (a : Int)) ?_
        have h3 := mvr_Entry V1 p (V2 ++ s) x t (by simp; omega) (by simp at hl ⊢; omega)
        have h4 := h3.ev (J := fun k l => some l) Ev.ret
        subst ha
        simpa using h4
    by_cases c2 : b - m = 1
    · -- one behind
      obtain ⟨y, rfl⟩ : ∃ y, V = [y] := List.length_eq_one_iff.1 (by omega)
      have hy : idx (p ++ U ++ [y] ++ s) (m : Int) = some y := idx_as (p := p ++ U) (s := s) (by simp) (by simp; omega)
      let P : Nat → Prop := fun h => ¬ c y ((p ++ U ++ [y] ++ s).getD h y) < 0
      letI : DecidablePred P := fun h => inferInstanceAs (Decidable (¬ c y ((p ++ U ++ [y] ++ s).getD h y) < 0))
      obtain ⟨t, t1, t2, t3, t4, t5⟩ := bsearch P (fun J k i j => slices_symMergeCmpFunc_Entry.l2 (p ++ U ++ [y] ++ s) (m : Int) cmp J k i j) a m
        (by intro J k i; simp [slices_symMergeCmpFunc_Entry.l2])
        (by
          intro J k i j h1 h2 h3
          have e : decide ((i : Int) < (j : Int)) = true := decide_eq_true (by omega)
          have hq : (i + j) / 2 < (p ++ U ++ [y] ++ s).length := by simp only [List.length_append]; omega
          have w1 : w64 ((((i + j) / 2 : Nat) : Int) + 1) = (((i + j) / 2 + 1 : Nat) : Int) := by rw [w64_of (by omega) (by omega)]; omega
          simp only [slices_symMergeCmpFunc_Entry.l2, e, if_true, mid_eq (i := i) (j := j) (by omega), getD_idx2 y hq, hy, Option.bind_some, hc, w1, Bool.not_eq_true', decide_eq_false_iff_not]
          rfl) _ a m (Nat.le_refl _) (Nat.le_refl _) (by omega) (Nat.le_refl _) (.inl rfl) (.inl rfl)
      obtain ⟨U1, U2, rfl, hU1⟩ : ∃ U1 U2, U = U1 ++ U2 ∧ U1.length = t - a := ⟨U.take (t - a), U.drop (t - a), (List.take_append_drop _ _).symm, by simp; omega⟩
      simp only [List.length_append, List.length_cons, List.length_nil] at hb hm hU
      have sU' := Srt.app.1 sU
      have F1 : ∀ u ∈ U1, ¬ ltcEntry c y u := by
        intro u hu
        rcases nil_or_snoc U1 with rfl | ⟨U1, z, rfl⟩
        · simp at hu
        · simp only [List.length_append, List.length_cons, List.length_nil] at hU1
          have hz : ¬ c y z < 0 := by
            rcases t3 with e | e
            · omega
            · have := getD_as (l := p ++ (U1 ++ [z] ++ U2) ++ [y] ++ s) (p := p ++ U1) (s := U2 ++ [y] ++ s) (x := z) (d := y) (i := t - 1) (by simp) (by simp; omega)
              simp only [P] at e
              rw [this] at e
              exact e
          have sV1 := Srt.app.1 sU'.1
          rcases List.mem_append.1 hu with h | h
          · exact hw.neg y z u hz (sV1.2.2 u h z (by simp))
          · simp at h; subst h; exact hz
      have F2 : ∀ u ∈ U2, ltcEntry c y u := by
        intro z hz
        cases U2 with
        | nil => simp at hz
        | cons z0 U2 =>
          have hz0 : c y z0 < 0 := by
            rcases t4 with e | e
            · simp only [List.length_cons] at hm; omega
            · have := getD_as (l := p ++ (U1 ++ z0 :: U2) ++ [y] ++ s) (p := p ++ U1) (s := U2 ++ [y] ++ s) (x := z0) (d := y) (i := t) (by simp) (by simp; omega)
              simp only [P] at e
              rw [this] at e
              exact Decidable.not_not.1 e
          rcases List.mem_cons.1 hz with h | h
          · subst h; exact hz0
          · exact hw.lt_le hz0 ((List.pairwise_cons.1 sU'.2.1).1 z h)
      refine ⟨U1 ++ y :: U2, ins_srt hw sU F1 F2, ins_sst hw F2, Ev.succ ?_⟩
      have e1 : ((((m - a : Nat) : Int)) == 1) = false := by simp; omega
      have e2 : ((((b - m : Nat) : Int)) == 1) = true := by simp; omega
      simp only [slices_symMergeCmpFunc_Entry, Jn, wma, wbm, e1, e2, if_true, Bool.false_eq_true, if_false]
      refine t5.ev (J := fun k i => slices_symMergeCmpFunc_Entry.l1 i (fun l => some l) k (p ++ (U1 ++ U2) ++ [y] ++ s) (m : Int)) ?_
      have h3 := mvl_Entry U2.length U2 (p ++ U1) s y rfl (by simp at hl ⊢; omega)
      have h4 := h3.ev (J := fun k l => some l) Ev.ret
      have e3 : ((p ++ U1).length : Int) = (t : Int) := by simp; omega
      have e4 : ((p ++ U1 ++ U2).length : Int) = (m : Int) := by simp; omega
      rw [e3, e4] at h4
      simpa using h4
    -- both long
    have ha9 : p.length = a := ha
    obtain ⟨d, U', hUd⟩ : ∃ d U', U = d :: U' := by cases U with | nil => simp at hU | cons d U' => exact ⟨d, U', rfl⟩
    have wmid : w64 ((wu64 (w64 ((a : Int) + (b : Int)))) / 2 ^ (Int.toNat 1)) = (((a + b) / 2 : Nat) : Int) := mid_eq (by omega)
    obtain ⟨mid, hmid⟩ : ∃ mid, mid = (a + b) / 2 := ⟨_, rfl⟩
    rw [← hmid] at wmid
    have wn : w64 ((mid : Int) + (m : Int)) = ((mid + m : Nat) : Int) := by rw [w64_of (by omega) (by omega)]; omega
    have wp : w64 (((mid + m : Nat) : Int) - 1) = ((mid + m - 1 : Nat) : Int) := by rw [w64_of (by omega) (by omega)]; omega
    have wst : mid < m → w64 (((mid + m : Nat) : Int) - (b : Int)) = ((mid + m - b : Nat) : Int) := fun h => by rw [w64_of (by omega) (by omega)]; omega
    obtain ⟨i0, hi0⟩ : ∃ i0, i0 = if mid < m then mid + m - b else a := ⟨_, rfl⟩
    obtain ⟨j0, hj0⟩ : ∃ j0, j0 = if mid < m then mid else m := ⟨_, rfl⟩
    have hij : i0 ≤ j0 ∧ a ≤ i0 ∧ j0 ≤ m ∧ (i0 < j0 → mid + m - 1 - i0 < b ∧ m ≤ mid + m - j0) := by
      by_cases h : mid < m
      · rw [if_pos h] at hi0 hj0; omega
      · rw [if_neg h] at hi0 hj0; omega
    let P : Nat → Prop := fun h => ¬ c ((p ++ U ++ V ++ s).getD (mid + m - 1 - h) d) ((p ++ U ++ V ++ s).getD h d) < 0
    letI : DecidablePred P := fun h => inferInstanceAs (Decidable (¬ c ((p ++ U ++ V ++ s).getD (mid + m - 1 - h) d) ((p ++ U ++ V ++ s).getD h d) < 0))
    obtain ⟨t, t1, t2, t3, t4, t5⟩ := bsearch (R := List Entry) P (fun J k i j => slices_symMergeCmpFunc_Entry.l0 (p ++ U ++ V ++ s) (a : Int) (m : Int) (b : Int) cmp J k i j) i0 j0
      (by intro J k i; simp [slices_symMergeCmpFunc_Entry.l0])
      (by
        intro J k i j h1 h2 h3
        have e : decide ((i : Int) < (j : Int)) = true := decide_eq_true (by omega)
        have hq : (i + j) / 2 < (p ++ U ++ V ++ s).length := by simp only [List.length_append]; omega
        have hq2 : mid + m - 1 - (i + j) / 2 < (p ++ U ++ V ++ s).length := by simp only [List.length_append]; have := hij.2.2.2 (by omega); omega
        have w1 : w64 ((((i + j) / 2 : Nat) : Int) + 1) = (((i + j) / 2 + 1 : Nat) : Int) := by rw [w64_of (by omega) (by omega)]; omega
        have w2 : w64 (((mid + m - 1 : Nat) : Int) - (((i + j) / 2 : Nat) : Int)) = ((mid + m - 1 - (i + j) / 2 : Nat) : Int) := by have := hij.2.2.2 (by omega); rw [w64_of (by omega) (by omega)]; omega
        simp only [slices_symMergeCmpFunc_Entry.l0, e, if_true, wmid, wn, wp, mid_eq (i := i) (j := j) (by omega), w2, getD_idx2 d hq, getD_idx2 d hq2, Option.bind_some, hc, w1, Bool.not_eq_true', decide_eq_false_iff_not]
        rfl) _ i0 j0 (Nat.le_refl _) (Nat.le_refl _) hij.1 (Nat.le_refl _) (.inl rfl) (.inl rfl)
    have htm : t ≤ m ∧ a ≤ t ∧ t ≤ mid ∧ mid + m - t ≤ b := by
      by_cases h : mid < m
      · rw [if_pos h] at hi0 hj0; omega
      · rw [if_neg h] at hi0 hj0; omega
    obtain ⟨U1, U2, hUU, hU1⟩ : ∃ U1 U2, U = U1 ++ U2 ∧ U1.length = t - a := ⟨U.take (t - a), U.drop (t - a), (List.take_append_drop _ _).symm, by simp; omega⟩
    obtain ⟨V1, V2, hVV, hV1⟩ : ∃ V1 V2, V = V1 ++ V2 ∧ V1.length = mid - t := ⟨V.take (mid - t), V.drop (mid - t), (List.take_append_drop _ _).symm, by simp; omega⟩
    have lU : U.length = U1.length + U2.length := by rw [hUU]; simp
    have lV : V.length = V1.length + V2.length := by rw [hVV]; simp
    have sU' := sU
    have sV' := sV
    rw [hUU, Srt.app] at sU'
    rw [hVV, Srt.app] at sV'
    have F1 : ∀ v ∈ V1, ∀ u ∈ U2, ltcEntry c v u := by
      intro v hv u hu
      rcases nil_or_snoc V1 with e | ⟨V1', v0, e⟩
      · rw [e] at hv; simp at hv
      cases h2 : U2 with
      | nil => rw [h2] at hu; simp at hu
      | cons u0 U2' =>
        have lV1 : V1.length = V1'.length + 1 := by rw [e]; simp
        have lU2 : U2.length = U2'.length + 1 := by rw [h2]; simp
        have h0 : c v0 u0 < 0 := by
          rcases t4 with g | g
          · by_cases h : mid < m
            · rw [if_pos h] at hi0 hj0; omega
            · rw [if_neg h] at hi0 hj0; omega
          · have g1 := getD_as (l := p ++ U ++ V ++ s) (p := p ++ U1) (s := U2' ++ V ++ s) (x := u0) (d := d) (i := t) (by rw [hUU, h2]; simp) (by simp; omega)
            have g2 := getD_as (l := p ++ U ++ V ++ s) (p := p ++ U ++ V1') (s := V2 ++ s) (x := v0) (d := d) (i := mid + m - 1 - t) (by rw [hVV, e]; simp) (by simp; omega)
            simp only [P] at g
            rw [g1, g2] at g
            exact Decidable.not_not.1 g
        have sV1 := sV'.1
        rw [e, Srt.app] at sV1
        have sU2 := sU'.2.1
        rw [h2] at sU2 hu
        have k1 : ltcEntry c v0 u := by
          rcases List.mem_cons.1 hu with h | h
          · subst h; exact h0
          · exact hw.lt_le h0 ((List.pairwise_cons.1 sU2).1 u h)
        rw [e] at hv
        rcases List.mem_append.1 hv with h | h
        · exact hw.le_lt (sV1.2.2 v h v0 (by simp)) k1
        · simp at h; subst h; exact k1
    have F2 : ∀ u ∈ U1, ∀ v ∈ V2, ¬ ltcEntry c v u := by
      intro u hu v hv
      rcases nil_or_snoc U1 with e | ⟨U1', u0, e⟩
      · rw [e] at hu; simp at hu
      cases h2 : V2 with
      | nil => rw [h2] at hv; simp at hv
      | cons v0 V2' =>
        have lU1 : U1.length = U1'.length + 1 := by rw [e]; simp
        have lV2 : V2.length = V2'.length + 1 := by rw [h2]; simp
        have h0 : ¬ c v0 u0 < 0 := by
          rcases t3 with g | g
          · by_cases h : mid < m
            · rw [if_pos h] at hi0 hj0; omega
            · rw [if_neg h] at hi0 hj0; omega
          · have g1 := getD_as (l := p ++ U ++ V ++ s) (p := p ++ U1') (s := U2 ++ V ++ s) (x := u0) (d := d) (i := t - 1) (by rw [hUU, e]; simp) (by simp; omega)
            have g2 := getD_as (l := p ++ U ++ V ++ s) (p := p ++ U ++ V1) (s := V2' ++ s) (x := v0) (d := d) (i := mid + m - 1 - (t - 1)) (by rw [hVV, h2]; simp) (by simp; omega)
            simp only [P] at g
            rw [g1, g2] at g
            exact g
        have sU1 := sU'.1
        rw [e, Srt.app] at sU1
        have sV2 := sV'.2.1
        rw [h2] at sV2 hv
        have k1 : ¬ ltcEntry c v u0 := by
          rcases List.mem_cons.1 hv with h | h
          · subst h; exact h0
          · exact hw.neg v v0 u0 ((List.pairwise_cons.1 sV2).1 v h) h0
        rw [e] at hu
        rcases List.mem_append.1 hu with h | h
        · exact hw.neg v u0 u k1 (sU1.2.2 u h u0 (by simp))
        · simp at h; subst h; exact k1
    have we : w64 (((mid + m : Nat) : Int) - (t : Int)) = ((mid + m - t : Nat) : Int) := by rw [w64_of (by omega) (by omega)]; omega
    -- left
    have hL : ∃ M1, Srt (ltcEntry c) M1 ∧ Sst (ltcEntry c) (U1 ++ V1) M1 ∧ ((decide ((a : Int) < (t : Int)) && decide ((t : Int) < (mid : Int))) = true → Ev (fun k => slices_symMergeCmpFunc_Entry k (p ++ (U1 ++ V1) ++ (U2 ++ V2 ++ s)) (a : Int) (t : Int) (mid : Int) cmp) (p ++ M1 ++ (U2 ++ V2 ++ s))) ∧
        (¬ (decide ((a : Int) < (t : Int)) && decide ((t : Int) < (mid : Int))) = true → U1 ++ V1 = M1) := by
      by_cases h : a < t ∧ t < mid
      · obtain ⟨M, k1, k2, k3⟩ := ih U1 V1 p (U2 ++ V2 ++ s) a t mid (by omega) (by omega) (by omega) sU'.1 sV'.1 ha9 (by simp; omega) (by simp; omega) (by simp; omega)
        refine ⟨M, k1, k2, fun _ => ?_, fun hn => absurd ?_ hn⟩
        · simpa using k3
        · rw [Bool.and_eq_true, decide_eq_true_eq, decide_eq_true_eq]; omega
      · refine ⟨U1 ++ V1, ?_, Sst.refl _, fun hn => absurd ?_ h, fun _ => rfl⟩
        · by_cases hz : U1 = []
          · rw [hz]; exact sV'.1
          · have : V1 = [] := List.eq_nil_of_length_eq_zero (by have := List.length_pos_iff.2 hz; omega)
            rw [this, List.append_nil]; exact sU'.1
        · rw [Bool.and_eq_true, decide_eq_true_eq, decide_eq_true_eq] at hn; omega
    obtain ⟨M1, m1, m2, m3, m4⟩ := hL
    have lM1 : M1.length = mid - a := by have := m2.len; simp at this; omega
    have hR : ∃ M2, Srt (ltcEntry c) M2 ∧ Sst (ltcEntry c) (U2 ++ V2) M2 ∧ ((decide ((mid : Int) < ((mid + m - t : Nat) : Int)) && decide (((mid + m - t : Nat) : Int) < (b : Int))) = true → Ev (fun k => slices_symMergeCmpFunc_Entry k (p ++ M1 ++ (U2 ++ V2 ++ s)) (mid : Int) ((mid + m - t : Nat) : Int) (b : Int) cmp) (p ++ M1 ++ (M2 ++ s))) ∧
        (¬ (decide ((mid : Int) < ((mid + m - t : Nat) : Int)) && decide (((mid + m - t : Nat) : Int) < (b : Int))) = true → U2 ++ V2 = M2) := by
      by_cases h : mid < mid + m - t ∧ mid + m - t < b
      · obtain ⟨M, k1, k2, k3⟩ := ih U2 V2 (p ++ M1) s mid (mid + m - t) b (by omega) (by omega) (by omega) sU'.2.1 sV'.2.1 (by simp; omega) (by simp; omega) (by simp; omega) (by simp; omega)
        refine ⟨M, k1, k2, fun _ => ?_, fun hn => absurd ?_ hn⟩
        · simpa using k3
        · rw [Bool.and_eq_true, decide_eq_true_eq, decide_eq_true_eq]; omega
      · refine ⟨U2 ++ V2, ?_, Sst.refl _, fun hn => absurd ?_ h, fun _ => rfl⟩
        · by_cases hz : U2 = []
          · rw [hz]; exact sV'.2.1
          · have : V2 = [] := List.eq_nil_of_length_eq_zero (by have := List.length_pos_iff.2 hz; omega)
            rw [this, List.append_nil]; exact sU'.2.1
        · rw [Bool.and_eq_true, decide_eq_true_eq, decide_eq_true_eq] at hn; omega
    obtain ⟨M2, n1, n2, n3, n4⟩ := hR
    refine ⟨M1 ++ M2, ?_, ?_, Ev.succ ?_⟩
    · refine Srt.app.2 ⟨m1, n1, fun x hx y hy => ?_⟩
      have hx' := m2.1.mem_iff.2 hx
      have hy' := n2.1.mem_iff.2 hy
      rcases List.mem_append.1 hx' with g | g <;> rcases List.mem_append.1 hy' with k | k
      · exact sU'.2.2 x g y k
      · exact F2 x g y k
      · exact hw.asymm _ _ (F1 x g y k)
      · exact sV'.2.2 x g y k
    · have k1 : Sst (ltcEntry c) (U1 ++ (U2 ++ V1) ++ V2) (U1 ++ (V1 ++ U2) ++ V2) := ((Sst.refl U1).app (Sst.swap hw fun x hx y hy => F1 y hy x hx)).app (Sst.refl V2)
      have k2 := m2.app n2
      rw [hUU, hVV]
      have e1 : U1 ++ U2 ++ (V1 ++ V2) = U1 ++ (U2 ++ V1) ++ V2 := by simp
      have e2 : U1 ++ V1 ++ (U2 ++ V2) = U1 ++ (V1 ++ U2) ++ V2 := by simp
      rw [e1]
      rw [e2] at k2
      exact k1.trans k2
    · have e1 : ((((m - a : Nat) : Int)) == 1) = false := by simp; omega
      have e2 : ((((b - m : Nat) : Int)) == 1) = false := by simp; omega
      have hgo : Ev (fun k => slices_symMergeCmpFunc_Entry.l0 (p ++ U ++ V ++ s) (a : Int) (m : Int) (b : Int) cmp (fun i_120 => if (decide (i_120 < (m : Int)) && decide ((m : Int) < w64 (((mid + m : Nat) : Int) - i_120))) = true then (slices_rotateCmpFunc_Entry k (p ++ U ++ V ++ s) i_120 (m : Int) (w64 (((mid + m : Nat) : Int) - i_120)) cmp).bind fun r434 => (if (decide ((a : Int) < i_120) && decide (i_120 < (mid : Int))) = true then (slices_symMergeCmpFunc_Entry k r434 (a : Int) i_120 (mid : Int) cmp).bind fun r429 => (if (decide ((mid : Int) < w64 (((mid + m : Nat) : Int) - i_120)) && decide (w64 (((mid + m : Nat) : Int) - i_120) < (b : Int))) = true then (slices_symMergeCmpFunc_Entry k r429 (mid : Int) (w64 (((mid + m : Nat) : Int) - i_120)) (b : Int) cmp).bind fun r424 => some r424 else some r429) else (if (decide ((mid : Int) < w64 (((mid + m : Nat) : Int) - i_120)) && decide (w64 (((mid + m : Nat) : Int) - i_120) < (b : Int))) = true then (slices_symMergeCmpFunc_Entry k r434 (mid : Int) (w64 (((mid + m : Nat) : Int) - i_120)) (b : Int) cmp).bind fun r424 => some r424 else some r434)) else (if (decide ((a : Int) < i_120) && decide (i_120 < (mid : Int))) = true then (slices_symMergeCmpFunc_Entry k (p ++ U ++ V ++ s) (a : Int) i_120 (mid : Int) cmp).bind fun r429 => (if (decide ((mid : Int) < w64 (((mid + m : Nat) : Int) - i_120)) && decide (w64 (((mid + m : Nat) : Int) - i_120) < (b : Int))) = true then (slices_symMergeCmpFunc_Entry k r429 (mid : Int) (w64 (((mid + m : Nat) : Int) - i_120)) (b : Int) cmp).bind fun r424 => some r424 else some r429) else (if (decide ((mid : Int) < w64 (((mid + m : Nat) : Int) - i_120)) && decide (w64 (((mid + m : Nat) : Int) - i_120) < (b : Int))) = true then (slices_symMergeCmpFunc_Entry k (p ++ U ++ V ++ s) (mid : Int) (w64 (((mid + m : Nat) : Int) - i_120)) (b : Int) cmp).bind fun r424 => some r424 else some (p ++ U ++ V ++ s)))) k (i0 : Int) (j0 : Int)) (p ++ (M1 ++ M2) ++ s) := by
        refine t5.ev (J := fun k i_120 => if (decide (i_120 < (m : Int)) && decide ((m : Int) < w64 (((mid + m : Nat) : Int) - i_120))) = true then (slices_rotateCmpFunc_Entry k (p ++ U ++ V ++ s) i_120 (m : Int) (w64 (((mid + m : Nat) : Int) - i_120)) cmp).bind fun r434 => (if (decide ((a : Int) < i_120) && decide (i_120 < (mid : Int))) = true then (slices_symMergeCmpFunc_Entry k r434 (a : Int) i_120 (mid : Int) cmp).bind fun r429 => (if (decide ((mid : Int) < w64 (((mid + m : Nat) : Int) - i_120)) && decide (w64 (((mid + m : Nat) : Int) - i_120) < (b : Int))) = true then (slices_symMergeCmpFunc_Entry k r429 (mid : Int) (w64 (((mid + m : Nat) : Int) - i_120)) (b : Int) cmp).bind fun r424 => some r424 else some r429) else (if (decide ((mid : Int) < w64 (((mid + m : Nat) : Int) - i_120)) && decide (w64 (((mid + m : Nat) : Int) - i_120) < (b : Int))) = true then (slices_symMergeCmpFunc_Entry k r434 (mid : Int) (w64 (((mid + m : Nat) : Int) - i_120)) (b : Int) cmp).bind fun r424 => some r424 else some r434)) else (if (decide ((a : Int) < i_120) && decide (i_120 < (mid : Int))) = true then (slices_symMergeCmpFunc_Entry k (p ++ U ++ V ++ s) (a : Int) i_120 (mid : Int) cmp).bind fun r429 => (if (decide ((mid : Int) < w64 (((mid + m : Nat) : Int) - i_120)) && decide (w64 (((mid + m : Nat) : Int) - i_120) < (b : Int))) = true then (slices_symMergeCmpFunc_Entry k r429 (mid : Int) (w64 (((mid + m : Nat) : Int) - i_120)) (b : Int) cmp).bind fun r424 => some r424 else some r429) else (if (decide ((mid : Int) < w64 (((mid + m : Nat) : Int) - i_120)) && decide (w64 (((mid + m : Nat) : Int) - i_120) < (b : Int))) = true then (slices_symMergeCmpFunc_Entry k (p ++ U ++ V ++ s) (mid : Int) (w64 (((mid + m : Nat) : Int) - i_120)) (b : Int) cmp).bind fun r424 => some r424 else some (p ++ U ++ V ++ s)))) ?_
        simp only [we]
        refine Ev.opt (g := fun k r434 => (if (decide ((a : Int) < (t : Int)) && decide ((t : Int) < (mid : Int))) = true then (slices_symMergeCmpFunc_Entry k r434 (a : Int) (t : Int) (mid : Int) cmp).bind fun r429 => (if (decide ((mid : Int) < ((mid + m - t : Nat) : Int)) && decide (((mid + m - t : Nat) : Int) < (b : Int))) = true then (slices_symMergeCmpFunc_Entry k r429 (mid : Int) ((mid + m - t : Nat) : Int) (b : Int) cmp).bind fun r424 => some r424 else some r429) else (if (decide ((mid : Int) < ((mid + m - t : Nat) : Int)) && decide (((mid + m - t : Nat) : Int) < (b : Int))) = true then (slices_symMergeCmpFunc_Entry k r434 (mid : Int) ((mid + m - t : Nat) : Int) (b : Int) cmp).bind fun r424 => some r424 else some r434)))
          (b := p ++ (U1 ++ V1) ++ (U2 ++ V2 ++ s)) (fun h => ?_) (fun h => ?_) ?_
        · rw [Bool.and_eq_true, decide_eq_true_eq, decide_eq_true_eq] at h
          have := rot_Entry (cmp := cmp) (a := t) (m := m) (b := mid + m - t) U2 V1 (p ++ U1) (V2 ++ s) (by simp; omega) (by simp; omega) (by simp; omega) (by omega) (by omega) (by simp; omega)
          rw [hUU, hVV]
          simpa using this
        · rw [Bool.and_eq_true, decide_eq_true_eq, decide_eq_true_eq] at h
          rw [hUU, hVV]
          by_cases hz : U2 = []
          · rw [hz]; simp
          · have : V1 = [] := List.eq_nil_of_length_eq_zero (by have := List.length_pos_iff.2 hz; omega)
            rw [this]; simp
        · refine Ev.opt (g := fun k r429 => (if (decide ((mid : Int) < ((mid + m - t : Nat) : Int)) && decide (((mid + m - t : Nat) : Int) < (b : Int))) = true then (slices_symMergeCmpFunc_Entry k r429 (mid : Int) ((mid + m - t : Nat) : Int) (b : Int) cmp).bind fun r424 => some r424 else some r429))
            (b := p ++ M1 ++ (U2 ++ V2 ++ s)) m3 (fun h => by rw [m4 h]) ?_
          have := Ev.opt (p := (decide ((mid : Int) < ((mid + m - t : Nat) : Int)) && decide (((mid + m - t : Nat) : Int) < (b : Int))) = true) (f := fun k => slices_symMergeCmpFunc_Entry k (p ++ M1 ++ (U2 ++ V2 ++ s)) (mid : Int) ((mid + m - t : Nat) : Int) (b : Int) cmp) (g := fun k r => some r) (a := p ++ M1 ++ (U2 ++ V2 ++ s)) (b := p ++ M1 ++ (M2 ++ s)) (r := p ++ M1 ++ (M2 ++ s)) n3 (fun h => by rw [← n4 h]) Ev.ret
          simpa using this
      by_cases h : mid < m
      · have e3 : decide ((mid : Int) < (m : Int)) = true := decide_eq_true (by omega)
        rw [if_pos h] at hi0 hj0
        rw [hi0, hj0] at hgo
        simp only [slices_symMergeCmpFunc_Entry, Jn, wma, wbm, e1, e2, Bool.false_eq_true, if_false, wmid, wn, e3, if_true, wst h]
        exact hgo
      · have e3 : decide ((mid : Int) < (m : Int)) = false := decide_eq_false (by omega)
        rw [if_neg h] at hi0 hj0
        rw [hi0, hj0] at hgo
        simp only [slices_symMergeCmpFunc_Entry, Jn, wma, wbm, e1, e2, Bool.false_eq_true, if_false, wmid, wn, e3]
        exact hgo
theorem sta_l2_Entry (hc : ∀ x y, cmp x y = some (c x y)) (hw : Wo (ltcEntry c)) (bs n : Nat) (h0 : 0 < bs) (hbs : bs < n) (hn : n ≤ 1152921504606846976) : ∀ (g : Nat) (rest p : List Entry), rest.length ≤ g → Chunks (ltcEntry c) bs rest → (p ++ rest).length = n →
    ∃ L T, (∀ T', T'.length ≤ 2 * bs → Srt (ltcEntry c) T' → Chunks (ltcEntry c) (2 * bs) (L ++ T')) ∧ Sst (ltcEntry c) rest (L ++ T) ∧ T.length < 2 * bs ∧ Chunks (ltcEntry c) bs T ∧
      EvC2 (fun J k => slices_stableCmpFunc_Entry.l2 (n : Int) cmp (bs : Int) J k (p ++ rest) (p.length : Int) ((p.length + 2 * bs : Nat) : Int)) (p ++ L ++ T) ((p ++ L).length : Int) := by
  intro g
  induction g with
  | zero =>
    intro rest p hg hch hl
    obtain rfl : rest = [] := List.eq_nil_of_length_eq_zero (by omega)
    refine ⟨[], [], fun T' h1 h2 => Chunks.last h1 h2, Sst.refl _, by simp; omega, Chunks.last (by simp) Srt.nil, EvC2.succ ?_⟩
    simp only [List.length_append, List.length_nil] at hl
    have e : decide (((p.length + 2 * bs : Nat) : Int) ≤ (n : Int)) = false := decide_eq_false (by omega)
    simp only [slices_stableCmpFunc_Entry.l2, e, Bool.false_eq_true, if_false]
    simpa using EvC2.ret
  | succ g ih =>
    intro rest p hg hch hl
    have hl' := hl
    simp only [List.length_append] at hl'
    by_cases hb : rest.length < 2 * bs
    · refine ⟨[], rest, fun T' h1 h2 => Chunks.last h1 h2, Sst.refl _, hb, hch, EvC2.succ ?_⟩
      have e : decide (((p.length + 2 * bs : Nat) : Int) ≤ (n : Int)) = false := decide_eq_false (by omega)
      simp only [slices_stableCmpFunc_Entry.l2, e, Bool.false_eq_true, if_false]
      simpa using EvC2.ret
    · rcases hch.first h0 with ⟨f1, f2⟩ | ⟨u, r1, rfl, hu, su, hr1, hch1⟩
      · omega
      simp only [List.length_append] at hb hl' hg
      obtain ⟨v, r, rfl, hv, sv, hchr⟩ : ∃ v r, r1 = v ++ r ∧ v.length = bs ∧ Srt (ltcEntry c) v ∧ Chunks (ltcEntry c) bs r := by
        rcases hch1.first h0 with ⟨f1, f2⟩ | ⟨v, r, e, hv, sv, hr, hc1⟩
        · exact ⟨r1, [], by simp, by omega, f2, Chunks.last (by simp) Srt.nil⟩
        · exact ⟨v, r, e, hv, sv, hc1⟩
      simp only [List.length_append] at hb hl' hg
      obtain ⟨M, k1, k2, k3⟩ := sym_Entry hc hw _ u v p r p.length (p.length + bs) (p.length + 2 * bs) (Nat.le_refl _) (by omega) (by omega) su sv rfl (by simp; omega) (by simp; omega) (by simp; omega)
      have lM : M.length = 2 * bs := by have := k2.len; simp at this; omega
      obtain ⟨L, T, g1, g2, g3, g4, g5⟩ := ih r (p ++ M) (by omega) hchr (by simp; omega)
      refine ⟨M ++ L, T, fun T' h1 h2 => ?_, ?_, g3, g4, EvC2.succ ?_⟩
      · rw [List.append_assoc]; exact Chunks.cons lM k1 (g1 T' h1 h2)
      · have := k2.app g2
        simpa using this
      · have e : decide (((p.length + 2 * bs : Nat) : Int) ≤ (n : Int)) = true := decide_eq_true (by omega)
        have w1 : w64 ((p.length : Int) + (bs : Int)) = ((p.length + bs : Nat) : Int) := by rw [w64_of (by omega) (by omega)]; omega
        have w2 : w64 (2 * (bs : Int)) = ((2 * bs : Nat) : Int) := by rw [w64_of (by omega) (by omega)]; omega
        have w3 : w64 (((p.length + 2 * bs : Nat) : Int) + ((2 * bs : Nat) : Int)) = ((p.length + 2 * bs + 2 * bs : Nat) : Int) := by rw [w64_of (by omega) (by omega)]; omega
        simp only [slices_stableCmpFunc_Entry.l2, e, if_true, w1, w2, w3]
        have k3' : Ev (fun k => slices_symMergeCmpFunc_Entry k (p ++ (u ++ (v ++ r))) (p.length : Int) ((p.length + bs : Nat) : Int) ((p.length + 2 * bs : Nat) : Int) cmp) (p ++ M ++ r) := by simpa using k3
        refine EvC2.bind k3' ?_
        have e2 : (p ++ M).length = p.length + 2 * bs := by simp; omega
        rw [e2] at g5
        simpa using g5
theorem sta_l1_Entry (hc : ∀ x y, cmp x y = some (c x y)) (hw : Wo (ltcEntry c)) (n : Nat) (hn : n ≤ 1152921504606846976) : ∀ (g bs : Nat) (l : List Entry), n - bs ≤ g → 0 < bs → Chunks (ltcEntry c) bs l → l.length = n →
    ∃ l', Srt (ltcEntry c) l' ∧ Sst (ltcEntry c) l l' ∧ Ev (fun k => slices_stableCmpFunc_Entry.l1 (n : Int) cmp k l (bs : Int)) l' := by
  intro g
  induction g with
  | zero =>
    intro bs l hg h0 hch hl
    rcases hch.first h0 with ⟨f1, f2⟩ | ⟨u, r, rfl, hu, su, hr, _⟩
    · refine ⟨l, f2, Sst.refl _, Ev.succ ?_⟩
      have e : decide ((bs : Int) < (n : Int)) = false := decide_eq_false (by omega)
      simp only [slices_stableCmpFunc_Entry.l1, e, Bool.false_eq_true, if_false]
      exact Ev.ret
    · have := List.length_pos_iff.2 hr
      simp only [List.length_append] at hl
      omega
  | succ g ih =>
    intro bs l hg h0 hch hl
    by_cases hb : bs < n
    · obtain ⟨L, T, g1, g2, g3, g4, g5⟩ := sta_l2_Entry hc hw bs n h0 hb hn _ l [] (Nat.le_refl _) hch (by simpa using hl)
      have e : decide ((bs : Int) < (n : Int)) = true := decide_eq_true (by omega)
      have w2 : w64 (2 * (bs : Int)) = ((2 * bs : Nat) : Int) := by rw [w64_of (by omega) (by omega)]; omega
      have w3 : w64 ((bs : Int) * 2) = ((2 * bs : Nat) : Int) := by rw [w64_of (by omega) (by omega)]; omega
      have lLT := g2.len
      simp only [List.length_append] at lLT
      have w4 : w64 ((L.length : Int) + (bs : Int)) = ((L.length + bs : Nat) : Int) := by rw [w64_of (by omega) (by omega)]; omega
      have hT : ∃ T', Srt (ltcEntry c) T' ∧ Sst (ltcEntry c) T T' ∧ (decide (((L.length + bs : Nat) : Int) < (n : Int)) = true → Ev (fun k => slices_symMergeCmpFunc_Entry k (L ++ T) (L.length : Int) ((L.length + bs : Nat) : Int) (n : Int) cmp) (L ++ T')) ∧ (¬ decide (((L.length + bs : Nat) : Int) < (n : Int)) = true → L ++ T = L ++ T') := by
        by_cases hx : L.length + bs < n
        · rcases g4.first h0 with ⟨f1, f2⟩ | ⟨u, r, rfl, hu, su, hr, hchr⟩
          · omega
          · simp only [List.length_append] at g3 lLT
            have sr : Srt (ltcEntry c) r := by
              rcases hchr.first h0 with ⟨f1, f2⟩ | ⟨u2, r2, rfl, hu2, _, _, _⟩
              · exact f2
              · simp only [List.length_append] at g3; omega
            have hr0 := List.length_pos_iff.2 hr
            obtain ⟨M, k1, k2, k3⟩ := sym_Entry hc hw _ u r L [] L.length (L.length + bs) n (Nat.le_refl _) (by omega) hr0 su sr rfl (by simp; omega) (by simp; omega) (by simp; omega)
            refine ⟨M, k1, k2, fun _ => by simpa using k3, fun hn => absurd (decide_eq_true ?_) hn⟩
            omega
        · refine ⟨T, ?_, Sst.refl _, fun hn => absurd ?_ hx, fun _ => rfl⟩
          · rcases g4.first h0 with ⟨f1, f2⟩ | ⟨u, r, rfl, hu, su, hr, hchr⟩
            · exact f2
            · have := List.length_pos_iff.2 hr
              simp only [List.length_append] at lLT
              omega
          · have := of_decide_eq_true hn; omega
      obtain ⟨T', t1, t2, t3, t4⟩ := hT
      have lT := t2.len
      obtain ⟨l', k1, k2, k3⟩ := ih (2 * bs) (L ++ T') (by omega) (by omega) (g1 T' (by omega) t1) (by simp; omega)
      refine ⟨l', k1, (g2.trans ((Sst.refl L).app t2)).trans k2, Ev.succ ?_⟩
      simp only [slices_stableCmpFunc_Entry.l1, e, if_true, Jn, w2, w3]
      simp only [List.nil_append, List.length_nil, Nat.zero_add] at g5
      refine g5.ev (J := fun k l_126 i_127 => if decide (w64 (i_127 + (bs : Int)) < (n : Int)) = true then (slices_symMergeCmpFunc_Entry k l_126 i_127 (w64 (i_127 + (bs : Int))) (n : Int) cmp).bind fun r136 => slices_stableCmpFunc_Entry.l1 (n : Int) cmp k r136 ((2 * bs : Nat) : Int) else slices_stableCmpFunc_Entry.l1 (n : Int) cmp k l_126 ((2 * bs : Nat) : Int)) ?_
      simp only [w4]
      exact Ev.opt (g := fun k r => slices_stableCmpFunc_Entry.l1 (n : Int) cmp k r ((2 * bs : Nat) : Int)) (b := L ++ T') t3 t4 k3
    · rcases hch.first h0 with ⟨f1, f2⟩ | ⟨u, r, rfl, hu, su, hr, _⟩
      · refine ⟨l, f2, Sst.refl _, Ev.succ ?_⟩
        have e : decide ((bs : Int) < (n : Int)) = false := decide_eq_false (by omega)
        simp only [slices_stableCmpFunc_Entry.l1, e, Bool.false_eq_true, if_false]
        exact Ev.ret
      · have := List.length_pos_iff.2 hr
        simp only [List.length_append] at hl
        omega
theorem sta_l0_Entry (hc : ∀ x y, cmp x y = some (c x y)) (hw : Wo (ltcEntry c)) (n : Nat) (hn : n ≤ 1152921504606846976) : ∀ (g : Nat) (rest p : List Entry), rest.length ≤ g → (p ++ rest).length = n → (∀ T, Chunks (ltcEntry c) 20 T → Chunks (ltcEntry c) 20 (p ++ T)) →
    ∃ l', Srt (ltcEntry c) l' ∧ Sst (ltcEntry c) (p ++ rest) l' ∧ Ev (fun k => slices_stableCmpFunc_Entry.l0 (n : Int) cmp k (p ++ rest) (p.length : Int) ((p.length + 20 : Nat) : Int)) l' := by
  intro g
  induction g with
  | zero =>
    intro rest p hg hl hp
    obtain rfl : rest = [] := List.eq_nil_of_length_eq_zero (by omega)
    simp only [List.append_nil] at hl ⊢
    obtain ⟨m', i1, i2, i3⟩ := ins_Entry (b := n) hc hw [] p [] rfl (by simpa using hl) (by simp; omega)
    have hm : m' = [] := List.eq_nil_of_length_eq_zero (by have := i2.len; simpa using this.symm)
    subst hm
    obtain ⟨l', k1, k2, k3⟩ := sta_l1_Entry hc hw n hn _ 20 p (Nat.le_refl _) (by omega) (by simpa using hp [] (Chunks.last (by simp) Srt.nil)) hl
    refine ⟨l', k1, k2, Ev.succ ?_⟩
    have e : decide (((p.length + 20 : Nat) : Int) ≤ (n : Int)) = false := decide_eq_false (by omega)
    simp only [slices_stableCmpFunc_Entry.l0, e, Bool.false_eq_true, if_false]
    simp only [List.append_nil] at i3
    exact i3.bind k3
  | succ g ih =>
    intro rest p hg hl hp
    have hl' := hl
    simp only [List.length_append] at hl'
    by_cases hb : p.length + 20 ≤ n
    · obtain ⟨u, r, rfl, hu⟩ : ∃ u r, rest = u ++ r ∧ u.length = 20 := ⟨rest.take 20, rest.drop 20, (List.take_append_drop _ _).symm, by simp; omega⟩
      simp only [List.length_append] at hl' hg
      obtain ⟨u', i1, i2, i3⟩ := ins_Entry (b := p.length + 20) hc hw u p r rfl (by simp; omega) (by simp; omega)
      have lu := i2.len
      obtain ⟨l', k1, k2, k3⟩ := ih r (p ++ u') (by omega) (by simp; omega) (fun T hT => by rw [List.append_assoc]; exact hp _ (Chunks.cons (by omega) i1 hT))
      refine ⟨l', k1, Sst.trans ?_ k2, Ev.succ ?_⟩
      · have := ((Sst.refl (lt := ltcEntry c) p).app i2).app (Sst.refl (lt := ltcEntry c) r)
        simpa using this
      · have e : decide (((p.length + 20 : Nat) : Int) ≤ (n : Int)) = true := decide_eq_true (by omega)
        have w : w64 (((p.length + 20 : Nat) : Int) + 20) = ((p.length + 20 + 20 : Nat) : Int) := by rw [w64_of (by omega) (by omega)]; omega
        simp only [slices_stableCmpFunc_Entry.l0, e, if_true, w]
        have i3' : Ev (fun k => slices_insertionSortCmpFunc_Entry k (p ++ (u ++ r)) (p.length : Int) ((p.length + 20 : Nat) : Int) cmp) (p ++ u' ++ r) := by simpa using i3
        refine i3'.bind ?_
        have e2 : (p ++ u').length = p.length + 20 := by simp; omega
        rw [e2] at k3
        exact k3
    · obtain ⟨m', i1, i2, i3⟩ := ins_Entry (b := n) hc hw rest p [] rfl (by simpa using hl) (by simp; omega)
      have lm := i2.len
      obtain ⟨l', k1, k2, k3⟩ := sta_l1_Entry hc hw n hn _ 20 (p ++ m') (Nat.le_refl _) (by omega) (hp m' (Chunks.last (by omega) i1)) (by simp; omega)
      refine ⟨l', k1, Sst.trans ((Sst.refl p).app i2) k2, Ev.succ ?_⟩
      have e : decide (((p.length + 20 : Nat) : Int) ≤ (n : Int)) = false := decide_eq_false (by omega)
      simp only [slices_stableCmpFunc_Entry.l0, e, Bool.false_eq_true, if_false]
      simp only [List.append_nil] at i3
      exact i3.bind k3
/-- slices.SortStableFunc. -/
theorem stable_Entry (hc : ∀ x y, cmp x y = some (c x y)) (hw : Wo (ltcEntry c)) (l : List Entry) (hn : l.length ≤ 1152921504606846976) :
    ∃ l', Srt (ltcEntry c) l' ∧ Sst (ltcEntry c) l l' ∧ Ev (fun k => slices_SortStableFunc_Entry k l cmp) l' := by
  obtain ⟨l', k1, k2, k3⟩ := sta_l0_Entry hc hw l.length hn _ l [] (Nat.le_refl _) (by simp) (fun T h => by simpa using h)
  refine ⟨l', k1, by simpa using k2, ?_⟩
  simp only [slices_SortStableFunc_Entry, slices_stableCmpFunc_Entry]
  have : Ev (fun k => slices_stableCmpFunc_Entry.l0 (l.length : Int) cmp k l 0 20) l' := by simpa using k3
  exact this.bind Ev.ret
end
end Go.Proofs.Ytlhmchndcilifaa.Mo

set_option maxRecDepth 100000
namespace Go.Proofs.Ytlhmchndcilifaa.Mo
open Go Go.Proofs.Ytlhmchndcilifaa.Sy
def cE (a b : Entry) : Int := if slt a.Key b.Key then -1 else if slt b.Key a.Key then 1 else if b.Seq < a.Seq then -1 else if a.Seq < b.Seq then 1 else if b.Kind < a.Kind then -1 else if a.Kind < b.Kind then 1 else 0
abbrev ltE : Entry → Entry → Prop := ltcEntry cE
theorem ltE_iff {a b : Entry} : ltE a b ↔ slt a.Key b.Key ∨ (a.Key = b.Key ∧ (b.Seq < a.Seq ∨ (a.Seq = b.Seq ∧ b.Kind < a.Kind))) := by
  show cE a b < 0 ↔ _
  unfold cE
  rcases slt_tri a.Key b.Key with h | h | h
  · simp [h]
  · rw [h]
    simp only [slt_irrefl, if_false, false_or, true_and]
    split
    · simp [*]
    · split
      · constructor
        · intro h; omega
        · rintro (h | ⟨h, _⟩) <;> omega
      · split
        · constructor
          · intro _; exact .inr ⟨by omega, by assumption⟩
          · intro _; omega
        · split
          · constructor
            · intro h; omega
            · rintro (h | ⟨_, h⟩) <;> omega
          · constructor
            · intro h; omega
            · rintro (h | ⟨_, h⟩) <;> omega
  · have h1 := slt_asymm h
    have h2 : a.Key ≠ b.Key := fun e => by rw [e] at h; exact slt_irrefl _ h
    simp [h, h1, h2]
theorem wo_E : Wo ltE := by
  refine ⟨fun x y h k => ?_, fun x y z h k => ?_⟩
  · rw [ltE_iff] at h k
    rcases h with h | ⟨e, h⟩
    · rcases k with k | ⟨e, _⟩
      · exact slt_asymm h k
      · rw [e] at h; exact slt_irrefl _ h
    · rcases k with k | ⟨_, k⟩
      · rw [e] at k; exact slt_irrefl _ k
      · omega
  · rw [ltE_iff] at h k ⊢
    rintro (g | ⟨e, g⟩)
    · rcases slt_tri x.Key y.Key with h1 | h1 | h1
      · exact h (.inl h1)
      · rw [h1] at g; exact k (.inl g)
      · exact k (.inl (slt_trans h1 g))
    · rcases slt_tri x.Key y.Key with h1 | h1 | h1
      · exact h (.inl h1)
      · have h2 : ¬ (y.Seq < x.Seq ∨ (x.Seq = y.Seq ∧ y.Kind < x.Kind)) := fun c => h (.inr ⟨h1, c⟩)
        have k2 : ¬ (z.Seq < y.Seq ∨ (y.Seq = z.Seq ∧ z.Kind < y.Kind)) := fun c => k (.inr ⟨h1.symm.trans e, c⟩)
        omega
      · rw [e] at h1; exact k (.inl h1)
theorem entries_eq (k : Nat) (a b : Entry) : ikey_entries (k + 4) a b = some (cE a b) := by
  have w1 : w64 (0 + 1) = 1 := by decide
  have w2 : w64 (1 + 1) = 2 := by decide
  have w3 : w64 (2 + 1) = 3 := by decide
  have key : ∀ p q r : Int, cmp_Or_int (k + 4) [p, q, r] = some (if p ≠ 0 then p else if q ≠ 0 then q else if r ≠ 0 then r else 0) := by
    intro p q r
    have i0 : idx [p, q, r] 0 = some p := rfl
    have i1 : idx [p, q, r] 1 = some q := rfl
    have i2 : idx [p, q, r] 2 = some r := rfl
    have l0 : decide ((0 : Int) < ([p, q, r].length : Int)) = true := rfl
    have l1 : decide ((1 : Int) < ([p, q, r].length : Int)) = true := rfl
    have l2 : decide ((2 : Int) < ([p, q, r].length : Int)) = true := rfl
    have l3 : decide ((3 : Int) < ([p, q, r].length : Int)) = false := rfl
    simp only [cmp_Or_int, cmp_Or_int.l0, i0, i1, i2, l0, l1, l2, l3, if_true, Option.bind_some, w1, w2, w3, bne_iff_ne, Bool.false_eq_true, if_false]
    split
    · rfl
    · split
      · rfl
      · split <;> rfl
  unfold ikey_entries ikey_Compare
  simp only [strings_Compare, internal_bytealg_CompareString, Option.bind_some]
  have hu : cmp_Compare_uint64 b.Seq a.Seq = some (if b.Seq < a.Seq then -1 else if a.Seq < b.Seq then 1 else 0) := by
    simp only [cmp_Compare_uint64, cmp_isNaN_uint64, bne_self_eq_false, Option.bind_some, Bool.false_eq_true, if_false, decide_eq_true_eq]
    split
    · rfl
    · split <;> rfl
  have hi : cmp_Compare_int b.Kind a.Kind = some (if b.Kind < a.Kind then -1 else if a.Kind < b.Kind then 1 else 0) := by
    simp only [cmp_Compare_int, cmp_isNaN_int, bne_self_eq_false, Option.bind_some, Bool.false_eq_true, if_false, decide_eq_true_eq]
    split
    · rfl
    · split <;> rfl
  rw [hu, hi]
  simp only [Option.bind_some, key]
  congr 1
  unfold cE ordS
  simp only [sLt_iff]
  by_cases h1 : slt a.Key b.Key
  · simp [h1]
  · by_cases h2 : slt b.Key a.Key
    · simp [h1, h2]
    · by_cases h3 : b.Seq < a.Seq
      · simp [h1, h2, h3]
      · by_cases h4 : a.Seq < b.Seq
        · simp [h1, h2, h3, h4]
        · by_cases h5 : b.Kind < a.Kind
          · simp [h1, h2, h3, h4, h5]
          · by_cases h6 : a.Kind < b.Kind
            · simp [h1, h2, h3, h4, h5, h6]
            · simp [h1, h2, h3, h4, h5, h6]
theorem isort_ev (l : List Entry) (hl : l.length ≤ 4691249611691) : ∃ m, Srt ltE m ∧ Sst ltE l m ∧ Ev (fun k => ikey_Sorted k l) m := by
  obtain ⟨m, h1, h2, n, h3⟩ := stable_Entry (cmp := fun x y => some (cE x y)) (c := cE) (fun _ _ => rfl) wo_E l (by omega)
  refine ⟨m, h1, h2, n + 4, fun k hk => ?_⟩
  obtain ⟨j, rfl⟩ : ∃ j, k = j + 4 := ⟨k - 4, by omega⟩
  have e : (fun x0 x1 => ikey_entries (j + 4) x0 x1) = fun x y => some (cE x y) := by
    funext x y; exact entries_eq j x y
  unfold ikey_Sorted
  simp only [slices_Clone_Entry, pushN_ok (show ([] : List Entry).length + l.length ≤ 4691249611691 by rw [List.length_nil]; omega), Option.bind_some, List.nil_append, e]
  have := h3 (j + 4) (by omega)
  simp only at this
  rw [this]
  rfl
end Go.Proofs.Ytlhmchndcilifaa.Mo

set_option maxRecDepth 100000
namespace Go.Proofs.Ytlhmchndcilifaa.Mo
open Go Go.Proofs.Ytlhmchndcilifaa.Sy
theorem sc_l1 (n : Int) (J : Nat → Option (Int × Bool)) (f : Fragment) (hf : f.Seqs.length < 1099511627776) (R : Int × Bool) : ∀ (s p : List Int), f.Seqs = p ++ s →
    (Ev (fun k => match s.find? (fun x => decide (x ≤ n)) with | some v => some (v, true) | none => J k) R) → Ev (fun k => tomb_Set_Cover.l1 n f (J k) k (p.length : Int)) R
  | [], p, hp, h => by
    have e1 : decide ((p.length : Int) < (f.Seqs.length : Int)) = false := by rw [hp]; exact lt_end p
    refine Ev.succ ?_
    simp only [tomb_Set_Cover.l1, e1, Bool.false_eq_true, if_false]
    exact (show Ev J R from h).shift
  | x :: s, p, hp, h => by
    have e1 : decide ((p.length : Int) < (f.Seqs.length : Int)) = true := by rw [hp]; exact lt_at p s x
    have e2 : idx f.Seqs (p.length : Int) = some x := by rw [hp]; exact idx_at p x s
    have hw := step_at p s x (by rw [← hp, maxLen_val]; omega)
    refine Ev.succ ?_
    simp only [tomb_Set_Cover.l1, e1, e2, if_true, Option.bind_some, hw]
    rw [List.find?_cons] at h
    by_cases hx : x ≤ n
    · simp only [decide_eq_true hx, if_true] at h ⊢
      exact h.shift
    · simp only [decide_eq_false hx, Bool.false_eq_true, if_false] at h ⊢
      exact sc_l1 n (fun k => J (k + 1)) f hf R s (p ++ [x]) (by simp [hp]) h.shift
theorem sc_l0 (key : ByteArray) (n : Int) (F : List Fragment) (hF : F.length < 1099511627776) (hs : ∀ f ∈ F, f.Seqs.length < 1099511627776) : ∀ (s p : List Fragment), F = p ++ s →
    Ev (fun k => tomb_Set_Cover.l0 key n F k (p.length : Int)) (setC key n s)
  | [], p, hp => by
    have e1 : decide ((p.length : Int) < (F.length : Int)) = false := by rw [hp]; exact lt_end p
    refine Ev.succ ?_
    simp only [tomb_Set_Cover.l0, e1, Bool.false_eq_true, if_false]
    exact Ev.ret
  | f :: s, p, hp => by
    have e1 : decide ((p.length : Int) < (F.length : Int)) = true := by rw [hp]; exact lt_at p s f
    have e2 : idx F (p.length : Int) = some f := by rw [hp]; exact idx_at p f s
    have hw := step_at p s f (by rw [← hp, maxLen_val]; omega)
    have ih := sc_l0 key n F hF hs s (p ++ [f]) (by simp [hp])
    refine Ev.succ ?_
    simp only [tomb_Set_Cover.l0, e1, e2, if_true, Option.bind_some, hw, Jn]
    by_cases hc : onF key f = true
    · have hc' : (sLt key f.Begin || !sLt key f.End) = false := by simpa [onF] using hc
      simp only [hc', Bool.false_eq_true, if_false]
      refine sc_l1 n (fun k => tomb_Set_Cover.l0 key n F k ((p ++ [f]).length : Int)) f (hs f (by rw [hp]; simp)) _ f.Seqs [] rfl ?_
      cases hfd : f.Seqs.find? (fun x => decide (x ≤ n)) with
      | some v =>
        have he : setC key n (f :: s) = (v, true) := by unfold setC; rw [setF, if_pos hc, hfd]
        rw [he]
        exact Ev.ret
      | none =>
        have he : setC key n (f :: s) = setC key n s := by unfold setC; rw [setF, if_pos hc, hfd]
        rw [he]
        exact ih
    · have hc' : (sLt key f.Begin || !sLt key f.End) = true := by
        have := Bool.eq_false_iff.2 hc
        rw [onF, Bool.not_eq_false'] at this
        exact this
      have he : setC key n (f :: s) = setC key n s := by unfold setC; rw [setF, if_neg hc]
      simp only [hc', if_true, he]
      exact ih
theorem scover_ev (TT : List Tomb) (hl : TT.length ≤ 1048576) (ht : ∀ x ∈ TT, okT x = true ∧ 1 ≤ x.Seq) (key : ByteArray) (n : Int) : Ev (fun k => tomb_Set_Cover k ⟨TT, true⟩ key n) (covers key n TT (0, false)) := by
  unfold tomb_Set_Cover
  have hcl : tomb_Set_Tombs ⟨TT, true⟩ = some TT := by
    unfold tomb_Set_Tombs slices_Clone_Tomb
    rw [pushN_ok (by simp; omega)]; rfl
  refine Ev.bind0 hcl ?_
  have hok : TT.filter okT = TT := List.filter_eq_self.2 fun x hx => (ht x hx).1
  have hfl := frags_len (TT.filter okT)
  have hfs : ∀ f ∈ frags (TT.filter okT), f.Seqs.length < 1099511627776 := fun f hf => by
    have := frags_seqs hf
    rw [hok] at this; omega
  refine Ev.bind (frags_ev TT (by omega)) ?_
  have := sc_l0 key n (frags (TT.filter okT)) (by rw [hok] at hfl ⊢; omega) hfs (frags (TT.filter okT)) [] rfl
  refine this.to ?_
  exact setC_eq TT (fun t htm => by have := (ht t htm).2; omega) key n
def idxF (p : Entry → Bool) : List Entry → Int → Int
  | [], _ => -1
  | x :: s, n => if p x = true then n else idxF p s (n + 1)
theorem idxF_at (p : Entry → Bool) : ∀ (s : List Entry) (n : Nat), (idxF p s n = -1 ∧ s.filter (fun x => !p x) = s) ∨ ∃ a x b, s = a ++ x :: b ∧ idxF p s n = ((n + a.length : Nat) : Int) ∧ a.filter (fun x => !p x) = a ∧ p x = true
  | [], n => .inl ⟨rfl, rfl⟩
  | x :: s, n => by
    by_cases h : p x = true
    · exact .inr ⟨[], x, s, rfl, by simp [idxF, h], rfl, h⟩
    · have e : idxF p (x :: s) n = idxF p s ((n + 1 : Nat) : Int) := by rw [idxF, if_neg h]; rfl
      rcases idxF_at p s (n + 1) with ⟨h1, h2⟩ | ⟨a, y, b, h1, h2, h3, h4⟩
      · exact .inl ⟨by rw [e, h1], by rw [List.filter_cons_of_pos (by simpa using h), h2]⟩
      · refine .inr ⟨x :: a, y, b, by rw [h1]; rfl, ?_, by rw [List.filter_cons_of_pos (by simpa using h), h3], h4⟩
        rw [e, h2]
        simp
        omega
theorem index_l0 (p : Entry → Bool) (l : List Entry) (hl : l.length ≤ 4691249611691) : ∀ (s q : List Entry), l = q ++ s → Ev (fun k => slices_IndexFunc_Entry.l0 l (fun x => some (p x)) k (q.length : Int)) (idxF p s q.length)
  | [], q, hp => by
    have e1 : decide ((q.length : Int) < (l.length : Int)) = false := by rw [hp]; exact lt_end q
    refine Ev.succ ?_
    simp only [slices_IndexFunc_Entry.l0, e1, Bool.false_eq_true, if_false]
    exact Ev.ret
  | x :: s, q, hp => by
    have e1 : decide ((q.length : Int) < (l.length : Int)) = true := by rw [hp]; exact lt_at q s x
    have e2 : idx l (q.length : Int) = some x := by rw [hp]; exact idx_at q x s
    have hw := step_at q s x (by rw [← hp, maxLen_val]; omega)
    refine Ev.succ ?_
    simp only [slices_IndexFunc_Entry.l0, e1, e2, if_true, Option.bind_some, hw, idxF]
    by_cases h : p x = true
    · simp only [h, if_true]; exact Ev.ret
    · simp only [h, Bool.false_eq_true, if_false]
      have := index_l0 p l hl s (q ++ [x]) (by simp [hp])
      rw [show ((q ++ [x]).length : Int) = (q.length : Int) + 1 by simp] at this ⊢
      exact this
theorem delete_l0 (p : Entry → Bool) : ∀ (s q z : List Entry), z ≠ [] → (q ++ z ++ s).length ≤ 4691249611691 → Ev (fun k => slices_DeleteFunc_Entry.l0 (fun x => some (p x)) k (q ++ z ++ s) (q.length : Int) ((q ++ z).length : Int)) (q ++ s.filter (fun x => !p x))
  | [], q, z, hz, hl => by
    have e1 : decide (((q ++ z).length : Int) < ((q ++ z ++ []).length : Int)) = false := lt_end (q ++ z)
    refine Ev.succ ?_
    simp only [slices_DeleteFunc_Entry.l0, e1, Bool.false_eq_true, if_false]
    have c1 : cut (q ++ z ++ []) (q.length : Int) ((q ++ z ++ []).length : Int) = some z := by
      rw [cut_drop rfl (by simp), List.append_nil, List.drop_left]
    have c2 : ∀ y : List Entry, cut (clr (q ++ z ++ []) (Int.toNat (q.length : Int)) (Int.toNat ((q ++ z ++ []).length : Int)) (⟨(ByteArray.mk #[]), 0, 0, (ByteArray.mk #[])⟩ : Entry)) 0 (q.length : Int) = some q := fun y => by
      rw [Int.toNat_natCast, Int.toNat_natCast, cut_take (by simp [clr] <;> omega)]
      simp [clr]
    rw [c1, Option.bind_some, c2 z, Option.bind_some]
    simp only [List.filter_nil, List.append_nil]
    exact Ev.ret
  | x :: s, q, z, hz, hl => by
    have e1 : decide (((q ++ z).length : Int) < ((q ++ z ++ x :: s).length : Int)) = true := lt_at (q ++ z) s x
    have e2 : idx (q ++ z ++ x :: s) ((q ++ z).length : Int) = some x := idx_at (q ++ z) x s
    have hw := step_at (q ++ z) s x (by rw [maxLen_val]; omega)
    obtain ⟨y, z', rfl⟩ : ∃ y z', z = y :: z' := by cases z with
      | nil => exact absurd rfl hz
      | cons y z' => exact ⟨y, z', rfl⟩
    have e3 : idx (q ++ (y :: z') ++ x :: s) (q.length : Int) = some y := by
      rw [show q ++ (y :: z') ++ x :: s = q ++ y :: (z' ++ x :: s) by simp]; exact idx_at q y _
    have e4 : upd (q ++ (y :: z') ++ x :: s) (q.length : Int) x = some (q ++ x :: (z' ++ x :: s)) := by
      rw [show q ++ (y :: z') ++ x :: s = q ++ y :: (z' ++ x :: s) by simp]; exact upd_at q y x _
    have hw2 := step_at q (z' ++ x :: s) y (by rw [maxLen_val]; simp at hl ⊢; omega)
    refine Ev.succ ?_
    simp only [slices_DeleteFunc_Entry.l0, e1, e2, if_true, Option.bind_some, hw, Jn]
    by_cases h : p x = true
    · simp only [h, Bool.not_true, Bool.false_eq_true, if_false]
      have := delete_l0 p s q (y :: z' ++ [x]) (by simp) (by simp at hl ⊢; omega)
      rw [List.filter_cons_of_neg (by simp [h])]
      simpa using this
    · simp only [h, Bool.not_false, if_true, e3, Option.bind_some, e4, hw2]
      have := delete_l0 p s (q ++ [x]) (z' ++ [x]) (by simp) (by simp at hl ⊢; omega)
      rw [List.filter_cons_of_pos (by simpa using h)]
      simpa using this
theorem delete_ev (p : Entry → Bool) (l : List Entry) (hl : l.length ≤ 4691249611691) : Ev (fun k => slices_DeleteFunc_Entry k l (fun x => some (p x))) (l.filter (fun x => !p x)) := by
  have hi := index_l0 p l hl l [] rfl
  refine Ev.bind hi ?_
  rcases idxF_at p l 0 with ⟨h1, h2⟩ | ⟨a, x, b, h1, h2, h3, h4⟩
  · have e : idxF p l (([] : List Entry).length : Int) = -1 := h1
    simp only [e, beq_self_eq_true, if_true]
    exact Ev.ret.to h2.symm
  · have e : idxF p l (([] : List Entry).length : Int) = (a.length : Int) := by
      rw [show (([] : List Entry).length : Int) = ((0 : Nat) : Int) from rfl, h2]; simp
    have hne : ((a.length : Int) == -1) = false := by simp <;> omega
    have hw := step_at a b x (by rw [← h1, maxLen_val]; omega)
    simp only [e, hne, Bool.false_eq_true, if_false, hw]
    have := delete_l0 p b a [x] (by simp) (by rw [h1] at hl; simp at hl ⊢; omega)
    have e2 : a ++ [x] ++ b = l := by rw [h1]; simp
    rw [e2] at this
    refine this.to ?_
    rw [h1, List.filter_append, h3, List.filter_cons_of_neg (by simp [h4])]
theorem oeqb (x : Op) : Op.eqb x x = true := by cases x; simp [Op.eqb, sEq_refl]
/-- Does a tomb hide an entry? -/
def hidB (n : Int) (e : Entry) (x : Tomb) : Bool := cov e.Key n x && decide (e.Seq < x.Seq)
def hid (t : List Tomb) (n : Int) (e : Entry) : Bool := t.any (hidB n e)
/-- The program's way to say so. -/
def shw (t : List Tomb) (n : Int) (e : Entry) (c : Int × Bool) : Bool := (e.Kind == 1) && ((!c.2) || decide (c.1 ≤ e.Seq))
theorem shw_eq (t : List Tomb) (hs : ∀ x ∈ t, 0 ≤ x.Seq) (n : Int) (e : Entry) : shw t n e (covers e.Key n t (0, false)) = ((e.Kind == 1) && !hid t n e) := by
  have h1 := covers_ok e.Key n t (0, false)
  obtain ⟨g1, g2, g3⟩ := covers_max e.Key n t (0, false)
  unfold shw
  congr 1
  simp only [Bool.false_eq_true, false_or] at h1 g1 g3
  cases hh : hid t n e with
  | true =>
    obtain ⟨x, hx, hb⟩ := List.any_eq_true.1 hh
    simp only [hidB, Bool.and_eq_true, decide_eq_true_eq] at hb
    have a1 := h1.2 ⟨x, hx, hb.1⟩
    have a2 := g2 x hx hb.1
    rw [a1]
    simp
    omega
  | false =>
    have hno : ∀ x ∈ t, cov e.Key n x = true → x.Seq ≤ e.Seq := fun x hx hc => Classical.byContradiction fun hlt => by
      have : hid t n e = true := List.any_eq_true.2 ⟨x, hx, by simp only [hidB, hc, Bool.true_and, decide_eq_true_eq]; omega⟩
      rw [hh] at this; cases this
    cases hb : (covers e.Key n t (0, false)).2 with
    | false => rfl
    | true =>
      obtain ⟨x, hx, hc⟩ := h1.1 hb
      have a1 := hno x hx hc
      have a2 := hs x hx
      have : (covers e.Key n t (0, false)).1 ≤ e.Seq := by
        rcases g3 with e0 | ⟨y, hy, hcy, e0⟩
        · rw [e0]; omega
        · rw [e0]; exact hno y hy hcy
      simp [this]
def newK : Option ByteArray → ByteArray → Bool
  | none, _ => true
  | some a, b => !sEq a b
def opE (e : Entry) : Op := ⟨1, e.Key, e.Value⟩
def seenP (t : List Tomb) (n : Int) : Option ByteArray → List Entry → List Op
  | _, [] => []
  | q, e :: s => (if newK q e.Key && ((e.Kind == 1) && !hid t n e) then [opE e] else []) ++ seenP t n (some e.Key) s
def keyL (p : List Entry) : Option ByteArray := p.getLast?.map (·.Key)
theorem keyL_snoc (p : List Entry) (x : Entry) : keyL (p ++ [x]) = some x.Key := by simp [keyL]
theorem shows_ev (t : List Tomb) (ht : t.length ≤ 1048576) (ho : ∀ x ∈ t, okT x = true ∧ 1 ≤ x.Seq) (n : Int) (x : Entry) : Ev (fun k => view_shows k x ⟨t, true⟩ n) ((x.Kind == 1) && !hid t n x) := by
  unfold view_shows
  refine Ev.bind (scover_ev t ht ho x.Key n) (Ev.of fun k => ?_)
  rw [← shw_eq t (fun x hx => by have := (ho x hx).2; omega) n x]
  rfl
theorem seen_l0 (t : List Tomb) (ht : t.length ≤ 1048576) (ho : ∀ x ∈ t, okT x = true ∧ 1 ≤ x.Seq) (n : Int) (m : List Entry) (hm : m.length ≤ 3518437208883) : ∀ (s p : List Entry) (acc : List Op), m = p ++ s → acc.length ≤ p.length →
    Ev (fun k => view_Seen.l0 n t m k acc (p.length : Int)) (acc ++ seenP t n (keyL p) s)
  | [], p, acc, hp, ha => by
    have e1 : decide ((p.length : Int) < (m.length : Int)) = false := by rw [hp]; exact lt_end p
    refine Ev.succ ?_
    simp only [view_Seen.l0, e1, Bool.false_eq_true, if_false, seenP, List.append_nil]
    exact Ev.ret
  | x :: s, p, acc, hp, ha => by
    have e1 : decide ((p.length : Int) < (m.length : Int)) = true := by rw [hp]; exact lt_at p s x
    have e2 : idx m (p.length : Int) = some x := by rw [hp]; exact idx_at p x s
    have hpl : p.length + 1 ≤ m.length := by rw [hp]; simp
    have hw := step_at p s x (by rw [← hp, maxLen_val]; omega)
    have hpu : push 5629499534059 acc (⟨1, x.Key, x.Value⟩ : Op) = some (acc ++ [opE x]) := push_ok (by omega)
    have ihN := seen_l0 t ht ho n m hm s (p ++ [x]) acc (by simp [hp]) (by simp; omega)
    have ihY := seen_l0 t ht ho n m hm s (p ++ [x]) (acc ++ [opE x]) (by simp [hp]) (by simp; omega)
    rw [keyL_snoc] at ihN ihY
    refine Ev.succ ?_
    simp only [view_Seen.l0, e1, e2, if_true, Option.bind_some, Jn]
    have yes : newK (keyL p) x.Key = true → Ev (fun k => (view_shows k x ⟨t, true⟩ n).bind fun r => if r = true then ((push 5629499534059 acc (⟨1, x.Key, x.Value⟩ : Op)).bind fun l => view_Seen.l0 n t m k l (w64 ((p.length : Int) + 1))) else view_Seen.l0 n t m k acc (w64 ((p.length : Int) + 1))) (acc ++ seenP t n (keyL p) (x :: s)) := fun hn => by
      refine Ev.bind (shows_ev t ht ho n x) ?_
      rw [seenP, hn, Bool.true_and]
      simp only [hpu, Option.bind_some, hw]
      cases hq : ((x.Kind == 1) && !hid t n x) with
      | true => simpa using ihY
      | false => simpa using ihN
    have no : newK (keyL p) x.Key = false → Ev (fun k => view_Seen.l0 n t m k acc (w64 ((p.length : Int) + 1))) (acc ++ seenP t n (keyL p) (x :: s)) := fun hn => by
      rw [seenP, hn, hw]
      simpa using ihN
    rcases List.eq_nil_or_concat p with rfl | ⟨p', y, rfl⟩
    · have h0 : ((([] : List Entry).length : Int) == 0) = true := rfl
      simp only [h0, if_true]
      exact yes rfl
    · have h0 : (((p'.concat y).length : Int) == 0) = false := by simp; omega
      have h1 : w64 (((p'.concat y).length : Int) - 1) = (p'.length : Int) := by
        rw [w64_of (by simp <;> omega) (by simp at hpl ⊢ <;> omega)]; simp
      have h2 : idx m (p'.length : Int) = some y := by rw [hp, List.concat_eq_append, List.append_assoc]; exact idx_at p' y _
      have hk : keyL (p'.concat y) = some y.Key := by rw [List.concat_eq_append]; exact keyL_snoc p' y
      simp only [h0, Bool.false_eq_true, if_false, h1, h2, Option.bind_some]
      cases hn : (!sEq y.Key x.Key) with
      | true =>
        simp only [if_true]
        exact yes (by rw [hk]; exact hn)
      | false =>
        simp only [Bool.false_eq_true, if_false]
        exact no (by rw [hk]; exact hn)
theorem seen_ev (l : List Entry) (hl : l.length ≤ 1048576) (t : List Tomb) (ht : t.length ≤ 1048576) (ho : ∀ x ∈ t, okT x = true ∧ 1 ≤ x.Seq) (n : Int) (m : List Entry) (hm : Ev (fun k => ikey_Sorted k l) m) (hml : m.length = l.length) :
    Ev (fun k => view_Seen k l t n) (seenP t n none (m.filter fun e => !decide (n < e.Seq))) := by
  unfold view_Seen
  refine Ev.bind (valid_ev t (by omega)) ?_
  have hft : t.filter okT = t := List.filter_eq_self.2 fun x hx => (ho x hx).1
  rw [hft]
  refine Ev.bind hm ?_
  refine Ev.bind (delete_ev (fun e => decide (n < e.Seq)) m (by omega)) ?_
  have hf : (m.filter fun e => !decide (n < e.Seq)).length ≤ m.length := List.length_filter_le _ _
  exact seen_l0 t ht ho n _ (by omega) _ [] [] rfl (Nat.le_refl _)
theorem ops_l0 (a : List Op) (ha : a.length ≤ 3518437208883) : ∀ (s p : List Op), a = p ++ s → Ev (fun k => l20_ops.l0 a a k (p.length : Int)) true
  | [], p, hp => by
    have e1 : decide ((p.length : Int) < (a.length : Int)) = false := by rw [hp]; exact lt_end p
    refine Ev.succ ?_
    simp only [l20_ops.l0, e1, Bool.false_eq_true, if_false]
    exact Ev.ret
  | x :: s, p, hp => by
    have e1 : decide ((p.length : Int) < (a.length : Int)) = true := by rw [hp]; exact lt_at p s x
    have e2 : idx a (p.length : Int) = some x := by rw [hp]; exact idx_at p x s
    have hw := step_at p s x (by rw [← hp, maxLen_val]; omega)
    refine Ev.succ ?_
    simp only [l20_ops.l0, e1, e2, if_true, Option.bind_some, oeqb, Bool.not_true, Bool.false_eq_true, if_false, hw]
    exact ops_l0 a ha s (p ++ [x]) (by simp [hp])
theorem ops_ev (a : List Op) (ha : a.length ≤ 3518437208883) : Ev (fun k => l20_ops k a a) true := by
  unfold l20_ops
  simp only [bne_self_eq_false, Bool.false_eq_true, if_false]
  exact ops_l0 a ha a [] rfl
end Go.Proofs.Ytlhmchndcilifaa.Mo

set_option maxRecDepth 100000
namespace Go.Proofs.Ytlhmchndcilifaa.Mo
open Go Go.Proofs.Ytlhmchndcilifaa.Sy
def Rise (W : List Op) : Prop := W.Pairwise fun a b => slt a.Key b.Key
theorem Rise.ext {A B : List Op} (ha : Rise A) (hb : Rise B) (h : ∀ x, x ∈ A ↔ x ∈ B) : A = B := by
  have na : A.Nodup := (List.Pairwise.imp (S := fun a b : Op => a ≠ b) (fun {a b} h e => by subst e; exact slt_irrefl _ h) ha)
  have nb : B.Nodup := (List.Pairwise.imp (S := fun a b : Op => a ≠ b) (fun {a b} h e => by subst e; exact slt_irrefl _ h) hb)
  exact List.Perm.eq_of_pairwise (le := fun a b : Op => slt a.Key b.Key) (fun a b _ _ p q => absurd q (slt_asymm p)) ha hb ((List.perm_ext_iff_of_nodup na nb).2 h)
theorem ltE_key {e x : Entry} (h : ¬ ltE e x) : ¬ slt e.Key x.Key := fun g => h (ltE_iff.2 (.inl g))
theorem ltE_seq {e x : Entry} (h : ¬ ltE e x) (hk : e.Key = x.Key) : e.Seq ≤ x.Seq := by
  by_cases g : e.Seq ≤ x.Seq
  · exact g
  · exact absurd (ltE_iff.2 (.inr ⟨hk, .inl (by omega)⟩)) h
theorem newK_iff {q : Option ByteArray} {k : ByteArray} : newK q k = true ↔ q ≠ some k := by
  cases q with
  | none => simp [newK]
  | some a =>
    rw [newK, Bool.not_eq_true', sEq_false]
    exact ⟨fun h g => h (Option.some.inj g), fun h g => h (by rw [g])⟩
theorem mem_seenP (T : List Tomb) (n : Int) : ∀ (s : List Entry) (q : Option ByteArray), Srt ltE s → (s.Pairwise fun a b => a.Seq ≠ b.Seq) → (∀ a, q = some a → ∀ e ∈ s, ¬ slt e.Key a) → ∀ op,
    (op ∈ seenP T n q s ↔ ∃ e ∈ s, op = opE e ∧ e.Kind = 1 ∧ hid T n e = false ∧ (∀ f ∈ s, f.Key = e.Key → f.Seq ≤ e.Seq) ∧ q ≠ some e.Key)
  | [], q, _, _, _, op => by simp [seenP]
  | x :: r, q, hs, hd, hq, op => by
    obtain ⟨s1, s2⟩ := List.pairwise_cons.1 hs
    obtain ⟨d1, d2⟩ := List.pairwise_cons.1 hd
    have ih := mem_seenP T n r (some x.Key) s2 d2 (fun a ha e he => by cases ha; exact ltE_key (s1 e he)) op
    rw [seenP, List.mem_append, ih]
    have hfirst : (op ∈ (if newK q x.Key && ((x.Kind == 1) && !hid T n x) then [opE x] else [])) ↔ (op = opE x ∧ x.Kind = 1 ∧ hid T n x = false ∧ q ≠ some x.Key) := by
      by_cases c : (newK q x.Key && ((x.Kind == 1) && !hid T n x)) = true
      · rw [if_pos c]
        simp only [Bool.and_eq_true, newK_iff, beq_iff_eq, Bool.not_eq_true'] at c
        simp [c]
      · rw [if_neg c]
        simp only [Bool.and_eq_true, newK_iff, beq_iff_eq, Bool.not_eq_true'] at c
        constructor
        · intro h; cases h
        · rintro ⟨_, c1, c2, c3⟩; exact absurd ⟨c3, c1, c2⟩ c
    rw [hfirst]
    constructor
    · rintro (⟨c0, c1, c2, c3⟩ | ⟨e, he, c0, c1, c2, c3, c4⟩)
      · refine ⟨x, by simp, c0, c1, c2, fun f hf hk => ?_, c3⟩
        rcases List.mem_cons.1 hf with rfl | hf
        · exact Int.le_refl _
        · exact ltE_seq (s1 f hf) hk
      · have hne : x.Key ≠ e.Key := fun g => c4 (by rw [g])
        refine ⟨e, by simp [he], c0, c1, c2, fun f hf hk => ?_, fun g => ?_⟩
        · rcases List.mem_cons.1 hf with rfl | hf
          · exact absurd hk hne
          · exact c3 f hf hk
        · have g1 := hq _ g x (by simp)
          have g2 := ltE_key (s1 e he)
          exact hne (sle_antisymm g2 g1)
    · rintro ⟨e, he, c0, c1, c2, c3, c4⟩
      rcases List.mem_cons.1 he with rfl | he
      · exact .inl ⟨c0, c1, c2, c4⟩
      · refine .inr ⟨e, he, c0, c1, c2, fun f hf => c3 f (by simp [hf]), fun g => ?_⟩
        have hk : x.Key = e.Key := Option.some.inj g
        have g1 := c3 x (by simp) hk
        have g2 := ltE_seq (s1 e he) hk.symm
        exact d1 e he (by omega)
theorem rise_seenP (T : List Tomb) (n : Int) : ∀ (s : List Entry) (q : Option ByteArray), Srt ltE s → (s.Pairwise fun a b => a.Seq ≠ b.Seq) → (∀ a, q = some a → ∀ e ∈ s, ¬ slt e.Key a) → Rise (seenP T n q s)
  | [], q, _, _, _ => List.Pairwise.nil
  | x :: r, q, hs, hd, hq => by
    obtain ⟨s1, s2⟩ := List.pairwise_cons.1 hs
    obtain ⟨d1, d2⟩ := List.pairwise_cons.1 hd
    have hq' : ∀ a, some x.Key = some a → ∀ e ∈ r, ¬ slt e.Key a := fun a ha e he => by cases ha; exact ltE_key (s1 e he)
    have ih := rise_seenP T n r (some x.Key) s2 d2 hq'
    rw [seenP]
    split
    · refine List.pairwise_cons.2 ⟨fun op hop => ?_, ih⟩
      obtain ⟨e, he, c0, _, _, _, c4⟩ := (mem_seenP T n r (some x.Key) s2 d2 hq' op).1 hop
      subst c0
      show slt x.Key e.Key
      rcases slt_tri x.Key e.Key with g | g | g
      · exact g
      · exact absurd (by rw [g]) c4
      · exact absurd g (ltE_key (s1 e he))
    · exact ih
def Sem (L : List Entry) (T : List Tomb) (s : Int) (op : Op) : Prop :=
  ∃ e ∈ L, e.Seq ≤ s ∧ op = opE e ∧ e.Kind = 1 ∧ (∀ x ∈ T, hidB s e x = false) ∧ ∀ f ∈ L, f.Seq ≤ s → f.Key = e.Key → f.Seq ≤ e.Seq
theorem hidB_far {s : Int} {e : Entry} {x : Tomb} (h : s < x.Seq) : hidB s e x = false := by
  unfold hidB cov
  simp [decide_eq_false (by omega : ¬ x.Seq ≤ s)]
theorem seen_sem {L m : List Entry} (T : List Tomb) (s : Int) (hs : Srt ltE m) (hp : L.Perm m) (hd : L.Pairwise fun a b => a.Seq < b.Seq) :
    Rise (seenP T s none (m.filter fun e => !decide (s < e.Seq))) ∧ ∀ op, (op ∈ seenP T s none (m.filter fun e => !decide (s < e.Seq)) ↔ Sem L T s op) := by
  have hmd : m.Pairwise fun a b => a.Seq ≠ b.Seq := by
    have : (L.Pairwise fun a b => a.Seq ≠ b.Seq) := hd.imp fun {a b} h => by omega
    exact (hp.pairwise_iff (fun {a b} h g => h g.symm)).1 this
  have hs' : Srt ltE (m.filter fun e => !decide (s < e.Seq)) := List.Pairwise.filter _ hs
  have hd' : (m.filter fun e => !decide (s < e.Seq)).Pairwise fun a b => a.Seq ≠ b.Seq := List.Pairwise.filter _ hmd
  refine ⟨rise_seenP T s _ none hs' hd' (fun a h => by cases h), fun op => ?_⟩
  rw [mem_seenP T s _ none hs' hd' (fun a h => by cases h) op]
  have hmem : ∀ e, e ∈ (m.filter fun e => !decide (s < e.Seq)) ↔ e ∈ L ∧ e.Seq ≤ s := fun e => by
    rw [List.mem_filter, hp.mem_iff]
    simp
  unfold Sem
  constructor
  · rintro ⟨e, he, c0, c1, c2, c3, _⟩
    obtain ⟨h1, h2⟩ := (hmem e).1 he
    refine ⟨e, h1, h2, c0, c1, fun x hx => ?_, fun f hf hfs => c3 f ((hmem f).2 ⟨hf, hfs⟩)⟩
    unfold hid at c2
    exact Bool.eq_false_iff.2 fun g => by rw [List.any_eq_false] at c2; exact c2 x hx g
  · rintro ⟨e, h1, h2, c0, c1, c2, c3⟩
    refine ⟨e, (hmem e).2 ⟨h1, h2⟩, c0, c1, ?_, fun f hf => c3 f ((hmem f).1 hf).1 ((hmem f).1 hf).2, fun g => by cases g⟩
    unfold hid
    rw [List.any_eq_false]
    intro x hx g
    rw [c2 x hx] at g
    cases g
theorem Sem.far {L L' : List Entry} {T T' : List Tomb} {s : Int} (hl : ∀ e ∈ L', s < e.Seq) (ht : ∀ x ∈ T', s < x.Seq) (op : Op) : Sem (L ++ L') (T ++ T') s op ↔ Sem L T s op := by
  unfold Sem
  constructor
  · rintro ⟨e, h1, h2, c0, c1, c2, c3⟩
    rcases List.mem_append.1 h1 with h1 | h1
    · exact ⟨e, h1, h2, c0, c1, fun x hx => c2 x (by simp [hx]), fun f hf => c3 f (by simp [hf])⟩
    · have := hl e h1; omega
  · rintro ⟨e, h1, h2, c0, c1, c2, c3⟩
    refine ⟨e, by simp [h1], h2, c0, c1, fun x hx => ?_, fun f hf hfs hk => ?_⟩
    · rcases List.mem_append.1 hx with hx | hx
      · exact c2 x hx
      · exact hidB_far (ht x hx)
    · rcases List.mem_append.1 hf with hf | hf
      · exact c3 f hf hfs hk
      · have := hl f hf; omega
theorem hidB_up {s s' : Int} {e : Entry} {x : Tomb} (h : x.Seq ≤ s) (h' : x.Seq ≤ s') : hidB s e x = hidB s' e x := by
  unfold hidB cov
  rw [decide_eq_true h, decide_eq_true h']
theorem Sem.up {L : List Entry} {T : List Tomb} {s s' : Int} (hl : ∀ e ∈ L, e.Seq ≤ s) (ht : ∀ x ∈ T, x.Seq ≤ s) (h : s ≤ s') (op : Op) : Sem L T s' op ↔ Sem L T s op := by
  unfold Sem
  constructor
  · rintro ⟨e, h1, h2, c0, c1, c2, c3⟩
    exact ⟨e, h1, hl e h1, c0, c1, fun x hx => by rw [hidB_up (ht x hx) (Int.le_trans (ht x hx) h)]; exact c2 x hx, fun f hf _ => c3 f hf (Int.le_trans (hl f hf) h)⟩
  · rintro ⟨e, h1, h2, c0, c1, c2, c3⟩
    exact ⟨e, h1, Int.le_trans h2 h, c0, c1, fun x hx => by rw [← hidB_up (ht x hx) (Int.le_trans (ht x hx) h)]; exact c2 x hx, fun f hf _ => c3 f hf (hl f hf)⟩
theorem Sem.ent {L : List Entry} {T : List Tomb} {n : Int} {e0 : Entry} (hl : ∀ e ∈ L, e.Seq < n) (ht : ∀ x ∈ T, x.Seq < n) (h0 : e0.Seq = n) (op : Op) :
    Sem (L ++ [e0]) T n op ↔ (e0.Kind = 1 ∧ op = opE e0) ∨ (Sem L T n op ∧ op.Key ≠ e0.Key) := by
  unfold Sem
  constructor
  · rintro ⟨e, h1, h2, c0, c1, c2, c3⟩
    rcases List.mem_append.1 h1 with h1 | h1
    · refine .inr ⟨⟨e, h1, h2, c0, c1, c2, fun f hf => c3 f (by simp [hf])⟩, fun g => ?_⟩
      have hk : e0.Key = e.Key := by rw [← g, c0]; rfl
      have := c3 e0 (by simp) (by omega) hk
      have := hl e h1
      omega
    · rw [List.mem_singleton] at h1
      subst h1
      exact .inl ⟨c1, c0⟩
  · rintro (⟨c1, c0⟩ | ⟨⟨e, h1, h2, c0, c1, c2, c3⟩, hk⟩)
    · refine ⟨e0, by simp, by omega, c0, c1, fun x hx => ?_, fun f hf hfs _ => by omega⟩
      have := ht x hx
      unfold hidB
      rw [decide_eq_false (by omega), Bool.and_false]
    · refine ⟨e, by simp [h1], h2, c0, c1, c2, fun f hf hfs g => ?_⟩
      rcases List.mem_append.1 hf with hf | hf
      · exact c3 f hf hfs g
      · rw [List.mem_singleton] at hf
        subst hf
        exact absurd (by rw [c0]; exact g.symm) hk
theorem Sem.tmb {L : List Entry} {T : List Tomb} {n : Int} {x0 : Tomb} (hl : ∀ e ∈ L, e.Seq < n) (h0 : x0.Seq = n) (hok : okT x0 = true) (op : Op) :
    Sem L (T ++ [x0]) n op ↔ (Sem L T n op ∧ ¬ (¬ slt op.Key x0.Begin ∧ slt op.Key x0.End)) := by
  have hh : ∀ e ∈ L, (hidB n e x0 = false ↔ ¬ (¬ slt e.Key x0.Begin ∧ slt e.Key x0.End)) := fun e he => by
    have := hl e he
    unfold hidB cov
    rw [hok, decide_eq_true (by omega : x0.Seq ≤ n), decide_eq_true (by omega : e.Seq < x0.Seq), Bool.true_and, Bool.true_and, Bool.and_true, sLt_dec, sLt_dec, sEq_dec]
    have hle : (decide (slt x0.Begin e.Key) || decide (x0.Begin = e.Key)) = decide (¬ slt e.Key x0.Begin) := by
      rw [← Bool.decide_or]
      exact decide_eq_decide.2 sle_iff.symm
    rw [hle, ← Bool.decide_and, decide_eq_false_iff_not]
  unfold Sem
  constructor
  · rintro ⟨e, h1, h2, c0, c1, c2, c3⟩
    refine ⟨⟨e, h1, h2, c0, c1, fun x hx => c2 x (by simp [hx]), c3⟩, ?_⟩
    rw [c0]
    exact (hh e h1).1 (c2 x0 (by simp))
  · rintro ⟨⟨e, h1, h2, c0, c1, c2, c3⟩, hk⟩
    refine ⟨e, h1, h2, c0, c1, fun x hx => ?_, c3⟩
    rcases List.mem_append.1 hx with hx | hx
    · exact c2 x hx
    · rw [List.mem_singleton] at hx
      subst hx
      rw [c0] at hk
      exact (hh e h1).2 hk
end Go.Proofs.Ytlhmchndcilifaa.Mo

set_option maxRecDepth 100000
namespace Go.Proofs.Ytlhmchndcilifaa.Mo
open Go Go.Proofs.Ytlhmchndcilifaa.Sy
def dropO (o x : Op) : Bool := if (sEq x.Key o.Key && (o.Kind != 2)) = true then true else if (o.Kind == 2) = true then (if (!sLt x.Key o.Key) = true then sLt x.Key o.Value else false) else false
def putO (o : Op) (b : Bool) (x : Op) : Bool := if ((o.Kind == 1) && (!b)) = true then (!sLt x.Key o.Key) else false
def dn (o : Op) : Bool → List Op → List Op
  | b, [] => if ((o.Kind == 1) && (!b)) = true then [o] else []
  | b, x :: s => (if putO o b x = true then [o] else []) ++ ((if dropO o x = true then [] else [x]) ++ dn o (b || putO o b x) s)
theorem done_l0 (W : List Op) (hW : W.length ≤ 1048577) (o : Op) : ∀ (s p out : List Op) (b : Bool), W = p ++ s → out.length ≤ 2 * p.length → Ev (fun k => l20_done.l0 W o k out b (p.length : Int)) (out ++ dn o b s)
  | [], p, out, b, hp, ho => by
    have e1 : decide ((p.length : Int) < (W.length : Int)) = false := by rw [hp]; exact lt_end p
    have hpl : p.length ≤ W.length := by rw [hp]; simp
    have hpo : push 5629499534059 out o = some (out ++ [o]) := push_ok (by omega)
    refine Ev.succ (Ev.of fun k => ?_)
    simp only [l20_done.l0, e1, Bool.false_eq_true, if_false, Jn, dn]
    cases h1 : ((o.Kind == 1) && (!b)) <;> simp [hpo]
  | x :: s, p, out, b, hp, ho => by
    have e1 : decide ((p.length : Int) < (W.length : Int)) = true := by rw [hp]; exact lt_at p s x
    have e2 : idx W (p.length : Int) = some x := by rw [hp]; exact idx_at p x s
    have hpl : p.length + 1 ≤ W.length := by rw [hp]; simp
    have hw := step_at p s x (by rw [← hp, maxLen_val]; omega)
    have hpo : push 5629499534059 out o = some (out ++ [o]) := push_ok (by omega)
    have hpx : push 5629499534059 out x = some (out ++ [x]) := push_ok (by omega)
    have hpox : push 5629499534059 (out ++ [o]) x = some (out ++ [o] ++ [x]) := push_ok (by simp; omega)
    have step : ∀ k, l20_done.l0 W o (k + 1) out b (p.length : Int) = l20_done.l0 W o k (out ++ ((if putO o b x = true then [o] else []) ++ (if dropO o x = true then [] else [x]))) (b || putO o b x) ((p ++ [x]).length : Int) := fun k => by
      simp only [l20_done.l0, e1, if_true, e2, Option.bind_some, Jn, hw]
      unfold putO dropO
      cases h1 : ((o.Kind == 1) && (!b)) <;> cases h2 : sLt x.Key o.Key <;> cases h3 : (sEq x.Key o.Key && (o.Kind != 2)) <;> cases h4 : (o.Kind == 2) <;> cases h5 : sLt x.Key o.Value <;>
        simp only [Bool.not_true, Bool.not_false, Bool.false_eq_true, if_true, if_false, hpo, hpx, hpox, Option.bind_some, Bool.or_false, Bool.or_true, List.append_nil, List.nil_append, List.append_assoc]
    have ih := done_l0 W hW o s (p ++ [x]) (out ++ ((if putO o b x = true then [o] else []) ++ (if dropO o x = true then [] else [x]))) (b || putO o b x) (by simp [hp]) (by
      have h1 : (if putO o b x = true then [o] else []).length ≤ 1 := by split <;> simp
      have h2 : (if dropO o x = true then [] else [x]).length ≤ 1 := by split <;> simp
      simp only [List.length_append, List.length_singleton]; omega)
    refine Ev.succ (Ev.congr step (ih.to ?_))
    simp [dn]
theorem done_ev (W : List Op) (hW : W.length ≤ 1048577) (o : Op) : Ev (fun k => l20_done k W o) (dn o false W) := done_l0 W hW o W [] [] false rfl (by simp)
theorem mem_dn (o : Op) (y : Op) : ∀ (W : List Op) (b : Bool), y ∈ dn o b W ↔ (o.Kind = 1 ∧ b = false ∧ y = o) ∨ (y ∈ W ∧ dropO o y = false)
  | [], b => by
    simp only [dn]
    cases b <;> by_cases h : o.Kind = 1 <;> simp [h]
  | x :: s, b => by
    rw [dn, List.mem_append, List.mem_append, mem_dn o y s]
    have hx : (y ∈ (if dropO o x = true then [] else [x])) ↔ (y = x ∧ dropO o y = false) := by
      by_cases c : dropO o x = true
      · rw [if_pos c]; constructor
        · intro h; cases h
        · rintro ⟨rfl, g⟩; rw [c] at g; cases g
      · rw [if_neg c, List.mem_singleton]
        exact ⟨fun h => ⟨h, by rw [h]; exact Bool.eq_false_iff.2 c⟩, fun h => h.1⟩
    rw [hx, List.mem_cons]
    have hp : putO o b x = true → o.Kind = 1 ∧ b = false := fun h => by
      unfold putO at h
      split at h
      · rename_i g; simpa using g
      · cases h
    cases hb : putO o b x with
    | true =>
      obtain ⟨g1, g2⟩ := hp hb
      simp [g1, g2]
      by_cases c : y = o <;> simp [c]
      constructor
      · rintro (⟨a, b⟩ | ⟨a, b⟩)
        · exact ⟨.inl a, b⟩
        · exact ⟨.inr a, b⟩
      · rintro ⟨a | a, b⟩
        · exact .inl ⟨a, b⟩
        · exact .inr ⟨a, b⟩
    | false =>
      simp only [Bool.false_eq_true, if_false, List.not_mem_nil, false_or, Bool.or_false]
      constructor
      · rintro (⟨rfl, h⟩ | h | ⟨h, g⟩)
        · exact .inr ⟨.inl rfl, h⟩
        · exact .inl h
        · exact .inr ⟨.inr h, g⟩
      · rintro (h | ⟨rfl | h, g⟩)
        · exact .inr (.inl h)
        · exact .inl ⟨rfl, g⟩
        · exact .inr (.inr ⟨h, g⟩)
theorem dn_filter (o : Op) : ∀ (W : List Op) (b : Bool), (o.Kind ≠ 1 ∨ b = true) → dn o b W = W.filter fun x => !dropO o x
  | [], b, h => by
    simp only [dn, List.filter_nil]
    rcases h with h | h <;> simp [h]
  | x :: s, b, h => by
    have hp : putO o b x = false := by
      unfold putO
      rcases h with h | h <;> simp [h]
    rw [dn, hp, Bool.or_false, dn_filter o s b h]
    by_cases c : dropO o x = true <;> simp [c]
theorem dn_len (o : Op) : ∀ (W : List Op) (b : Bool), (dn o b W).length ≤ W.length + (if b = true then 0 else 1)
  | [], b => by
    simp only [dn]
    cases b <;> split <;> simp_all
  | x :: s, b => by
    have ih := dn_len o s (b || putO o b x)
    have h2 : (if dropO o x = true then [] else [x]).length ≤ 1 := by split <;> simp
    rw [dn, List.length_append, List.length_append, List.length_cons]
    cases hb : putO o b x with
    | false => rw [hb, Bool.or_false] at ih; simp only [Bool.false_eq_true, if_false, List.length_nil, Bool.or_false]; omega
    | true =>
      rw [hb, Bool.or_true] at ih
      have : b = false := by
        unfold putO at hb
        split at hb
        · rename_i g; simp at g; exact g.2
        · cases hb
      subst this
      simp only [if_true, List.length_singleton, Bool.or_true, Bool.false_eq_true, if_false] at ih ⊢
      omega
theorem drop_key {o x : Op} (h : o.Kind ≠ 2) : dropO o x = sEq x.Key o.Key := by
  unfold dropO
  have h1 : (o.Kind != 2) = true := bne_iff_ne.2 h
  have h2 : (o.Kind == 2) = false := beq_eq_false_iff_ne.2 h
  rw [h1, h2, Bool.and_true]
  cases sEq x.Key o.Key <;> rfl
theorem drop_range {o x : Op} (h : o.Kind = 2) : dropO o x = decide (¬ slt x.Key o.Key ∧ slt x.Key o.Value) := by
  unfold dropO
  have h1 : (o.Kind != 2) = false := by rw [h]; rfl
  have h2 : (o.Kind == 2) = true := by rw [h]; rfl
  rw [h1, h2, Bool.and_false, sLt_dec, sLt_dec]
  by_cases c : slt x.Key o.Key <;> simp [c]
theorem rise_dn (o : Op) : ∀ (W : List Op), Rise W → Rise (dn o false W) := fun W => by
  by_cases ho : o.Kind = 1
  · induction W with
    | nil => intro _; simp [dn, ho, Rise]
    | cons x s ih =>
      intro h
      obtain ⟨h1, h2⟩ := List.pairwise_cons.1 h
      by_cases c : slt x.Key o.Key
      · have hp : putO o false x = false := by unfold putO; simp [ho, sLt_iff.2 c]
        have hd : dropO o x = false := by rw [drop_key (by omega)]; exact sEq_false.2 fun e => slt_irrefl _ (e ▸ c)
        rw [dn, hp, hd]
        simp only [Bool.false_eq_true, if_false, List.nil_append, Bool.or_false, List.singleton_append]
        refine List.pairwise_cons.2 ⟨fun y hy => ?_, ih h2⟩
        rcases (mem_dn o y s false).1 hy with ⟨_, _, rfl⟩ | ⟨hy, _⟩
        · exact c
        · exact h1 y hy
      · have hp : putO o false x = true := by unfold putO; simp [ho, sLt_false.2 c]
        have e : dn o false (x :: s) = o :: (x :: s).filter fun x => !dropO o x := by
          rw [dn, hp, Bool.or_true, dn_filter o s true (.inr rfl)]
          by_cases c : dropO o x = true <;> simp [c]
        rw [e]
        refine List.pairwise_cons.2 ⟨fun y hy => ?_, h.filter _⟩
        rw [List.mem_filter] at hy
        obtain ⟨hy, g⟩ := hy
        rw [drop_key (by omega), Bool.not_eq_true', sEq_false] at g
        have hle : sle o.Key y.Key := by
          rcases List.mem_cons.1 hy with rfl | hy
          · exact c
          · exact sle_trans c (sle_of_lt (h1 y hy))
        rcases sle_iff.1 hle with k | k
        · exact k
        · exact absurd k.symm g
  · intro h
    rw [dn_filter o W false (.inl ho)]
    exact h.filter _
def cnt (L : List Entry) (T : List Tomb) (s : Int) : Nat := (L.filter fun e => decide (e.Seq ≤ s)).length + (T.filter fun x => decide (x.Seq ≤ s)).length
structure BI (L : List Entry) (T : List Tomb) (SS : List (List Op)) (n : Int) : Prop where
  le : ∀ e ∈ L, 1 ≤ e.Seq ∧ e.Seq ≤ n
  lt : ∀ x ∈ T, (1 ≤ x.Seq ∧ x.Seq ≤ n) ∧ okT x = true
  nd : L.Pairwise fun a b => a.Seq < b.Seq
  cur : Rise (lastL SS) ∧ ∀ op, op ∈ lastL SS ↔ Sem L T n op
  len : SS.length = L.length + T.length
  wl : ∀ W ∈ SS, W.length ≤ SS.length
  old : ∀ s, ((∃ e ∈ L, e.Seq = s) ∨ ∃ x ∈ T, x.Seq = s) → 1 ≤ cnt L T s ∧ ∃ W, SS[cnt L T s - 1]? = some W ∧ Rise W ∧ ∀ op, op ∈ W ↔ Sem L T s op
theorem lastL_snoc {α : Type} (l : List (List α)) (x : List α) : lastL (l ++ [x]) = x := by simp [lastL]
theorem lastL_len {α : Type} {l : List (List α)} {n : Nat} (h : ∀ x ∈ l, x.length ≤ n) : (lastL l).length ≤ n := by
  unfold lastL
  cases hl : l.getLast? with
  | none => simp
  | some x => exact h x (List.mem_of_getLast? hl)
theorem filter_none {α : Type} {l : List α} {f : α → Int} {s n : Int} (h : ∀ e ∈ l, f e = n) (hs : s < n) : (l.filter fun e => decide (f e ≤ s)) = [] := by
  rw [List.filter_eq_nil_iff]
  intro e he
  have := h e he
  simp; omega
theorem filter_all {α : Type} {l : List α} {f : α → Int} {s : Int} (h : ∀ e ∈ l, f e ≤ s) : (l.filter fun e => decide (f e ≤ s)) = l :=
  List.filter_eq_self.2 fun e he => decide_eq_true (h e he)
theorem BI.skip {L : List Entry} {T : List Tomb} {SS : List (List Op)} {n : Int} (h : BI L T SS n) : BI L T SS (n + 1) where
  le e he := ⟨(h.le e he).1, by have := (h.le e he).2; omega⟩
  lt x hx := ⟨⟨(h.lt x hx).1.1, by have := (h.lt x hx).1.2; omega⟩, (h.lt x hx).2⟩
  nd := h.nd
  cur := ⟨h.cur.1, fun op => (h.cur.2 op).trans (Sem.up (fun e he => (h.le e he).2) (fun x hx => (h.lt x hx).1.2) (by omega) op).symm⟩
  len := h.len
  wl := h.wl
  old := h.old
theorem BI.step {L : List Entry} {T : List Tomb} {SS : List (List Op)} {n : Int} (h : BI L T SS n) (hn : 0 ≤ n) {le : List Entry} {te : List Tomb} {W : List Op} (hle : ∀ e ∈ le, e.Seq = n + 1) (hte : ∀ x ∈ te, x.Seq = n + 1)
    (hok : ∀ x ∈ te, okT x = true) (h1 : le.length + te.length = 1) (hr : Rise W) (hm : ∀ op, op ∈ W ↔ Sem (L ++ le) (T ++ te) (n + 1) op) (hwl : W.length ≤ SS.length + 1) : BI (L ++ le) (T ++ te) (SS ++ [W]) (n + 1) where
  le e he := by
    rcases List.mem_append.1 he with he | he
    · exact ⟨(h.le e he).1, by have := (h.le e he).2; omega⟩
    · have := hle e he; omega
  lt x hx := by
    rcases List.mem_append.1 hx with hx | hx
    · exact ⟨⟨(h.lt x hx).1.1, by have := (h.lt x hx).1.2; omega⟩, (h.lt x hx).2⟩
    · have := hte x hx; exact ⟨by omega, hok x hx⟩
  nd := by
    refine List.pairwise_append.2 ⟨h.nd, ?_, fun a ha b hb => by have := (h.le a ha).2; have := hle b hb; omega⟩
    match le, h1 with
    | [], _ => exact List.Pairwise.nil
    | [e], _ => simp
    | _ :: _ :: _, h1 => simp at h1; omega
  cur := by rw [lastL_snoc]; exact ⟨hr, hm⟩
  len := by have := h.len; simp only [List.length_append, List.length_singleton]; omega
  wl V hV := by
    simp only [List.length_append, List.length_singleton]
    rcases List.mem_append.1 hV with hV | hV
    · have := h.wl V hV; omega
    · rw [List.mem_singleton] at hV; subst hV; exact hwl
  old s hs := by
    have hlen := h.len
    by_cases c : s = n + 1
    · subst c
      have hc : cnt (L ++ le) (T ++ te) (n + 1) = SS.length + 1 := by
        unfold cnt
        rw [filter_all (f := fun e : Entry => e.Seq), filter_all (f := fun x : Tomb => x.Seq)]
        · simp only [List.length_append]; omega
        · intro x hx
          rcases List.mem_append.1 hx with hx | hx
          · have := (h.lt x hx).1.2; omega
          · have := hte x hx; omega
        · intro e he
          rcases List.mem_append.1 he with he | he
          · have := (h.le e he).2; omega
          · have := hle e he; omega
      rw [hc]
      exact ⟨by omega, W, by simp, hr, hm⟩
    · have hs' : (∃ e ∈ L, e.Seq = s) ∨ ∃ x ∈ T, x.Seq = s := by
        rcases hs with ⟨e, he, g⟩ | ⟨x, hx, g⟩
        · rcases List.mem_append.1 he with he | he
          · exact .inl ⟨e, he, g⟩
          · have := hle e he; omega
        · rcases List.mem_append.1 hx with hx | hx
          · exact .inr ⟨x, hx, g⟩
          · have := hte x hx; omega
      have hsn : s ≤ n := by
        rcases hs' with ⟨e, he, g⟩ | ⟨x, hx, g⟩
        · have := (h.le e he).2; omega
        · have := (h.lt x hx).1.2; omega
      have hc : cnt (L ++ le) (T ++ te) s = cnt L T s := by
        unfold cnt
        rw [List.filter_append, List.filter_append, filter_none (f := fun e : Entry => e.Seq) hle (by omega), filter_none (f := fun x : Tomb => x.Seq) hte (by omega), List.append_nil, List.append_nil]
      obtain ⟨k1, V, k2, k3, k4⟩ := h.old s hs'
      rw [hc]
      refine ⟨k1, V, ?_, k3, fun op => (k4 op).trans (Sem.far (fun e he => by have := hle e he; omega) (fun x hx => by have := hte x hx; omega) op).symm⟩
      rw [List.getElem?_append_left (List.getElem?_eq_some_iff.1 k2).1]
      exact k2
theorem BI.nil : BI [] [] [] 0 where
  le e he := by cases he
  lt x hx := by cases hx
  nd := List.Pairwise.nil
  cur := ⟨List.Pairwise.nil, fun op => ⟨fun h => (by cases h), fun h => (by obtain ⟨e, he, _⟩ := h; cases he)⟩⟩
  len := rfl
  wl W hW := by cases hW
  old s hs := by
    rcases hs with ⟨e, he, _⟩ | ⟨x, hx, _⟩
    · cases he
    · cases hx
theorem seen_is {L : List Entry} {T : List Tomb} {s : Int} {W : List Op} (hl : L.length ≤ 1048576) (ht : T.length ≤ 1048576) (ho : ∀ x ∈ T, okT x = true ∧ 1 ≤ x.Seq) (hd : L.Pairwise fun a b => a.Seq < b.Seq)
    (hr : Rise W) (hm : ∀ op, op ∈ W ↔ Sem L T s op) : Ev (fun k => view_Seen k L T s) W := by
  obtain ⟨m, h1, h2, h3⟩ := isort_ev L (by omega)
  have hs := seen_ev L hl T ht ho s m h3 h2.1.length_eq.symm
  obtain ⟨g1, g2⟩ := seen_sem T s h1 h2.1 hd
  exact hs.to (Rise.ext g1 hr fun x => (g2 x).trans (hm x).symm)
end Go.Proofs.Ytlhmchndcilifaa.Mo

set_option maxRecDepth 100000
namespace Go.Proofs.Ytlhmchndcilifaa.Mo
open Go Go.Proofs.Ytlhmchndcilifaa.Sy
theorem wu64_of {x : Int} (h : 0 ≤ x) (k : x < 18446744073709551616) : wu64 x = x := by
  unfold wu64 IntKind.wrap
  simp [IntKind.bits, IntKind.signed]
  omega
theorem cnt_l3 (L : List Entry) (s : Int) (hL : L.length ≤ 1048576) (J : Int → Option Bool) : ∀ (r p : List Entry) (c : Int) (k : Nat), L = p ++ r → 0 ≤ c → c ≤ 1048576 + p.length → r.length + 1 ≤ k →
    l20_ViewBatches.l3 L s J k c (p.length : Int) = J (c + ((r.filter fun e => decide (e.Seq ≤ s)).length : Int))
  | [], p, c, k, hp, h0, h1, hk => by
    obtain ⟨k, rfl⟩ : ∃ j, k = j + 1 := ⟨k - 1, by omega⟩
    have e1 : decide ((p.length : Int) < (L.length : Int)) = false := by rw [hp]; exact lt_end p
    simp only [l20_ViewBatches.l3, e1, Bool.false_eq_true, if_false]
    simp
  | x :: r, p, c, k, hp, h0, h1, hk => by
    obtain ⟨k, rfl⟩ : ∃ j, k = j + 1 := ⟨k - 1, by omega⟩
    have e1 : decide ((p.length : Int) < (L.length : Int)) = true := by rw [hp]; exact lt_at p r x
    have e2 : idx L (p.length : Int) = some x := by rw [hp]; exact idx_at p x r
    have hpl : p.length + 1 ≤ L.length := by rw [hp]; simp
    have hw := step_at p r x (by rw [← hp, maxLen_val]; omega)
    have hk' : r.length + 1 ≤ k := by simp only [List.length_cons] at hk; omega
    simp only [l20_ViewBatches.l3, e1, if_true, e2, Option.bind_some, Jn, hw]
    by_cases g : x.Seq ≤ s
    · have hc : w64 (c + 1) = c + 1 := w64_of (by omega) (by omega)
      simp only [decide_eq_true g, if_true, hc]
      rw [cnt_l3 L s hL J r (p ++ [x]) (c + 1) k (by simp [hp]) (by omega) (by simp; omega) hk', List.filter_cons, decide_eq_true g, if_pos rfl, List.length_cons]
      congr 1; omega
    · simp only [decide_eq_false g, Bool.false_eq_true, if_false]
      rw [cnt_l3 L s hL J r (p ++ [x]) c k (by simp [hp]) h0 (by simp; omega) hk', List.filter_cons, decide_eq_false g]
      simp only [Bool.false_eq_true, if_false]
theorem cnt_l2 (T : List Tomb) (s : Int) (hL : T.length ≤ 1048576) (J : Int → Option Bool) : ∀ (r p : List Tomb) (c : Int) (k : Nat), T = p ++ r → 0 ≤ c → c ≤ 4048576 + p.length → r.length + 1 ≤ k →
    l20_ViewBatches.l2 T s J k c (p.length : Int) = J (c + ((r.filter fun e => decide (e.Seq ≤ s)).length : Int))
  | [], p, c, k, hp, h0, h1, hk => by
    obtain ⟨k, rfl⟩ : ∃ j, k = j + 1 := ⟨k - 1, by omega⟩
    have e1 : decide ((p.length : Int) < (T.length : Int)) = false := by rw [hp]; exact lt_end p
    simp only [l20_ViewBatches.l2, e1, Bool.false_eq_true, if_false]
    simp
  | x :: r, p, c, k, hp, h0, h1, hk => by
    obtain ⟨k, rfl⟩ : ∃ j, k = j + 1 := ⟨k - 1, by omega⟩
    have e1 : decide ((p.length : Int) < (T.length : Int)) = true := by rw [hp]; exact lt_at p r x
    have e2 : idx T (p.length : Int) = some x := by rw [hp]; exact idx_at p x r
    have hpl : p.length + 1 ≤ T.length := by rw [hp]; simp
    have hw := step_at p r x (by rw [← hp, maxLen_val]; omega)
    have hk' : r.length + 1 ≤ k := by simp only [List.length_cons] at hk; omega
    simp only [l20_ViewBatches.l2, e1, if_true, e2, Option.bind_some, Jn, hw]
    by_cases g : x.Seq ≤ s
    · have hc : w64 (c + 1) = c + 1 := w64_of (by omega) (by omega)
      simp only [decide_eq_true g, if_true, hc]
      rw [cnt_l2 T s hL J r (p ++ [x]) (c + 1) k (by simp [hp]) (by omega) (by simp; omega) hk', List.filter_cons, decide_eq_true g, if_pos rfl, List.length_cons]
      congr 1; omega
    · simp only [decide_eq_false g, Bool.false_eq_true, if_false]
      rw [cnt_l2 T s hL J r (p ++ [x]) c k (by simp [hp]) h0 (by simp; omega) hk', List.filter_cons, decide_eq_false g]
      simp only [Bool.false_eq_true, if_false]
theorem seen_l1 {L : List Entry} {T : List Tomb} {SS : List (List Op)} {n : Int} (h : BI L T SS n) (hl : L.length + T.length ≤ 1048576) (J : Nat → Option Bool) (hJ : Ev J true) : ∀ (d i : Nat), i + d = L.length + T.length →
    ∃ N, ∀ k q, N ≤ k → N ≤ q → l20_ViewBatches.l1 L T SS (J q) k (i : Int) = some true
  | 0, i, hi => by
    obtain ⟨N, hN⟩ := hJ
    refine ⟨N + 1, fun k q hk hq => ?_⟩
    obtain ⟨k, rfl⟩ : ∃ j, k = j + 1 := ⟨k - 1, by omega⟩
    have hw : w64 ((L.length : Int) + (T.length : Int)) = (L.length : Int) + (T.length : Int) := w64_of (by omega) (by omega)
    have e1 : decide ((i : Int) < (L.length : Int) + (T.length : Int)) = false := decide_eq_false (by omega)
    simp only [l20_ViewBatches.l1, hw, e1, Bool.false_eq_true, if_false]
    exact hN q (by omega)
  | d + 1, i, hi => by
    obtain ⟨N1, ih⟩ := seen_l1 h hl J hJ d (i + 1) (by omega)
    have hw : w64 ((L.length : Int) + (T.length : Int)) = (L.length : Int) + (T.length : Int) := w64_of (by omega) (by omega)
    have hw1 : w64 ((i : Int) + 1) = ((i + 1 : Nat) : Int) := by rw [w64_of (by omega) (by omega)]; omega
    have e1 : decide ((i : Int) < (L.length : Int) + (T.length : Int)) = true := decide_eq_true (by omega)
    have ho : ∀ x ∈ T, okT x = true ∧ 1 ≤ x.Seq := fun x hx => ⟨(h.lt x hx).2, (h.lt x hx).1.1⟩
    -- the number that is looked at
    have hs : ∃ s, ((∃ e ∈ L, e.Seq = s) ∨ ∃ x ∈ T, x.Seq = s) ∧ ∀ (K : Int → Option Bool), (if decide ((i : Int) < (L.length : Int)) = true then ((idx L (i : Int)).bind fun x => K x.Seq) else ((idx T (w64 ((i : Int) - (L.length : Int)))).bind fun x => K x.Seq)) = K s := by
      by_cases g : i < L.length
      · refine ⟨L[i].Seq, .inl ⟨L[i], List.getElem_mem g, rfl⟩, fun K => ?_⟩
        rw [decide_eq_true (by omega : (i : Int) < (L.length : Int)), if_pos rfl, idx_nat, List.getElem?_eq_getElem g]; rfl
      · have g2 : i - L.length < T.length := by omega
        refine ⟨T[i - L.length].Seq, .inr ⟨T[i - L.length], List.getElem_mem g2, rfl⟩, fun K => ?_⟩
        have hw2 : w64 ((i : Int) - (L.length : Int)) = ((i - L.length : Nat) : Int) := by rw [w64_of (by omega) (by omega)]; omega
        rw [decide_eq_false (by omega : ¬ (i : Int) < (L.length : Int)), hw2]
        simp only [Bool.false_eq_true, if_false]
        rw [idx_nat, List.getElem?_eq_getElem g2]; rfl
    obtain ⟨s, hs1, hs2⟩ := hs
    obtain ⟨c1, W, c2, c3, c4⟩ := h.old s hs1
    obtain ⟨N2, h2⟩ := seen_is (by omega) (by omega) ho h.nd c3 c4
    have hWl : W.length ≤ SS.length := h.wl W (List.mem_of_getElem? c2)
    obtain ⟨N3, h3⟩ := ops_ev W (by have := h.len; omega)
    refine ⟨N1 + N2 + N3 + L.length + T.length + 2, fun k q hk hq => ?_⟩
    obtain ⟨k, rfl⟩ : ∃ j, k = j + 1 := ⟨k - 1, by omega⟩
    have hle1 : (L.filter fun e => decide (e.Seq ≤ s)).length ≤ L.length := List.length_filter_le _ _
    have hle2 : (T.filter fun x => decide (x.Seq ≤ s)).length ≤ T.length := List.length_filter_le _ _
    simp only [l20_ViewBatches.l1, hw, e1, if_true, Jn]
    refine (hs2 fun s => l20_ViewBatches.l3 L s (fun i_1255 => l20_ViewBatches.l2 T s (fun i_1278 => (idx SS (w64 (i_1278 - 1))).bind fun x1897 => (view_Seen k L T s).bind fun r1903 => (l20_ops k r1903 x1897).bind fun r1907 => if (!r1907) = true then (some false) else (l20_ViewBatches.l1 L T SS (J q) k (w64 ((i : Int) + 1)))) k i_1255 0) k 0 0).trans ?_
    have a3 := cnt_l3 L s (by omega) (fun i_1255 => l20_ViewBatches.l2 T s (fun i_1278 => (idx SS (w64 (i_1278 - 1))).bind fun x1897 => (view_Seen k L T s).bind fun r1903 => (l20_ops k r1903 x1897).bind fun r1907 => if (!r1907) = true then (some false) else (l20_ViewBatches.l1 L T SS (J q) k (w64 ((i : Int) + 1)))) k i_1255 0) L [] 0 k rfl (by omega) (by simp) (by omega)
    simp only [List.length_nil, Int.natCast_zero] at a3
    rw [a3]
    have a2 := cnt_l2 T s (by omega) (fun i_1278 => (idx SS (w64 (i_1278 - 1))).bind fun x1897 => (view_Seen k L T s).bind fun r1903 => (l20_ops k r1903 x1897).bind fun r1907 => if (!r1907) = true then (some false) else (l20_ViewBatches.l1 L T SS (J q) k (w64 ((i : Int) + 1)))) T [] (0 + ((L.filter fun e => decide (e.Seq ≤ s)).length : Int)) k rfl (by omega) (by simp; omega) (by omega)
    simp only [List.length_nil, Int.natCast_zero] at a2
    rw [a2]
    have hc : w64 (0 + ((L.filter fun e => decide (e.Seq ≤ s)).length : Int) + ((T.filter fun x => decide (x.Seq ≤ s)).length : Int) - 1) = ((cnt L T s - 1 : Nat) : Int) := by
      unfold cnt at c1 ⊢
      rw [w64_of (by omega) (by omega)]; omega
    rw [hc, idx_nat, c2]
    simp only [Option.bind_some, h2 k (by omega), h3 k (by omega), Bool.not_true, Bool.false_eq_true, if_false, hw1]
    exact ih k q (by omega) (by omega)
theorem batches_l0 (a0 : List Op) (ha : a0.length ≤ 1048575) : ∀ (s p : List Op) (L : List Entry) (T : List Tomb) (SS : List (List Op)), a0 = p ++ s → BI L T SS (p.length : Int) → L.length + T.length ≤ p.length →
    Ev (fun k => l20_ViewBatches.l0 a0 k L T SS (p.length : Int) (p.length : Int)) true
  | [], p, L, T, SS, hp, h, hlt => by
    have e1 : decide ((p.length : Int) < (a0.length : Int)) = false := by rw [hp]; exact lt_end p
    have hpl : p.length ≤ a0.length := by rw [hp]; simp
    have ho : ∀ x ∈ T, okT x = true ∧ 1 ≤ x.Seq := fun x hx => ⟨(h.lt x hx).2, (h.lt x hx).1.1⟩
    have hz : Ev (fun k => view_Seen k L T 0) [] := seen_is (by omega) (by omega) ho h.nd List.Pairwise.nil fun op => ⟨fun g => (by cases g), fun g => by
      obtain ⟨e, he, g1, _⟩ := g
      have := (h.le e he).1
      omega⟩
    have hJ : Ev (fun k => (view_Seen k L T 0).bind fun r1382 => some ((r1382.length : Int) == 0)) true := Ev.bind hz (Ev.of fun k => rfl)
    obtain ⟨N, hN⟩ := seen_l1 h (by omega) _ hJ (L.length + T.length) 0 (by omega)
    refine Ev.succ ⟨N, fun k hk => ?_⟩
    simp only [l20_ViewBatches.l0, e1, Bool.false_eq_true, if_false, Jn]
    exact hN k k hk hk
  | x :: s, p, L, T, SS, hp, h, hlt => by
    have e1 : decide ((p.length : Int) < (a0.length : Int)) = true := by rw [hp]; exact lt_at p s x
    have e2 : idx a0 (p.length : Int) = some x := by rw [hp]; exact idx_at p x s
    have hpl : p.length + 1 ≤ a0.length := by rw [hp]; simp
    have hw := step_at p s x (by rw [← hp, maxLen_val]; omega)
    have hwu : wu64 ((p.length : Int) + 1) = ((p ++ [x]).length : Int) := by rw [wu64_of (by omega) (by omega)]; simp
    have hn1 : ((p ++ [x]).length : Int) = (p.length : Int) + 1 := by simp
    have hsl := h.len
    -- passed over
    have pass : Ev (fun k => l20_ViewBatches.l0 a0 k L T SS ((p ++ [x]).length : Int) ((p ++ [x]).length : Int)) true := by
      refine batches_l0 a0 ha s (p ++ [x]) L T SS (by simp [hp]) ?_ (by simp; omega)
      rw [hn1]; exact h.skip
    -- taken
    have take : ∀ (le : List Entry) (te : List Tomb), (∀ e ∈ le, e.Seq = (p.length : Int) + 1) → (∀ y ∈ te, y.Seq = (p.length : Int) + 1) → (∀ y ∈ te, okT y = true) → le.length + te.length = 1 →
        (∀ op, op ∈ dn x false (lastL SS) ↔ Sem (L ++ le) (T ++ te) ((p.length : Int) + 1) op) →
        Ev (fun k => (l20_done k (lastL SS) x).bind fun r777 => (view_Seen k (L ++ le) (T ++ te) ((p ++ [x]).length : Int)).bind fun r788 => (l20_ops k r788 r777).bind fun r792 => if (!r792) = true then (some false) else ((push 9382499223535 SS r777).bind fun l797 => l20_ViewBatches.l0 a0 k (L ++ le) (T ++ te) l797 ((p ++ [x]).length : Int) ((p ++ [x]).length : Int))) true := fun le te g1 g2 g3 g4 g5 => by
      have hll : (lastL SS).length ≤ SS.length := lastL_len h.wl
      have hdl := dn_len x (lastL SS) false
      simp only [Bool.false_eq_true, if_false] at hdl
      have hb := h.step (W := dn x false (lastL SS)) (by omega) g1 g2 g3 g4 (rise_dn x _ h.cur.1) g5 (by omega)
      have hpu : push 9382499223535 SS (dn x false (lastL SS)) = some (SS ++ [dn x false (lastL SS)]) := push_ok (by omega)
      refine Ev.bind (done_ev (lastL SS) (by omega) x) ?_
      rw [hn1]
      refine Ev.bind (seen_is (by simp only [List.length_append]; omega) (by simp only [List.length_append]; omega) (fun y hy => ⟨(hb.lt y hy).2, (hb.lt y hy).1.1⟩) hb.nd (rise_dn x _ h.cur.1) g5) ?_
      refine Ev.bind (ops_ev _ (by omega)) ?_
      simp only [Bool.not_true, Bool.false_eq_true, if_false, hpu, Option.bind_some]
      rw [← hn1] at hb ⊢
      exact batches_l0 a0 ha s (p ++ [x]) (L ++ le) (T ++ te) _ (by simp [hp]) hb (by simp only [List.length_append, List.length_singleton]; omega)
    refine Ev.succ ?_
    simp only [l20_ViewBatches.l0, e1, if_true, Jn, e2, Option.bind_some, hwu, hw]
    by_cases c1 : ((decide ((x.Key.size : Int) < 1)) || (decide (1024 < (x.Key.size : Int)))) = true
    · simp only [c1, if_true]
      exact pass
    · have c1' := c1
      simp only [Bool.or_eq_true, decide_eq_true_eq, not_or] at c1'
      simp only [c1, Bool.false_eq_true, if_false]
      by_cases c2 : (((x.Kind == 2) && (sLt x.Key x.Value)) && (decide ((x.Value.size : Int) ≤ 1024))) = true
      · have hpt : push 5629499534059 T (⟨x.Key, x.Value, ((p ++ [x]).length : Int)⟩ : Tomb) = some (T ++ [⟨x.Key, x.Value, ((p ++ [x]).length : Int)⟩]) := push_ok (by omega)
        simp only [c2, if_true, hpt, Option.bind_some]
        simp only [Bool.and_eq_true, beq_iff_eq, decide_eq_true_eq] at c2
        obtain ⟨⟨k1, k2⟩, k3⟩ := c2
        have hok : okT (⟨x.Key, x.Value, ((p ++ [x]).length : Int)⟩ : Tomb) = true := by
          unfold okT tomb_Valid
          have h0 : sEq x.Key (ByteArray.mk #[]) = false := sEq_false.2 fun e => by rw [e] at c1'; exact c1'.1 (by decide)
          simp only [h0, Bool.not_false, decide_eq_true (by omega : (x.Key.size : Int) ≤ 1024), decide_eq_true (by omega : (x.Value.size : Int) ≤ 1025), k2, decide_eq_true (by rw [hn1]; omega : ((p ++ [x]).length : Int) ≤ 72057594037927935), Bool.and_self, Option.getD_some]
        have := take [] [⟨x.Key, x.Value, ((p ++ [x]).length : Int)⟩] (fun e he => by cases he) (fun y hy => by rw [List.mem_singleton] at hy; subst hy; exact hn1) (fun y hy => by rw [List.mem_singleton] at hy; subst hy; exact hok) rfl (fun op => by
          rw [mem_dn, List.append_nil, Sem.tmb (fun e he => by have := (h.le e he).2; omega) hn1 hok, Sem.up (fun e he => (h.le e he).2) (fun y hy => (h.lt y hy).1.2) (by omega) op, ← h.cur.2 op, drop_range k1, decide_eq_false_iff_not]
          constructor
          · rintro (⟨g, _⟩ | g)
            · omega
            · exact g
          · exact .inr)
        rw [List.append_nil] at this
        exact this
      · simp only [c2, Bool.false_eq_true, if_false]
        by_cases c3 : ((x.Kind == 1) || ((x.Kind == 0) && (sEq x.Value (ByteArray.mk #[])))) = true
        · have hpe : push 4691249611691 L (⟨x.Key, ((p ++ [x]).length : Int), x.Kind, x.Value⟩ : Entry) = some (L ++ [⟨x.Key, ((p ++ [x]).length : Int), x.Kind, x.Value⟩]) := push_ok (by omega)
          simp only [c3, if_true, hpe, Option.bind_some]
          simp only [Bool.or_eq_true, Bool.and_eq_true, beq_iff_eq] at c3
          have k2 : x.Kind ≠ 2 := by rcases c3 with g | g <;> omega
          have := take [⟨x.Key, ((p ++ [x]).length : Int), x.Kind, x.Value⟩] [] (fun e he => by rw [List.mem_singleton] at he; subst he; exact hn1) (fun y hy => by cases hy) (fun y hy => by cases hy) rfl (fun op => by
            rw [mem_dn, List.append_nil, Sem.ent (fun e he => by have := (h.le e he).2; omega) (fun y hy => by have := (h.lt y hy).1.2; omega) hn1, Sem.up (fun e he => (h.le e he).2) (fun y hy => (h.lt y hy).1.2) (by omega) op, ← h.cur.2 op, drop_key k2, sEq_false]
            constructor
            · rintro (⟨g1, _, g2⟩ | g)
              · refine .inl ⟨g1, ?_⟩
                rw [g2]
                show x = ⟨1, x.Key, x.Value⟩
                rw [← g1]
              · exact .inr g
            · rintro (⟨g1, g2⟩ | g)
              · refine .inl ⟨g1, rfl, ?_⟩
                rw [g2]
                show (⟨1, x.Key, x.Value⟩ : Op) = x
                have g1' : x.Kind = 1 := g1
                rw [← g1']
              · exact .inr g)
          rw [List.append_nil] at this
          exact this
        · simp only [c3, Bool.false_eq_true, if_false]
          exact pass
theorem works_at (k : Nat) : l20_works (k + 200) = some true := by kernel_rfl
theorem works_ev : Ev (fun k => l20_works k) true := ⟨200, fun k hk => by
  obtain ⟨j, rfl⟩ : ∃ j, k = j + 200 := ⟨k - 200, by omega⟩
  exact works_at j⟩
theorem batches_law (a0 : List Op) (ha : a0.length ≤ 1048575) : Ev (fun k => l20_ViewBatches k a0) true := by
  unfold l20_ViewBatches
  refine Ev.bind works_ev ?_
  simp only [Bool.not_true, Bool.false_eq_true, if_false]
  exact batches_l0 a0 ha a0 [] [] [] [] rfl BI.nil (by simp)
end Go.Proofs.Ytlhmchndcilifaa.Mo
