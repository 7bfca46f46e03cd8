import Derived.Test.YtbaemhkfmddakaaGreatPMUD
import Derived.Test.YtbaemhkfmddakaaGreatSyUq
import Derived.Test.YtbaemhkfmddakaaGreatMzTw
import Derived.Test.YtbaemhkfmddakaaGreatSySt
import Derived.Test.YtbaemhkfmddakaaGreatSyArr
import Derived.Test.YtbaemhkfmddakaaGreatSyEv
import Derived.Test.YtbaemhkfmddakaaGreatSyPlain
import Derived.KernelRfl
set_option linter.unusedVariables false
set_option linter.unusedSectionVars false
set_option linter.unusedSimpArgs false
set_option maxRecDepth 100000
namespace Go.Proofs.YtbaemhkfmddakaaGreat.Mo
open Go Go.Proofs.YtbaemhkfmddakaaGreat.Sy
theorem cmp_l1_uint64 (a0 : List Int) {i0 : Nat} (hi0 : 1 ≤ i0) (hl : a0.length ≤ 1152921504606846976) : ∀ (n : Nat) (l : List Int) (k q : Nat), a0.length - (i0 + q) ≤ n → 1 ≤ q → i0 + q ≤ a0.length → l.length = a0.length → k + 1 ≤ i0 + q → l.take k = dd (a0.take (i0 + q)) →
    (∀ j, i0 + q ≤ j + 1 → l[j]? = a0[j]?) →
    ∃ l' k', l'.length = a0.length ∧ k' ≤ a0.length ∧ l'.take k' = dd a0 ∧ EvC2 (fun J f => slices_Compact_uint64.l1 a0 (i0 : Int) J f l (k : Int) (q : Int)) l' (k' : Int) := by
  intro n
  induction n with
  | zero =>
    intro l k q hn hq hiq hlen hk ht hr
    have hd : ¬ q < (l.drop i0).length := by simp; omega
    refine ⟨l, k, hlen, by omega, ?_, EvC2.succ ?_⟩
    · rw [ht, List.take_of_length_le (by omega)]
    · simp only [slices_Compact_uint64.l1, cut_drop (l := l) (i := i0) (n := a0.length) hlen.symm (by omega), Option.bind_some, dLtF hd, Bool.false_eq_true, if_false]
      exact EvC2.ret
  | succ n ih =>
    intro l k q hn hq hiq hlen hk ht hr
    by_cases hlt : i0 + q < a0.length
    · have hd : q < (l.drop i0).length := by simp; omega
      have gx : ∀ j, i0 + q ≤ j + 1 → j < a0.length → A 0 l j = A 0 a0 j := fun j h1 h2 => A_congr (hr j h1)
      have i1 : idx (l.drop i0) (q : Int) = some (A 0 a0 (i0 + q)) := by
        rw [idx_nat, List.getElem?_drop, hr _ (by omega), A_get? (d := 0) hlt]
      have i2 : idx (l.drop i0) ((q - 1 : Nat) : Int) = some (A 0 a0 (i0 + q - 1)) := by
        rw [idx_nat, List.getElem?_drop, hr _ (by omega), show i0 + (q - 1) = i0 + q - 1 by omega, A_get? (d := 0) (by omega)]
      have hpre : a0.take (i0 + (q + 1)) = a0.take (i0 + q - 1) ++ [A 0 a0 (i0 + q - 1), A 0 a0 (i0 + q)] := by
        obtain ⟨m, hm⟩ : ∃ m, i0 + q = m + 1 := ⟨i0 + q - 1, by omega⟩
        rw [show i0 + (q + 1) = m + 2 by omega, show i0 + q - 1 = m by omega, hm, List.take_add_one, List.take_add_one, A_get? (d := 0) (show m < a0.length by omega), A_get? (d := 0) (show m + 1 < a0.length by omega)]
        simp
      have hpre0 : a0.take (i0 + q) = a0.take (i0 + q - 1) ++ [A 0 a0 (i0 + q - 1)] := by
        obtain ⟨m, hm⟩ : ∃ m, i0 + q = m + 1 := ⟨i0 + q - 1, by omega⟩
        rw [show i0 + q - 1 = m by omega, hm, List.take_add_one, A_get? (d := 0) (show m < a0.length by omega)]
        simp
      have hdd := dd_snoc (A 0 a0 (i0 + q - 1)) (A 0 a0 (i0 + q)) (a0.take (i0 + q - 1))
      rw [← hpre, ← hpre0] at hdd
      by_cases he : A 0 a0 (i0 + q) = A 0 a0 (i0 + q - 1)
      · rw [if_pos he.symm] at hdd
        obtain ⟨l', k', g1, g2, g3, n1, g4⟩ := ih l k (q + 1) (by omega) (by omega) (by omega) hlen (by omega) (by rw [ht, hdd]) (fun j hj => hr j (by omega))
        dsimp only at g4
        refine ⟨l', k', g1, g2, g3, n1 + 1, fun f hf J => ?_⟩
        obtain ⟨f, rfl⟩ : ∃ j, f = j + 1 := ⟨f - 1, by omega⟩
        simp only [slices_Compact_uint64.l1, Jn, cut_drop (l := l) (i := i0) (n := a0.length) hlen.symm (by omega), Option.bind_some, dLt hd, if_true, i1, wP (n := q) (by omega) (by omega), i2, he, bne_self_eq_false, sEq_refl, Bool.not_true, Bool.false_eq_true, if_false, wS (n := q) (by omega)]
        exact g4 f (by omega) J
      · rw [if_neg (fun e => he e.symm)] at hdd
        have hu : upd l (k : Int) (A 0 a0 (i0 + q)) = some (l.set k (A 0 a0 (i0 + q))) := by unfold upd; rw [if_pos ⟨by omega, by omega⟩]; simp
        obtain ⟨l', k', g1, g2, g3, n1, g4⟩ := ih (l.set k (A 0 a0 (i0 + q))) (k + 1) (q + 1) (by omega) (by omega) (by omega) (by simpa using hlen) (by omega)
          (by
            rw [show i0 + (q + 1) = i0 + (q + 1) from rfl, hdd, ← ht, List.take_add_one, List.take_set, List.getElem?_set_self (by omega)]
            rw [List.set_eq_of_length_le (by simp; omega)]
            rfl)
          (fun j hj => by rw [List.getElem?_set_ne (by omega)]; exact hr j (by omega))
        dsimp only at g4
        refine ⟨l', k', g1, g2, g3, n1 + 1, fun f hf J => ?_⟩
        obtain ⟨f, rfl⟩ : ∃ j, f = j + 1 := ⟨f - 1, by omega⟩
        have hb : (A 0 a0 (i0 + q) != A 0 a0 (i0 + q - 1)) = true := by simpa using he
        simp only [slices_Compact_uint64.l1, Jn, cut_drop (l := l) (i := i0) (n := a0.length) hlen.symm (by omega), Option.bind_some, dLt hd, if_true, i1, wP (n := q) (by omega) (by omega), i2, hb, wS (n := q) (by omega), idx_A (d := 0) (show k < l.length by omega), hu, wS (n := k) (by omega)]
        exact g4 f (by omega) J
    · have hd : ¬ q < (l.drop i0).length := by simp; omega
      refine ⟨l, k, hlen, by omega, ?_, EvC2.succ ?_⟩
      · rw [ht, List.take_of_length_le (by omega)]
      · simp only [slices_Compact_uint64.l1, cut_drop (l := l) (i := i0) (n := a0.length) hlen.symm (by omega), Option.bind_some, dLtF hd, Bool.false_eq_true, if_false]
        exact EvC2.ret
theorem cmp_l0_uint64 (a0 : List Int) (hl : a0.length ≤ 1152921504606846976) : ∀ (n i : Nat), a0.length - i ≤ n → 1 ≤ i → i ≤ a0.length → (∀ k, 0 < k → k < i → A 0 a0 k ≠ A 0 a0 (k - 1)) → Ev (fun k => slices_Compact_uint64.l0 a0 k (i : Int)) (dd a0) := by
  intro n
  induction n with
  | zero =>
    intro i hn hi hle hne
    refine Ev.succ ?_
    simp only [slices_Compact_uint64.l0, dLtF (show ¬ i < a0.length by omega), Bool.false_eq_true, if_false]
    rw [dd_id 0 a0 fun k h0 hk => hne k h0 (by omega)]
    exact Ev.ret
  | succ n ih =>
    intro i hn hi hle hne
    by_cases hlt : i < a0.length
    · by_cases he : A 0 a0 i = A 0 a0 (i - 1)
      · have hid : dd (a0.take i) = a0.take i := dd_id 0 _ fun k h0 hk => by
          simp only [List.length_take] at hk
          have e : ∀ j, j < i → A 0 (a0.take i) j = A 0 a0 j := fun j hj => A_congr (by rw [List.getElem?_take, if_pos hj])
          rw [e k (by omega), e (k - 1) (by omega)]
          exact hne k h0 (by omega)
        have ht : a0.take i = dd (a0.take (i + 1)) := by
          obtain ⟨m, rfl⟩ : ∃ m, i = m + 1 := ⟨i - 1, by omega⟩
          have h1 : a0.take (m + 1 + 1) = a0.take m ++ [A 0 a0 m, A 0 a0 (m + 1)] := by
            rw [List.take_add_one, List.take_add_one, A_get? (d := 0) (show m < a0.length by omega), A_get? (d := 0) hlt]; simp
          have h2 : a0.take (m + 1) = a0.take m ++ [A 0 a0 m] := by
            rw [List.take_add_one, A_get? (d := 0) (show m < a0.length by omega)]; simp
          rw [h1, dd_snoc, if_pos (by simpa using he.symm), ← h2, hid]
        obtain ⟨l', k', g1, g2, g3, g4⟩ := cmp_l1_uint64 a0 hi hl _ a0 i 1 (Nat.le_refl _) (Nat.le_refl _) (by omega) rfl (by omega) ht (fun j _ => rfl)
        have hc1 : cut l' (k' : Int) (l'.length : Int) = some (l'.drop k') := cut_drop rfl (by omega)
        have hc2 : cut (clr l' k' l'.length 0) 0 (k' : Int) = some (dd a0) := by
          rw [cut_take (by simp [clr]; omega)]
          congr 1
          rw [← g3]
          simp only [clr, List.append_assoc]
          rw [List.take_append_of_le_length (by simp; omega), List.take_take, Nat.min_self]
        refine Ev.succ ?_
        simp only [slices_Compact_uint64.l0, Jn, dLt hlt, if_true, wP (n := i) (by omega) (by omega), idx_A (d := 0) hlt, idx_A (d := 0) (show i - 1 < a0.length by omega), Option.bind_some, he, beq_self_eq_true, sEq_refl, cut_drop (l := a0) (i := i) (n := a0.length) rfl (by omega)]
        refine g4.ev (J := fun k (l_671 : List Int) (i_672 : Int) => (cut l_671 i_672 (l_671.length : Int)).bind fun l1488 => (cut (clr l_671 (Int.toNat i_672) (Int.toNat (l_671.length : Int)) 0) 0 i_672).bind fun l1490 => some l1490) ?_
        simp only [hc1, Int.toNat_natCast, hc2, Option.bind_some]
        exact Ev.ret
      · have hb : (A 0 a0 i == A 0 a0 (i - 1)) = false := by simpa using he
        have := ih (i + 1) (by omega) (by omega) (by omega) (fun k h0 hk => by
          by_cases c : k = i
          · subst c; exact he
          · exact hne k h0 (by omega))
        refine Ev.succ ?_
        simp only [slices_Compact_uint64.l0, Jn, dLt hlt, if_true, wP (n := i) (by omega) (by omega), idx_A (d := 0) hlt, idx_A (d := 0) (show i - 1 < a0.length by omega), Option.bind_some, hb, Bool.false_eq_true, if_false, wS (n := i) (by omega)]
        exact this
    · refine Ev.succ ?_
      simp only [slices_Compact_uint64.l0, dLtF hlt, Bool.false_eq_true, if_false]
      rw [dd_id 0 a0 fun k h0 hk => hne k h0 (by omega)]
      exact Ev.ret
theorem compact_uint64 (a0 : List Int) (hl : a0.length ≤ 1152921504606846976) : Ev (fun k => slices_Compact_uint64 k a0) (dd a0) := by
  by_cases h : a0.length < 2
  · have hd : decide ((a0.length : Int) < 2) = true := decide_eq_true (by omega)
    simp only [slices_Compact_uint64, hd, if_true]
    have : dd a0 = a0 := by
      match a0, h with
      | [], _ => rfl
      | [x], _ => rfl
    rw [this]
    exact Ev.ret
  · have hd : decide ((a0.length : Int) < 2) = false := decide_eq_false (by omega)
    simp only [slices_Compact_uint64, hd, Bool.false_eq_true, if_false]
    exact cmp_l0_uint64 a0 hl _ 1 (Nat.le_refl _) (Nat.le_refl _) (by omega) (fun k h0 hk => by omega)
theorem less_uint64 (x y : Int) : cmp_Less_uint64 x y = some (decide ((fun x y : Int => x < y) x y)) := by
  simp only [cmp_Less_uint64, cmp_isNaN_uint64, Jn, Option.bind_some, bne_self_eq_false, Bool.false_eq_true, if_false, Bool.false_or]
/-- Sorted, each once. -/
theorem unlike_uint64 (a0 : List Int) (hl : a0.length ≤ 1152921504606846976) : Ev (fun k => (slices_Sort_uint64 k a0).bind fun r1 => slices_Compact_uint64 k r1) (uq (fun x y : Int => x < y) a0) := by
  obtain ⟨l', g1, g2, g3⟩ := sort_uint64 0 (lt := (fun x y : Int => x < y)) less_uint64 so_int.wo a0 hl
  refine Ev.bind g3 ((compact_uint64 l' (by rw [← g2.length_eq]; exact hl)).to ?_)
  exact pw_uniq so_int (dd_pw so_int g1) (uq_pw so_int a0) fun x => by rw [mem_dd, mem_uq so_int]; exact g2.mem_iff.symm
end Go.Proofs.YtbaemhkfmddakaaGreat.Mo

set_option maxRecDepth 100000
namespace Go.Proofs.YtbaemhkfmddakaaGreat.Mo
open Go Go.Proofs.YtbaemhkfmddakaaGreat.Sy
theorem cmp_l1_string (a0 : List ByteArray) {i0 : Nat} (hi0 : 1 ≤ i0) (hl : a0.length ≤ 1152921504606846976) : ∀ (n : Nat) (l : List ByteArray) (k q : Nat), a0.length - (i0 + q) ≤ n → 1 ≤ q → i0 + q ≤ a0.length → l.length = a0.length → k + 1 ≤ i0 + q → l.take k = dd (a0.take (i0 + q)) →
    (∀ j, i0 + q ≤ j + 1 → l[j]? = a0[j]?) →
    ∃ l' k', l'.length = a0.length ∧ k' ≤ a0.length ∧ l'.take k' = dd a0 ∧ EvC2 (fun J f => slices_Compact_string.l1 a0 (i0 : Int) J f l (k : Int) (q : Int)) l' (k' : Int) := by
  intro n
  induction n with
  | zero =>
    intro l k q hn hq hiq hlen hk ht hr
    have hd : ¬ q < (l.drop i0).length := by simp; omega
    refine ⟨l, k, hlen, by omega, ?_, EvC2.succ ?_⟩
    · rw [ht, List.take_of_length_le (by omega)]
    · simp only [slices_Compact_string.l1, cut_drop (l := l) (i := i0) (n := a0.length) hlen.symm (by omega), Option.bind_some, dLtF hd, Bool.false_eq_true, if_false]
      exact EvC2.ret
  | succ n ih =>
    intro l k q hn hq hiq hlen hk ht hr
    by_cases hlt : i0 + q < a0.length
    · have hd : q < (l.drop i0).length := by simp; omega
      have gx : ∀ j, i0 + q ≤ j + 1 → j < a0.length → A (ByteArray.mk #[]) l j = A (ByteArray.mk #[]) a0 j := fun j h1 h2 => A_congr (hr j h1)
      have i1 : idx (l.drop i0) (q : Int) = some (A (ByteArray.mk #[]) a0 (i0 + q)) := by
        rw [idx_nat, List.getElem?_drop, hr _ (by omega), A_get? (d := (ByteArray.mk #[])) hlt]
      have i2 : idx (l.drop i0) ((q - 1 : Nat) : Int) = some (A (ByteArray.mk #[]) a0 (i0 + q - 1)) := by
        rw [idx_nat, List.getElem?_drop, hr _ (by omega), show i0 + (q - 1) = i0 + q - 1 by omega, A_get? (d := (ByteArray.mk #[])) (by omega)]
      have hpre : a0.take (i0 + (q + 1)) = a0.take (i0 + q - 1) ++ [A (ByteArray.mk #[]) a0 (i0 + q - 1), A (ByteArray.mk #[]) a0 (i0 + q)] := by
        obtain ⟨m, hm⟩ : ∃ m, i0 + q = m + 1 := ⟨i0 + q - 1, by omega⟩
        rw [show i0 + (q + 1) = m + 2 by omega, show i0 + q - 1 = m by omega, hm, List.take_add_one, List.take_add_one, A_get? (d := (ByteArray.mk #[])) (show m < a0.length by omega), A_get? (d := (ByteArray.mk #[])) (show m + 1 < a0.length by omega)]
        simp
      have hpre0 : a0.take (i0 + q) = a0.take (i0 + q - 1) ++ [A (ByteArray.mk #[]) a0 (i0 + q - 1)] := by
        obtain ⟨m, hm⟩ : ∃ m, i0 + q = m + 1 := ⟨i0 + q - 1, by omega⟩
        rw [show i0 + q - 1 = m by omega, hm, List.take_add_one, A_get? (d := (ByteArray.mk #[])) (show m < a0.length by omega)]
        simp
      have hdd := dd_snoc (A (ByteArray.mk #[]) a0 (i0 + q - 1)) (A (ByteArray.mk #[]) a0 (i0 + q)) (a0.take (i0 + q - 1))
      rw [← hpre, ← hpre0] at hdd
      by_cases he : A (ByteArray.mk #[]) a0 (i0 + q) = A (ByteArray.mk #[]) a0 (i0 + q - 1)
      · rw [if_pos he.symm] at hdd
        obtain ⟨l', k', g1, g2, g3, n1, g4⟩ := ih l k (q + 1) (by omega) (by omega) (by omega) hlen (by omega) (by rw [ht, hdd]) (fun j hj => hr j (by omega))
        dsimp only at g4
        refine ⟨l', k', g1, g2, g3, n1 + 1, fun f hf J => ?_⟩
        obtain ⟨f, rfl⟩ : ∃ j, f = j + 1 := ⟨f - 1, by omega⟩
        simp only [slices_Compact_string.l1, Jn, cut_drop (l := l) (i := i0) (n := a0.length) hlen.symm (by omega), Option.bind_some, dLt hd, if_true, i1, wP (n := q) (by omega) (by omega), i2, he, bne_self_eq_false, sEq_refl, Bool.not_true, Bool.false_eq_true, if_false, wS (n := q) (by omega)]
        exact g4 f (by omega) J
      · rw [if_neg (fun e => he e.symm)] at hdd
        have hu : upd l (k : Int) (A (ByteArray.mk #[]) a0 (i0 + q)) = some (l.set k (A (ByteArray.mk #[]) a0 (i0 + q))) := by unfold upd; rw [if_pos ⟨by omega, by omega⟩]; simp
        obtain ⟨l', k', g1, g2, g3, n1, g4⟩ := ih (l.set k (A (ByteArray.mk #[]) a0 (i0 + q))) (k + 1) (q + 1) (by omega) (by omega) (by omega) (by simpa using hlen) (by omega)
          (by
            rw [show i0 + (q + 1) = i0 + (q + 1) from rfl, hdd, ← ht, List.take_add_one, List.take_set, List.getElem?_set_self (by omega)]
            rw [List.set_eq_of_length_le (by simp; omega)]
            rfl)
          (fun j hj => by rw [List.getElem?_set_ne (by omega)]; exact hr j (by omega))
        dsimp only at g4
        refine ⟨l', k', g1, g2, g3, n1 + 1, fun f hf J => ?_⟩
        obtain ⟨f, rfl⟩ : ∃ j, f = j + 1 := ⟨f - 1, by omega⟩
        have hb : (!sEq (A (ByteArray.mk #[]) a0 (i0 + q)) (A (ByteArray.mk #[]) a0 (i0 + q - 1))) = true := by rw [sEq_false.2 he]; rfl
        simp only [slices_Compact_string.l1, Jn, cut_drop (l := l) (i := i0) (n := a0.length) hlen.symm (by omega), Option.bind_some, dLt hd, if_true, i1, wP (n := q) (by omega) (by omega), i2, hb, wS (n := q) (by omega), idx_A (d := (ByteArray.mk #[])) (show k < l.length by omega), hu, wS (n := k) (by omega)]
        exact g4 f (by omega) J
    · have hd : ¬ q < (l.drop i0).length := by simp; omega
      refine ⟨l, k, hlen, by omega, ?_, EvC2.succ ?_⟩
      · rw [ht, List.take_of_length_le (by omega)]
      · simp only [slices_Compact_string.l1, cut_drop (l := l) (i := i0) (n := a0.length) hlen.symm (by omega), Option.bind_some, dLtF hd, Bool.false_eq_true, if_false]
        exact EvC2.ret
theorem cmp_l0_string (a0 : List ByteArray) (hl : a0.length ≤ 1152921504606846976) : ∀ (n i : Nat), a0.length - i ≤ n → 1 ≤ i → i ≤ a0.length → (∀ k, 0 < k → k < i → A (ByteArray.mk #[]) a0 k ≠ A (ByteArray.mk #[]) a0 (k - 1)) → Ev (fun k => slices_Compact_string.l0 a0 k (i : Int)) (dd a0) := by
  intro n
  induction n with
  | zero =>
    intro i hn hi hle hne
    refine Ev.succ ?_
    simp only [slices_Compact_string.l0, dLtF (show ¬ i < a0.length by omega), Bool.false_eq_true, if_false]
    rw [dd_id (ByteArray.mk #[]) a0 fun k h0 hk => hne k h0 (by omega)]
    exact Ev.ret
  | succ n ih =>
    intro i hn hi hle hne
    by_cases hlt : i < a0.length
    · by_cases he : A (ByteArray.mk #[]) a0 i = A (ByteArray.mk #[]) a0 (i - 1)
      · have hid : dd (a0.take i) = a0.take i := dd_id (ByteArray.mk #[]) _ fun k h0 hk => by
          simp only [List.length_take] at hk
          have e : ∀ j, j < i → A (ByteArray.mk #[]) (a0.take i) j = A (ByteArray.mk #[]) a0 j := fun j hj => A_congr (by rw [List.getElem?_take, if_pos hj])
          rw [e k (by omega), e (k - 1) (by omega)]
          exact hne k h0 (by omega)
        have ht : a0.take i = dd (a0.take (i + 1)) := by
          obtain ⟨m, rfl⟩ : ∃ m, i = m + 1 := ⟨i - 1, by omega⟩
          have h1 : a0.take (m + 1 + 1) = a0.take m ++ [A (ByteArray.mk #[]) a0 m, A (ByteArray.mk #[]) a0 (m + 1)] := by
            rw [List.take_add_one, List.take_add_one, A_get? (d := (ByteArray.mk #[])) (show m < a0.length by omega), A_get? (d := (ByteArray.mk #[])) hlt]; simp
          have h2 : a0.take (m + 1) = a0.take m ++ [A (ByteArray.mk #[]) a0 m] := by
            rw [List.take_add_one, A_get? (d := (ByteArray.mk #[])) (show m < a0.length by omega)]; simp
          rw [h1, dd_snoc, if_pos (by simpa using he.symm), ← h2, hid]
        obtain ⟨l', k', g1, g2, g3, g4⟩ := cmp_l1_string a0 hi hl _ a0 i 1 (Nat.le_refl _) (Nat.le_refl _) (by omega) rfl (by omega) ht (fun j _ => rfl)
        have hc1 : cut l' (k' : Int) (l'.length : Int) = some (l'.drop k') := cut_drop rfl (by omega)
        have hc2 : cut (clr l' k' l'.length (ByteArray.mk #[])) 0 (k' : Int) = some (dd a0) := by
          rw [cut_take (by simp [clr]; omega)]
          congr 1
          rw [← g3]
          simp only [clr, List.append_assoc]
          rw [List.take_append_of_le_length (by simp; omega), List.take_take, Nat.min_self]
        refine Ev.succ ?_
        simp only [slices_Compact_string.l0, Jn, dLt hlt, if_true, wP (n := i) (by omega) (by omega), idx_A (d := (ByteArray.mk #[])) hlt, idx_A (d := (ByteArray.mk #[])) (show i - 1 < a0.length by omega), Option.bind_some, he, beq_self_eq_true, sEq_refl, cut_drop (l := a0) (i := i) (n := a0.length) rfl (by omega)]
        refine g4.ev (J := fun k (l_671 : List ByteArray) (i_672 : Int) => (cut l_671 i_672 (l_671.length : Int)).bind fun l1488 => (cut (clr l_671 (Int.toNat i_672) (Int.toNat (l_671.length : Int)) (ByteArray.mk #[])) 0 i_672).bind fun l1490 => some l1490) ?_
        simp only [hc1, Int.toNat_natCast, hc2, Option.bind_some]
        exact Ev.ret
      · have hb : sEq (A (ByteArray.mk #[]) a0 i) (A (ByteArray.mk #[]) a0 (i - 1)) = false := by exact sEq_false.2 he
        have := ih (i + 1) (by omega) (by omega) (by omega) (fun k h0 hk => by
          by_cases c : k = i
          · subst c; exact he
          · exact hne k h0 (by omega))
        refine Ev.succ ?_
        simp only [slices_Compact_string.l0, Jn, dLt hlt, if_true, wP (n := i) (by omega) (by omega), idx_A (d := (ByteArray.mk #[])) hlt, idx_A (d := (ByteArray.mk #[])) (show i - 1 < a0.length by omega), Option.bind_some, hb, Bool.false_eq_true, if_false, wS (n := i) (by omega)]
        exact this
    · refine Ev.succ ?_
      simp only [slices_Compact_string.l0, dLtF hlt, Bool.false_eq_true, if_false]
      rw [dd_id (ByteArray.mk #[]) a0 fun k h0 hk => hne k h0 (by omega)]
      exact Ev.ret
theorem compact_string (a0 : List ByteArray) (hl : a0.length ≤ 1152921504606846976) : Ev (fun k => slices_Compact_string k a0) (dd a0) := by
  by_cases h : a0.length < 2
  · have hd : decide ((a0.length : Int) < 2) = true := decide_eq_true (by omega)
    simp only [slices_Compact_string, hd, if_true]
    have : dd a0 = a0 := by
      match a0, h with
      | [], _ => rfl
      | [x], _ => rfl
    rw [this]
    exact Ev.ret
  · have hd : decide ((a0.length : Int) < 2) = false := decide_eq_false (by omega)
    simp only [slices_Compact_string, hd, Bool.false_eq_true, if_false]
    exact cmp_l0_string a0 hl _ 1 (Nat.le_refl _) (Nat.le_refl _) (by omega) (fun k h0 hk => by omega)
/-- Sorted, each once. -/
theorem unlike_string (a0 : List ByteArray) (hl : a0.length ≤ 1152921504606846976) : Ev (fun k => (slices_Sort_string k a0).bind fun r1 => slices_Compact_string k r1) (uq slt a0) := by
  obtain ⟨g1, g2⟩ := sortB_spec a0
  have g3 : Ev (fun k => slices_Sort_string k a0) (sortB a0) := Ev.of fun k => by unfold slices_Sort_string; rw [if_pos hl, sortI_eq]
  refine Ev.bind g3 ((compact_string (sortB a0) (by rw [← g2.length_eq]; exact hl)).to ?_)
  exact pw_uniq so_str (dd_pw so_str g1) (uq_pw so_str a0) fun x => by rw [mem_dd, mem_uq so_str]; exact g2.mem_iff.symm
end Go.Proofs.YtbaemhkfmddakaaGreat.Mo

set_option maxRecDepth 100000
namespace Go.Proofs.YtbaemhkfmddakaaGreat.Mo
open Go Go.Proofs.YtbaemhkfmddakaaGreat.Sy
/-- A valid tomb. -/
def okT (x : Tomb) : Bool := (tomb_Valid x).getD false
theorem valid_eq (x : Tomb) : tomb_Valid x = some (okT x) := rfl
theorem valid_l0 (l : List Tomb) (h : l.length < 5629499534059) : ∀ s p acc, l = p ++ s → acc.length ≤ p.length → Ev (fun k => tomb_valid.l0 l k acc (p.length : Int)) (acc ++ s.filter okT) := by
  intro s
  induction s with
  | nil =>
    intro p acc hl ha
    subst hl
    refine Ev.succ ?_
    simp only [tomb_valid.l0, lt_end, Bool.false_eq_true, if_false]
    simpa using Ev.ret
  | cons x s ih =>
    intro p acc hl ha
    have hm : (p ++ x :: s).length ≤ maxLen := by rw [maxLen_val, ← hl]; omega
    have hp : p.length < 5629499534059 := by rw [hl] at h; simp at h; omega
    refine Ev.succ ?_
    subst hl
    simp only [tomb_valid.l0, lt_at, if_true, Jn, idx_at, Option.bind_some, valid_eq, step_at p s x hm]
    by_cases hx : okT x = true
    · simp only [hx, if_true, push_ok (xs := acc) (x := x) (Nat.lt_of_le_of_lt ha hp), Option.bind_some]
      exact (ih (p ++ [x]) (acc ++ [x]) (by simp) (by simp; omega)).to (by simp [hx])
    · simp only [hx, if_false]
      exact (ih (p ++ [x]) acc (by simp) (by simp; omega)).to (by simp [hx])
theorem valid_ev (l : List Tomb) (h : l.length < 5629499534059) : Ev (fun k => tomb_valid k l) (l.filter okT) := by
  have := valid_l0 l h l [] [] rfl (Nat.le_refl _)
  simpa [tomb_valid] using this
def cov (key : ByteArray) (n : Int) (x : Tomb) : Bool := okT x && decide (x.Seq ≤ n) && (sLt x.Begin key || sEq x.Begin key) && sLt key x.End
def covers (key : ByteArray) (n : Int) : List Tomb → Int × Bool → Int × Bool
  | [], c => c
  | x :: s, c => covers key n s (if cov key n x = true then (maxI c.1 x.Seq, true) else c)
theorem covers_ok (key : ByteArray) (n : Int) : ∀ (l : List Tomb) (c : Int × Bool), ((covers key n l c).2 = true ↔ c.2 = true ∨ ∃ x ∈ l, cov key n x = true)
  | [], c => by simp [covers]
  | x :: s, c => by
    rw [covers, covers_ok key n s]
    by_cases h : cov key n x = true <;> simp [h]
theorem covers_max (key : ByteArray) (n : Int) : ∀ (l : List Tomb) (c : Int × Bool), c.1 ≤ (covers key n l c).1 ∧ (∀ x ∈ l, cov key n x = true → x.Seq ≤ (covers key n l c).1) ∧ ((covers key n l c).1 = c.1 ∨ ∃ x ∈ l, cov key n x = true ∧ (covers key n l c).1 = x.Seq)
  | [], c => by simp [covers]
  | x :: s, c => by
    rw [covers]
    by_cases h : cov key n x = true
    · simp only [h, if_true]
      obtain ⟨h1, h2, h3⟩ := covers_max key n s (maxI c.1 x.Seq, true)
      have hm : c.1 ≤ maxI c.1 x.Seq ∧ x.Seq ≤ maxI c.1 x.Seq ∧ (maxI c.1 x.Seq = c.1 ∨ maxI c.1 x.Seq = x.Seq) := by unfold maxI; split <;> omega
      refine ⟨Int.le_trans hm.1 h1, fun y hy k => ?_, ?_⟩
      · rcases List.mem_cons.1 hy with e | e
        · subst e; exact Int.le_trans hm.2.1 h1
        · exact h2 y e k
      · rcases h3 with e | ⟨y, hy, k, e⟩
        · rcases hm.2.2 with e2 | e2
          · exact .inl (e.trans e2)
          · exact .inr ⟨x, by simp, h, e.trans e2⟩
        · exact .inr ⟨y, by simp [hy], k, e⟩
    · simp only [h, if_false]
      obtain ⟨h1, h2, h3⟩ := covers_max key n s c
      refine ⟨h1, fun y hy k => ?_, ?_⟩
      · rcases List.mem_cons.1 hy with e | e
        · subst e; exact absurd k h
        · exact h2 y e k
      · rcases h3 with e | ⟨y, hy, k, e⟩
        · exact .inl e
        · exact .inr ⟨y, by simp [hy], k, e⟩
theorem reverse_l0 : ∀ (n : Nat) (m p s : List Int), m.length ≤ n → (p ++ m ++ s).length ≤ 1152921504606846976 → Ev (fun k => slices_Reverse_uint64.l0 k (p ++ m ++ s) (p.length : Int) (((p ++ m).length : Int) - 1)) (p ++ m.reverse ++ s) := by
  intro n
  induction n with
  | zero =>
    intro m p s hm hl
    obtain rfl : m = [] := List.eq_nil_of_length_eq_zero (by omega)
    refine Ev.succ ?_
    have h : decide ((p.length : Int) < ((p ++ ([] : List Int)).length : Int) - 1) = false := decide_eq_false (by simp; omega)
    simp only [slices_Reverse_uint64.l0, h, Bool.false_eq_true, if_false]
    simpa using Ev.ret
  | succ n ih =>
    intro m p s hm hl
    cases m with
    | nil =>
      refine Ev.succ ?_
      have h : decide ((p.length : Int) < ((p ++ ([] : List Int)).length : Int) - 1) = false := decide_eq_false (by simp; omega)
      simp only [slices_Reverse_uint64.l0, h, Bool.false_eq_true, if_false]
      simpa using Ev.ret
    | cons x m =>
      rcases nil_or_snoc m with rfl | ⟨m, y, rfl⟩
      · refine Ev.succ ?_
        have h : decide ((p.length : Int) < ((p ++ [x]).length : Int) - 1) = false := decide_eq_false (by simp)
        simp only [slices_Reverse_uint64.l0, h, Bool.false_eq_true, if_false]
        simpa using Ev.ret
      · have hl' := hl
        simp only [List.length_append, List.length_cons, List.length_nil] at hl' hm
        have h : decide ((p.length : Int) < ((p ++ x :: (m ++ [y])).length : Int) - 1) = true := decide_eq_true (by simp; omega)
        have hj : ((p ++ x :: (m ++ [y])).length : Int) - 1 = ((p ++ x :: m).length : Int) := by simp; omega
        rw [hj] at h ⊢
        have e1 : idx (p ++ x :: (m ++ [y]) ++ s) ((p ++ x :: m).length : Int) = some y := idx_as (p := p ++ x :: m) (s := s) (by simp) rfl
        have e2 : idx (p ++ x :: (m ++ [y]) ++ s) (p.length : Int) = some x := idx_as (p := p) (s := m ++ [y] ++ s) (by simp) rfl
        have e3 : upd (p ++ x :: (m ++ [y]) ++ s) (p.length : Int) y = some (p ++ y :: (m ++ [y] ++ s)) := upd_as (p := p) (x := x) (s := m ++ [y] ++ s) y (by simp) rfl
        have e4 : idx (p ++ y :: (m ++ [y] ++ s)) ((p ++ x :: m).length : Int) = some y := idx_as (p := p ++ y :: m) (s := s) (by simp) (by simp)
        have e5 : upd (p ++ y :: (m ++ [y] ++ s)) ((p ++ x :: m).length : Int) x = some (p ++ y :: m ++ x :: s) := upd_as (p := p ++ y :: m) (x := y) (s := s) x (by simp) (by simp)
        have w1 : w64 ((p.length : Int) + 1) = ((p ++ [y]).length : Int) := by simp only [List.length_append, List.length_cons, List.length_nil]; rw [w64_of (by omega) (by omega)]; omega
        have w2 : w64 (((p ++ x :: m).length : Int) - 1) = ((p ++ [y] ++ m).length : Int) - 1 := by simp only [List.length_append, List.length_cons, List.length_nil]; rw [w64_of (by omega) (by omega)]; omega
        have := ih m (p ++ [y]) (x :: s) (by omega) (by simp; omega)
        refine Ev.succ ?_
        simp only [slices_Reverse_uint64.l0, h, if_true, e1, e2, e3, e4, e5, Option.bind_some, w1, w2]
        have e6 : p ++ y :: m ++ x :: s = p ++ [y] ++ m ++ x :: s := by simp
        rw [e6]
        exact this.to (by simp)
theorem reverse_ev (m : List Int) (hl : m.length ≤ 1152921504606846976) : Ev (fun k => slices_Reverse_uint64 k m) m.reverse := by
  have := reverse_l0 m.length m [] [] (Nat.le_refl _) (by simpa using hl)
  simp only [List.nil_append, List.append_nil, List.length_nil] at this
  have w : w64 ((m.length : Int) - 1) = (m.length : Int) - 1 := w64_of (by omega) (by omega)
  simp only [slices_Reverse_uint64, w]
  exact this
theorem equal_l0 (a b : List Int) (hab : a.length = b.length) (hl : a.length ≤ 1152921504606846976) : ∀ s p t, a = p ++ s → b = p ++ t → Ev (fun k => slices_Equal_uint64.l0 a b k (p.length : Int)) (decide (s = t)) := by
  intro s
  induction s with
  | nil =>
    intro p t ha hb
    obtain rfl : t = [] := by rw [ha, hb] at hab; simpa using hab
    subst ha
    refine Ev.succ ?_
    simp only [slices_Equal_uint64.l0, lt_end, Bool.false_eq_true, if_false]
    exact Ev.ret.to (by simp)
  | cons x s ih =>
    intro p t ha hb
    cases t with
    | nil => rw [ha, hb] at hab; simp at hab
    | cons y t =>
      have e1 : idx a (p.length : Int) = some x := by rw [ha]; exact idx_at _ _ _
      have e2 : idx b (p.length : Int) = some y := by rw [hb]; exact idx_at _ _ _
      have hd : decide ((p.length : Int) < (a.length : Int)) = true := by rw [ha]; exact lt_at _ _ _
      have hw : w64 ((p.length : Int) + 1) = ((p ++ [x]).length : Int) := by rw [ha] at hl; simp at hl; rw [wS (by omega)]; simp
      refine Ev.succ ?_
      simp only [slices_Equal_uint64.l0, hd, if_true, e1, e2, Option.bind_some]
      by_cases hxy : x = y
      · subst hxy
        simp only [bne_self_eq_false, Bool.false_eq_true, if_false, hw]
        exact (ih (p ++ [x]) t (by simp [ha]) (by simp [hb])).to (by simp)
      · have hb : (x != y) = true := by simpa using hxy
        simp only [hb, if_true]
        exact Ev.ret.to (by simp [hxy])
theorem equal_ev (a b : List Int) (hl : b.length ≤ 1152921504606846976) : Ev (fun k => slices_Equal_uint64 k a b) (decide (a = b)) := by
  by_cases h : a.length = b.length
  · have hb : ((a.length : Int) != (b.length : Int)) = false := by simp [h]
    simp only [slices_Equal_uint64, hb, Bool.false_eq_true, if_false]
    exact equal_l0 a b h (by omega) a [] b rfl rfl
  · have hb : ((a.length : Int) != (b.length : Int)) = true := by simp; omega
    simp only [slices_Equal_uint64, hb, if_true]
    exact Ev.ret.to (by simp; intro e; subst e; exact h rfl)
theorem unlikeU_ev (a0 : List Int) (hl : a0.length ≤ 1152921504606846976) : Ev (fun k => tomb_unlike_uint64 k a0) (uq (fun x y : Int => x < y) a0) := by
  refine Ev.congr (fun k => ?_) (unlike_uint64 a0 hl)
  simp only [tomb_unlike_uint64]
  cases slices_Sort_uint64 k a0 with
  | none => rfl
  | some r => simp only [Option.bind_some]; cases slices_Compact_uint64 k r <;> rfl
theorem unlikeS_ev (a0 : List ByteArray) (hl : a0.length ≤ 1152921504606846976) : Ev (fun k => tomb_unlike_string k a0) (uq slt a0) := by
  refine Ev.congr (fun k => ?_) (unlike_string a0 hl)
  simp only [tomb_unlike_string]
  cases slices_Sort_string k a0 with
  | none => rfl
  | some r => simp only [Option.bind_some]; cases slices_Compact_string k r <;> rfl
def onSeg (b e : ByteArray) (t : Tomb) : Bool := decide (sle t.Begin b) && decide (sle e t.End)
def seqsOf (l : List Tomb) (b e : ByteArray) : List Int := (uq (fun x y : Int => x < y) ((l.filter (onSeg b e)).map (·.Seq))).reverse
def addF (out : List Fragment) (b e : ByteArray) (s : List Int) : List Fragment :=
  if s = [] then out else
  match out.getLast? with
  | some f => if f.End = b ∧ f.Seqs = s then out.dropLast ++ [⟨f.Begin, e, f.Seqs⟩] else out ++ [⟨b, e, s⟩]
  | none => out ++ [⟨b, e, s⟩]
def build (l : List Tomb) : ByteArray → List ByteArray → List Fragment → List Fragment
  | _, [], out => out
  | b, e :: r, out => build l e r (addF out b e (seqsOf l b e))
def endsOf (l : List Tomb) : List ByteArray := l.flatMap fun t => [t.Begin, t.End]
def fragsU (l : List Tomb) : List ByteArray → List Fragment
  | [] => []
  | b :: r => build l b r []
def frags (l : List Tomb) : List Fragment := fragsU l (uq slt (endsOf l))
theorem addF_len (out : List Fragment) (b e : ByteArray) (s : List Int) : (addF out b e s).length ≤ out.length + 1 := by
  unfold addF
  split
  · omega
  · split
    · split
      · simp
      · simp
    · simp
theorem frag_l2 (r1 : List Tomb) (b e : ByteArray) (h : r1.length < 28147497670912) : ∀ s p acc, r1 = p ++ s → acc.length ≤ p.length → EvC (fun J k => tomb_Fragments.l2 r1 b e J k acc (p.length : Int)) (acc ++ (s.filter (onSeg b e)).map (·.Seq)) := by
  intro s
  induction s with
  | nil =>
    intro p acc hl ha
    subst hl
    refine EvC.succ ?_
    simp only [tomb_Fragments.l2, lt_end, Bool.false_eq_true, if_false]
    simpa using EvC.ret
  | cons x s ih =>
    intro p acc hl ha
    have hm : (p ++ x :: s).length ≤ maxLen := by rw [maxLen_val, ← hl]; omega
    have hp : p.length < 28147497670912 := by rw [hl] at h; simp at h; omega
    subst hl
    by_cases hx : onSeg b e x = true
    · have hx' := hx
      simp only [onSeg, Bool.and_eq_true, ← sLe_dec] at hx'
      refine EvC.succ ?_
      simp only [tomb_Fragments.l2, lt_at, if_true, Jn, idx_at, Option.bind_some, step_at p s x hm, hx'.1, hx'.2, Bool.and_self, push_ok (xs := acc) (x := x.Seq) (Nat.lt_of_le_of_lt ha hp)]
      exact (ih (p ++ [x]) (acc ++ [x.Seq]) (by simp) (by simp; omega)).to (by simp [hx])
    · have hx' : ((sLt x.Begin b || sEq x.Begin b) && (sLt e x.End || sEq e x.End)) = false := by
        rw [sLe_dec, sLe_dec]; simpa [onSeg] using hx
      refine EvC.succ ?_
      simp only [tomb_Fragments.l2, lt_at, if_true, Jn, idx_at, Option.bind_some, step_at p s x hm, hx', Bool.false_eq_true, if_false]
      exact (ih (p ++ [x]) acc (by simp) (by simp; omega)).to (by simp [hx])
theorem frag_l1 (r1 : List Tomb) (us : List ByteArray) (h : r1.length < 1099511627776) (hu : us.length < 2199023255552) : ∀ s p b acc, us = p ++ b :: s → acc.length ≤ p.length →
    EvC (fun J k => tomb_Fragments.l1 r1 us J k acc ((p.length + 1 : Nat) : Int)) (build r1 b s acc) := by
  intro s
  induction s with
  | nil =>
    intro p b acc hl ha
    refine EvC.succ ?_
    have hd : decide (((p.length + 1 : Nat) : Int) < (us.length : Int)) = false := decide_eq_false (by rw [hl]; simp)
    simp only [tomb_Fragments.l1, hd, Bool.false_eq_true, if_false]
    exact EvC.ret
  | cons e s ih =>
    intro p b acc hl ha
    have hlen : us.length = p.length + 2 + s.length := by rw [hl]; simp; omega
    have hd : decide (((p.length + 1 : Nat) : Int) < (us.length : Int)) = true := decide_eq_true (by omega)
    have i1 : idx us ((p.length : Nat) : Int) = some b := by rw [hl]; exact idx_at _ _ _
    have i2 : idx us ((p.length + 1 : Nat) : Int) = some e := idx_as (p := p ++ [b]) (s := s) (by simp [hl]) (by simp)
    have w1 : w64 (((p.length + 1 : Nat) : Int) - 1) = (p.length : Int) := by rw [wP (by omega) (by omega)]; rfl
    have w2 : w64 (((p.length + 1 : Nat) : Int) + 1) = ((p.length + 1 + 1 : Nat) : Int) := wS (by omega)
    obtain ⟨n2, h2⟩ := frag_l2 r1 b e (by omega) r1 [] [] rfl (Nat.le_refl _)
    dsimp only at h2
    simp only [List.nil_append, List.length_nil, Int.natCast_zero] at h2
    obtain ⟨vals, hv⟩ : ∃ vals, vals = (r1.filter (onSeg b e)).map (·.Seq) := ⟨_, rfl⟩
    have hvl : vals.length ≤ r1.length := by rw [hv, List.length_map]; exact List.length_filter_le _ _
    rw [← hv] at h2
    have hsq : seqsOf r1 b e = (uq (fun x y : Int => x < y) vals).reverse := by unfold seqsOf; rw [hv]
    have hih := ih (p ++ [b]) e (addF acc b e (seqsOf r1 b e)) (by simp [hl]) (by have := addF_len acc b e (seqsOf r1 b e); simp; omega)
    simp only [List.length_append, List.length_singleton] at hih
    obtain ⟨n3, h3⟩ := hih
    dsimp only at h3
    by_cases hnil : vals = []
    · have ha2 : addF acc b e (seqsOf r1 b e) = acc := by unfold addF; rw [if_pos (by rw [hsq, hnil]; rfl)]
      rw [ha2] at h3
      refine ⟨max n2 n3 + 1, fun k hk J => ?_⟩
      obtain ⟨k, rfl⟩ : ∃ j, k = j + 1 := ⟨k - 1, by omega⟩
      simp only [tomb_Fragments.l1, hd, if_true, Jn, i1, i2, w1, w2, Option.bind_some, h2 k (by omega), hnil, List.length_nil, Int.natCast_zero, beq_self_eq_true, build, ha2]
      exact h3 k (by omega) J
    · have hne : ((vals.length : Int) == 0) = false := by simp; exact hnil
      obtain ⟨n4, h4⟩ := unlikeU_ev vals (by omega)
      obtain ⟨n5, h5⟩ := reverse_ev (uq (fun x y : Int => x < y) vals) (Nat.le_trans (uq_len _) (by omega))
      dsimp only at h4 h5
      rw [← hsq] at h5
      have hs0 : seqsOf r1 b e ≠ [] := by
        rw [hsq]
        intro h0
        obtain ⟨x, hx⟩ := List.exists_mem_of_ne_nil _ hnil
        have := (mem_uq so_int).2 hx
        rw [List.reverse_eq_nil_iff.1 h0] at this
        simp at this
      obtain ⟨sq, hsq'⟩ : ∃ sq, sq = seqsOf r1 b e := ⟨_, rfl⟩
      rw [← hsq'] at h5 hs0 h3
      rcases nil_or_snoc acc with rfl | ⟨acc, f, rfl⟩
      · have ha2 : addF [] b e sq = [⟨b, e, sq⟩] := by unfold addF; rw [if_neg hs0]; rfl
        rw [ha2] at h3
        refine ⟨max n2 (max n3 (max n4 n5)) + 1, fun k hk J => ?_⟩
        obtain ⟨k, rfl⟩ : ∃ j, k = j + 1 := ⟨k - 1, by omega⟩
        have hz : decide ((0 : Int) < ((([] : List Fragment).length : Nat) : Int)) = false := by decide
        simp only [tomb_Fragments.l1, hd, if_true, Jn, i1, i2, w1, w2, Option.bind_some, h2 k (by omega), hne, Bool.false_eq_true, if_false, h4 k (by omega), h5 k (by omega), hz, push_ok (xs := ([] : List Fragment)) (x := (⟨b, e, sq⟩ : Fragment)) (N := 4021071095713) (by simp), List.nil_append, build, ← hsq', ha2]
        exact h3 k (by omega) J
      · simp only [List.length_append, List.length_singleton] at ha
        have hz : decide ((0 : Int) < (((acc ++ [f]).length : Nat) : Int)) = true := decide_eq_true (by simp)
        have wl : w64 (((acc ++ [f]).length : Int) - 1) = (acc.length : Int) := by
          simp only [List.length_append, List.length_singleton]; rw [wP (by omega) (by omega)]; rfl
        have il : idx (acc ++ [f]) (acc.length : Int) = some f := idx_at acc f []
        obtain ⟨n7, h7⟩ := equal_ev f.Seqs sq (by rw [hsq', hsq, List.length_reverse]; exact Nat.le_trans (uq_len _) (by omega))
        dsimp only at h7
        by_cases he : f.End = b
        · by_cases hq : f.Seqs = sq
          · have ha2 : addF (acc ++ [f]) b e sq = acc ++ [⟨f.Begin, e, f.Seqs⟩] := by unfold addF; rw [if_neg hs0]; simp [he, hq]
            rw [ha2] at h3
            refine ⟨max n2 (max n3 (max n4 (max n5 n7))) + 1, fun k hk J => ?_⟩
            obtain ⟨k, rfl⟩ : ∃ j, k = j + 1 := ⟨k - 1, by omega⟩
            simp only [tomb_Fragments.l1, hd, if_true, Jn, i1, i2, w1, w2, Option.bind_some, h2 k (by omega), hne, Bool.false_eq_true, if_false, h4 k (by omega), h5 k (by omega), hz, wl, il, sEq_iff.2 he, h7 k (by omega), decide_eq_true hq, upd_at, build, ← hsq', ha2]
            exact h3 k (by omega) J
          · have ha2 : addF (acc ++ [f]) b e sq = acc ++ [f] ++ [⟨b, e, sq⟩] := by unfold addF; rw [if_neg hs0]; simp [hq]
            rw [ha2] at h3
            refine ⟨max n2 (max n3 (max n4 (max n5 n7))) + 1, fun k hk J => ?_⟩
            obtain ⟨k, rfl⟩ : ∃ j, k = j + 1 := ⟨k - 1, by omega⟩
            simp only [tomb_Fragments.l1, hd, if_true, Jn, i1, i2, w1, w2, Option.bind_some, h2 k (by omega), hne, Bool.false_eq_true, if_false, h4 k (by omega), h5 k (by omega), hz, wl, il, sEq_iff.2 he, h7 k (by omega), decide_eq_false hq, push_ok (xs := acc ++ [f]) (x := (⟨b, e, sq⟩ : Fragment)) (N := 4021071095713) (by simp; omega), build, ← hsq', ha2]
            exact h3 k (by omega) J
        · have ha2 : addF (acc ++ [f]) b e sq = acc ++ [f] ++ [⟨b, e, sq⟩] := by unfold addF; rw [if_neg hs0]; simp [he]
          rw [ha2] at h3
          refine ⟨max n2 (max n3 (max n4 n5)) + 1, fun k hk J => ?_⟩
          obtain ⟨k, rfl⟩ : ∃ j, k = j + 1 := ⟨k - 1, by omega⟩
          simp only [tomb_Fragments.l1, hd, if_true, Jn, i1, i2, w1, w2, Option.bind_some, h2 k (by omega), hne, Bool.false_eq_true, if_false, h4 k (by omega), h5 k (by omega), hz, wl, il, sEq_false.2 he, push_ok (xs := acc ++ [f]) (x := (⟨b, e, sq⟩ : Fragment)) (N := 4021071095713) (by simp; omega), build, ← hsq', ha2]
          exact h3 k (by omega) J
theorem frag_l0 (r1 : List Tomb) (h : r1.length < 1099511627776) : ∀ s p acc, r1 = p ++ s → acc.length = 2 * p.length → Ev (fun k => tomb_Fragments.l0 r1 k acc (p.length : Int)) (fragsU r1 (uq slt (acc ++ endsOf s))) := by
  intro s
  induction s with
  | nil =>
    intro p acc hl ha
    have hpl : r1.length = p.length := by rw [hl]; simp
    refine Ev.succ ?_
    have hd : decide ((p.length : Int) < (r1.length : Int)) = false := decide_eq_false (by omega)
    simp only [tomb_Fragments.l0, hd, Bool.false_eq_true, if_false]
    have hz : endsOf [] = [] := rfl
    rw [hz, List.append_nil]
    refine Ev.bind (unlikeS_ev acc (by omega)) ?_
    have hul : (uq slt acc).length < 2199023255552 := Nat.lt_of_le_of_lt (uq_len _) (by omega)
    obtain ⟨us, hus⟩ : ∃ us, us = uq slt acc := ⟨_, rfl⟩
    rw [← hus] at hul ⊢
    simp only [Jn]
    cases us with
    | nil =>
      refine Ev.succ ?_
      have hd : decide ((1 : Int) < ((([] : List ByteArray).length : Nat) : Int)) = false := by decide
      simp only [tomb_Fragments.l1, hd, Bool.false_eq_true, if_false]
      exact Ev.ret
    | cons b r =>
      have := frag_l1 r1 (b :: r) h hul r [] b [] rfl (Nat.le_refl _)
      exact this.ev (J := fun _ l => some l) Ev.ret
  | cons x s ih =>
    intro p acc hl ha
    have hpl : r1.length = p.length + 1 + s.length := by rw [hl]; simp; omega
    have hm : (p ++ x :: s).length ≤ maxLen := by rw [maxLen_val, ← hl]; omega
    refine Ev.succ ?_
    have e1 : idx r1 (p.length : Int) = some x := by rw [hl]; exact idx_at _ _ _
    have hd : decide ((p.length : Int) < (r1.length : Int)) = true := decide_eq_true (by omega)
    simp only [tomb_Fragments.l0, hd, if_true, e1, Option.bind_some, pushN_ok (xs := acc) (zs := [x.Begin, x.End]) (N := 14073748835379) (by simp; omega), step_at p s x hm]
    exact (ih (p ++ [x]) (acc ++ [x.Begin, x.End]) (by simp [hl]) (by simp; omega)).to (by simp [endsOf])
theorem frags_ev (l : List Tomb) (h : l.length < 1099511627776) : Ev (fun k => tomb_Fragments k l) (frags (l.filter okT)) := by
  simp only [tomb_Fragments]
  refine Ev.bind (valid_ev l (by omega)) ?_
  have := frag_l0 (l.filter okT) (Nat.lt_of_le_of_lt (List.length_filter_le _ _) h) (l.filter okT) [] [] rfl rfl
  simpa [frags] using this
end Go.Proofs.YtbaemhkfmddakaaGreat.Mo

set_option maxRecDepth 100000
namespace Go.Proofs.YtbaemhkfmddakaaGreat.Mo
open Go Go.Proofs.YtbaemhkfmddakaaGreat.Sy
def onKey (key : ByteArray) (t : Tomb) : Bool := decide (sle t.Begin key) && decide (slt key t.End)
/-- The numbers of the tombs that cover a key, falling, each once. -/
def covS (l : List Tomb) (key : ByteArray) : List Int := (uq (fun x y : Int => x < y) ((l.filter (onKey key)).map (·.Seq))).reverse
theorem mem_covS {l : List Tomb} {key : ByteArray} {n : Int} : n ∈ covS l key ↔ ∃ t ∈ l, onKey key t = true ∧ t.Seq = n := by
  unfold covS
  rw [List.mem_reverse, mem_uq so_int]
  simp [and_assoc]
theorem covS_pw (l : List Tomb) (key : ByteArray) : (covS l key).Pairwise (fun x y => y < x) := by
  unfold covS
  rw [List.pairwise_reverse]
  exact uq_pw so_int _
theorem covS_seg {l : List Tomb} {b e key : ByteArray} (h1 : sle b key) (h2 : slt key e) (hc : ∀ t ∈ l, (sle t.Begin b ∨ sle e t.Begin) ∧ (sle t.End b ∨ sle e t.End)) : covS l key = seqsOf l b e := by
  unfold covS seqsOf
  congr 3
  refine List.filter_congr fun t ht => ?_
  obtain ⟨c1, c2⟩ := hc t ht
  unfold onKey onSeg
  congr 1
  · refine decide_eq_decide.2 ⟨fun h => ?_, fun h => sle_trans h h1⟩
    rcases c1 with c | c
    · exact c
    · exact absurd (slt_of_le_lt h h2) c
  · refine decide_eq_decide.2 ⟨fun h => ?_, fun h => slt_of_lt_le h2 h⟩
    rcases c2 with c | c
    · exact absurd (slt_of_le_lt h1 h) c
    · exact c
structure FI (l : List Tomb) (b : ByteArray) (out : List Fragment) : Prop where
  ok : ∀ f ∈ out, slt f.Begin f.End ∧ f.Seqs ≠ [] ∧ sle f.End b ∧ ∀ key, sle f.Begin key → slt key f.End → f.Seqs = covS l key
  pw : out.Pairwise fun f g => sle f.End g.Begin
  all : ∀ key, slt key b → covS l key ≠ [] → ∃ f ∈ out, sle f.Begin key ∧ slt key f.End
theorem FI.step {l : List Tomb} {b e : ByteArray} {out : List Fragment} (h : FI l b out) (hbe : slt b e) (hc : ∀ t ∈ l, (sle t.Begin b ∨ sle e t.Begin) ∧ (sle t.End b ∨ sle e t.End)) : FI l e (addF out b e (seqsOf l b e)) := by
  have hseg : ∀ key, sle b key → slt key e → covS l key = seqsOf l b e := fun key h1 h2 => covS_seg h1 h2 hc
  have hbs : sle b e := sle_of_lt hbe
  have two : ∀ key, slt key e → slt key b ∨ sle b key := fun key _ => by
    rcases slt_tri key b with k | k | k
    · exact .inl k
    · subst k; exact .inr (sle_refl _)
    · exact .inr (sle_of_lt k)
  unfold addF
  split
  · rename_i hs
    refine ⟨fun f hf => ?_, h.pw, fun key hk hne => ?_⟩
    · obtain ⟨h1, h2, h3, h4⟩ := h.ok f hf
      exact ⟨h1, h2, sle_trans h3 hbs, h4⟩
    · rcases two key hk with k | k
      · exact h.all key k hne
      · exact absurd ((hseg key k hk).trans hs) hne
  · rename_i hs
    have pushed : FI l e (out ++ [⟨b, e, seqsOf l b e⟩]) := by
      refine ⟨fun f hf => ?_, ?_, fun key hk hne => ?_⟩
      · rcases List.mem_append.1 hf with hf | hf
        · obtain ⟨h1, h2, h3, h4⟩ := h.ok f hf
          exact ⟨h1, h2, sle_trans h3 hbs, h4⟩
        · simp at hf; subst hf
          exact ⟨hbe, hs, sle_refl _, fun key h1 h2 => (hseg key h1 h2).symm⟩
      · refine List.pairwise_append.2 ⟨h.pw, List.pairwise_singleton _ _, fun f hf g hg => ?_⟩
        simp at hg; subst hg
        exact (h.ok f hf).2.2.1
      · rcases two key hk with k | k
        · obtain ⟨f, hf, q⟩ := h.all key k hne
          exact ⟨f, by simp [hf], q⟩
        · exact ⟨⟨b, e, seqsOf l b e⟩, by simp, k, hk⟩
    split
    · rename_i f hf
      obtain ⟨out', rfl⟩ : ∃ out', out = out' ++ [f] := by
        rcases nil_or_snoc out with rfl | ⟨o, x, rfl⟩
        · simp at hf
        · simp at hf; subst hf; exact ⟨o, rfl⟩
      split
      · rename_i hfe
        obtain ⟨hfe, hfs⟩ := hfe
        obtain ⟨k1, k2, k3, k4⟩ := h.ok f (by simp)
        simp only [List.dropLast_concat]
        obtain ⟨p1, p2, p3⟩ := List.pairwise_append.1 h.pw
        refine ⟨fun g hg => ?_, ?_, fun key hk hne => ?_⟩
        · rcases List.mem_append.1 hg with hg | hg
          · obtain ⟨h1, h2, h3, h4⟩ := h.ok g (by simp [hg])
            exact ⟨h1, h2, sle_trans h3 hbs, h4⟩
          · simp at hg; subst hg
            refine ⟨slt_trans (by rw [← hfe]; exact k1) hbe, k2, sle_refl _, fun key h1 h2 => ?_⟩
            rcases two key h2 with k | k
            · exact k4 key h1 (by rw [hfe]; exact k)
            · show f.Seqs = _
              rw [hfs]; exact (hseg key k h2).symm
        · refine List.pairwise_append.2 ⟨p1, List.pairwise_singleton _ _, fun g hg g' hg' => ?_⟩
          simp at hg'; subst hg'
          exact p3 g hg f (by simp)
        · rcases two key hk with k | k
          · obtain ⟨g, hg, q1, q2⟩ := h.all key k hne
            rcases List.mem_append.1 hg with hg | hg
            · exact ⟨g, by simp [hg], q1, q2⟩
            · simp at hg; subst hg
              exact ⟨⟨g.Begin, e, g.Seqs⟩, by simp, q1, hk⟩
          · exact ⟨⟨f.Begin, e, f.Seqs⟩, by simp, sle_trans (sle_of_lt (by rw [← hfe]; exact k1)) k, hk⟩
      · exact pushed
    · exact pushed
theorem build_FI {l : List Tomb} : ∀ (s : List ByteArray) (b : ByteArray) (out : List Fragment), (b :: s).Pairwise slt → (∀ t ∈ l, (sle t.Begin b ∨ t.Begin ∈ s) ∧ (sle t.End b ∨ t.End ∈ s)) → FI l b out → ∃ b', (∀ t ∈ l, sle t.End b') ∧ FI l b' (build l b s out)
  | [], b, out, _, hm, h => ⟨b, fun t ht => by rcases (hm t ht).2 with k | k; exact k; simp at k, h⟩
  | e :: s, b, out, hp, hm, h => by
    have hp' := List.pairwise_cons.1 hp
    have hp2 := List.pairwise_cons.1 hp'.2
    have split : ∀ x, (sle x b ∨ x ∈ e :: s) → (sle x b ∨ sle e x) ∧ (sle x e ∨ x ∈ s) := fun x hx => by
      rcases hx with k | k
      · exact ⟨.inl k, .inl (sle_trans k (sle_of_lt (hp'.1 e (by simp))))⟩
      · rcases List.mem_cons.1 k with k | k
        · subst k; exact ⟨.inr (sle_refl _), .inl (sle_refl _)⟩
        · exact ⟨.inr (sle_of_lt (hp2.1 x k)), .inr k⟩
    refine build_FI s e _ hp'.2 (fun t ht => ⟨(split _ (hm t ht).1).2, (split _ (hm t ht).2).2⟩) ?_
    exact h.step (hp'.1 e (by simp)) fun t ht => ⟨(split _ (hm t ht).1).1, (split _ (hm t ht).2).1⟩
theorem frags_spec (l : List Tomb) : (∀ f ∈ frags l, slt f.Begin f.End ∧ f.Seqs ≠ [] ∧ ∀ key, sle f.Begin key → slt key f.End → f.Seqs = covS l key) ∧ (frags l).Pairwise (fun f g => sle f.End g.Begin) ∧
    (∀ key, covS l key ≠ [] → ∃ f ∈ frags l, sle f.Begin key ∧ slt key f.End) := by
  have hmem : ∀ t ∈ l, t.Begin ∈ uq slt (endsOf l) ∧ t.End ∈ uq slt (endsOf l) := fun t ht => by
    rw [mem_uq so_str, mem_uq so_str]
    unfold endsOf
    rw [List.mem_flatMap, List.mem_flatMap]
    exact ⟨⟨t, ht, by simp⟩, ⟨t, ht, by simp⟩⟩
  have hpw := uq_pw so_str (endsOf l)
  unfold frags
  cases hu : uq slt (endsOf l) with
  | nil =>
    rw [hu] at hmem
    refine ⟨fun f hf => by simp [fragsU] at hf, List.Pairwise.nil, fun key hne => ?_⟩
    obtain ⟨n, hn⟩ := List.exists_mem_of_ne_nil _ hne
    obtain ⟨t, ht, _⟩ := mem_covS.1 hn
    have := (hmem t ht).1
    simp at this
  | cons b s =>
    rw [hu] at hmem hpw
    have hb := (List.pairwise_cons.1 hpw).1
    have hle : ∀ x, x ∈ b :: s → sle b x := fun x hx => by
      rcases List.mem_cons.1 hx with e | e
      · subst e; exact sle_refl _
      · exact sle_of_lt (hb x e)
    have start : FI l b [] := by
      refine ⟨fun f hf => by simp at hf, List.Pairwise.nil, fun key hk hne => ?_⟩
      obtain ⟨n, hn⟩ := List.exists_mem_of_ne_nil _ hne
      obtain ⟨t, ht, hk2, _⟩ := mem_covS.1 hn
      unfold onKey at hk2
      simp only [Bool.and_eq_true, decide_eq_true_eq] at hk2
      exact absurd (slt_of_le_lt (sle_trans (hle _ (hmem t ht).1) hk2.1) hk) (slt_irrefl _)
    obtain ⟨b', hend, hF⟩ := build_FI (l := l) s b [] hpw (fun t ht => by
      obtain ⟨h1, h2⟩ := hmem t ht
      refine ⟨?_, ?_⟩
      · rcases List.mem_cons.1 h1 with e | e
        · exact .inl (by rw [e]; exact sle_refl _)
        · exact .inr e
      · rcases List.mem_cons.1 h2 with e | e
        · exact .inl (by rw [e]; exact sle_refl _)
        · exact .inr e) start
    refine ⟨fun f hf => ?_, hF.pw, fun key hne => ?_⟩
    · obtain ⟨h1, h2, h3, h4⟩ := hF.ok f hf
      exact ⟨h1, h2, h4⟩
    · obtain ⟨n, hn⟩ := List.exists_mem_of_ne_nil _ hne
      obtain ⟨t, ht, hk2, _⟩ := mem_covS.1 hn
      unfold onKey at hk2
      simp only [Bool.and_eq_true, decide_eq_true_eq] at hk2
      exact hF.all key (slt_of_lt_le hk2.2 (hend t ht)) hne
end Go.Proofs.YtbaemhkfmddakaaGreat.Mo

set_option maxRecDepth 100000
namespace Go.Proofs.YtbaemhkfmddakaaGreat.Mo
open Go Go.Proofs.YtbaemhkfmddakaaGreat.Sy
theorem build_len (l : List Tomb) : ∀ (s : List ByteArray) (b : ByteArray) (out : List Fragment), (build l b s out).length ≤ out.length + s.length
  | [], _, out => by simp [build]
  | e :: s, b, out => by
    have h1 := build_len l s e (addF out b e (seqsOf l b e))
    have h2 := addF_len out b e (seqsOf l b e)
    rw [build, List.length_cons]
    omega
theorem ends_len (l : List Tomb) : (endsOf l).length = 2 * l.length := by
  unfold endsOf
  induction l with
  | nil => rfl
  | cons x l ih => rw [List.flatMap_cons, List.length_append, ih]; simp; omega
theorem frags_len (l : List Tomb) : (frags l).length ≤ 2 * l.length := by
  have h := uq_len (lt := slt) (endsOf l)
  rw [ends_len] at h
  unfold frags
  cases hu : uq slt (endsOf l) with
  | nil => simp [fragsU]
  | cons b r =>
    have := build_len l r b []
    rw [hu] at h
    simp only [List.length_cons, List.length_nil] at this h
    show (build l b r []).length ≤ _
    omega
theorem covS_len (l : List Tomb) (key : ByteArray) : (covS l key).length ≤ l.length := by
  unfold covS
  rw [List.length_reverse]
  exact Nat.le_trans (uq_len _) (by rw [List.length_map]; exact List.length_filter_le _ _)
theorem frags_seqs {l : List Tomb} {f : Fragment} (hf : f ∈ frags l) : f.Seqs.length ≤ l.length := by
  obtain ⟨h1, h2, h3⟩ := (frags_spec l).1 f hf
  rw [h3 f.Begin (sle_refl _) h1]
  exact covS_len _ _
def onF (key : ByteArray) (f : Fragment) : Bool := !(sLt key f.Begin || !sLt key f.End)
def setF (key : ByteArray) (n : Int) : List Fragment → Option Int
  | [] => none
  | f :: s => if onF key f = true then (match f.Seqs.find? (fun x => decide (x ≤ n)) with
    | some v => some v
    | none => setF key n s) else setF key n s
def setC (key : ByteArray) (n : Int) (fs : List Fragment) : Int × Bool := match setF key n fs with
  | some v => (v, true)
  | none => (0, false)
theorem onF_iff {key : ByteArray} {f : Fragment} : onF key f = true ↔ sle f.Begin key ∧ slt key f.End := by
  unfold onF
  rw [Bool.not_eq_true', Bool.or_eq_false_iff, sLt_false, Bool.not_eq_false', sLt_iff]
  rfl
theorem setF_all {key : ByteArray} {n : Int} {o : Option Int} : ∀ (fs : List Fragment), (∀ f ∈ fs, onF key f = true → f.Seqs.find? (fun x => decide (x ≤ n)) = o) → setF key n fs = none ∨ setF key n fs = o
  | [], _ => .inl rfl
  | f :: s, h => by
    have ih := setF_all s fun g hg => h g (List.mem_cons_of_mem _ hg)
    rw [setF]
    by_cases hc : onF key f = true
    · rw [if_pos hc, h f (by simp) hc]
      cases o with
      | none => exact ih.elim .inl .inl
      | some v => exact .inr rfl
    · rw [if_neg hc]; exact ih
theorem setF_some {key : ByteArray} {n v : Int} : ∀ (fs : List Fragment), (∀ f ∈ fs, onF key f = true → f.Seqs.find? (fun x => decide (x ≤ n)) = some v) → (∃ f ∈ fs, onF key f = true) → setF key n fs = some v
  | [], _, h => by obtain ⟨f, hf, _⟩ := h; simp at hf
  | f :: s, h, ⟨g, hg, hc⟩ => by
    rw [setF]
    by_cases hf : onF key f = true
    · rw [if_pos hf, h f (by simp) hf]
    · rw [if_neg hf]
      rcases List.mem_cons.1 hg with e | e
      · subst e; exact absurd hc hf
      · exact setF_some s (fun g hg => h g (List.mem_cons_of_mem _ hg)) ⟨g, e, hc⟩
theorem setF_eq (l : List Tomb) (key : ByteArray) (n : Int) : setF key n (frags l) = (covS l key).find? (fun x => decide (x ≤ n)) := by
  obtain ⟨h1, _, h3⟩ := frags_spec l
  have hs : ∀ f ∈ frags l, onF key f = true → f.Seqs.find? (fun x => decide (x ≤ n)) = (covS l key).find? (fun x => decide (x ≤ n)) := fun f hf hc => by
    rw [onF_iff] at hc
    rw [(h1 f hf).2.2 key hc.1 hc.2]
  cases hf : (covS l key).find? (fun x => decide (x ≤ n)) with
  | none =>
    rw [hf] at hs
    rcases setF_all (frags l) hs with e | e <;> exact e
  | some v =>
    rw [hf] at hs
    refine setF_some _ hs ?_
    have hne : covS l key ≠ [] := fun e => by rw [e] at hf; simp at hf
    obtain ⟨f, g1, g2, g3⟩ := h3 key hne
    exact ⟨f, g1, onF_iff.2 ⟨g2, g3⟩⟩
theorem pw_find {n : Int} : ∀ {l : List Int}, l.Pairwise (fun x y => y < x) → ∀ {v}, l.find? (fun x => decide (x ≤ n)) = some v → v ∈ l ∧ v ≤ n ∧ ∀ x ∈ l, x ≤ n → x ≤ v
  | [], _, v, h => by simp at h
  | a :: l, hp, v, h => by
    have hp' := List.pairwise_cons.1 hp
    rw [List.find?_cons] at h
    by_cases ha : a ≤ n
    · rw [decide_eq_true ha] at h
      simp at h
      subst h
      refine ⟨by simp, ha, fun x hx _ => ?_⟩
      rcases List.mem_cons.1 hx with e | e
      · omega
      · have := hp'.1 x e; omega
    · rw [decide_eq_false ha] at h
      obtain ⟨h1, h2, h3⟩ := pw_find hp'.2 h
      refine ⟨List.mem_cons_of_mem _ h1, h2, fun x hx hn => ?_⟩
      rcases List.mem_cons.1 hx with e | e
      · subst e; exact absurd hn ha
      · exact h3 x e hn
theorem cov_iff {key : ByteArray} {n : Int} {t : Tomb} : cov key n t = true ↔ okT t = true ∧ t.Seq ≤ n ∧ onKey key t = true := by
  unfold cov onKey
  rw [sLe_dec, sLt_dec]
  simp only [Bool.and_eq_true, decide_eq_true_eq, and_assoc]
/-- A set says of a key what its tombs say. -/
theorem setC_eq (l : List Tomb) (hs : ∀ t ∈ l, 0 ≤ t.Seq) (key : ByteArray) (n : Int) : setC key n (frags (l.filter okT)) = covers key n l (0, false) := by
  have hok := covers_ok key n l (0, false)
  obtain ⟨c2, c3, c4⟩ := covers_max key n l (0, false)
  unfold setC
  rw [setF_eq]
  cases hf : (covS (l.filter okT) key).find? (fun x => decide (x ≤ n)) with
  | none =>
    have hno : ∀ t ∈ l, ¬ cov key n t = true := fun t ht hc => by
      obtain ⟨h1, h2, h3⟩ := cov_iff.1 hc
      rw [List.find?_eq_none] at hf
      have := hf t.Seq (mem_covS.2 ⟨t, List.mem_filter.2 ⟨ht, h1⟩, h3, rfl⟩)
      simp at this
      omega
    refine Prod.ext ?_ ?_
    · rcases c4 with e | ⟨x, hx, hc, _⟩
      · exact e.symm
      · exact absurd hc (hno x hx)
    · simp only
      symm
      rw [Bool.eq_false_iff]
      intro h
      rcases hok.1 h with e | ⟨x, hx, hc⟩
      · cases e
      · exact hno x hx hc
  | some v =>
    obtain ⟨h1, h2, h3⟩ := pw_find (covS_pw (l.filter okT) key) hf
    obtain ⟨t, ht, hk, rfl⟩ := mem_covS.1 h1
    obtain ⟨ht1, ht2⟩ := List.mem_filter.1 ht
    have hc : cov key n t = true := cov_iff.2 ⟨ht2, h2, hk⟩
    refine Prod.ext ?_ ?_
    · have hge := c3 t ht1 hc
      simp only at c4 ⊢
      rcases c4 with e | ⟨x, hx, hcx, e⟩
      · have := hs t ht1; omega
      · obtain ⟨x1, x2, x3⟩ := cov_iff.1 hcx
        have := h3 x.Seq (mem_covS.2 ⟨x, List.mem_filter.2 ⟨hx, x1⟩, x3, rfl⟩) x2
        omega
    · exact (hok.2 (.inr ⟨t, ht1, hc⟩)).symm
end Go.Proofs.YtbaemhkfmddakaaGreat.Mo

set_option maxRecDepth 100000
namespace Go.Proofs.YtbaemhkfmddakaaGreat.Mo
open Go Go.Proofs.YtbaemhkfmddakaaGreat.Sy
def ikey_entries (k : Nat) (a b : Entry) : Option Int := (ikey_Compare k (⟨a.Key, a.Seq, a.Kind⟩ : IKey) (⟨b.Key, b.Seq, b.Kind⟩ : IKey)).bind fun r => some r
def cE (a b : Entry) : Int := if slt a.Key b.Key then -1 else if slt b.Key a.Key then 1 else if b.Seq < a.Seq then -1 else if a.Seq < b.Seq then 1 else if b.Kind < a.Kind then -1 else if a.Kind < b.Kind then 1 else 0
def ltE (a b : Entry) : Prop := cE a b < 0
instance : DecidableRel ltE := fun a b => inferInstanceAs (Decidable (cE a b < 0))
theorem ltE_iff {a b : Entry} : ltE a b ↔ slt a.Key b.Key ∨ (a.Key = b.Key ∧ (b.Seq < a.Seq ∨ (a.Seq = b.Seq ∧ b.Kind < a.Kind))) := by
  show cE a b < 0 ↔ _
  unfold cE
  rcases slt_tri a.Key b.Key with h | h | h
  · simp [h]
  · rw [h]
    simp only [slt_irrefl, if_false, false_or, true_and]
    split
    · simp [*]
    · split
      · constructor
        · intro h; omega
        · rintro (h | ⟨h, _⟩) <;> omega
      · split
        · constructor
          · intro _; exact .inr ⟨by omega, by assumption⟩
          · intro _; omega
        · split
          · constructor
            · intro h; omega
            · rintro (h | ⟨_, h⟩) <;> omega
          · constructor
            · intro h; omega
            · rintro (h | ⟨_, h⟩) <;> omega
  · have h1 := slt_asymm h
    have h2 : a.Key ≠ b.Key := fun e => by rw [e] at h; exact slt_irrefl _ h
    simp [h, h1, h2]
theorem wo_E : Wo ltE := by
  refine ⟨fun x y h k => ?_, fun x y z h k => ?_⟩
  · rw [ltE_iff] at h k
    rcases h with h | ⟨e, h⟩
    · rcases k with k | ⟨e, _⟩
      · exact slt_asymm h k
      · rw [e] at h; exact slt_irrefl _ h
    · rcases k with k | ⟨_, k⟩
      · rw [e] at k; exact slt_irrefl _ k
      · omega
  · rw [ltE_iff] at h k ⊢
    rintro (g | ⟨e, g⟩)
    · rcases slt_tri x.Key y.Key with h1 | h1 | h1
      · exact h (.inl h1)
      · rw [h1] at g; exact k (.inl g)
      · exact k (.inl (slt_trans h1 g))
    · rcases slt_tri x.Key y.Key with h1 | h1 | h1
      · exact h (.inl h1)
      · have h2 : ¬ (y.Seq < x.Seq ∨ (x.Seq = y.Seq ∧ y.Kind < x.Kind)) := fun c => h (.inr ⟨h1, c⟩)
        have k2 : ¬ (z.Seq < y.Seq ∨ (y.Seq = z.Seq ∧ z.Kind < y.Kind)) := fun c => k (.inr ⟨h1.symm.trans e, c⟩)
        omega
      · rw [e] at h1; exact k (.inl h1)
theorem entries_eq (k : Nat) (a b : Entry) : ikey_entries (k + 4) a b = some (cE a b) := by
  have w1 : w64 (0 + 1) = 1 := by decide
  have w2 : w64 (1 + 1) = 2 := by decide
  have w3 : w64 (2 + 1) = 3 := by decide
  have key : ∀ p q r : Int, cmp_Or_int (k + 4) [p, q, r] = some (if p ≠ 0 then p else if q ≠ 0 then q else if r ≠ 0 then r else 0) := by
    intro p q r
    have i0 : idx [p, q, r] 0 = some p := rfl
    have i1 : idx [p, q, r] 1 = some q := rfl
    have i2 : idx [p, q, r] 2 = some r := rfl
    have l0 : decide ((0 : Int) < ([p, q, r].length : Int)) = true := rfl
    have l1 : decide ((1 : Int) < ([p, q, r].length : Int)) = true := rfl
    have l2 : decide ((2 : Int) < ([p, q, r].length : Int)) = true := rfl
    have l3 : decide ((3 : Int) < ([p, q, r].length : Int)) = false := rfl
    simp only [cmp_Or_int, cmp_Or_int.l0, i0, i1, i2, l0, l1, l2, l3, if_true, Option.bind_some, w1, w2, w3, bne_iff_ne, Bool.false_eq_true, if_false]
    split
    · rfl
    · split
      · rfl
      · split <;> rfl
  unfold ikey_entries ikey_Compare
  simp only [strings_Compare, internal_bytealg_CompareString, Option.bind_some]
  have hu : cmp_Compare_uint64 b.Seq a.Seq = some (if b.Seq < a.Seq then -1 else if a.Seq < b.Seq then 1 else 0) := by
    simp only [cmp_Compare_uint64, cmp_isNaN_uint64, bne_self_eq_false, Option.bind_some, Bool.false_eq_true, if_false, decide_eq_true_eq]
    split
    · rfl
    · split <;> rfl
  have hi : cmp_Compare_int b.Kind a.Kind = some (if b.Kind < a.Kind then -1 else if a.Kind < b.Kind then 1 else 0) := by
    simp only [cmp_Compare_int, cmp_isNaN_int, bne_self_eq_false, Option.bind_some, Bool.false_eq_true, if_false, decide_eq_true_eq]
    split
    · rfl
    · split <;> rfl
  rw [hu, hi]
  simp only [Option.bind_some, key]
  congr 1
  unfold cE ordS
  simp only [sLt_iff]
  by_cases h1 : slt a.Key b.Key
  · simp [h1]
  · by_cases h2 : slt b.Key a.Key
    · simp [h1, h2]
    · by_cases h3 : b.Seq < a.Seq
      · simp [h1, h2, h3]
      · by_cases h4 : a.Seq < b.Seq
        · simp [h1, h2, h3, h4]
        · by_cases h5 : b.Kind < a.Kind
          · simp [h1, h2, h3, h4, h5]
          · by_cases h6 : a.Kind < b.Kind
            · simp [h1, h2, h3, h4, h5, h6]
            · simp [h1, h2, h3, h4, h5, h6]
def keyE (k : IKey) : Entry := ⟨k.Key, k.Seq, k.Kind, ByteArray.mk #[]⟩
theorem comp_eq (k : Nat) (x y : IKey) : ikey_Compare (k + 4) x y = some (cE (keyE x) (keyE y)) := by
  have := entries_eq k (keyE x) (keyE y)
  unfold ikey_entries at this
  have e : (⟨(keyE x).Key, (keyE x).Seq, (keyE x).Kind⟩ : IKey) = x := by cases x; rfl
  have e2 : (⟨(keyE y).Key, (keyE y).Seq, (keyE y).Kind⟩ : IKey) = y := by cases y; rfl
  rw [e, e2] at this
  cases h : ikey_Compare (k + 4) x y with
  | none => rw [h] at this; cases this
  | some v => rw [h] at this; exact this
end Go.Proofs.YtbaemhkfmddakaaGreat.Mo

set_option maxRecDepth 100000
namespace Go.Proofs.YtbaemhkfmddakaaGreat.Mo
open Go Go.Proofs.YtbaemhkfmddakaaGreat.Sy
def kl (x y : IKey) : Prop := cE (keyE x) (keyE y) < 0
instance : DecidableRel kl := fun a b => inferInstanceAs (Decidable (cE (keyE a) (keyE b) < 0))
theorem kl_asymm {x y : IKey} (h : kl x y) : ¬ kl y x := wo_E.asymm _ _ h
theorem kl_tri {x y : IKey} (h : ¬ kl x y) (k : ¬ kl y x) : x = y := by
  have h' : ¬ ltE (keyE x) (keyE y) := h
  have k' : ¬ ltE (keyE y) (keyE x) := k
  rw [ltE_iff] at h' k'
  obtain ⟨a, b, c⟩ := x
  obtain ⟨a', b', c'⟩ := y
  simp only [keyE] at h' k'
  rcases slt_tri a a' with g | g | g
  · exact absurd (.inl g) h'
  · subst g
    have h1 : ¬ (b' < b ∨ (b = b' ∧ c' < c)) := fun q => h' (.inr ⟨rfl, q⟩)
    have k1 : ¬ (b < b' ∨ (b' = b ∧ c < c')) := fun q => k' (.inr ⟨rfl, q⟩)
    have e1 : b = b' := by omega
    have e2 : c = c' := by omega
    subst e1 e2; rfl
  · exact absurd (.inl g) k'
theorem kl_trans {x y z : IKey} (h : kl x y) (k : kl y z) : kl x z := by
  refine Decidable.byContradiction fun g => ?_
  have := wo_E.neg (keyE x) (keyE z) (keyE y) g (kl_asymm k)
  exact this h
theorem kl_irrefl (x : IKey) : ¬ kl x x := fun h => kl_asymm h h
def Ch (f : Nat → Int) : Nat → List Nat → Prop
  | a, [] => f a = 0
  | a, b :: r => f a = (b : Int) ∧ Ch f b r
theorem ch_congr {f g : Nat → Int} : ∀ {l : List Nat} {a : Nat}, (∀ j ∈ a :: l, g j = f j) → Ch f a l → Ch g a l
  | [], a, h, hc => by
    show g a = 0
    rw [h a (by simp)]; exact hc
  | b :: r, a, h, hc => ⟨by rw [h a (by simp)]; exact hc.1, ch_congr (fun j hj => h j (List.mem_cons_of_mem _ hj)) hc.2⟩
theorem ch_split {f : Nat → Int} : ∀ {P R : List Nat} {a b : Nat}, Ch f a (P ++ b :: R) → Ch f b R
  | [], R, a, b, h => h.2
  | p :: P, R, a, b, h => ch_split (P := P) h.2
def lastD (a : Nat) (l : List Nat) : Nat := l.getLast?.getD a
theorem lastD_nil (a : Nat) : lastD a [] = a := rfl
theorem lastD_cons (a b : Nat) (l : List Nat) : lastD a (b :: l) = lastD b l := by
  unfold lastD
  cases l with
  | nil => rfl
  | cons c r => rw [List.getLast?_cons_cons, List.getLast?_cons]; rfl
theorem lastD_app (a b : Nat) (P R : List Nat) : lastD a (P ++ b :: R) = lastD b R := by
  unfold lastD
  rw [List.getLast?_append, List.getLast?_cons]
  rfl
theorem lastD_mem (a : Nat) : ∀ (l : List Nat), lastD a l ∈ a :: l
  | [] => by simp [lastD]
  | b :: r => by
    rw [lastD_cons]
    exact List.mem_cons_of_mem _ (lastD_mem b r)
theorem ch_insert {f g : Nat → Int} {n : Nat} : ∀ {A B : List Nat} {a : Nat}, Ch f a (A ++ B) → (a :: (A ++ B)).Nodup → n ∉ a :: (A ++ B) → g (lastD a A) = (n : Int) → g n = f (lastD a A) → (∀ j ∈ a :: (A ++ B), j ≠ lastD a A → g j = f j) → Ch g a (A ++ n :: B)
  | [], B, a, hc, hnd, hn, h1, h2, h3 => by
    rw [lastD_nil] at h1 h2 h3
    refine ⟨h1, ?_⟩
    cases B with
    | nil => show g n = 0; rw [h2]; exact hc
    | cons b r =>
      refine ⟨by rw [h2]; exact hc.1, ch_congr (fun j hj => h3 j (by simp at hj ⊢; exact .inr hj) ?_) hc.2⟩
      rintro rfl
      exact (List.nodup_cons.1 hnd).1 hj
  | b :: A, B, a, hc, hnd, hn, h1, h2, h3 => by
    rw [lastD_cons] at h1 h2 h3
    have hnd' := (List.nodup_cons.1 hnd)
    refine ⟨?_, ch_insert hc.2 hnd'.2 (fun h => hn (List.mem_cons_of_mem _ h)) h1 h2 fun j hj hne => h3 j (List.mem_cons_of_mem _ hj) hne⟩
    rw [h3 a (by simp) (fun e => hnd'.1 (by
      rw [e]
      have := lastD_mem b A
      simp only [List.cons_append, List.mem_cons, List.mem_append] at this ⊢
      rcases this with h | h
      · exact .inl h
      · exact .inr (.inl h)))]
    exact hc.1
/-- Links backwards. -/
def Pc (f : Nat → Int) : Nat → List Nat → Prop
  | _, [] => True
  | a, b :: r => f b = (a : Int) ∧ Pc f b r
theorem pc_congr {f g : Nat → Int} : ∀ {l : List Nat} {a : Nat}, (∀ j ∈ l, g j = f j) → Pc f a l → Pc g a l
  | [], a, h, hc => trivial
  | b :: r, a, h, hc => ⟨by rw [h b (by simp)]; exact hc.1, pc_congr (fun j hj => h j (List.mem_cons_of_mem _ hj)) hc.2⟩
theorem pc_insert {f g : Nat → Int} {n : Nat} : ∀ {A B : List Nat} {a : Nat}, Pc f a (A ++ B) → (A ++ B).Nodup → n ∉ (A ++ B) → g n = (lastD a A : Nat) → (∀ b, B.head? = some b → g b = (n : Int)) → (∀ j ∈ A ++ B, B.head? ≠ some j → g j = f j) → Pc g a (A ++ n :: B)
  | [], B, a, hc, hnd, hn, h1, h2, h3 => by
    refine ⟨h1, ?_⟩
    cases B with
    | nil => trivial
    | cons b r =>
      refine ⟨h2 b rfl, pc_congr (fun j hj => h3 j (by simp [hj]) ?_) hc.2⟩
      simp only [List.head?_cons, ne_eq, Option.some.injEq]
      rintro rfl
      exact (List.nodup_cons.1 hnd).1 hj
  | b :: A, B, a, hc, hnd, hn, h1, h2, h3 => by
    rw [lastD_cons] at h1
    have hnd' := (List.nodup_cons.1 hnd)
    refine ⟨?_, pc_insert hc.2 hnd'.2 (fun h => hn (List.mem_cons_of_mem _ h)) h1 h2 fun j hj hne => h3 j (List.mem_cons_of_mem _ hj) hne⟩
    rw [h3 b (by simp) ?_]
    · exact hc.1
    · intro e
      cases B with
      | nil => cases e
      | cons c r =>
        simp only [List.head?_cons, Option.some.injEq] at e
        subst e
        exact hnd'.1 (by simp)
abbrev Nd := skip_node_string
def z0 : Nd := ⟨⟨ByteArray.mk #[], 0, 0⟩, ByteArray.mk #[], 0, ⟨0, 0, 0, 0, 0, 0, 0, 0, 0, 0, 0, 0⟩, 0⟩
def nd (N : List Nd) (i : Nat) : Nd := N.getD i z0
def ky (N : List Nd) (i : Nat) : IKey := (nd N i).key
def ht (N : List Nd) (i : Nat) : Int := (nd N i).height
def nx (N : List Nd) (lv : Nat) (i : Nat) : Int := St132.get (nd N i).next_ (lv : Int)
def pv (N : List Nd) (i : Nat) : Int := (nd N i).prev
theorem nd_idx {N : List Nd} {i : Nat} (h : i < N.length) : idx N (i : Int) = some (nd N i) := getD_idx2 z0 h
theorem nd_set {N : List Nd} {a : Nat} (h : a < N.length) (x : Nd) (j : Nat) : nd (N.set a x) j = if j = a then x else nd N j := by
  unfold nd
  rw [List.getD_eq_getElem?_getD, List.getElem?_set]
  by_cases e : a = j
  · subst e; simp [h]
  · rw [if_neg e, if_neg (fun h => e h.symm), List.getD_eq_getElem?_getD]
theorem nd_snoc (N : List Nd) (x : Nd) (j : Nat) : nd (N ++ [x]) j = if j = N.length then x else nd N j := by
  unfold nd
  rw [List.getD_eq_getElem?_getD, List.getD_eq_getElem?_getD]
  by_cases e : j = N.length
  · subst e; simp
  · rw [if_neg e]
    rcases Nat.lt_or_ge j N.length with h | h
    · rw [List.getElem?_append_left h]
    · rw [List.getElem?_eq_none (by simp; omega), List.getElem?_eq_none (by omega)]
def onL (N : List Nd) (l : List Nat) (lv : Nat) : List Nat := l.filter fun i => decide ((lv : Int) < ht N i)
theorem onL_app (N : List Nd) (a b : List Nat) (lv : Nat) : onL N (a ++ b) lv = onL N a lv ++ onL N b lv := List.filter_append ..
theorem get_ofl {l : List Int} (h : l.length = 12) (i : Int) : St132.get (St132.ofl l) i = l.getD i.toNat 0 := by unfold St132.get; rw [St132.l_ofl l h]
theorem get_put4 (x : St132) (i : Nat) (hi : i < 12) (v : Int) (j : Nat) : St132.get (St132.put x (i : Int) v) (j : Int) = if j = i then v else St132.get x (j : Int) := by
  have hl : (St132.l x).length = 12 := rfl
  unfold St132.put
  rw [get_ofl (by rw [List.length_set]; rfl)]
  unfold St132.get
  rw [Int.toNat_natCast, Int.toNat_natCast, List.getD_eq_getElem?_getD, List.getElem?_set, List.getD_eq_getElem?_getD]
  by_cases e : i = j
  · subst e; simp [hl, hi]
  · rw [if_neg e, if_neg (fun h => e h.symm)]
theorem get_put7 (x : St135) (i : Nat) (hi : i < 12) (v : Int) (j : Nat) : St135.get (St135.put x (i : Int) v) (j : Int) = if j = i then v else St135.get x (j : Int) := by
  have hl : (St135.l x).length = 12 := rfl
  unfold St135.put
  unfold St135.get
  rw [St135.l_ofl _ (by rw [List.length_set]; rfl), Int.toNat_natCast, Int.toNat_natCast, List.getD_eq_getElem?_getD, List.getElem?_set, List.getD_eq_getElem?_getD]
  by_cases e : i = j
  · subst e; simp [hl, hi]
  · rw [if_neg e, if_neg (fun h => e h.symm)]
structure Inv (L : skip_List_string) (ord : List Nat) : Prop where
  most : L.most = 1048576
  len : L.nodes.length = ord.length + 1
  small : ord.length ≤ 1048576
  rng : ∀ i ∈ ord, 1 ≤ i ∧ i < L.nodes.length
  nd : ord.Nodup
  srt : ord.Pairwise fun i j => kl (ky L.nodes i) (ky L.nodes j)
  hts : ∀ i ∈ ord, 1 ≤ ht L.nodes i ∧ ht L.nodes i ≤ L.height
  hgt : 0 ≤ L.height ∧ L.height ≤ 12
  chn : ∀ lv, lv < 12 → Ch (nx L.nodes lv) 0 (onL L.nodes ord lv)
  prv : Pc (pv L.nodes) 0 ord
  lst : L.last = (lastD 0 ord : Nat)
theorem Inv.cut {L : skip_List_string} {ord : List Nat} (h : Inv L ord) (key : IKey) : ∃ A B, ord = A ++ B ∧ (∀ i ∈ A, kl (ky L.nodes i) key) ∧ (∀ i ∈ B, ¬ kl (ky L.nodes i) key) := by
  have hs := h.srt
  generalize ord = l at hs
  induction l with
  | nil => exact ⟨[], [], rfl, fun i hi => (by cases hi), fun i hi => (by cases hi)⟩
  | cons x l ih =>
    obtain ⟨h1, h2⟩ := List.pairwise_cons.1 hs
    by_cases hk : kl (ky L.nodes x) key
    · obtain ⟨A, B, e, hA, hB⟩ := ih h2
      refine ⟨x :: A, B, by rw [e]; rfl, fun i hi => ?_, hB⟩
      rcases List.mem_cons.1 hi with rfl | hi
      · exact hk
      · exact hA i hi
    · refine ⟨[], x :: l, rfl, fun i hi => (by cases hi), fun i hi => ?_⟩
      rcases List.mem_cons.1 hi with rfl | hi
      · exact hk
      · exact fun g => hk (kl_trans (h1 i hi) g)
end Go.Proofs.YtbaemhkfmddakaaGreat.Mo

set_option maxRecDepth 100000
namespace Go.Proofs.YtbaemhkfmddakaaGreat.Mo
open Go Go.Proofs.YtbaemhkfmddakaaGreat.Sy
theorem comp_ev (x y : IKey) : Ev (fun k => ikey_Compare k x y) (cE (keyE x) (keyE y)) := ⟨4, fun k hk => by
  obtain ⟨j, rfl⟩ := Nat.exists_eq_add_of_le' hk
  exact comp_eq j x y⟩
section
variable {L : skip_List_string} {ord A B : List Nat} {key : IKey}
/-- What stands first behind. -/
def hd (l : List Nat) : Int := match l with | [] => 0 | b :: _ => (b : Int)
theorem ch_hd {f : Nat → Int} {a : Nat} {l : List Nat} (h : Ch f a l) : f a = hd l := by
  cases l with
  | nil => exact h
  | cons b r => exact h.1
theorem mem_onL {N : List Nd} {l : List Nat} {lv i : Nat} : i ∈ onL N l lv ↔ i ∈ l ∧ (lv : Int) < ht N i := by
  unfold onL
  rw [List.mem_filter, decide_eq_true_eq]
/-- One round, where there is something below. -/
theorem trail_go (hI : Inv L ord) {k : Nat} {y : St135} {at_ b lv : Nat} (hlv : lv < 12) (hat : at_ < L.nodes.length) (hb : nx L.nodes lv at_ = (b : Int)) (hb1 : 1 ≤ b) (hb2 : b < L.nodes.length)
    (hc : ikey_Compare k (ky L.nodes b) key = some (cE (keyE (ky L.nodes b)) (keyE key))) :
    skip_List_string_trail.l0 L key (k + 1) y.e0 y.e1 y.e2 y.e3 y.e4 y.e5 y.e6 y.e7 y.e8 y.e9 y.e10 y.e11 (at_ : Int) (lv : Int) =
      if kl (ky L.nodes b) key then skip_List_string_trail.l0 L key k y.e0 y.e1 y.e2 y.e3 y.e4 y.e5 y.e6 y.e7 y.e8 y.e9 y.e10 y.e11 (b : Int) (lv : Int)
      else (some (St135.put y (lv : Int) (at_ : Int))).bind fun y => skip_List_string_trail.l0 L key k y.e0 y.e1 y.e2 y.e3 y.e4 y.e5 y.e6 y.e7 y.e8 y.e9 y.e10 y.e11 (at_ : Int) ((lv : Int) - 1) := by
  have hsm := hI.small
  have hln := hI.len
  have e0 : decide ((0 : Int) ≤ (lv : Int)) = true := decide_eq_true (by omega)
  have e1 := nd_idx hat
  have e2 : (0 : Int) ≤ (lv : Int) ∧ (lv : Int) < 12 := ⟨by omega, by omega⟩
  have e3 : w64 (St132.get (nd L.nodes at_).next_ (lv : Int)) = (b : Int) := by
    have : St132.get (nd L.nodes at_).next_ (lv : Int) = (b : Int) := hb
    rw [this, w64_of (by omega) (by omega)]
  have e4 : ((b : Int) != 0) = true := by rw [bne_iff_ne]; omega
  have e5 := nd_idx hb2
  have e6 : w64 ((lv : Int) - 1) = (lv : Int) - 1 := w64_of (by omega) (by omega)
  simp only [skip_List_string_trail.l0, e0, e1, Option.bind_some, if_true, if_pos e2, e3, e4, e5, Jn, e6]
  have hc' : ikey_Compare k (nd L.nodes b).key key = some (cE (keyE (ky L.nodes b)) (keyE key)) := hc
  rw [hc', Option.bind_some]
  by_cases h : kl (ky L.nodes b) key
  · have h' : decide (cE (keyE (ky L.nodes b)) (keyE key) < 0) = true := decide_eq_true h
    rw [if_pos h', if_pos h]
  · have h' : decide (cE (keyE (ky L.nodes b)) (keyE key) < 0) = false := decide_eq_false h
    rw [h', if_neg h]
    simp only [Bool.false_eq_true, if_false]
theorem trail_end (hI : Inv L ord) {k : Nat} {y : St135} {at_ lv : Nat} (hlv : lv < 12) (hat : at_ < L.nodes.length) (hb : nx L.nodes lv at_ = 0) :
    skip_List_string_trail.l0 L key (k + 1) y.e0 y.e1 y.e2 y.e3 y.e4 y.e5 y.e6 y.e7 y.e8 y.e9 y.e10 y.e11 (at_ : Int) (lv : Int) =
      (some (St135.put y (lv : Int) (at_ : Int))).bind fun y => skip_List_string_trail.l0 L key k y.e0 y.e1 y.e2 y.e3 y.e4 y.e5 y.e6 y.e7 y.e8 y.e9 y.e10 y.e11 (at_ : Int) ((lv : Int) - 1) := by
  have e0 : decide ((0 : Int) ≤ (lv : Int)) = true := decide_eq_true (by omega)
  have e1 := nd_idx hat
  have e2 : (0 : Int) ≤ (lv : Int) ∧ (lv : Int) < 12 := ⟨by omega, by omega⟩
  have e3 : w64 (St132.get (nd L.nodes at_).next_ (lv : Int)) = 0 := by
    have : St132.get (nd L.nodes at_).next_ (lv : Int) = 0 := hb
    rw [this]; rfl
  have e6 : w64 ((lv : Int) - 1) = (lv : Int) - 1 := w64_of (by omega) (by omega)
  simp only [skip_List_string_trail.l0, e0, e1, Option.bind_some, if_true, if_pos e2, e3, bne_self_eq_false, Bool.false_eq_true, if_false, Jn, e6]
theorem trail_row (hI : Inv L ord) (e : ord = A ++ B) (hA : ∀ i ∈ A, kl (ky L.nodes i) key) (hB : ∀ i ∈ B, ¬ kl (ky L.nodes i) key) {lv : Nat} (hlv : lv < 12) (y : St135) {T : St135} :
    ∀ (R : List Nat) (at_ : Nat), at_ < L.nodes.length → (∀ i ∈ R, i ∈ A) → Ch (nx L.nodes lv) at_ (R ++ onL L.nodes B lv) →
    (Ev (fun k => skip_List_string_trail.l0 L key k (St135.put y (lv : Int) (lastD at_ R : Nat)).e0 (St135.put y (lv : Int) (lastD at_ R : Nat)).e1 (St135.put y (lv : Int) (lastD at_ R : Nat)).e2 (St135.put y (lv : Int) (lastD at_ R : Nat)).e3 (St135.put y (lv : Int) (lastD at_ R : Nat)).e4 (St135.put y (lv : Int) (lastD at_ R : Nat)).e5 (St135.put y (lv : Int) (lastD at_ R : Nat)).e6 (St135.put y (lv : Int) (lastD at_ R : Nat)).e7 (St135.put y (lv : Int) (lastD at_ R : Nat)).e8 (St135.put y (lv : Int) (lastD at_ R : Nat)).e9 (St135.put y (lv : Int) (lastD at_ R : Nat)).e10 (St135.put y (lv : Int) (lastD at_ R : Nat)).e11 (lastD at_ R : Nat) ((lv : Int) - 1)) T) →
    Ev (fun k => skip_List_string_trail.l0 L key k y.e0 y.e1 y.e2 y.e3 y.e4 y.e5 y.e6 y.e7 y.e8 y.e9 y.e10 y.e11 (at_ : Int) (lv : Int)) T
  | [], at_, hat, hR, hc, h => by
    rw [lastD_nil] at h
    cases hb : onL L.nodes B lv with
    | nil =>
      rw [hb] at hc
      refine Ev.succ (Ev.congr (fun k => trail_end hI hlv hat hc) ?_)
      exact h
    | cons b r =>
      rw [hb] at hc
      have hbm : b ∈ B := (mem_onL.1 (by rw [hb]; simp : b ∈ onL L.nodes B lv)).1
      have hr := hI.rng b (by rw [e]; simp [hbm])
      obtain ⟨n1, c1⟩ := comp_ev (ky L.nodes b) key
      obtain ⟨n2, c2⟩ := h
      refine ⟨n1 + n2 + 1, fun k hk => ?_⟩
      obtain ⟨k, rfl⟩ : ∃ j, k = j + 1 := ⟨k - 1, by omega⟩
      show skip_List_string_trail.l0 L key (k + 1) y.e0 y.e1 y.e2 y.e3 y.e4 y.e5 y.e6 y.e7 y.e8 y.e9 y.e10 y.e11 (at_ : Int) (lv : Int) = some T
      rw [trail_go hI hlv hat hc.1 hr.1 hr.2 (c1 k (by omega)), if_neg (hB b hbm), Option.bind_some]
      exact c2 k (by omega)
  | b :: R, at_, hat, hR, hc, h => by
    rw [lastD_cons] at h
    have hbm : b ∈ A := hR b (by simp)
    have hr := hI.rng b (by rw [e]; simp [hbm])
    have ih := trail_row hI e hA hB hlv y R b hr.2 (fun i hi => hR i (List.mem_cons_of_mem _ hi)) hc.2 h
    obtain ⟨n1, c1⟩ := comp_ev (ky L.nodes b) key
    obtain ⟨n2, c2⟩ := ih
    refine ⟨n1 + n2 + 1, fun k hk => ?_⟩
    obtain ⟨k, rfl⟩ : ∃ j, k = j + 1 := ⟨k - 1, by omega⟩
    show skip_List_string_trail.l0 L key (k + 1) y.e0 y.e1 y.e2 y.e3 y.e4 y.e5 y.e6 y.e7 y.e8 y.e9 y.e10 y.e11 (at_ : Int) (lv : Int) = some T
    rw [trail_go hI hlv hat hc.1 hr.1 hr.2 (c1 k (by omega)), if_pos (hA b hbm)]
    exact c2 k (by omega)
theorem onL_mono {N : List Nd} {l : List Nat} {lv i : Nat} (h : i ∈ onL N l (lv + 1)) : i ∈ onL N l lv := by
  rw [mem_onL] at h ⊢
  exact ⟨h.1, by omega⟩
/-- Where a trail ends, at each level. -/
def la (N : List Nd) (A : List Nat) (lv : Nat) : Nat := lastD 0 (onL N A lv)
theorem trail_lv (hI : Inv L ord) (e : ord = A ++ B) (hA : ∀ i ∈ A, kl (ky L.nodes i) key) (hB : ∀ i ∈ B, ¬ kl (ky L.nodes i) key) :
    ∀ (n : Nat), n ≤ 12 → ∀ (at_ : Nat) (y : St135), (at_ = 0 ∨ ∀ lv, lv + 1 = n → at_ ∈ onL L.nodes A lv) →
    ∃ T, Ev (fun k => skip_List_string_trail.l0 L key k y.e0 y.e1 y.e2 y.e3 y.e4 y.e5 y.e6 y.e7 y.e8 y.e9 y.e10 y.e11 (at_ : Int) ((n : Int) - 1)) T ∧ ∀ lv : Nat, lv < 12 → St135.get T (lv : Int) = if lv < n then (la L.nodes A lv : Int) else St135.get y (lv : Int)
  | 0, hn, at_, y, hat => by
    refine ⟨y, Ev.succ ?_, fun lv hl => by simp⟩
    have e0 : decide ((0 : Int) ≤ ((0 : Nat) : Int) - 1) = false := decide_eq_false (by omega)
    simp only [skip_List_string_trail.l0, e0, Bool.false_eq_true, if_false]
    exact Ev.ret
  | n + 1, hn, at_, y, hat => by
    have hch := hI.chn n (by omega)
    rw [e, onL_app] at hch
    have en : ((n + 1 : Nat) : Int) - 1 = (n : Int) := by omega
    obtain ⟨R, hR1, hR2, hR3, hR4⟩ : ∃ R, (∀ i ∈ R, i ∈ A) ∧ Ch (nx L.nodes n) at_ (R ++ onL L.nodes B n) ∧ lastD at_ R = la L.nodes A n ∧ at_ < L.nodes.length := by
      rcases hat with rfl | hat
      · exact ⟨onL L.nodes A n, fun i hi => (mem_onL.1 hi).1, hch, rfl, by have := hI.len; omega⟩
      · have hm := hat n rfl
        obtain ⟨P, R, hPR⟩ := List.append_of_mem hm
        refine ⟨R, fun i hi => ?_, ?_, ?_, ?_⟩
        · exact (mem_onL.1 (by rw [hPR]; simp [hi] : i ∈ onL L.nodes A n)).1
        · rw [hPR, List.append_assoc, List.cons_append] at hch
          exact ch_split hch
        · unfold la
          rw [hPR, lastD_app]
        · exact (hI.rng at_ (by rw [e]; simp [(mem_onL.1 hm).1])).2
    have hla : la L.nodes A n = 0 ∨ la L.nodes A n ∈ onL L.nodes A n := by
      have := lastD_mem 0 (onL L.nodes A n)
      rcases List.mem_cons.1 this with h | h
      · exact .inl h
      · exact .inr h
    obtain ⟨T, hT, hT2⟩ := trail_lv hI e hA hB n (by omega) (la L.nodes A n) (St135.put y (n : Int) (la L.nodes A n : Nat)) (hla.imp id fun h lv hlv => by subst hlv; exact onL_mono h)
    refine ⟨T, ?_, fun lv hl => ?_⟩
    · rw [en]
      refine trail_row hI e hA hB (by omega) y R at_ hR4 hR1 hR2 ?_
      rw [hR3]
      exact hT
    · rw [hT2 lv hl, get_put7 y n (by omega)]
      by_cases h1 : lv < n
      · rw [if_pos h1, if_pos (by omega)]
      · rw [if_neg h1]
        by_cases h2 : lv = n
        · subst h2; rw [if_pos rfl, if_pos (by omega)]
        · rw [if_neg h2, if_neg (by omega)]
theorem la_top (hI : Inv L ord) (e : ord = A ++ B) {lv : Nat} (h : L.height ≤ (lv : Int)) : onL L.nodes A lv = [] ∧ onL L.nodes B lv = [] := by
  constructor
  · refine List.filter_eq_nil_iff.2 fun i hi => ?_
    have := hI.hts i (by rw [e]; simp [hi])
    simp; omega
  · refine List.filter_eq_nil_iff.2 fun i hi => ?_
    have := hI.hts i (by rw [e]; simp [hi])
    simp; omega
theorem trail_ev (hI : Inv L ord) (e : ord = A ++ B) (hA : ∀ i ∈ A, kl (ky L.nodes i) key) (hB : ∀ i ∈ B, ¬ kl (ky L.nodes i) key) :
    ∃ T, Ev (fun k => skip_List_string_trail k L key) T ∧ ∀ lv : Nat, lv < 12 → St135.get T (lv : Int) = (la L.nodes A lv : Int) := by
  obtain ⟨h0, h12⟩ := hI.hgt
  obtain ⟨n, hn⟩ : ∃ n : Nat, L.height = (n : Int) := ⟨L.height.toNat, by omega⟩
  obtain ⟨T, hT, hT2⟩ := trail_lv hI e hA hB n (by omega) 0 (⟨0, 0, 0, 0, 0, 0, 0, 0, 0, 0, 0, 0⟩ : St135) (.inl rfl)
  refine ⟨T, ?_, fun lv hl => ?_⟩
  · unfold skip_List_string_trail
    have : w64 (L.height - 1) = (n : Int) - 1 := by rw [hn]; exact w64_of (by omega) (by omega)
    simp only [this]
    exact hT
  · rw [hT2 lv hl]
    by_cases h : lv < n
    · rw [if_pos h]
    · rw [if_neg h]
      unfold la
      rw [(la_top hI e (by omega)).1]
      have : ∀ lv : Nat, lv < 12 → St135.get (⟨0, 0, 0, 0, 0, 0, 0, 0, 0, 0, 0, 0⟩ : St135) ((lv : Nat) : Int) = 0 := by decide
      rw [this lv hl]; rfl
theorem hts1 (hI : Inv L ord) (e : ord = A ++ B) : onL L.nodes A 0 = A ∧ onL L.nodes B 0 = B := by
  constructor
  · refine List.filter_eq_self.2 fun i hi => ?_
    have := hI.hts i (by rw [e]; simp [hi])
    simp; omega
  · refine List.filter_eq_self.2 fun i hi => ?_
    have := hI.hts i (by rw [e]; simp [hi])
    simp; omega
theorem la0 (hI : Inv L ord) (e : ord = A ++ B) : la L.nodes A 0 = lastD 0 A := by unfold la; rw [(hts1 hI e).1]
theorem lastD_in (hI : Inv L ord) (e : ord = A ++ B) (lv : Nat) : la L.nodes A lv < L.nodes.length := by
  have := lastD_mem 0 (onL L.nodes A lv)
  rcases List.mem_cons.1 this with h | h
  · unfold la; rw [h]; have := hI.len; omega
  · have h' : la L.nodes A lv ∈ onL L.nodes A lv := h
    exact (hI.rng _ (by rw [e]; simp [(mem_onL.1 h').1])).2
theorem nx_la (hI : Inv L ord) (e : ord = A ++ B) {lv : Nat} (hlv : lv < 12) : nx L.nodes lv (la L.nodes A lv) = hd (onL L.nodes B lv) := by
  have hch := hI.chn lv hlv
  rw [e, onL_app] at hch
  unfold la
  rcases List.eq_nil_or_concat (onL L.nodes A lv) with h | ⟨P, x, h⟩
  · rw [h] at hch ⊢
    exact ch_hd hch
  · rw [List.concat_eq_append] at h
    rw [h, lastD_app, lastD_nil]
    rw [h, List.append_assoc, List.singleton_append] at hch
    exact ch_hd (ch_split hch)
theorem none_ev (hI : Inv L ord) : skip_List_string_none L = some false := by
  unfold skip_List_string_none
  have : ((L.nodes.length : Int) == 0) = false := by rw [beq_eq_false_iff_ne]; have := hI.len; omega
  rw [this]
theorem hd_in (hI : Inv L ord) (e : ord = A ++ B) (lv : Nat) : 0 ≤ hd (onL L.nodes B lv) ∧ hd (onL L.nodes B lv) < (L.nodes.length : Int) := by
  cases h : onL L.nodes B lv with
  | nil => have := hI.len; simp [hd]; omega
  | cons b r =>
    have := hI.rng b (by rw [e]; simp [(mem_onL.1 (by rw [h]; simp : b ∈ onL L.nodes B lv)).1])
    simp [hd]; omega
/-- Seek tells the first one that is not below. -/
theorem seek_ev (hI : Inv L ord) (e : ord = A ++ B) (hA : ∀ i ∈ A, kl (ky L.nodes i) key) (hB : ∀ i ∈ B, ¬ kl (ky L.nodes i) key) : Ev (fun k => skip_List_string_Seek k L key) (hd B) := by
  obtain ⟨T, hT, hT2⟩ := trail_ev hI e hA hB
  unfold skip_List_string_Seek skip_List_string_Before
  rw [none_ev hI]
  simp only [Option.bind_some, Bool.false_eq_true, if_false]
  have t0 : St135.get T 0 = (la L.nodes A 0 : Int) := hT2 0 (by omega)
  have hx := nd_idx (lastD_in hI e 0)
  have hn := nx_la hI e (lv := 0) (by omega)
  have hr := hd_in hI e 0
  rw [(hts1 hI e).2] at hn hr
  have hs := hI.small
  have hl := hI.len
  refine Ev.bind (Ev.bind hT (Ev.of fun _ => by rw [t0])) ?_
  rw [hx, Option.bind_some]
  have hn' : St132.get (nd L.nodes (la L.nodes A 0)).next_ 0 = hd B := hn
  rw [hn', w64_of (by omega) (by omega)]
  exact Ev.ret
end
end Go.Proofs.YtbaemhkfmddakaaGreat.Mo

set_option maxRecDepth 100000
namespace Go.Proofs.YtbaemhkfmddakaaGreat.Mo
open Go Go.Proofs.YtbaemhkfmddakaaGreat.Sy
theorem w32_of {x : Int} (h1 : 0 ≤ x) (h2 : x ≤ 2147483647) : w32 x = x := by
  unfold w32 IntKind.wrap
  simp [IntKind.bits, IntKind.signed]
  omega
/-- What the loop over the levels has made so far. -/
structure LI (N0 : List Nd) (A : List Nat) (l : List Nd) (x : St132) (i : Nat) : Prop where
  len : l.length = N0.length
  same : ∀ j, (nd l j).key = (nd N0 j).key ∧ (nd l j).value = (nd N0 j).value ∧ (nd l j).height = (nd N0 j).height ∧ (nd l j).prev = (nd N0 j).prev
  nx : ∀ lv, lv < 12 → ∀ j, nx l lv j = if lv < i ∧ j = la N0 A lv then (N0.length : Int) else nx N0 lv j
  new : ∀ lv : Nat, lv < 12 → St132.get x (lv : Int) = if lv < i then Go.Proofs.YtbaemhkfmddakaaGreat.Mo.nx N0 lv (la N0 A lv) else 0
section
variable {L : skip_List_string} {ord A B : List Nat} {key : IKey}
theorem li_step (hI : Inv L ord) (e : ord = A ++ B) {l : List Nd} {x : St132} {i : Nat} (hi : i < 12) (h : LI L.nodes A l x i) :
    LI L.nodes A (l.set (la L.nodes A i) ⟨(nd l (la L.nodes A i)).key, (nd l (la L.nodes A i)).value, (nd l (la L.nodes A i)).height, St132.put (nd l (la L.nodes A i)).next_ (i : Int) (L.nodes.length : Int), (nd l (la L.nodes A i)).prev⟩)
      (St132.put x (i : Int) (St132.get (nd l (la L.nodes A i)).next_ (i : Int))) (i + 1) := by
  have ha : la L.nodes A i < l.length := by rw [h.len]; exact lastD_in hI e i
  refine ⟨by rw [List.length_set]; exact h.len, fun j => ?_, fun lv hlv j => ?_, fun lv hlv => ?_⟩
  · rw [nd_set ha]
    by_cases hj : j = la L.nodes A i
    · subst hj; rw [if_pos rfl]; exact h.same _
    · rw [if_neg hj]; exact h.same j
  · unfold nx
    rw [nd_set ha]
    by_cases hj : j = la L.nodes A i
    · subst hj
      rw [if_pos rfl]
      show St132.get (St132.put (nd l (la L.nodes A i)).next_ (i : Int) (L.nodes.length : Int)) (lv : Int) = _
      rw [get_put4 _ i hi]
      by_cases h1 : lv = i
      · subst h1; rw [if_pos rfl, if_pos ⟨by omega, rfl⟩]
      · rw [if_neg h1]
        have := h.nx lv hlv (la L.nodes A i)
        unfold nx at this
        rw [this]
        by_cases h2 : lv < i ∧ la L.nodes A i = la L.nodes A lv
        · rw [if_pos h2, if_pos ⟨by omega, h2.2⟩]
        · rw [if_neg h2, if_neg (fun g => h2 ⟨by omega, g.2⟩)]
    · rw [if_neg hj]
      have := h.nx lv hlv j
      unfold nx at this
      rw [this]
      by_cases h2 : lv < i ∧ j = la L.nodes A lv
      · rw [if_pos h2, if_pos ⟨by omega, h2.2⟩]
      · rw [if_neg h2, if_neg (fun g => h2 ⟨?_, g.2⟩)]
        rcases Nat.lt_or_ge lv i with q | q
        · exact q
        · obtain rfl : lv = i := by omega
          exact absurd g.2 hj
  · rw [get_put4 _ i hi]
    by_cases h1 : lv = i
    · subst h1
      rw [if_pos rfl, if_pos (by omega)]
      have := h.nx lv hlv (la L.nodes A lv)
      unfold nx at this
      rw [this, if_neg (by omega)]
      rfl
    · rw [if_neg h1, h.new lv hlv]
      by_cases h2 : lv < i
      · rw [if_pos h2, if_pos (by omega)]
      · rw [if_neg h2, if_neg (by omega)]
/-- What an insertion leaves. -/
structure Made (L L' : skip_List_string) (ord : List Nat) (key : IKey) (v : ByteArray) : Prop where
  inv : Inv L' ord
  len : L'.nodes.length = L.nodes.length + 1
  old : ∀ j, j < L.nodes.length → (nd L'.nodes j).key = (nd L.nodes j).key ∧ (nd L'.nodes j).value = (nd L.nodes j).value
  new : (nd L'.nodes L.nodes.length).key = key ∧ (nd L'.nodes L.nodes.length).value = v
theorem made_of (hI : Inv L ord) (e : ord = A ++ B) (hA : ∀ i ∈ A, kl (ky L.nodes i) key) (hB : ∀ i ∈ B, ¬ kl (ky L.nodes i) key) (hne : ∀ i ∈ ord, ky L.nodes i ≠ key) (hfull : ord.length < 1048576) {v : ByteArray} {h : Nat} (h1 : 1 ≤ h) (h2 : h ≤ 12)
    {N' : List Nd} {last : Int} {H : Int} (hH : H = maxI L.height (h : Int)) (hlen : N'.length = L.nodes.length + 1)
    (hold : ∀ j, j < L.nodes.length → (nd N' j).key = (nd L.nodes j).key ∧ (nd N' j).value = (nd L.nodes j).value ∧ (nd N' j).height = (nd L.nodes j).height ∧ (nd N' j).prev = if (0 < hd B ∧ (j : Int) = hd B) then (L.nodes.length : Int) else (nd L.nodes j).prev)
    (hnew : (nd N' L.nodes.length).key = key ∧ (nd N' L.nodes.length).value = v ∧ (nd N' L.nodes.length).height = (h : Int) ∧ (nd N' L.nodes.length).prev = (la L.nodes A 0 : Int))
    (hnx : ∀ lv, lv < 12 → (∀ j, j < L.nodes.length → nx N' lv j = if lv < h ∧ j = la L.nodes A lv then (L.nodes.length : Int) else nx L.nodes lv j) ∧ nx N' lv L.nodes.length = if lv < h then nx L.nodes lv (la L.nodes A lv) else 0)
    (hlast : last = if 0 < hd B then L.last else (L.nodes.length : Int)) : Made L ⟨N', L.most, H, last⟩ (A ++ L.nodes.length :: B) key v := by
  have hlt : ∀ i ∈ A ++ B, 1 ≤ i ∧ i < L.nodes.length := fun i hi => hI.rng i (by rw [e]; exact hi)
  have hnA : L.nodes.length ∉ A ++ B := fun h => by have := hlt _ h; omega
  have hkyo : ∀ i, i < L.nodes.length → ky N' i = ky L.nodes i := fun i hi => (hold i hi).1
  have hhto : ∀ i, i < L.nodes.length → ht N' i = ht L.nodes i := fun i hi => (hold i hi).2.2.1
  have hAm : ∀ i ∈ A, 1 ≤ i ∧ i < L.nodes.length := fun i hi => hlt i (by simp [hi])
  have hBm : ∀ i ∈ B, 1 ≤ i ∧ i < L.nodes.length := fun i hi => hlt i (by simp [hi])
  have hkn : ky N' L.nodes.length = key := hnew.1
  have hHge : L.height ≤ H ∧ (h : Int) ≤ H ∧ H ≤ 12 := by
    have := hI.hgt
    rw [hH]; unfold maxI; split <;> omega
  have hhd : 0 < hd B ∨ B = [] := by
    cases B with
    | nil => exact .inr rfl
    | cons b r => left; have := hBm b (by simp); simp [hd]; omega
  refine ⟨⟨hI.most, ?_, ?_, ?_, ?_, ?_, ?_, ⟨(by have := hI.hgt; have := hHge.1; show 0 ≤ H; omega), hHge.2.2⟩, ?_, ?_, ?_⟩, hlen, fun j hj => ⟨(hold j hj).1, (hold j hj).2.1⟩, ⟨hnew.1, hnew.2.1⟩⟩
  · show N'.length = _
    rw [hlen, hI.len, e]; simp; omega
  · rw [e] at hfull; simp at hfull ⊢; omega
  · intro i hi
    show 1 ≤ i ∧ i < N'.length
    rw [hlen]
    simp only [List.mem_append, List.mem_cons] at hi
    rcases hi with hi | rfl | hi
    · have := hAm i hi; omega
    · have := hI.len; omega
    · have := hBm i hi; omega
  · have hn := hI.nd
    rw [e] at hn
    rw [List.nodup_append] at hn ⊢
    obtain ⟨n1, n2, n3⟩ := hn
    refine ⟨n1, List.nodup_cons.2 ⟨fun g => hnA (by simp [g]), n2⟩, fun a ha b hb => ?_⟩
    rcases List.mem_cons.1 hb with rfl | hb
    · rintro rfl; exact hnA (by simp [ha])
    · exact n3 a ha b hb
  · have hs := hI.srt
    rw [e] at hs
    show List.Pairwise (fun i j => kl (ky N' i) (ky N' j)) (A ++ L.nodes.length :: B)
    rw [List.pairwise_append] at hs ⊢
    obtain ⟨s1, s2, s3⟩ := hs
    refine ⟨s1.imp_of_mem fun ha hb g => ?_, List.pairwise_cons.2 ⟨fun j hj => ?_, s2.imp_of_mem fun ha hb g => ?_⟩, fun a ha b hb => ?_⟩
    · rw [hkyo _ (hAm _ ha).2, hkyo _ (hAm _ hb).2]; exact g
    · rw [hkn, hkyo _ (hBm _ hj).2]
      refine Decidable.byContradiction fun g => hne j (by rw [e]; simp [hj]) (kl_tri (hB j hj) g)
    · rw [hkyo _ (hBm _ ha).2, hkyo _ (hBm _ hb).2]; exact g
    · rcases List.mem_cons.1 hb with rfl | hb
      · rw [hkyo _ (hAm _ ha).2, hkn]; exact hA a ha
      · rw [hkyo _ (hAm _ ha).2, hkyo _ (hBm _ hb).2]; exact s3 a ha b hb
  · intro i hi
    show 1 ≤ ht N' i ∧ ht N' i ≤ H
    simp only [List.mem_append, List.mem_cons] at hi
    rcases hi with hi | rfl | hi
    · rw [hhto i (hAm i hi).2]; have := hI.hts i (by rw [e]; simp [hi]); omega
    · have : ht N' L.nodes.length = (h : Int) := hnew.2.2.1
      rw [this]; omega
    · rw [hhto i (hBm i hi).2]; have := hI.hts i (by rw [e]; simp [hi]); omega
  · intro lv hlv
    show Ch (nx N' lv) 0 (onL N' (A ++ L.nodes.length :: B) lv)
    obtain ⟨x1, x2⟩ := hnx lv hlv
    have oA : onL N' A lv = onL L.nodes A lv := List.filter_congr fun i hi => by rw [hhto i (hAm i hi).2]
    have oB : onL N' B lv = onL L.nodes B lv := List.filter_congr fun i hi => by rw [hhto i (hBm i hi).2]
    have hch := hI.chn lv hlv
    rw [e, onL_app] at hch
    have hht : ht N' L.nodes.length = (h : Int) := hnew.2.2.1
    have hmem : ∀ j ∈ 0 :: (onL L.nodes A lv ++ onL L.nodes B lv), j < L.nodes.length := fun j hj => by
      simp only [List.mem_cons, List.mem_append, mem_onL] at hj
      rcases hj with rfl | hj | hj
      · have := hI.len; omega
      · exact (hAm j hj.1).2
      · exact (hBm j hj.1).2
    rw [onL_app, oA]
    by_cases hh : lv < h
    · have : onL N' (L.nodes.length :: B) lv = L.nodes.length :: onL L.nodes B lv := by
        rw [← oB]; unfold onL; rw [List.filter_cons_of_pos (by rw [hht]; simp; omega)]
      rw [this]
      have hla := lastD_in hI e lv
      refine ch_insert hch ?_ (fun g => by have := hmem _ g; omega) ?_ ?_ fun j hj hne => ?_
      · refine List.nodup_cons.2 ⟨fun g => ?_, ?_⟩
        · simp only [List.mem_append, mem_onL] at g
          rcases g with g | g
          · have := hAm 0 g.1; omega
          · have := hBm 0 g.1; omega
        · rw [← onL_app, ← e]
          exact hI.nd.sublist List.filter_sublist
      · show nx N' lv (la L.nodes A lv) = _
        rw [x1 _ hla, if_pos ⟨hh, rfl⟩]
      · rw [x2, if_pos hh]; rfl
      · rw [x1 j (hmem j hj), if_neg (fun g => hne g.2)]
    · have : onL N' (L.nodes.length :: B) lv = onL L.nodes B lv := by
        rw [← oB]; unfold onL; rw [List.filter_cons_of_neg (by rw [hht]; simp; omega)]
      rw [this]
      exact ch_congr (fun j hj => by rw [x1 j (hmem j hj), if_neg (fun g => hh g.1)]) hch
  · show Pc (pv N') 0 (A ++ L.nodes.length :: B)
    have hp := hI.prv
    rw [e] at hp
    have hn := hI.nd
    rw [e] at hn
    refine pc_insert hp hn hnA ?_ (fun b hb => ?_) fun j hj hne => ?_
    · have : pv N' L.nodes.length = (la L.nodes A 0 : Int) := hnew.2.2.2
      rw [this, la0 hI e]
    · cases B with
      | nil => cases hb
      | cons c r =>
        simp only [List.head?_cons, Option.some.injEq] at hb
        subst hb
        have hc := hBm c (by simp)
        show (nd N' c).prev = _
        rw [(hold c hc.2).2.2.2, if_pos ⟨by simp [hd]; omega, rfl⟩]
    · show (nd N' j).prev = (nd L.nodes j).prev
      rw [(hold j (hlt j hj).2).2.2.2, if_neg ?_]
      rintro ⟨g1, g2⟩
      cases B with
      | nil => simp [hd] at g1
      | cons c r =>
        apply hne
        simp only [hd] at g2
        simp only [List.head?_cons, Option.some.injEq]
        omega
  · show last = _
    rw [hlast, lastD_app]
    rcases hhd with g | g
    · rw [if_pos g, hI.lst, e]
      cases B with
      | nil => simp [hd] at g
      | cons b r => rw [lastD_app, lastD_cons]
    · subst g
      rw [if_neg (by simp [hd])]; rfl
theorem insert_l0 (hI : Inv L ord) (e : ord = A ++ B) (hA : ∀ i ∈ A, kl (ky L.nodes i) key) (hB : ∀ i ∈ B, ¬ kl (ky L.nodes i) key) (hne : ∀ i ∈ ord, ky L.nodes i ≠ key) (hfull : ord.length < 1048576) (v : ByteArray) {h : Nat} (h1 : 1 ≤ h) (h2 : h ≤ 12)
    {T : St135} (hT : ∀ lv : Nat, lv < 12 → St135.get T (lv : Int) = (la L.nodes A lv : Int)) :
    ∀ (d i : Nat) (l : List Nd) (x : St132), i + d = h → LI L.nodes A l x i →
    ∃ L', Ev (fun k => skip_List_string_Insert.l0 L key v (h : Int) T k l x.e0 x.e1 x.e2 x.e3 x.e4 x.e5 x.e6 x.e7 x.e8 x.e9 x.e10 x.e11 (i : Int)) (0, L') ∧ Made L L' (A ++ L.nodes.length :: B) key v
  | 0, i, l, x, hd0, hli => by
    have hih : i = h := by omega
    subst hih
    have hlen := hI.len
    have hsm := hI.small
    have e0 : decide (((i : Nat) : Int) < (i : Int)) = false := decide_eq_false (by omega)
    have hwn : w32 (L.nodes.length : Int) = (L.nodes.length : Int) := w32_of (by omega) (by omega)
    have ht0 : St135.get T 0 = (la L.nodes A 0 : Int) := hT 0 (by omega)
    have hla := lastD_in hI e 0
    have hw0 : w32 (St135.get T 0) = (la L.nodes A 0 : Int) := by rw [ht0]; exact w32_of (by omega) (by omega)
    have hx0 : St132.get x 0 = hd B := by
      have := hli.new 0 (by omega)
      rw [if_pos (by omega), nx_la hI e (by omega), (hts1 hI e).2] at this
      exact this
    have hhr := hd_in hI e 0
    rw [(hts1 hI e).2] at hhr
    have hwx : w64 (St132.get x 0) = hd B := by rw [hx0]; exact w64_of (by omega) (by omega)
    have hlast0 : hd B = 0 ∨ 0 < hd B := by omega
    have hll := hli.len
    have hpush : push 2010535547779 l (⟨key, v, (i : Int), x, (la L.nodes A 0 : Int)⟩ : Nd) = some (l ++ [⟨key, v, (i : Int), x, (la L.nodes A 0 : Int)⟩]) := push_ok (by omega)
    have key0 : ∀ j, j < L.nodes.length → nd (l ++ [(⟨key, v, (i : Int), x, (la L.nodes A 0 : Int)⟩ : Nd)]) j = nd l j := fun j hj => by rw [nd_snoc, if_neg (by omega)]
    have key1 : nd (l ++ [(⟨key, v, (i : Int), x, (la L.nodes A 0 : Int)⟩ : Nd)]) L.nodes.length = ⟨key, v, (i : Int), x, (la L.nodes A 0 : Int)⟩ := by rw [nd_snoc, if_pos (by omega)]
    rcases hlast0 with hz | hz
    · refine ⟨⟨l ++ [⟨key, v, (i : Int), x, (la L.nodes A 0 : Int)⟩], L.most, maxI L.height (i : Int), (L.nodes.length : Int)⟩, Ev.succ ?_, ?_⟩
      · have e1 : (hd B != 0) = false := by rw [hz]; rfl
        simp only [skip_List_string_Insert.l0, e0, Bool.false_eq_true, if_false, hw0, hpush, Option.bind_some, Jn]
        simp only [show (⟨x.e0, x.e1, x.e2, x.e3, x.e4, x.e5, x.e6, x.e7, x.e8, x.e9, x.e10, x.e11⟩ : St132) = x from rfl, hwx, e1, Bool.false_eq_true, if_false, hpush, Option.bind_some]
        exact Ev.ret
      · refine made_of hI e hA hB hne hfull h1 h2 rfl (by simp [hll]) (fun j hj => ?_) ?_ (fun lv hlv => ⟨fun j hj => ?_, ?_⟩) (by rw [if_neg (by omega)])
        · rw [key0 j hj, if_neg (by omega)]
          exact hli.same j
        · rw [key1]; exact ⟨rfl, rfl, rfl, rfl⟩
        · unfold nx; rw [key0 j hj]
          exact hli.nx lv hlv j
        · unfold nx; rw [key1]
          exact hli.new lv hlv
    · obtain ⟨b, hb⟩ : ∃ b : Nat, hd B = (b : Int) := ⟨(hd B).toNat, by omega⟩
      have hbl : b < L.nodes.length := by omega
      have hbl' : b < (l ++ [(⟨key, v, (i : Int), x, (la L.nodes A 0 : Int)⟩ : Nd)]).length := by simp; omega
      have hidx := nd_idx hbl'
      have hupd : ∀ y : Nd, upd (l ++ [(⟨key, v, (i : Int), x, (la L.nodes A 0 : Int)⟩ : Nd)]) (b : Int) y = some ((l ++ [(⟨key, v, (i : Int), x, (la L.nodes A 0 : Int)⟩ : Nd)]).set b y) := fun y => by
        unfold upd
        rw [if_pos ⟨by omega, by omega⟩, Int.toNat_natCast]
      refine ⟨⟨(l ++ [(⟨key, v, (i : Int), x, (la L.nodes A 0 : Int)⟩ : Nd)]).set b ⟨(nd l b).key, (nd l b).value, (nd l b).height, (nd l b).next_, (L.nodes.length : Int)⟩, L.most, maxI L.height (i : Int), L.last⟩, Ev.succ ?_, ?_⟩
      · have e1 : (((b : Nat) : Int) != 0) = true := by rw [bne_iff_ne]; omega
        simp only [skip_List_string_Insert.l0, e0, Bool.false_eq_true, if_false, hw0, hpush, Option.bind_some, Jn]
        simp only [show (⟨x.e0, x.e1, x.e2, x.e3, x.e4, x.e5, x.e6, x.e7, x.e8, x.e9, x.e10, x.e11⟩ : St132) = x from rfl, hwx, hb, e1, if_true, hpush, Option.bind_some, hidx, hupd, hwn, key0 b hbl]
        exact Ev.ret
      · have nset : ∀ j, nd ((l ++ [(⟨key, v, (i : Int), x, (la L.nodes A 0 : Int)⟩ : Nd)]).set b ⟨(nd l b).key, (nd l b).value, (nd l b).height, (nd l b).next_, (L.nodes.length : Int)⟩) j = if j = b then ⟨(nd l b).key, (nd l b).value, (nd l b).height, (nd l b).next_, (L.nodes.length : Int)⟩ else nd (l ++ [(⟨key, v, (i : Int), x, (la L.nodes A 0 : Int)⟩ : Nd)]) j := fun j => nd_set hbl' _ j
        refine made_of hI e hA hB hne hfull h1 h2 rfl (by simp [hll]) (fun j hj => ?_) ?_ (fun lv hlv => ⟨fun j hj => ?_, ?_⟩) (by rw [if_pos hz])
        · rw [nset]
          have hs := hli.same j
          by_cases g : j = b
          · subst g
            rw [if_pos rfl, if_pos ⟨hz, hb.symm⟩]
            exact ⟨hs.1, hs.2.1, hs.2.2.1, rfl⟩
          · rw [if_neg g, key0 j hj, if_neg (fun q => g (by omega))]
            exact hs
        · rw [nset, if_neg (by omega), key1]; exact ⟨rfl, rfl, rfl, rfl⟩
        · have q := hli.nx lv hlv j
          unfold nx at q ⊢
          rw [nset]
          by_cases g : j = b
          · subst g; rw [if_pos rfl]; exact q
          · rw [if_neg g, key0 j hj]; exact q
        · unfold nx
          rw [nset, if_neg (by omega), key1]
          exact hli.new lv hlv
  | d + 1, i, l, x, hd0, hli => by
    have hlen := hI.len
    have hsm := hI.small
    have e0 : decide ((i : Int) < (h : Int)) = true := decide_eq_true (by omega)
    have e2 : (0 : Int) ≤ (i : Int) ∧ (i : Int) < 12 := ⟨by omega, by omega⟩
    have hla := lastD_in hI e i
    have hll := hli.len
    have hti := hT i (by omega)
    have hidx := nd_idx (N := l) (i := la L.nodes A i) (by omega)
    have hwn : w32 (L.nodes.length : Int) = (L.nodes.length : Int) := w32_of (by omega) (by omega)
    have hw1 : w64 ((i : Int) + 1) = ((i + 1 : Nat) : Int) := w64_succ (by omega)
    have hupd : ∀ y : Nd, upd l (la L.nodes A i : Int) y = some (l.set (la L.nodes A i) y) := fun y => by
      unfold upd
      rw [if_pos ⟨by omega, by omega⟩, Int.toNat_natCast]
    obtain ⟨L', hL', hM⟩ := insert_l0 hI e hA hB hne hfull v h1 h2 hT d (i + 1) _ _ (by omega) (li_step hI e (by omega) hli)
    refine ⟨L', Ev.succ ?_, hM⟩
    simp only [skip_List_string_Insert.l0, e0, if_true, if_pos e2, hti, hidx, Option.bind_some, hwn, hupd, hw1]
    simp only [show (⟨x.e0, x.e1, x.e2, x.e3, x.e4, x.e5, x.e6, x.e7, x.e8, x.e9, x.e10, x.e11⟩ : St132) = x from rfl]
    exact hL'
end
end Go.Proofs.YtbaemhkfmddakaaGreat.Mo

set_option maxRecDepth 100000
namespace Go.Proofs.YtbaemhkfmddakaaGreat.Mo
open Go Go.Proofs.YtbaemhkfmddakaaGreat.Sy
section
variable {L : skip_List_string} {ord A B P S : List Nat} {key : IKey}
theorem hd_rng (hI : Inv L ord) (e : ord = P ++ S) : 0 ≤ hd S ∧ hd S ≤ 1048577 := by
  have hs := hI.small
  have hl := hI.len
  cases S with
  | nil => simp [hd]
  | cons b r =>
    have := hI.rng b (by rw [e]; simp)
    simp [hd]; omega
theorem has_ev (hI : Inv L ord) {i : Nat} (hi : i ∈ ord) : skip_List_string_has L (i : Int) = some true := by
  unfold skip_List_string_has
  have := hI.rng i hi
  rw [none_ev hI, Option.bind_some, decide_eq_true (by omega : (1 : Int) ≤ (i : Int)), decide_eq_true (by omega : (i : Int) < (L.nodes.length : Int))]
  rfl
def eN (N : List Nd) (i : Nat) : Entry := ⟨(ky N i).Key, (ky N i).Seq, (ky N i).Kind, (nd N i).value⟩
theorem node_ev (hI : Inv L ord) {i : Nat} (hi : i ∈ ord) : skip_List_string_Node L (i : Int) = some (ky L.nodes i, (nd L.nodes i).value, true) := by
  unfold skip_List_string_Node
  have hr := hI.rng i hi
  rw [has_ev hI hi, Option.bind_some]
  simp only [Bool.not_true, Bool.false_eq_true, if_false, nd_idx hr.2, Option.bind_some]
  rfl
theorem ieqb {x y : IKey} : IKey.eqb x y = true ↔ x = y := by
  obtain ⟨a, b, c⟩ := x
  obtain ⟨a', b', c'⟩ := y
  simp only [IKey.eqb, Bool.and_eq_true, sEq_iff, beq_iff_eq, Bool.and_true, IKey.mk.injEq, and_assoc, and_true]
/-- An insertion, whole. -/
theorem insert_ev (hI : Inv L ord) (e : ord = A ++ B) (hA : ∀ i ∈ A, kl (ky L.nodes i) key) (hB : ∀ i ∈ B, ¬ kl (ky L.nodes i) key) (v : ByteArray) {h : Nat} (h1 : 1 ≤ h) (h2 : h ≤ 12) (hv : ikey_Valid key = some true) :
    ((∃ b r, B = b :: r ∧ ky L.nodes b = key) ∧ Ev (fun k => skip_List_string_Insert k L key v (h : Int)) (81, L)) ∨
    ((∀ b r, B = b :: r → ky L.nodes b ≠ key) ∧ ((1048576 ≤ ord.length ∧ Ev (fun k => skip_List_string_Insert k L key v (h : Int)) (82, L)) ∨
      (ord.length < 1048576 ∧ ∃ L', Ev (fun k => skip_List_string_Insert k L key v (h : Int)) (0, L') ∧ Made L L' (A ++ L.nodes.length :: B) key v))) := by
  have hs := seek_ev hI e hA hB
  have hr := hd_rng hI (P := A) (S := B) e
  have hlen := hI.len
  have hmost := hI.most
  have eh : (decide ((h : Int) < 1) || decide (12 < (h : Int))) = false := by
    rw [decide_eq_false (by omega), decide_eq_false (by omega)]; rfl
  obtain ⟨T, hT, hT2⟩ := trail_ev hI e hA hB
  have rest : (∀ b r, B = b :: r → ky L.nodes b ≠ key) →
      ∀ (Q : Int × skip_List_string), Ev (fun k => if decide (L.most < (L.nodes.length : Int)) = true then some (82, L) else (skip_List_string_trail k L key).bind fun r40 => skip_List_string_Insert.l0 L key v (h : Int) r40 k L.nodes 0 0 0 0 0 0 0 0 0 0 0 0 0) Q →
      Ev (fun k => skip_List_string_Insert k L key v (h : Int)) Q := fun hne Q hQ => by
    unfold skip_List_string_Insert
    simp only [none_ev hI, Option.bind_some, Bool.false_eq_true, if_false, hv, Bool.not_true, eh]
    refine Ev.bind hs ?_
    cases B with
    | nil =>
      have : (hd ([] : List Nat) != 0) = false := rfl
      simp only [this, Bool.false_eq_true, if_false, Jn]
      exact hQ
    | cons b r =>
      have hb := hI.rng b (by rw [e]; simp)
      have e1 : (hd (b :: r) != 0) = true := by rw [bne_iff_ne]; simp [hd]; omega
      have e2 : idx L.nodes (hd (b :: r)) = some (nd L.nodes b) := nd_idx hb.2
      have e3 : IKey.eqb (nd L.nodes b).key key = false := by
        rw [Bool.eq_false_iff, ne_eq, ieqb]; exact hne b r rfl
      simp only [e1, if_true, e2, Option.bind_some, e3, Bool.false_eq_true, if_false, Jn]
      exact hQ
  by_cases hthere : ∃ b r, B = b :: r ∧ ky L.nodes b = key
  · left
    refine ⟨hthere, ?_⟩
    obtain ⟨b, r, rfl, hk⟩ := hthere
    unfold skip_List_string_Insert
    simp only [none_ev hI, Option.bind_some, Bool.false_eq_true, if_false, hv, Bool.not_true, eh]
    refine Ev.bind hs ?_
    have hb := hI.rng b (by rw [e]; simp)
    have e1 : (hd (b :: r) != 0) = true := by rw [bne_iff_ne]; simp [hd]; omega
    have e2 : idx L.nodes (hd (b :: r)) = some (nd L.nodes b) := nd_idx hb.2
    have e3 : IKey.eqb (nd L.nodes b).key key = true := ieqb.2 hk
    simp only [e1, if_true, e2, Option.bind_some, e3, Jn]
    exact Ev.ret
  · right
    have hne : ∀ b r, B = b :: r → ky L.nodes b ≠ key := fun b r e' hk => hthere ⟨b, r, e', hk⟩
    refine ⟨hne, ?_⟩
    rcases Nat.lt_or_ge ord.length 1048576 with hf | hf
    · right
      refine ⟨hf, ?_⟩
      have hne2 : ∀ i ∈ ord, ky L.nodes i ≠ key := fun i hi hk => by
        rw [e] at hi
        rcases List.mem_append.1 hi with hi | hi
        · exact kl_irrefl key (by have := hA i hi; rwa [hk] at this)
        · cases hBe : B with
          | nil => rw [hBe] at hi; cases hi
          | cons b r =>
            rw [hBe] at hi
            rcases List.mem_cons.1 hi with rfl | hi
            · exact hne _ r hBe hk
            · have hs := hI.srt
              rw [e, hBe] at hs
              have := (List.pairwise_cons.1 (List.pairwise_append.1 hs).2.1).1 i hi
              rw [hk] at this
              exact hB b (by rw [hBe]; simp) this
      obtain ⟨L', hL', hM⟩ := insert_l0 hI e hA hB hne2 hf v h1 h2 hT2 h 0 L.nodes ⟨0, 0, 0, 0, 0, 0, 0, 0, 0, 0, 0, 0⟩ (by omega)
        ⟨rfl, fun j => ⟨rfl, rfl, rfl, rfl⟩, fun lv hlv j => by rw [if_neg (by omega)], fun lv hlv => by
          rw [if_neg (by omega)]
          have : ∀ lv : Nat, lv < 12 → St132.get (⟨0, 0, 0, 0, 0, 0, 0, 0, 0, 0, 0, 0⟩ : St132) ((lv : Nat) : Int) = 0 := by decide
          exact this lv hlv⟩
      refine ⟨L', rest hne _ ?_, hM⟩
      have ef : decide (L.most < (L.nodes.length : Int)) = false := decide_eq_false (by rw [hmost]; omega)
      simp only [ef, Bool.false_eq_true, if_false]
      exact Ev.bind hT hL'
    · left
      refine ⟨hf, rest hne _ ?_⟩
      have ef : decide (L.most < (L.nodes.length : Int)) = true := decide_eq_true (by rw [hmost]; omega)
      simp only [ef, if_true]
      exact Ev.ret
end
section
variable {L : skip_List_string} {ord A B P S : List Nat} {key : IKey} {E : List Entry}
end
end Go.Proofs.YtbaemhkfmddakaaGreat.Mo

set_option maxRecDepth 100000
namespace Go.Proofs.YtbaemhkfmddakaaGreat.Mo
open Go Go.Proofs.YtbaemhkfmddakaaGreat.Sy
/-- What the document makes of an operation; then J. -/
def mayB (x : Op) : Bool := (mem_may x).getD false
theorem may_eq (x : Op) : mem_may x = some (mayB x) := by
  unfold mayB mem_may
  (repeat' split) <;> rfl
theorem emp_iff {b : ByteArray} : b = ByteArray.mk #[] ↔ b.size = 0 := by
  obtain ⟨d⟩ := b
  simp [ByteArray.size]
theorem may_sizes {x : Op} (h : mayB x = true) : 1 ≤ x.Key.size ∧ x.Key.size ≤ 1024 ∧ x.Value.size ≤ 65536 := by
  unfold mayB mem_may at h
  split at h
  · simp at h
  · rename_i h0
    simp only [Bool.or_eq_true, decide_eq_true_eq, not_or] at h0
    refine ⟨by omega, by omega, ?_⟩
    split at h
    · simp only [Option.getD_some, sEq_iff] at h
      rw [emp_iff.1 h]; omega
    · split at h
      · simp only [Option.getD_some, decide_eq_true_eq] at h; omega
      · split at h
        · simp only [Option.getD_some, Bool.and_eq_true, decide_eq_true_eq] at h; omega
        · simp at h
theorem may_kind {x : Op} (h : mayB x = true) : x.Kind = 0 ∨ x.Kind = 1 ∨ (x.Kind = 2 ∧ x.Value.size ≤ 1024 ∧ slt x.Key x.Value) := by
  unfold mayB mem_may at h
  split at h
  · simp at h
  · split at h
    · rename_i h1; rw [beq_iff_eq] at h1; exact .inl h1
    · split at h
      · rename_i h1; rw [beq_iff_eq] at h1; exact .inr (.inl h1)
      · split at h
        · rename_i h1
          rw [beq_iff_eq] at h1
          simp only [Option.getD_some, Bool.and_eq_true, decide_eq_true_eq, sLt_iff] at h
          exact .inr (.inr ⟨h1, by omega, h.2⟩)
        · simp at h
theorem valid_key {x : Op} {seq : Int} (h : mayB x = true) (hk : x.Kind ≠ 2) (hs : seq ≤ 72057594037927935) : ikey_Valid (⟨x.Key, seq, x.Kind⟩ : IKey) = some true := by
  have h1 := may_sizes h
  have h0 : sEq x.Key (ByteArray.mk #[]) = false := by
    rw [sEq_false]
    intro e
    rw [emp_iff] at e
    omega
  have hk2 : ikey_isKind x.Kind = some true := by
    rcases may_kind h with e | e | e
    · rw [e]; rfl
    · rw [e]; rfl
    · exact absurd e.1 hk
  unfold ikey_Valid
  simp only [h0, Bool.not_false, decide_eq_true (by omega : (x.Key.size : Int) ≤ 1024), decide_eq_true hs, Bool.and_self, if_true, hk2, Option.bind_some, Jn]
theorem valid_tomb {x : Op} {seq : Int} (h : mayB x = true) (hk : x.Kind = 2) (hs : seq ≤ 72057594037927935) : tomb_Valid (⟨x.Key, x.Value, seq⟩ : Tomb) = some true := by
  have h1 := may_sizes h
  have h0 : sEq x.Key (ByteArray.mk #[]) = false := by
    rw [sEq_false]
    intro e
    rw [emp_iff] at e
    omega
  obtain ⟨h2, h3⟩ : x.Value.size ≤ 1024 ∧ slt x.Key x.Value := by
    rcases may_kind h with e | e | e
    · omega
    · omega
    · exact e.2
  unfold tomb_Valid
  simp only [h0, Bool.not_false, decide_eq_true (by omega : (x.Key.size : Int) ≤ 1024), decide_eq_true (by omega : (x.Value.size : Int) ≤ 1025), sLt_iff.2 h3, decide_eq_true hs, Bool.and_self]
/-- A memtable that says entries and tombs. -/
structure TR (t : mem_Table) (ord : List Nat) (E : List Entry) (TT : List Tomb) : Prop where
  made : t.made = true
  fro : t.frozen = false
  inv : Inv t.list ord
  ent : E = ord.map (eN t.list.nodes)
  tmb : t.tombs = ⟨TT, true⟩
  eok : ∀ x ∈ E, x.Seq ≤ 72057594037927935 ∧ x.Kind ≤ 255
  tok : ∀ x ∈ TT, okT x = true ∧ 1 ≤ x.Seq
def tq (x : Tomb) (y : Tomb) : Bool := (sEq y.Begin x.Begin) && (y.Seq == x.Seq)
theorem cont_l0 (TT : List Tomb) (x : Tomb) (hl : TT.length ≤ 5629499534050) : ∀ (s p : List Tomb), TT = p ++ s → ∃ r : Int, (0 ≤ r ↔ s.any (tq x) = true) ∧ Ev (fun k => slices_IndexFunc_Tomb.l0 TT (fun x0 => mem_Table_addTomb_1 x0 x) k (p.length : Int)) r
  | [], p, hp => by
    have e1 : decide ((p.length : Int) < (TT.length : Int)) = false := by rw [hp]; exact lt_end p
    refine ⟨-1, by simp, Ev.succ ?_⟩
    simp only [slices_IndexFunc_Tomb.l0, e1, Bool.false_eq_true, if_false]
    exact Ev.ret
  | y :: s, p, hp => by
    have e1 : decide ((p.length : Int) < (TT.length : Int)) = true := by rw [hp]; exact lt_at p s y
    have e2 : idx TT (p.length : Int) = some y := by rw [hp]; exact idx_at p y s
    have hw := step_at p s y (by rw [← hp, maxLen_val]; omega)
    have e3 : mem_Table_addTomb_1 y x = some (tq x y) := rfl
    cases h : tq x y with
    | true =>
      refine ⟨(p.length : Int), by simp [h], Ev.succ ?_⟩
      simp only [slices_IndexFunc_Tomb.l0, e1, e2, e3, h, if_true, Option.bind_some]
      exact Ev.ret
    | false =>
      obtain ⟨r, h1, h2⟩ := cont_l0 TT x hl s (p ++ [y]) (by simp [hp])
      refine ⟨r, by rw [h1]; simp [h], Ev.succ ?_⟩
      simp only [slices_IndexFunc_Tomb.l0, e1, e2, e3, h, if_true, Option.bind_some, Bool.false_eq_true, if_false, hw]
      exact h2
/-- An operation, both ways. -/
theorem add_ev {t : mem_Table} {ord : List Nat} {E : List Entry} {TT : List Tomb} (h : TR t ord E TT) (hT : TT.length ≤ 5629499534000) (v : L10_Act) :
    ∃ (r : Int) (t' : mem_Table) (ord' : List Nat) (E' : List Entry) (TT' : List Tomb), Ev (fun k => mem_Table_Add k t v.Seq v.Op v.Height) (r, t') ∧ TR t' ord' E' TT' ∧ TT'.length ≤ TT.length + 1 ∧
      (∀ i ∈ ord, i ∈ ord' ∧ ky t'.list.nodes i = ky t.list.nodes i) ∧ t'.log = t.log ∧
      ((r ≠ 0 ∧ E' = E ∧ TT' = TT) ∨ (r = 0 ∧ v.Op.Kind = 2 ∧ E' = E ∧ TT' = TT ++ [⟨v.Op.Key, v.Op.Value, v.Seq⟩]) ∨ (r = 0 ∧ v.Op.Kind ≠ 2 ∧ TT' = TT ∧ ∃ A B, E = A ++ B ∧ E' = A ++ ⟨v.Op.Key, v.Seq, v.Op.Kind, v.Op.Value⟩ :: B)) := by
  have hm := h.made
  have hf := h.fro
  have hI := h.inv
  have fail : ∀ r : Int, Ev (fun k => mem_Table_Add k t v.Seq v.Op v.Height) (r, t) → r ≠ 0 →
      ∃ (r : Int) (t' : mem_Table) (ord' : List Nat) (E' : List Entry) (TT' : List Tomb), Ev (fun k => mem_Table_Add k t v.Seq v.Op v.Height) (r, t') ∧ TR t' ord' E' TT' ∧ TT'.length ≤ TT.length + 1 ∧
      (∀ i ∈ ord, i ∈ ord' ∧ ky t'.list.nodes i = ky t.list.nodes i) ∧ t'.log = t.log ∧
      ((r ≠ 0 ∧ E' = E ∧ TT' = TT) ∨ (r = 0 ∧ v.Op.Kind = 2 ∧ E' = E ∧ TT' = TT ++ [⟨v.Op.Key, v.Op.Value, v.Seq⟩]) ∨ (r = 0 ∧ v.Op.Kind ≠ 2 ∧ TT' = TT ∧ ∃ A B, E = A ++ B ∧ E' = A ++ ⟨v.Op.Key, v.Seq, v.Op.Kind, v.Op.Value⟩ :: B)) := fun r h1 h2 =>
    ⟨r, t, ord, E, TT, h1, h, by omega, fun i hi => ⟨hi, rfl⟩, rfl, .inl ⟨h2, rfl, rfl⟩⟩
  by_cases c1 : ((decide (v.Seq < 1)) || (decide (72057594037927935 < v.Seq))) = true
  · refine fail 2 (Ev.of fun k => ?_) (by decide)
    · unfold mem_Table_Add
      simp only [hm, hf, Bool.not_true, Bool.false_eq_true, if_false, c1, if_true]
  by_cases c2 : ¬ mayB v.Op = true
  · have c2' := Bool.eq_false_iff.2 c2
    have hmm : mem_may v.Op = some false := by rw [may_eq, c2']
    refine fail 40 (Ev.of fun k => ?_) (by decide)
    · unfold mem_Table_Add
      simp only [hm, hf, Bool.not_true, Bool.false_eq_true, if_false, c1, hmm, Option.bind_some, Bool.not_false, if_true]
  replace c2 := Decidable.not_not.1 c2
  have hmm : mem_may v.Op = some true := by rw [may_eq, c2]
  by_cases c3 : ((decide (v.Height < 1)) || (decide (12 < v.Height))) = true
  · refine fail 2 (Ev.of fun k => ?_) (by decide)
    · unfold mem_Table_Add
      simp only [hm, hf, Bool.not_true, Bool.false_eq_true, if_false, c1, hmm, Option.bind_some, c3, if_true]
  have s1 : 1 ≤ v.Seq ∧ v.Seq ≤ 72057594037927935 := by
    simp only [Bool.or_eq_true, decide_eq_true_eq, not_or] at c1; omega
  have s3 : 1 ≤ v.Height ∧ v.Height ≤ 12 := by
    simp only [Bool.or_eq_true, decide_eq_true_eq, not_or] at c3; omega
  have c1' := Bool.eq_false_iff.2 c1
  have c3' := Bool.eq_false_iff.2 c3
  by_cases c4 : v.Op.Kind = 2
  · have c4' : (v.Op.Kind == 2) = true := beq_iff_eq.2 c4
    have htl : t.tombs.tombs = TT := by rw [h.tmb]
    have htm : t.tombs.made = true := by rw [h.tmb]
    have hcl : tomb_Set_Tombs t.tombs = some TT := by
      unfold tomb_Set_Tombs slices_Clone_Tomb
      rw [htl, pushN_ok (by simp; omega)]; rfl
    obtain ⟨r, hr1, hr2⟩ := cont_l0 TT ⟨v.Op.Key, v.Op.Value, v.Seq⟩ (by omega) TT [] rfl
    have hadd : ∀ (b : Bool), TT.any (tq ⟨v.Op.Key, v.Op.Value, v.Seq⟩) = b → Ev (fun k => slices_ContainsFunc_Tomb k TT (fun x0 => mem_Table_addTomb_1 x0 ⟨v.Op.Key, v.Op.Value, v.Seq⟩)) b := fun b hb => by
      unfold slices_ContainsFunc_Tomb slices_IndexFunc_Tomb
      refine Ev.bind hr2 ?_
      have : decide (0 ≤ r) = b := by
        cases b with
        | true => exact decide_eq_true (hr1.2 hb)
        | false => exact decide_eq_false (fun g => by rw [hr1.1 g] at hb; cases hb)
      rw [this]
      exact Ev.ret
    cases hany : TT.any (tq ⟨v.Op.Key, v.Op.Value, v.Seq⟩) with
    | true =>
      refine fail 81 ?_ (by decide)
      · unfold mem_Table_Add
        simp only [hm, hf, Bool.not_true, Bool.false_eq_true, if_false, c1', hmm, Option.bind_some, c3', c4', if_true, Jn]
        refine Ev.bind (a := ((81 : Int), t)) ?_ Ev.ret
        unfold mem_Table_addTomb
        rw [hcl]
        simp only [Option.bind_some]
        refine Ev.bind (hadd true hany) ?_
        exact Ev.ret
    | false =>
      have hpush : push 5629499534059 TT (⟨v.Op.Key, v.Op.Value, v.Seq⟩ : Tomb) = some (TT ++ [⟨v.Op.Key, v.Op.Value, v.Seq⟩]) := push_ok (by omega)
      refine ⟨0, ⟨t.made, t.frozen, t.log, t.list, ⟨TT ++ [⟨v.Op.Key, v.Op.Value, v.Seq⟩], true⟩, w64 (t.size + (w64 ((w64 (16 + (v.Op.Key.size : Int))) + (v.Op.Value.size : Int)))), w64 (t.n + 1), if ((t.n == 0) || (decide (v.Seq < t.low))) = true then v.Seq else t.low, maxI t.high v.Seq⟩, ord, E, TT ++ [⟨v.Op.Key, v.Op.Value, v.Seq⟩], ?_, ⟨hm, hf, hI, h.ent, rfl, h.eok, fun x hx => ?_⟩, by simp, fun i hi => ⟨hi, rfl⟩, rfl, .inr (.inl ⟨rfl, c4, rfl, rfl⟩)⟩
      · unfold mem_Table_Add
        simp only [hm, hf, Bool.not_true, Bool.false_eq_true, if_false, c1', hmm, Option.bind_some, c3', c4', if_true, Jn]
        refine Ev.bind (a := ((0 : Int), (⟨true, false, t.log, t.list, ⟨TT ++ [⟨v.Op.Key, v.Op.Value, v.Seq⟩], true⟩, t.size, t.n, t.low, t.high⟩ : mem_Table))) ?_ ?_
        · unfold mem_Table_addTomb
          rw [hcl]
          simp only [Option.bind_some]
          refine Ev.bind (hadd false hany) ?_
          unfold tomb_Set_Add
          simp only [htm, htl, Bool.not_true, Bool.false_eq_true, if_false, valid_tomb c2 c4 s1.2, hpush, Option.bind_some, hm, hf]
          exact Ev.ret
        · refine Ev.of fun k => ?_
          simp only [bne_self_eq_false, Bool.false_eq_true, if_false]
          by_cases g : ((t.n == 0) || (decide (v.Seq < t.low))) = true
          · simp only [g, if_true]
          · simp only [g, Bool.false_eq_true, if_false]
      · rcases List.mem_append.1 hx with hx | hx
        · exact h.tok x hx
        · rw [List.mem_singleton] at hx
          subst hx
          refine ⟨?_, s1.1⟩
          have := valid_tomb c2 c4 s1.2
          rw [valid_eq] at this
          exact Option.some.inj this
  · have c4' : (v.Op.Kind == 2) = false := beq_eq_false_iff_ne.2 c4
    obtain ⟨A, B, e, hA, hB⟩ := hI.cut ⟨v.Op.Key, v.Seq, v.Op.Kind⟩
    obtain ⟨hh, hhe⟩ : ∃ hh : Nat, v.Height = (hh : Int) := ⟨v.Height.toNat, by omega⟩
    have hsm := hI.small
    have hAl : A.length ≤ ord.length := by rw [e]; simp
    have prog : ∀ (r : Int) (L' : skip_List_string), Ev (fun k => skip_List_string_Insert k t.list ⟨v.Op.Key, v.Seq, v.Op.Kind⟩ v.Op.Value (hh : Int)) (r, L') →
        Ev (fun k => mem_Table_Add k t v.Seq v.Op v.Height) (if (r != 0) = true then (r, (⟨t.made, t.frozen, t.log, L', t.tombs, t.size, t.n, t.low, t.high⟩ : mem_Table)) else (0, ⟨t.made, t.frozen, t.log, L', t.tombs, w64 (t.size + (w64 ((w64 (16 + (v.Op.Key.size : Int))) + (v.Op.Value.size : Int)))), w64 (t.n + 1), if ((t.n == 0) || (decide (v.Seq < t.low))) = true then v.Seq else t.low, maxI t.high v.Seq⟩)) := fun r L' hL => by
      unfold mem_Table_Add
      simp only [hm, hf, Bool.not_true, Bool.false_eq_true, if_false, c1', hmm, Option.bind_some, c3', c4', Jn]
      rw [hhe]
      refine Ev.bind hL (Ev.of fun k => ?_)
      by_cases g0 : (r != 0) = true
      · simp only [g0, if_true]
      · simp only [g0, Bool.false_eq_true, if_false]
        by_cases g : ((t.n == 0) || (decide (v.Seq < t.low))) = true
        · simp only [g, if_true]
        · simp only [g, Bool.false_eq_true, if_false]
    rcases insert_ev hI e hA hB v.Op.Value (h := hh) (by omega) (by omega) (valid_key c2 c4 s1.2) with ⟨⟨b, r, hb, hkb⟩, hev⟩ | ⟨hne, hor⟩
    · refine fail 81 ((prog 81 t.list hev).to ?_) (by decide)
      · rfl
    · rcases hor with ⟨hfull, hev⟩ | ⟨hfull, L', hev, hM⟩
      · refine fail 82 ((prog 82 t.list hev).to rfl) (by decide)
      · have hEl : E.length = ord.length := by rw [h.ent, List.length_map]
        have hold : ∀ i ∈ ord, eN L'.nodes i = eN t.list.nodes i := fun i hi => by
          have := hM.old i (hI.rng i hi).2
          unfold eN ky
          rw [this.1, this.2]
        refine ⟨0, ⟨t.made, t.frozen, t.log, L', t.tombs, w64 (t.size + (w64 ((w64 (16 + (v.Op.Key.size : Int))) + (v.Op.Value.size : Int)))), w64 (t.n + 1), if ((t.n == 0) || (decide (v.Seq < t.low))) = true then v.Seq else t.low, maxI t.high v.Seq⟩, A ++ t.list.nodes.length :: B, A.map (eN t.list.nodes) ++ ⟨v.Op.Key, v.Seq, v.Op.Kind, v.Op.Value⟩ :: B.map (eN t.list.nodes), TT, (prog 0 L' hev).to rfl, ⟨hm, hf, hM.inv, ?_, h.tmb, fun x hx => ?_, h.tok⟩, by omega, fun i hi => ?_, rfl, .inr (.inr ⟨rfl, c4, rfl, _, _, by rw [h.ent, e, List.map_append], rfl⟩)⟩
        · have e1 : A.map (eN L'.nodes) = A.map (eN t.list.nodes) := List.map_congr_left fun i hi => hold i (by rw [e]; simp [hi])
          have e2 : B.map (eN L'.nodes) = B.map (eN t.list.nodes) := List.map_congr_left fun i hi => hold i (by rw [e]; simp [hi])
          have e3 : eN L'.nodes t.list.nodes.length = ⟨v.Op.Key, v.Seq, v.Op.Kind, v.Op.Value⟩ := by
            unfold eN ky
            rw [hM.new.1, hM.new.2]
          rw [List.map_append, List.map_cons, e1, e2, e3]
        · simp only [List.mem_append, List.mem_cons] at hx
          have hmem : ∀ y, y ∈ A.map (eN t.list.nodes) ∨ y ∈ B.map (eN t.list.nodes) → y ∈ E := fun y hy => by rw [h.ent, e, List.map_append, List.mem_append]; exact hy
          rcases hx with hx | rfl | hx
          · exact h.eok x (hmem x (.inl hx))
          · refine ⟨s1.2, ?_⟩
            show v.Op.Kind ≤ 255
            rcases may_kind c2 with q | q | q <;> omega
          · exact h.eok x (hmem x (.inr hx))
        · refine ⟨?_, (hM.old i (hI.rng i hi).2).1⟩
          rw [e] at hi
          simp only [List.mem_append, List.mem_cons] at hi ⊢
          rcases hi with hi | hi
          · exact .inl hi
          · exact .inr (.inr hi)
end Go.Proofs.YtbaemhkfmddakaaGreat.Mo

set_option maxRecDepth 100000
namespace Go.Proofs.YtbaemhkfmddakaaGreat.Mo
open Go Go.Proofs.YtbaemhkfmddakaaGreat.Sy
theorem sc_l1 (n : Int) (J : Nat → Option (Int × Bool)) (f : Fragment) (hf : f.Seqs.length < 1099511627776) (R : Int × Bool) : ∀ (s p : List Int), f.Seqs = p ++ s →
    (Ev (fun k => match s.find? (fun x => decide (x ≤ n)) with | some v => some (v, true) | none => J k) R) → Ev (fun k => tomb_Set_Cover.l1 n f (J k) k (p.length : Int)) R
  | [], p, hp, h => by
    have e1 : decide ((p.length : Int) < (f.Seqs.length : Int)) = false := by rw [hp]; exact lt_end p
    refine Ev.succ ?_
    simp only [tomb_Set_Cover.l1, e1, Bool.false_eq_true, if_false]
    exact (show Ev J R from h).shift
  | x :: s, p, hp, h => by
    have e1 : decide ((p.length : Int) < (f.Seqs.length : Int)) = true := by rw [hp]; exact lt_at p s x
    have e2 : idx f.Seqs (p.length : Int) = some x := by rw [hp]; exact idx_at p x s
    have hw := step_at p s x (by rw [← hp, maxLen_val]; omega)
    refine Ev.succ ?_
    simp only [tomb_Set_Cover.l1, e1, e2, if_true, Option.bind_some, hw]
    rw [List.find?_cons] at h
    by_cases hx : x ≤ n
    · simp only [decide_eq_true hx, if_true] at h ⊢
      exact h.shift
    · simp only [decide_eq_false hx, Bool.false_eq_true, if_false] at h ⊢
      exact sc_l1 n (fun k => J (k + 1)) f hf R s (p ++ [x]) (by simp [hp]) h.shift
theorem sc_l0 (key : ByteArray) (n : Int) (F : List Fragment) (hF : F.length < 1099511627776) (hs : ∀ f ∈ F, f.Seqs.length < 1099511627776) : ∀ (s p : List Fragment), F = p ++ s →
    Ev (fun k => tomb_Set_Cover.l0 key n F k (p.length : Int)) (setC key n s)
  | [], p, hp => by
    have e1 : decide ((p.length : Int) < (F.length : Int)) = false := by rw [hp]; exact lt_end p
    refine Ev.succ ?_
    simp only [tomb_Set_Cover.l0, e1, Bool.false_eq_true, if_false]
    exact Ev.ret
  | f :: s, p, hp => by
    have e1 : decide ((p.length : Int) < (F.length : Int)) = true := by rw [hp]; exact lt_at p s f
    have e2 : idx F (p.length : Int) = some f := by rw [hp]; exact idx_at p f s
    have hw := step_at p s f (by rw [← hp, maxLen_val]; omega)
    have ih := sc_l0 key n F hF hs s (p ++ [f]) (by simp [hp])
    refine Ev.succ ?_
    simp only [tomb_Set_Cover.l0, e1, e2, if_true, Option.bind_some, hw, Jn]
    by_cases hc : onF key f = true
    · have hc' : (sLt key f.Begin || !sLt key f.End) = false := by simpa [onF] using hc
      simp only [hc', Bool.false_eq_true, if_false]
      refine sc_l1 n (fun k => tomb_Set_Cover.l0 key n F k ((p ++ [f]).length : Int)) f (hs f (by rw [hp]; simp)) _ f.Seqs [] rfl ?_
      cases hfd : f.Seqs.find? (fun x => decide (x ≤ n)) with
      | some v =>
        have he : setC key n (f :: s) = (v, true) := by unfold setC; rw [setF, if_pos hc, hfd]
        rw [he]
        exact Ev.ret
      | none =>
        have he : setC key n (f :: s) = setC key n s := by unfold setC; rw [setF, if_pos hc, hfd]
        rw [he]
        exact ih
    · have hc' : (sLt key f.Begin || !sLt key f.End) = true := by
        have := Bool.eq_false_iff.2 hc
        rw [onF, Bool.not_eq_false'] at this
        exact this
      have he : setC key n (f :: s) = setC key n s := by unfold setC; rw [setF, if_neg hc]
      simp only [hc', if_true, he]
      exact ih
theorem scover_ev (TT : List Tomb) (hl : TT.length ≤ 1048576) (ht : ∀ x ∈ TT, okT x = true ∧ 1 ≤ x.Seq) (key : ByteArray) (n : Int) : Ev (fun k => tomb_Set_Cover k ⟨TT, true⟩ key n) (covers key n TT (0, false)) := by
  unfold tomb_Set_Cover
  have hcl : tomb_Set_Tombs ⟨TT, true⟩ = some TT := by
    unfold tomb_Set_Tombs slices_Clone_Tomb
    rw [pushN_ok (by simp; omega)]; rfl
  refine Ev.bind0 hcl ?_
  have hok : TT.filter okT = TT := List.filter_eq_self.2 fun x hx => (ht x hx).1
  have hfl := frags_len (TT.filter okT)
  have hfs : ∀ f ∈ frags (TT.filter okT), f.Seqs.length < 1099511627776 := fun f hf => by
    have := frags_seqs hf
    rw [hok] at this; omega
  refine Ev.bind (frags_ev TT (by omega)) ?_
  have := sc_l0 key n (frags (TT.filter okT)) (by rw [hok] at hfl ⊢; omega) hfs (frags (TT.filter okT)) [] rfl
  refine this.to ?_
  exact setC_eq TT (fun t htm => by have := (ht t htm).2; omega) key n
def isN (key : ByteArray) (n : Int) (x : Entry) : Bool := sEq x.Key key && decide (x.Seq ≤ n)
def none_e : Entry := ⟨ByteArray.mk #[], 0, 0, ByteArray.mk #[]⟩
def newE (key : ByteArray) (n : Int) (E : List Entry) : Entry × Bool := match E.find? (isN key n) with | some x => (x, true) | none => (none_e, false)
section
variable {L : skip_List_string} {ord A B : List Nat} {E : List Entry}
theorem kl_at {x : IKey} (hs : x.Seq ≤ 72057594037927935) (hk : x.Kind ≤ 255) (key : ByteArray) (n : Int) : ¬ kl x ⟨key, minI n 72057594037927935, 255⟩ ↔ slt key x.Key ∨ (x.Key = key ∧ x.Seq ≤ n) := by
  have : kl x ⟨key, minI n 72057594037927935, 255⟩ ↔ _ := ltE_iff (a := keyE x) (b := keyE ⟨key, minI n 72057594037927935, 255⟩)
  rw [this]
  simp only [keyE]
  have hm : minI n 72057594037927935 = if n < 72057594037927935 then n else 72057594037927935 := by
    unfold minI; split <;> split <;> omega
  rcases slt_tri x.Key key with h | h | h
  · have h2 : x.Key ≠ key := fun e => by rw [e] at h; exact slt_irrefl _ h
    have h3 := slt_asymm h
    simp [h, h2, h3]
  · rw [h]
    simp only [slt_irrefl, false_or, true_and, hm]
    constructor
    · intro g
      have g1 : ¬ ((if n < 72057594037927935 then n else 72057594037927935) < x.Seq) := fun q => g (.inl q)
      split at g1 <;> omega
    · intro g
      rintro (q | ⟨q1, q2⟩)
      · split at q <;> omega
      · omega
  · have h2 : x.Key ≠ key := fun e => by rw [e] at h; exact slt_irrefl _ h
    have h3 := slt_asymm h
    simp [h, h2, h3]
theorem newest_ev {t : mem_Table} (hI : Inv t.list ord) (hE : E = ord.map (eN t.list.nodes)) (hok : ∀ x ∈ E, x.Seq ≤ 72057594037927935 ∧ x.Kind ≤ 255) (key : ByteArray) (n : Int) :
    Ev (fun k => mem_Table_newest k t key n) (newE key n E) := by
  obtain ⟨A, B, e, hA, hB⟩ := hI.cut ⟨key, minI n 72057594037927935, 255⟩
  have hsk := seek_ev hI e hA hB
  have hin : ∀ i ∈ ord, (ky t.list.nodes i).Seq ≤ 72057594037927935 ∧ (ky t.list.nodes i).Kind ≤ 255 := fun i hi => hok (eN t.list.nodes i) (by rw [hE]; exact List.mem_map_of_mem hi)
  have hnA : (A.map (eN t.list.nodes)).find? (isN key n) = none := by
    rw [List.find?_eq_none]
    intro x hx
    obtain ⟨i, hi, rfl⟩ := List.mem_map.1 hx
    have h1 := hin i (by rw [e]; simp [hi])
    have h2 := hA i hi
    intro g
    have g' : sEq (ky t.list.nodes i).Key key = true ∧ (ky t.list.nodes i).Seq ≤ n := by
      rw [isN, Bool.and_eq_true] at g
      exact ⟨g.1, of_decide_eq_true g.2⟩
    exact ((kl_at h1.1 h1.2 key n).2 (.inr ⟨sEq_iff.1 g'.1, g'.2⟩)) h2
  have hfind : E.find? (isN key n) = (B.map (eN t.list.nodes)).find? (isN key n) := by
    rw [hE, e, List.map_append, List.find?_append, hnA, Option.none_or]
  have hat : ikey_At key n = some ⟨key, minI n 72057594037927935, 255⟩ := rfl
  unfold mem_Table_newest
  refine Ev.bind0 hat (Ev.bind hsk ?_)
  unfold newE
  rw [hfind]
  cases hBe : B with
  | nil =>
    have : (hd ([] : List Nat) == 0) = true := rfl
    simp only [this, if_true]
    exact Ev.ret
  | cons b r =>
    have hbm : b ∈ ord := by rw [e, hBe]; simp
    have hr := hI.rng b hbm
    have e0 : (hd (b :: r) == 0) = false := by rw [beq_eq_false_iff_ne]; simp [hd]; omega
    have hent : mem_Table_entry t (hd (b :: r)) = some (eN t.list.nodes b) := by
      unfold mem_Table_entry
      have := node_ev hI hbm
      rw [show hd (b :: r) = (b : Int) from rfl, this]; rfl
    simp only [e0, Bool.false_eq_true, if_false, hent, Option.bind_some]
    have h1 := hin b hbm
    have h2 := (kl_at h1.1 h1.2 key n).1 (hB b (by rw [hBe]; simp))
    cases hk : sEq (eN t.list.nodes b).Key key with
    | true =>
      have hke : (ky t.list.nodes b).Key = key := sEq_iff.1 hk
      have hseq : (ky t.list.nodes b).Seq ≤ n := by
        rcases h2 with g | g
        · rw [hke] at g; exact absurd g (slt_irrefl _)
        · exact g.2
      have hisN : isN key n (eN t.list.nodes b) = true := by
        unfold isN
        rw [hk]
        exact (Bool.true_and _).trans (decide_eq_true hseq)
      simp only [Bool.not_true, Bool.false_eq_true, if_false, List.map_cons, List.find?_cons, hisN]
      exact Ev.ret
    | false =>
      have hne : (ky t.list.nodes b).Key ≠ key := sEq_false.1 hk
      have hgt : slt key (ky t.list.nodes b).Key := by
        rcases h2 with g | g
        · exact g
        · exact absurd g.1 hne
      have hno : ((b :: r).map (eN t.list.nodes)).find? (isN key n) = none := by
        rw [List.find?_eq_none]
        intro x hx
        obtain ⟨i, hi, rfl⟩ := List.mem_map.1 hx
        intro g
        have g' : sEq (ky t.list.nodes i).Key key = true ∧ (ky t.list.nodes i).Seq ≤ n := by
          rw [isN, Bool.and_eq_true] at g
          exact ⟨g.1, of_decide_eq_true g.2⟩
        have gk := sEq_iff.1 g'.1
        rcases List.mem_cons.1 hi with rfl | hi
        · exact hne gk
        · have hs := hI.srt
          rw [e, hBe] at hs
          have hlt := (List.pairwise_cons.1 (List.pairwise_append.1 hs).2.1).1 i hi
          have := (ltE_iff (a := keyE (ky t.list.nodes b)) (b := keyE (ky t.list.nodes i))).1 hlt
          simp only [keyE] at this
          rcases this with q | q
          · rw [gk] at q; exact slt_asymm hgt q
          · exact hne (q.1.trans gk)
      simp only [Bool.not_false, if_true, hno]
      exact Ev.ret
end
end Go.Proofs.YtbaemhkfmddakaaGreat.Mo

set_option maxRecDepth 100000
namespace Go.Proofs.YtbaemhkfmddakaaGreat.Mo
open Go Go.Proofs.YtbaemhkfmddakaaGreat.Sy
theorem eneq (x : Entry) : Entry.eqb x x = true := by cases x; simp [Entry.eqb, sEq_refl]
theorem past_none {key : ByteArray} {n : Int} : ∀ {E : List Entry}, (∀ x ∈ E, n < x.Seq) → newE key n E = (none_e, false) := fun {E} h => by
  have : E.find? (isN key n) = none := by
    rw [List.find?_eq_none]
    intro x hx g
    rw [isN, Bool.and_eq_true] at g
    have := h x hx
    have := of_decide_eq_true g.2
    omega
  unfold newE
  rw [this]
theorem past_cov {key : ByteArray} {n : Int} : ∀ {TT : List Tomb}, (∀ x ∈ TT, n < x.Seq) → covers key n TT (0, false) = (0, false)
  | [], _ => rfl
  | x :: s, h => by
    have hc : cov key n x = false := by
      have := h x (by simp)
      unfold cov
      simp [decide_eq_false (by omega : ¬ x.Seq ≤ n)]
    rw [covers, hc]
    simp only [Bool.false_eq_true, if_false]
    exact past_cov fun y hy => h y (by simp [hy])
theorem counted_eq (key : ByteArray) (e : Entry) (b : Bool) (c : Int) (d : Bool) : ∃ r, mem_counted key e b c d = some r := by
  unfold mem_counted
  split
  · exact ⟨_, rfl⟩
  · exact ⟨_, rfl⟩
/-- An empty skip list. -/
theorem inv0 : Inv ⟨[z0], 1048576, 0, 0⟩ [] := by
  refine ⟨rfl, rfl, by simp, fun i hi => (by cases hi), List.nodup_nil, List.Pairwise.nil, fun i hi => (by cases hi), ⟨Int.le_refl _, (by decide)⟩, fun lv hlv => ?_, trivial, rfl⟩
  have : ∀ lv : Nat, lv < 12 → nx [z0] lv 0 = 0 := by decide
  exact this lv hlv
/-- Operations with greater numbers come into a memtable. -/
theorem past_l1 (a1 : List L10_Act) (a2 : L10_Act) (ha : a1.length ≤ 1048576) : ∀ (s p : List L10_Act) (t : mem_Table) (ord : List Nat) (E : List Entry) (TT : List Tomb), a1 = p ++ s → TR t ord E TT → TT.length ≤ p.length →
    (∀ x ∈ E, a2.Seq < x.Seq) → (∀ x ∈ TT, a2.Seq < x.Seq) →
    ∃ (y : mem_Table) (ord' : List Nat) (E' : List Entry) (TT' : List Tomb), TR y ord' E' TT' ∧ TT'.length ≤ a1.length ∧ (∀ x ∈ E', a2.Seq < x.Seq) ∧ (∀ x ∈ TT', a2.Seq < x.Seq) ∧
      ∃ N, ∀ k, N ≤ k → ∀ J, l10_MemPast.l1 a1 a2 J k t (p.length : Int) = J y
  | [], p, t, ord, E, TT, hp, h, hT, hE, hTT => by
    refine ⟨t, ord, E, TT, h, by rw [hp]; simpa using hT, hE, hTT, 1, fun k hk J => ?_⟩
    obtain ⟨k, rfl⟩ : ∃ j, k = j + 1 := ⟨k - 1, by omega⟩
    have e1 : decide ((p.length : Int) < (a1.length : Int)) = false := by rw [hp]; exact lt_end p
    simp only [l10_MemPast.l1, e1, Bool.false_eq_true, if_false]
  | v :: s, p, t, ord, E, TT, hp, h, hT, hE, hTT => by
    have e1 : decide ((p.length : Int) < (a1.length : Int)) = true := by rw [hp]; exact lt_at p s v
    have e2 : idx a1 (p.length : Int) = some v := by rw [hp]; exact idx_at p v s
    have hw := step_at p s v (by rw [← hp, maxLen_val]; omega)
    have hpl : p.length + 1 ≤ a1.length := by rw [hp]; simp
    by_cases hs : a2.Seq < v.Seq
    · obtain ⟨r, t', ord', E', TT', ⟨N1, h1⟩, hTR, hTl, hold, hlog, told⟩ := add_ev h (by omega) v
      have hE' : ∀ x ∈ E', a2.Seq < x.Seq := by
        rcases told with ⟨_, g, _⟩ | ⟨_, _, g, _⟩ | ⟨_, _, _, A, B, g1, g⟩
        · rw [g]; exact hE
        · rw [g]; exact hE
        · intro x hx
          rw [g] at hx
          simp only [List.mem_append, List.mem_cons] at hx
          rcases hx with hx | rfl | hx
          · exact hE x (by rw [g1]; simp [hx])
          · exact hs
          · exact hE x (by rw [g1]; simp [hx])
      have hTT' : ∀ x ∈ TT', a2.Seq < x.Seq := by
        rcases told with ⟨_, _, g⟩ | ⟨_, _, _, g⟩ | ⟨_, _, g, _⟩
        · rw [g]; exact hTT
        · intro x hx
          rw [g] at hx
          simp only [List.mem_append, List.mem_singleton] at hx
          rcases hx with hx | rfl
          · exact hTT x hx
          · exact hs
        · rw [g]; exact hTT
      obtain ⟨y, oy, Ey, TTy, q1, q2, q3, q4, N, hN⟩ := past_l1 a1 a2 ha s (p ++ [v]) t' ord' E' TT' (by simp [hp]) hTR (by simp; omega) hE' hTT'
      refine ⟨y, oy, Ey, TTy, q1, q2, q3, q4, N + N1 + 1, fun k hk J => ?_⟩
      obtain ⟨k, rfl⟩ : ∃ j, k = j + 1 := ⟨k - 1, by omega⟩
      have g1 := h1 k (by omega)
      have g2 := hN k (by omega) J
      simp only [l10_MemPast.l1, e1, e2, if_true, Option.bind_some, decide_eq_true hs, Jn, g1, hw]
      exact g2
    · obtain ⟨y, oy, Ey, TTy, q1, q2, q3, q4, N, hN⟩ := past_l1 a1 a2 ha s (p ++ [v]) t ord E TT (by simp [hp]) h (by simp; omega) hE hTT
      refine ⟨y, oy, Ey, TTy, q1, q2, q3, q4, N + 1, fun k hk J => ?_⟩
      obtain ⟨k, rfl⟩ : ∃ j, k = j + 1 := ⟨k - 1, by omega⟩
      have g2 := hN k (by omega) J
      simp only [l10_MemPast.l1, e1, e2, if_true, Option.bind_some, decide_eq_false hs, Bool.false_eq_true, if_false, Jn, hw]
      exact g2
theorem past_end (a0 a1 : List L10_Act) (a2 : L10_Act) (ha : a1.length ≤ 1048576) {x : mem_Table} {ord : List Nat} {E : List Entry} {TT : List Tomb} (h : TR x ord E TT) (hT : TT.length ≤ 1048576) (hlog : x.log = 1) :
    Ev (fun k => l10_MemPast.l0 a0 a1 a2 k x (a0.length : Int)) true := by
  obtain ⟨N0, h0⟩ := newest_ev h.inv h.ent h.eok a2.Op.Key a2.Seq
  obtain ⟨N1, h1⟩ := newest_ev (t := ⟨x.made, true, x.log, x.list, ⟨TT, true⟩, x.size, x.n, x.low, x.high⟩) h.inv h.ent h.eok a2.Op.Key a2.Seq
  obtain ⟨N2, h2⟩ := scover_ev TT hT h.tok a2.Op.Key a2.Seq
  have ht1 : TR ⟨true, false, 2, ⟨[z0], 1048576, 0, 0⟩, ⟨[], true⟩, 0, 0, 0, 0⟩ [] [] [] := ⟨rfl, rfl, inv0, rfl, rfl, by simp, by simp⟩
  obtain ⟨N3, h3⟩ := newest_ev ht1.inv ht1.ent ht1.eok a2.Op.Key a2.Seq
  obtain ⟨N4, h4⟩ := scover_ev [] (by simp) (by simp) a2.Op.Key a2.Seq
  obtain ⟨y, oy, Ey, TTy, q1, q2, q3, q4, N5, h5⟩ := past_l1 a1 a2 ha a1 [] _ [] [] [] rfl ht1 (by simp) (by simp) (by simp)
  obtain ⟨N6, h6⟩ := newest_ev q1.inv q1.ent q1.eok a2.Op.Key a2.Seq
  obtain ⟨N7, h7⟩ := scover_ev TTy (by omega) q1.tok a2.Op.Key a2.Seq
  obtain ⟨N8, h8⟩ : Ev (fun k => tomb_valid k ([])) [] := Ev.succ Ev.ret
  have m1 : mkS 2513169434916 1 (⟨(⟨(ByteArray.mk #[]), 0, 0⟩ : IKey), (ByteArray.mk #[]), 0, (⟨0, 0, 0, 0, 0, 0, 0, 0, 0, 0, 0, 0⟩ : St132), 0⟩ : skip_node_string) = some [z0] := rfl
  rw [past_none (E := []) (by simp)] at h3
  rw [past_cov (TT := []) (by simp)] at h4
  rw [past_none q3] at h6
  rw [past_cov q4] at h7
  have hl : mem_Table_Log x = some 1 := by unfold mem_Table_Log; rw [h.made, hlog]; rfl
  refine ⟨N0 + N1 + N2 + N3 + N4 + N5 + N6 + N7 + N8 + 1, fun k hk => ?_⟩
  obtain ⟨k, rfl⟩ : ∃ j, k = j + 1 := ⟨k - 1, by omega⟩
  have g0 := h0 k (by omega)
  have g1 := h1 k (by omega)
  have g2 := h2 k (by omega)
  have g3 := h3 k (by omega)
  have g4 := h4 k (by omega)
  have g5 := h5 k (by omega)
  have g6 := h6 k (by omega)
  have g7 := h7 k (by omega)
  have g8 := h8 k (by omega)
  have e1 : decide ((a0.length : Int) < (a0.length : Int)) = false := decide_eq_false (by omega)
  have e2 : decide ((2 : Int) ≤ 1) = false := rfl
  simp only [List.length_nil, Int.natCast_zero] at g5
  generalize newE a2.Op.Key a2.Seq E = p at g0 g1
  generalize covers a2.Op.Key a2.Seq TT (0, false) = c at g2
  obtain ⟨⟨ke, se, de, ve⟩, ok⟩ := p
  obtain ⟨cn, dead⟩ := c
  obtain ⟨R, hR⟩ := counted_eq a2.Op.Key (if ok = true then ⟨ke, se, de, ve⟩ else none_e) ok (if dead = true then cn else 0) dead
  clear h0 h1 h2 h3 h4 h5 h6 h7 h8
  simp only [l10_MemPast.l0, e1, Bool.false_eq_true, if_false, Jn, hl, e2, m1, g8, Option.bind_some, h.tmb, q1.tmb, g0, g1, g2, g3, g4, g5, g6, g7]
  cases ok <;> cases dead <;> simp only [Bool.false_eq_true, if_false, if_true, none_e] at hR <;> simp [hR, eneq, none_e, mem_ikeyOf]
theorem past_l0 (a0 a1 : List L10_Act) (a2 : L10_Act) (ha0 : a0.length ≤ 1048576) (ha : a1.length ≤ 1048576) : ∀ (s p : List L10_Act) (t : mem_Table) (ord : List Nat) (E : List Entry) (TT : List Tomb), a0 = p ++ s → TR t ord E TT → TT.length ≤ p.length → t.log = 1 →
    Ev (fun k => l10_MemPast.l0 a0 a1 a2 k t (p.length : Int)) true
  | [], p, t, ord, E, TT, hp, h, hT, hlog => by
    have hpa : p = a0 := by rw [hp]; simp
    rw [hpa] at hT ⊢
    exact past_end a0 a1 a2 ha h (by omega) hlog
  | v :: s, p, t, ord, E, TT, hp, h, hT, hlog => by
    have e1 : decide ((p.length : Int) < (a0.length : Int)) = true := by rw [hp]; exact lt_at p s v
    have e2 : idx a0 (p.length : Int) = some v := by rw [hp]; exact idx_at p v s
    have hw := step_at p s v (by rw [← hp, maxLen_val]; omega)
    have hpl : p.length + 1 ≤ a0.length := by rw [hp]; simp
    obtain ⟨r, t', ord', E', TT', hadd, hTR, hTl, hold, hlog', told⟩ := add_ev h (by omega) v
    have ih := past_l0 a0 a1 a2 ha0 ha s (p ++ [v]) t' ord' E' TT' (by simp [hp]) hTR (by simp; omega) (by rw [hlog', hlog])
    refine Ev.succ ?_
    simp only [l10_MemPast.l0, e1, e2, if_true, Option.bind_some, hw]
    exact Ev.bind hadd ih
theorem works_at (k : Nat) : l10_works (k + 60) = some true := by kernel_rfl
theorem works_ev : Ev (fun k => l10_works k) true := ⟨60, fun k hk => by
  obtain ⟨j, rfl⟩ : ∃ j, k = j + 60 := ⟨k - 60, by omega⟩
  exact works_at j⟩
theorem past_law (a0 a1 : List L10_Act) (a2 : L10_Act) (ha0 : a0.length ≤ 1048576) (ha : a1.length ≤ 1048576) : Ev (fun k => l10_MemPast k a0 a1 a2) true := by
  unfold l10_MemPast
  have m1 : mkS 2513169434916 1 (⟨(⟨(ByteArray.mk #[]), 0, 0⟩ : IKey), (ByteArray.mk #[]), 0, (⟨0, 0, 0, 0, 0, 0, 0, 0, 0, 0, 0, 0⟩ : St132), 0⟩ : skip_node_string) = some [z0] := rfl
  have m4 : Ev (fun k => tomb_valid k ([])) [] := Ev.succ Ev.ret
  refine Ev.bind works_ev ?_
  simp only [Bool.not_true, Bool.false_eq_true, if_false]
  refine Ev.bind0 m1 (Ev.bind m4 ?_)
  exact past_l0 a0 a1 a2 ha0 ha a0 [] ⟨true, false, 1, ⟨[z0], 1048576, 0, 0⟩, ⟨[], true⟩, 0, 0, 0, 0⟩ [] [] [] rfl ⟨rfl, rfl, inv0, rfl, rfl, by simp, by simp⟩ (by simp) rfl
end Go.Proofs.YtbaemhkfmddakaaGreat.Mo
