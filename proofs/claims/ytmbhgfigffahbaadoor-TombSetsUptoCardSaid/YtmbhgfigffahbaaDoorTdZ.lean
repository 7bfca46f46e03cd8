import Derived.Test.YtmbhgfigffahbaaDoorPDUD
import Derived.Test.YtmbhgfigffahbaaDoorSyUq
import Derived.Test.YtmbhgfigffahbaaDoorPDSD
import Derived.Test.YtmbhgfigffahbaaDoorTdPl
set_option linter.unusedVariables false
set_option linter.unusedSectionVars false
set_option linter.unusedSimpArgs false
set_option maxRecDepth 100000
namespace Go.Proofs.YtmbhgfigffahbaaDoor.Mo
open Go Go.Proofs.YtmbhgfigffahbaaDoor.Sy
theorem cmp_l1_uint64 (a0 : List Int) {i0 : Nat} (hi0 : 1 ≤ i0) (hl : a0.length ≤ 1152921504606846976) : ∀ (n : Nat) (l : List Int) (k q : Nat), a0.length - (i0 + q) ≤ n → 1 ≤ q → i0 + q ≤ a0.length → l.length = a0.length → k + 1 ≤ i0 + q → l.take k = dd (a0.take (i0 + q)) →
    (∀ j, i0 + q ≤ j + 1 → l[j]? = a0[j]?) →
    ∃ l' k', l'.length = a0.length ∧ k' ≤ a0.length ∧ l'.take k' = dd a0 ∧ EvC2 (fun J f => slices_Compact_uint64.l1 a0 (i0 : Int) J f l (k : Int) (q : Int)) l' (k' : Int) := by
  intro n
  induction n with
  | zero =>
    intro l k q hn hq hiq hlen hk ht hr
    have hd : ¬ q < (l.drop i0).length := by simp; omega
    refine ⟨l, k, hlen, by omega, ?_, EvC2.succ ?_⟩
    · rw [ht, List.take_of_length_le (by omega)]
    · simp only [slices_Compact_uint64.l1, cut_drop (l := l) (i := i0) (n := a0.length) hlen.symm (by omega), Option.bind_some, dLtF hd, Bool.false_eq_true, if_false]
      exact EvC2.ret
  | succ n ih =>
    intro l k q hn hq hiq hlen hk ht hr
    by_cases hlt : i0 + q < a0.length
    · have hd : q < (l.drop i0).length := by simp; omega
      have gx : ∀ j, i0 + q ≤ j + 1 → j < a0.length → A 0 l j = A 0 a0 j := fun j h1 h2 => A_congr (hr j h1)
      have i1 : idx (l.drop i0) (q : Int) = some (A 0 a0 (i0 + q)) := by
        rw [idx_nat, List.getElem?_drop, hr _ (by omega), A_get? (d := 0) hlt]
      have i2 : idx (l.drop i0) ((q - 1 : Nat) : Int) = some (A 0 a0 (i0 + q - 1)) := by
        rw [idx_nat, List.getElem?_drop, hr _ (by omega), show i0 + (q - 1) = i0 + q - 1 by omega, A_get? (d := 0) (by omega)]
      have hpre : a0.take (i0 + (q + 1)) = a0.take (i0 + q - 1) ++ [A 0 a0 (i0 + q - 1), A 0 a0 (i0 + q)] := by
        obtain ⟨m, hm⟩ : ∃ m, i0 + q = m + 1 := ⟨i0 + q - 1, by omega⟩
        rw [show i0 + (q + 1) = m + 2 by omega, show i0 + q - 1 = m by omega, hm, List.take_add_one, List.take_add_one, A_get? (d := 0) (show m < a0.length by omega), A_get? (d := 0) (show m + 1 < a0.length by omega)]
        simp
      have hpre0 : a0.take (i0 + q) = a0.take (i0 + q - 1) ++ [A 0 a0 (i0 + q - 1)] := by
        obtain ⟨m, hm⟩ : ∃ m, i0 + q = m + 1 := ⟨i0 + q - 1, by omega⟩
        rw [show i0 + q - 1 = m by omega, hm, List.take_add_one, A_get? (d := 0) (show m < a0.length by omega)]
        simp
      have hdd := dd_snoc (A 0 a0 (i0 + q - 1)) (A 0 a0 (i0 + q)) (a0.take (i0 + q - 1))
      rw [← hpre, ← hpre0] at hdd
      by_cases he : A 0 a0 (i0 + q) = A 0 a0 (i0 + q - 1)
      · rw [if_pos he.symm] at hdd
        obtain ⟨l', k', g1, g2, g3, n1, g4⟩ := ih l k (q + 1) (by omega) (by omega) (by omega) hlen (by omega) (by rw [ht, hdd]) (fun j hj => hr j (by omega))
        dsimp only at g4
        refine ⟨l', k', g1, g2, g3, n1 + 1, fun f hf J => ?_⟩
        obtain ⟨f, rfl⟩ : ∃ j, f = j + 1 := ⟨f - 1, by omega⟩
        simp only [slices_Compact_uint64.l1, Jn, cut_drop (l := l) (i := i0) (n := a0.length) hlen.symm (by omega), Option.bind_some, dLt hd, if_true, i1, wP (n := q) (by omega) (by omega), i2, he, bne_self_eq_false, sEq_refl, Bool.not_true, Bool.false_eq_true, if_false, wS (n := q) (by omega)]
        exact g4 f (by omega) J
      · rw [if_neg (fun e => he e.symm)] at hdd
        have hu : upd l (k : Int) (A 0 a0 (i0 + q)) = some (l.set k (A 0 a0 (i0 + q))) := by unfold upd; rw [if_pos ⟨by omega, by omega⟩]; simp
        obtain ⟨l', k', g1, g2, g3, n1, g4⟩ := ih (l.set k (A 0 a0 (i0 + q))) (k + 1) (q + 1) (by omega) (by omega) (by omega) (by simpa using hlen) (by omega)
          (by
            rw [show i0 + (q + 1) = i0 + (q + 1) from rfl, hdd, ← ht, List.take_add_one, List.take_set, List.getElem?_set_self (by omega)]
            rw [List.set_eq_of_length_le (by simp; omega)]
            rfl)
          (fun j hj => by rw [List.getElem?_set_ne (by omega)]; exact hr j (by omega))
        dsimp only at g4
        refine ⟨l', k', g1, g2, g3, n1 + 1, fun f hf J => ?_⟩
        obtain ⟨f, rfl⟩ : ∃ j, f = j + 1 := ⟨f - 1, by omega⟩
        have hb : (A 0 a0 (i0 + q) != A 0 a0 (i0 + q - 1)) = true := by simpa using he
        simp only [slices_Compact_uint64.l1, Jn, cut_drop (l := l) (i := i0) (n := a0.length) hlen.symm (by omega), Option.bind_some, dLt hd, if_true, i1, wP (n := q) (by omega) (by omega), i2, hb, wS (n := q) (by omega), idx_A (d := 0) (show k < l.length by omega), hu, wS (n := k) (by omega)]
        exact g4 f (by omega) J
    · have hd : ¬ q < (l.drop i0).length := by simp; omega
      refine ⟨l, k, hlen, by omega, ?_, EvC2.succ ?_⟩
      · rw [ht, List.take_of_length_le (by omega)]
      · simp only [slices_Compact_uint64.l1, cut_drop (l := l) (i := i0) (n := a0.length) hlen.symm (by omega), Option.bind_some, dLtF hd, Bool.false_eq_true, if_false]
        exact EvC2.ret
theorem cmp_l0_uint64 (a0 : List Int) (hl : a0.length ≤ 1152921504606846976) : ∀ (n i : Nat), a0.length - i ≤ n → 1 ≤ i → i ≤ a0.length → (∀ k, 0 < k → k < i → A 0 a0 k ≠ A 0 a0 (k - 1)) → Ev (fun k => slices_Compact_uint64.l0 a0 k (i : Int)) (dd a0) := by
  intro n
  induction n with
  | zero =>
    intro i hn hi hle hne
    refine Ev.succ ?_
    simp only [slices_Compact_uint64.l0, dLtF (show ¬ i < a0.length by omega), Bool.false_eq_true, if_false]
    rw [dd_id 0 a0 fun k h0 hk => hne k h0 (by omega)]
    exact Ev.ret
  | succ n ih =>
    intro i hn hi hle hne
    by_cases hlt : i < a0.length
    · by_cases he : A 0 a0 i = A 0 a0 (i - 1)
      · have hid : dd (a0.take i) = a0.take i := dd_id 0 _ fun k h0 hk => by
          simp only [List.length_take] at hk
          have e : ∀ j, j < i → A 0 (a0.take i) j = A 0 a0 j := fun j hj => A_congr (by rw [List.getElem?_take, if_pos hj])
          rw [e k (by omega), e (k - 1) (by omega)]
          exact hne k h0 (by omega)
        have ht : a0.take i = dd (a0.take (i + 1)) := by
          obtain ⟨m, rfl⟩ : ∃ m, i = m + 1 := ⟨i - 1, by omega⟩
          have h1 : a0.take (m + 1 + 1) = a0.take m ++ [A 0 a0 m, A 0 a0 (m + 1)] := by
            rw [List.take_add_one, List.take_add_one, A_get? (d := 0) (show m < a0.length by omega), A_get? (d := 0) hlt]; simp
          have h2 : a0.take (m + 1) = a0.take m ++ [A 0 a0 m] := by
            rw [List.take_add_one, A_get? (d := 0) (show m < a0.length by omega)]; simp
          rw [h1, dd_snoc, if_pos (by simpa using he.symm), ← h2, hid]
        obtain ⟨l', k', g1, g2, g3, g4⟩ := cmp_l1_uint64 a0 hi hl _ a0 i 1 (Nat.le_refl _) (Nat.le_refl _) (by omega) rfl (by omega) ht (fun j _ => rfl)
        have hc1 : cut l' (k' : Int) (l'.length : Int) = some (l'.drop k') := cut_drop rfl (by omega)
        have hc2 : cut (clr l' k' l'.length 0) 0 (k' : Int) = some (dd a0) := by
          rw [cut_take (by simp [clr]; omega)]
          congr 1
          rw [← g3]
          simp only [clr, List.append_assoc]
          rw [List.take_append_of_le_length (by simp; omega), List.take_take, Nat.min_self]
        refine Ev.succ ?_
        simp only [slices_Compact_uint64.l0, Jn, dLt hlt, if_true, wP (n := i) (by omega) (by omega), idx_A (d := 0) hlt, idx_A (d := 0) (show i - 1 < a0.length by omega), Option.bind_some, he, beq_self_eq_true, sEq_refl, cut_drop (l := a0) (i := i) (n := a0.length) rfl (by omega)]
        refine g4.ev (J := fun k (l_671 : List Int) (i_672 : Int) => (cut l_671 i_672 (l_671.length : Int)).bind fun l1488 => (cut (clr l_671 (Int.toNat i_672) (Int.toNat (l_671.length : Int)) 0) 0 i_672).bind fun l1490 => some l1490) ?_
        simp only [hc1, Int.toNat_natCast, hc2, Option.bind_some]
        exact Ev.ret
      · have hb : (A 0 a0 i == A 0 a0 (i - 1)) = false := by simpa using he
        have := ih (i + 1) (by omega) (by omega) (by omega) (fun k h0 hk => by
          by_cases c : k = i
          · subst c; exact he
          · exact hne k h0 (by omega))
        refine Ev.succ ?_
        simp only [slices_Compact_uint64.l0, Jn, dLt hlt, if_true, wP (n := i) (by omega) (by omega), idx_A (d := 0) hlt, idx_A (d := 0) (show i - 1 < a0.length by omega), Option.bind_some, hb, Bool.false_eq_true, if_false, wS (n := i) (by omega)]
        exact this
    · refine Ev.succ ?_
      simp only [slices_Compact_uint64.l0, dLtF hlt, Bool.false_eq_true, if_false]
      rw [dd_id 0 a0 fun k h0 hk => hne k h0 (by omega)]
      exact Ev.ret
theorem compact_uint64 (a0 : List Int) (hl : a0.length ≤ 1152921504606846976) : Ev (fun k => slices_Compact_uint64 k a0) (dd a0) := by
  by_cases h : a0.length < 2
  · have hd : decide ((a0.length : Int) < 2) = true := decide_eq_true (by omega)
    simp only [slices_Compact_uint64, hd, if_true]
    have : dd a0 = a0 := by
      match a0, h with
      | [], _ => rfl
      | [x], _ => rfl
    rw [this]
    exact Ev.ret
  · have hd : decide ((a0.length : Int) < 2) = false := decide_eq_false (by omega)
    simp only [slices_Compact_uint64, hd, Bool.false_eq_true, if_false]
    exact cmp_l0_uint64 a0 hl _ 1 (Nat.le_refl _) (Nat.le_refl _) (by omega) (fun k h0 hk => by omega)
theorem less_uint64 (x y : Int) : cmp_Less_uint64 x y = some (decide ((fun x y : Int => x < y) x y)) := by
  simp only [cmp_Less_uint64, cmp_isNaN_uint64, Jn, Option.bind_some, bne_self_eq_false, Bool.false_eq_true, if_false, Bool.false_or]
/-- Sorted, each once. -/
theorem unlike_uint64 (a0 : List Int) (hl : a0.length ≤ 1152921504606846976) : Ev (fun k => (slices_Sort_uint64 k a0).bind fun r1 => slices_Compact_uint64 k r1) (uq (fun x y : Int => x < y) a0) := by
  obtain ⟨l', g1, g2, g3⟩ := sort_uint64 0 (lt := (fun x y : Int => x < y)) less_uint64 so_int.wo a0 hl
  refine Ev.bind g3 ((compact_uint64 l' (by rw [← g2.length_eq]; exact hl)).to ?_)
  exact pw_uniq so_int (dd_pw so_int g1) (uq_pw so_int a0) fun x => by rw [mem_dd, mem_uq so_int]; exact g2.mem_iff.symm
end Go.Proofs.YtmbhgfigffahbaaDoor.Mo

set_option maxRecDepth 100000
namespace Go.Proofs.YtmbhgfigffahbaaDoor.Mo
open Go Go.Proofs.YtmbhgfigffahbaaDoor.Sy
theorem cmp_l1_string (a0 : List ByteArray) {i0 : Nat} (hi0 : 1 ≤ i0) (hl : a0.length ≤ 1152921504606846976) : ∀ (n : Nat) (l : List ByteArray) (k q : Nat), a0.length - (i0 + q) ≤ n → 1 ≤ q → i0 + q ≤ a0.length → l.length = a0.length → k + 1 ≤ i0 + q → l.take k = dd (a0.take (i0 + q)) →
    (∀ j, i0 + q ≤ j + 1 → l[j]? = a0[j]?) →
    ∃ l' k', l'.length = a0.length ∧ k' ≤ a0.length ∧ l'.take k' = dd a0 ∧ EvC2 (fun J f => slices_Compact_string.l1 a0 (i0 : Int) J f l (k : Int) (q : Int)) l' (k' : Int) := by
  intro n
  induction n with
  | zero =>
    intro l k q hn hq hiq hlen hk ht hr
    have hd : ¬ q < (l.drop i0).length := by simp; omega
    refine ⟨l, k, hlen, by omega, ?_, EvC2.succ ?_⟩
    · rw [ht, List.take_of_length_le (by omega)]
    · simp only [slices_Compact_string.l1, cut_drop (l := l) (i := i0) (n := a0.length) hlen.symm (by omega), Option.bind_some, dLtF hd, Bool.false_eq_true, if_false]
      exact EvC2.ret
  | succ n ih =>
    intro l k q hn hq hiq hlen hk ht hr
    by_cases hlt : i0 + q < a0.length
    · have hd : q < (l.drop i0).length := by simp; omega
      have gx : ∀ j, i0 + q ≤ j + 1 → j < a0.length → A (ByteArray.mk #[]) l j = A (ByteArray.mk #[]) a0 j := fun j h1 h2 => A_congr (hr j h1)
      have i1 : idx (l.drop i0) (q : Int) = some (A (ByteArray.mk #[]) a0 (i0 + q)) := by
        rw [idx_nat, List.getElem?_drop, hr _ (by omega), A_get? (d := (ByteArray.mk #[])) hlt]
      have i2 : idx (l.drop i0) ((q - 1 : Nat) : Int) = some (A (ByteArray.mk #[]) a0 (i0 + q - 1)) := by
        rw [idx_nat, List.getElem?_drop, hr _ (by omega), show i0 + (q - 1) = i0 + q - 1 by omega, A_get? (d := (ByteArray.mk #[])) (by omega)]
      have hpre : a0.take (i0 + (q + 1)) = a0.take (i0 + q - 1) ++ [A (ByteArray.mk #[]) a0 (i0 + q - 1), A (ByteArray.mk #[]) a0 (i0 + q)] := by
        obtain ⟨m, hm⟩ : ∃ m, i0 + q = m + 1 := ⟨i0 + q - 1, by omega⟩
        rw [show i0 + (q + 1) = m + 2 by omega, show i0 + q - 1 = m by omega, hm, List.take_add_one, List.take_add_one, A_get? (d := (ByteArray.mk #[])) (show m < a0.length by omega), A_get? (d := (ByteArray.mk #[])) (show m + 1 < a0.length by omega)]
        simp
      have hpre0 : a0.take (i0 + q) = a0.take (i0 + q - 1) ++ [A (ByteArray.mk #[]) a0 (i0 + q - 1)] := by
        obtain ⟨m, hm⟩ : ∃ m, i0 + q = m + 1 := ⟨i0 + q - 1, by omega⟩
        rw [show i0 + q - 1 = m by omega, hm, List.take_add_one, A_get? (d := (ByteArray.mk #[])) (show m < a0.length by omega)]
        simp
      have hdd := dd_snoc (A (ByteArray.mk #[]) a0 (i0 + q - 1)) (A (ByteArray.mk #[]) a0 (i0 + q)) (a0.take (i0 + q - 1))
      rw [← hpre, ← hpre0] at hdd
      by_cases he : A (ByteArray.mk #[]) a0 (i0 + q) = A (ByteArray.mk #[]) a0 (i0 + q - 1)
      · rw [if_pos he.symm] at hdd
        obtain ⟨l', k', g1, g2, g3, n1, g4⟩ := ih l k (q + 1) (by omega) (by omega) (by omega) hlen (by omega) (by rw [ht, hdd]) (fun j hj => hr j (by omega))
        dsimp only at g4
        refine ⟨l', k', g1, g2, g3, n1 + 1, fun f hf J => ?_⟩
        obtain ⟨f, rfl⟩ : ∃ j, f = j + 1 := ⟨f - 1, by omega⟩
        simp only [slices_Compact_string.l1, Jn, cut_drop (l := l) (i := i0) (n := a0.length) hlen.symm (by omega), Option.bind_some, dLt hd, if_true, i1, wP (n := q) (by omega) (by omega), i2, he, bne_self_eq_false, sEq_refl, Bool.not_true, Bool.false_eq_true, if_false, wS (n := q) (by omega)]
        exact g4 f (by omega) J
      · rw [if_neg (fun e => he e.symm)] at hdd
        have hu : upd l (k : Int) (A (ByteArray.mk #[]) a0 (i0 + q)) = some (l.set k (A (ByteArray.mk #[]) a0 (i0 + q))) := by unfold upd; rw [if_pos ⟨by omega, by omega⟩]; simp
        obtain ⟨l', k', g1, g2, g3, n1, g4⟩ := ih (l.set k (A (ByteArray.mk #[]) a0 (i0 + q))) (k + 1) (q + 1) (by omega) (by omega) (by omega) (by simpa using hlen) (by omega)
          (by
            rw [show i0 + (q + 1) = i0 + (q + 1) from rfl, hdd, ← ht, List.take_add_one, List.take_set, List.getElem?_set_self (by omega)]
            rw [List.set_eq_of_length_le (by simp; omega)]
            rfl)
          (fun j hj => by rw [List.getElem?_set_ne (by omega)]; exact hr j (by omega))
        dsimp only at g4
        refine ⟨l', k', g1, g2, g3, n1 + 1, fun f hf J => ?_⟩
        obtain ⟨f, rfl⟩ : ∃ j, f = j + 1 := ⟨f - 1, by omega⟩
        have hb : (!sEq (A (ByteArray.mk #[]) a0 (i0 + q)) (A (ByteArray.mk #[]) a0 (i0 + q - 1))) = true := by rw [sEq_false.2 he]; rfl
        simp only [slices_Compact_string.l1, Jn, cut_drop (l := l) (i := i0) (n := a0.length) hlen.symm (by omega), Option.bind_some, dLt hd, if_true, i1, wP (n := q) (by omega) (by omega), i2, hb, wS (n := q) (by omega), idx_A (d := (ByteArray.mk #[])) (show k < l.length by omega), hu, wS (n := k) (by omega)]
        exact g4 f (by omega) J
    · have hd : ¬ q < (l.drop i0).length := by simp; omega
      refine ⟨l, k, hlen, by omega, ?_, EvC2.succ ?_⟩
      · rw [ht, List.take_of_length_le (by omega)]
      · simp only [slices_Compact_string.l1, cut_drop (l := l) (i := i0) (n := a0.length) hlen.symm (by omega), Option.bind_some, dLtF hd, Bool.false_eq_true, if_false]
        exact EvC2.ret
theorem cmp_l0_string (a0 : List ByteArray) (hl : a0.length ≤ 1152921504606846976) : ∀ (n i : Nat), a0.length - i ≤ n → 1 ≤ i → i ≤ a0.length → (∀ k, 0 < k → k < i → A (ByteArray.mk #[]) a0 k ≠ A (ByteArray.mk #[]) a0 (k - 1)) → Ev (fun k => slices_Compact_string.l0 a0 k (i : Int)) (dd a0) := by
  intro n
  induction n with
  | zero =>
    intro i hn hi hle hne
    refine Ev.succ ?_
    simp only [slices_Compact_string.l0, dLtF (show ¬ i < a0.length by omega), Bool.false_eq_true, if_false]
    rw [dd_id (ByteArray.mk #[]) a0 fun k h0 hk => hne k h0 (by omega)]
    exact Ev.ret
  | succ n ih =>
    intro i hn hi hle hne
    by_cases hlt : i < a0.length
    · by_cases he : A (ByteArray.mk #[]) a0 i = A (ByteArray.mk #[]) a0 (i - 1)
      · have hid : dd (a0.take i) = a0.take i := dd_id (ByteArray.mk #[]) _ fun k h0 hk => by
          simp only [List.length_take] at hk
          have e : ∀ j, j < i → A (ByteArray.mk #[]) (a0.take i) j = A (ByteArray.mk #[]) a0 j := fun j hj => A_congr (by rw [List.getElem?_take, if_pos hj])
          rw [e k (by omega), e (k - 1) (by omega)]
          exact hne k h0 (by omega)
        have ht : a0.take i = dd (a0.take (i + 1)) := by
          obtain ⟨m, rfl⟩ : ∃ m, i = m + 1 := ⟨i - 1, by omega⟩
          have h1 : a0.take (m + 1 + 1) = a0.take m ++ [A (ByteArray.mk #[]) a0 m, A (ByteArray.mk #[]) a0 (m + 1)] := by
            rw [List.take_add_one, List.take_add_one, A_get? (d := (ByteArray.mk #[])) (show m < a0.length by omega), A_get? (d := (ByteArray.mk #[])) hlt]; simp
          have h2 : a0.take (m + 1) = a0.take m ++ [A (ByteArray.mk #[]) a0 m] := by
            rw [List.take_add_one, A_get? (d := (ByteArray.mk #[])) (show m < a0.length by omega)]; simp
          rw [h1, dd_snoc, if_pos (by simpa using he.symm), ← h2, hid]
        obtain ⟨l', k', g1, g2, g3, g4⟩ := cmp_l1_string a0 hi hl _ a0 i 1 (Nat.le_refl _) (Nat.le_refl _) (by omega) rfl (by omega) ht (fun j _ => rfl)
        have hc1 : cut l' (k' : Int) (l'.length : Int) = some (l'.drop k') := cut_drop rfl (by omega)
        have hc2 : cut (clr l' k' l'.length (ByteArray.mk #[])) 0 (k' : Int) = some (dd a0) := by
          rw [cut_take (by simp [clr]; omega)]
          congr 1
          rw [← g3]
          simp only [clr, List.append_assoc]
          rw [List.take_append_of_le_length (by simp; omega), List.take_take, Nat.min_self]
        refine Ev.succ ?_
        simp only [slices_Compact_string.l0, Jn, dLt hlt, if_true, wP (n := i) (by omega) (by omega), idx_A (d := (ByteArray.mk #[])) hlt, idx_A (d := (ByteArray.mk #[])) (show i - 1 < a0.length by omega), Option.bind_some, he, beq_self_eq_true, sEq_refl, cut_drop (l := a0) (i := i) (n := a0.length) rfl (by omega)]
        refine g4.ev (J := fun k (l_671 : List ByteArray) (i_672 : Int) => (cut l_671 i_672 (l_671.length : Int)).bind fun l1488 => (cut (clr l_671 (Int.toNat i_672) (Int.toNat (l_671.length : Int)) (ByteArray.mk #[])) 0 i_672).bind fun l1490 => some l1490) ?_
        simp only [hc1, Int.toNat_natCast, hc2, Option.bind_some]
        exact Ev.ret
      · have hb : sEq (A (ByteArray.mk #[]) a0 i) (A (ByteArray.mk #[]) a0 (i - 1)) = false := by exact sEq_false.2 he
        have := ih (i + 1) (by omega) (by omega) (by omega) (fun k h0 hk => by
          by_cases c : k = i
          · subst c; exact he
          · exact hne k h0 (by omega))
        refine Ev.succ ?_
        simp only [slices_Compact_string.l0, Jn, dLt hlt, if_true, wP (n := i) (by omega) (by omega), idx_A (d := (ByteArray.mk #[])) hlt, idx_A (d := (ByteArray.mk #[])) (show i - 1 < a0.length by omega), Option.bind_some, hb, Bool.false_eq_true, if_false, wS (n := i) (by omega)]
        exact this
    · refine Ev.succ ?_
      simp only [slices_Compact_string.l0, dLtF hlt, Bool.false_eq_true, if_false]
      rw [dd_id (ByteArray.mk #[]) a0 fun k h0 hk => hne k h0 (by omega)]
      exact Ev.ret
theorem compact_string (a0 : List ByteArray) (hl : a0.length ≤ 1152921504606846976) : Ev (fun k => slices_Compact_string k a0) (dd a0) := by
  by_cases h : a0.length < 2
  · have hd : decide ((a0.length : Int) < 2) = true := decide_eq_true (by omega)
    simp only [slices_Compact_string, hd, if_true]
    have : dd a0 = a0 := by
      match a0, h with
      | [], _ => rfl
      | [x], _ => rfl
    rw [this]
    exact Ev.ret
  · have hd : decide ((a0.length : Int) < 2) = false := decide_eq_false (by omega)
    simp only [slices_Compact_string, hd, Bool.false_eq_true, if_false]
    exact cmp_l0_string a0 hl _ 1 (Nat.le_refl _) (Nat.le_refl _) (by omega) (fun k h0 hk => by omega)
theorem less_string (x y : ByteArray) : cmp_Less_string x y = some (decide (slt x y)) := by
  simp only [cmp_Less_string, cmp_isNaN_string, Jn, Option.bind_some, sEq_refl, Bool.not_true, Bool.false_eq_true, if_false, Bool.false_or, sLt_dec]
/-- Sorted, each once. -/
theorem unlike_string (a0 : List ByteArray) (hl : a0.length ≤ 1152921504606846976) : Ev (fun k => (slices_Sort_string k a0).bind fun r1 => slices_Compact_string k r1) (uq slt a0) := by
  obtain ⟨l', g1, g2, g3⟩ := sort_string (ByteArray.mk #[]) (lt := slt) less_string so_str.wo a0 hl
  refine Ev.bind g3 ((compact_string l' (by rw [← g2.length_eq]; exact hl)).to ?_)
  exact pw_uniq so_str (dd_pw so_str g1) (uq_pw so_str a0) fun x => by rw [mem_dd, mem_uq so_str]; exact g2.mem_iff.symm
end Go.Proofs.YtmbhgfigffahbaaDoor.Mo

set_option maxRecDepth 100000
namespace Go.Proofs.YtmbhgfigffahbaaDoor.Mo
open Go Go.Proofs.YtmbhgfigffahbaaDoor.Sy
theorem covers_ok (key : ByteArray) (n : Int) : ∀ (l : List Tomb) (c : Int × Bool), ((covers key n l c).2 = true ↔ c.2 = true ∨ ∃ x ∈ l, cov key n x = true)
  | [], c => by simp [covers]
  | x :: s, c => by
    rw [covers, covers_ok key n s]
    by_cases h : cov key n x = true <;> simp [h]
theorem covers_max (key : ByteArray) (n : Int) : ∀ (l : List Tomb) (c : Int × Bool), c.1 ≤ (covers key n l c).1 ∧ (∀ x ∈ l, cov key n x = true → x.Seq ≤ (covers key n l c).1) ∧ ((covers key n l c).1 = c.1 ∨ ∃ x ∈ l, cov key n x = true ∧ (covers key n l c).1 = x.Seq)
  | [], c => by simp [covers]
  | x :: s, c => by
    rw [covers]
    by_cases h : cov key n x = true
    · simp only [h, if_true]
      obtain ⟨h1, h2, h3⟩ := covers_max key n s (maxI c.1 x.Seq, true)
      have hm : c.1 ≤ maxI c.1 x.Seq ∧ x.Seq ≤ maxI c.1 x.Seq ∧ (maxI c.1 x.Seq = c.1 ∨ maxI c.1 x.Seq = x.Seq) := by unfold maxI; split <;> omega
      refine ⟨Int.le_trans hm.1 h1, fun y hy k => ?_, ?_⟩
      · rcases List.mem_cons.1 hy with e | e
        · subst e; exact Int.le_trans hm.2.1 h1
        · exact h2 y e k
      · rcases h3 with e | ⟨y, hy, k, e⟩
        · rcases hm.2.2 with e2 | e2
          · exact .inl (e.trans e2)
          · exact .inr ⟨x, by simp, h, e.trans e2⟩
        · exact .inr ⟨y, by simp [hy], k, e⟩
    · simp only [h, if_false]
      obtain ⟨h1, h2, h3⟩ := covers_max key n s c
      refine ⟨h1, fun y hy k => ?_, ?_⟩
      · rcases List.mem_cons.1 hy with e | e
        · subst e; exact absurd k h
        · exact h2 y e k
      · rcases h3 with e | ⟨y, hy, k, e⟩
        · exact .inl e
        · exact .inr ⟨y, by simp [hy], k, e⟩
theorem reverse_l0 : ∀ (n : Nat) (m p s : List Int), m.length ≤ n → (p ++ m ++ s).length ≤ 1152921504606846976 → Ev (fun k => slices_Reverse_uint64.l0 k (p ++ m ++ s) (p.length : Int) (((p ++ m).length : Int) - 1)) (p ++ m.reverse ++ s) := by
  intro n
  induction n with
  | zero =>
    intro m p s hm hl
    obtain rfl : m = [] := List.eq_nil_of_length_eq_zero (by omega)
    refine Ev.succ ?_
    have h : decide ((p.length : Int) < ((p ++ ([] : List Int)).length : Int) - 1) = false := decide_eq_false (by simp; omega)
    simp only [slices_Reverse_uint64.l0, h, Bool.false_eq_true, if_false]
    simpa using Ev.ret
  | succ n ih =>
    intro m p s hm hl
    cases m with
    | nil =>
      refine Ev.succ ?_
      have h : decide ((p.length : Int) < ((p ++ ([] : List Int)).length : Int) - 1) = false := decide_eq_false (by simp; omega)
      simp only [slices_Reverse_uint64.l0, h, Bool.false_eq_true, if_false]
      simpa using Ev.ret
    | cons x m =>
      rcases nil_or_snoc m with rfl | ⟨m, y, rfl⟩
      · refine Ev.succ ?_
        have h : decide ((p.length : Int) < ((p ++ [x]).length : Int) - 1) = false := decide_eq_false (by simp)
        simp only [slices_Reverse_uint64.l0, h, Bool.false_eq_true, if_false]
        simpa using Ev.ret
      · have hl' := hl
        simp only [List.length_append, List.length_cons, List.length_nil] at hl' hm
        have h : decide ((p.length : Int) < ((p ++ x :: (m ++ [y])).length : Int) - 1) = true := decide_eq_true (by simp; omega)
        have hj : ((p ++ x :: (m ++ [y])).length : Int) - 1 = ((p ++ x :: m).length : Int) := by simp; omega
        rw [hj] at h ⊢
        have e1 : idx (p ++ x :: (m ++ [y]) ++ s) ((p ++ x :: m).length : Int) = some y := idx_as (p := p ++ x :: m) (s := s) (by simp) rfl
        have e2 : idx (p ++ x :: (m ++ [y]) ++ s) (p.length : Int) = some x := idx_as (p := p) (s := m ++ [y] ++ s) (by simp) rfl
        have e3 : upd (p ++ x :: (m ++ [y]) ++ s) (p.length : Int) y = some (p ++ y :: (m ++ [y] ++ s)) := upd_as (p := p) (x := x) (s := m ++ [y] ++ s) y (by simp) rfl
        have e4 : idx (p ++ y :: (m ++ [y] ++ s)) ((p ++ x :: m).length : Int) = some y := idx_as (p := p ++ y :: m) (s := s) (by simp) (by simp)
        have e5 : upd (p ++ y :: (m ++ [y] ++ s)) ((p ++ x :: m).length : Int) x = some (p ++ y :: m ++ x :: s) := upd_as (p := p ++ y :: m) (x := y) (s := s) x (by simp) (by simp)
        have w1 : w64 ((p.length : Int) + 1) = ((p ++ [y]).length : Int) := by simp only [List.length_append, List.length_cons, List.length_nil]; rw [w64_of (by omega) (by omega)]; omega
        have w2 : w64 (((p ++ x :: m).length : Int) - 1) = ((p ++ [y] ++ m).length : Int) - 1 := by simp only [List.length_append, List.length_cons, List.length_nil]; rw [w64_of (by omega) (by omega)]; omega
        have := ih m (p ++ [y]) (x :: s) (by omega) (by simp; omega)
        refine Ev.succ ?_
        simp only [slices_Reverse_uint64.l0, h, if_true, e1, e2, e3, e4, e5, Option.bind_some, w1, w2]
        have e6 : p ++ y :: m ++ x :: s = p ++ [y] ++ m ++ x :: s := by simp
        rw [e6]
        exact this.to (by simp)
theorem reverse_ev (m : List Int) (hl : m.length ≤ 1152921504606846976) : Ev (fun k => slices_Reverse_uint64 k m) m.reverse := by
  have := reverse_l0 m.length m [] [] (Nat.le_refl _) (by simpa using hl)
  simp only [List.nil_append, List.append_nil, List.length_nil] at this
  have w : w64 ((m.length : Int) - 1) = (m.length : Int) - 1 := w64_of (by omega) (by omega)
  simp only [slices_Reverse_uint64, w]
  exact this
theorem equal_l0 (a b : List Int) (hab : a.length = b.length) (hl : a.length ≤ 1152921504606846976) : ∀ s p t, a = p ++ s → b = p ++ t → Ev (fun k => slices_Equal_uint64.l0 a b k (p.length : Int)) (decide (s = t)) := by
  intro s
  induction s with
  | nil =>
    intro p t ha hb
    obtain rfl : t = [] := by rw [ha, hb] at hab; simpa using hab
    subst ha
    refine Ev.succ ?_
    simp only [slices_Equal_uint64.l0, lt_end, Bool.false_eq_true, if_false]
    exact Ev.ret.to (by simp)
  | cons x s ih =>
    intro p t ha hb
    cases t with
    | nil => rw [ha, hb] at hab; simp at hab
    | cons y t =>
      have e1 : idx a (p.length : Int) = some x := by rw [ha]; exact idx_at _ _ _
      have e2 : idx b (p.length : Int) = some y := by rw [hb]; exact idx_at _ _ _
      have hd : decide ((p.length : Int) < (a.length : Int)) = true := by rw [ha]; exact lt_at _ _ _
      have hw : w64 ((p.length : Int) + 1) = ((p ++ [x]).length : Int) := by rw [ha] at hl; simp at hl; rw [wS (by omega)]; simp
      refine Ev.succ ?_
      simp only [slices_Equal_uint64.l0, hd, if_true, e1, e2, Option.bind_some]
      by_cases hxy : x = y
      · subst hxy
        simp only [bne_self_eq_false, Bool.false_eq_true, if_false, hw]
        exact (ih (p ++ [x]) t (by simp [ha]) (by simp [hb])).to (by simp)
      · have hb : (x != y) = true := by simpa using hxy
        simp only [hb, if_true]
        exact Ev.ret.to (by simp [hxy])
theorem equal_ev (a b : List Int) (hl : b.length ≤ 1152921504606846976) : Ev (fun k => slices_Equal_uint64 k a b) (decide (a = b)) := by
  by_cases h : a.length = b.length
  · have hb : ((a.length : Int) != (b.length : Int)) = false := by simp [h]
    simp only [slices_Equal_uint64, hb, Bool.false_eq_true, if_false]
    exact equal_l0 a b h (by omega) a [] b rfl rfl
  · have hb : ((a.length : Int) != (b.length : Int)) = true := by simp; omega
    simp only [slices_Equal_uint64, hb, if_true]
    exact Ev.ret.to (by simp; intro e; subst e; exact h rfl)
theorem unlikeU_ev (a0 : List Int) (hl : a0.length ≤ 1152921504606846976) : Ev (fun k => tomb_unlike_uint64 k a0) (uq (fun x y : Int => x < y) a0) := by
  refine Ev.congr (fun k => ?_) (unlike_uint64 a0 hl)
  simp only [tomb_unlike_uint64]
  cases slices_Sort_uint64 k a0 with
  | none => rfl
  | some r => simp only [Option.bind_some]; cases slices_Compact_uint64 k r <;> rfl
theorem unlikeS_ev (a0 : List ByteArray) (hl : a0.length ≤ 1152921504606846976) : Ev (fun k => tomb_unlike_string k a0) (uq slt a0) := by
  refine Ev.congr (fun k => ?_) (unlike_string a0 hl)
  simp only [tomb_unlike_string]
  cases slices_Sort_string k a0 with
  | none => rfl
  | some r => simp only [Option.bind_some]; cases slices_Compact_string k r <;> rfl
def onSeg (b e : ByteArray) (t : Tomb) : Bool := decide (sle t.Begin b) && decide (sle e t.End)
def seqsOf (l : List Tomb) (b e : ByteArray) : List Int := (uq (fun x y : Int => x < y) ((l.filter (onSeg b e)).map (·.Seq))).reverse
def addF (out : List Fragment) (b e : ByteArray) (s : List Int) : List Fragment :=
  if s = [] then out else
  match out.getLast? with
  | some f => if f.End = b ∧ f.Seqs = s then out.dropLast ++ [⟨f.Begin, e, f.Seqs⟩] else out ++ [⟨b, e, s⟩]
  | none => out ++ [⟨b, e, s⟩]
def build (l : List Tomb) : ByteArray → List ByteArray → List Fragment → List Fragment
  | _, [], out => out
  | b, e :: r, out => build l e r (addF out b e (seqsOf l b e))
def endsOf (l : List Tomb) : List ByteArray := l.flatMap fun t => [t.Begin, t.End]
def fragsU (l : List Tomb) : List ByteArray → List Fragment
  | [] => []
  | b :: r => build l b r []
def frags (l : List Tomb) : List Fragment := fragsU l (uq slt (endsOf l))
theorem addF_len (out : List Fragment) (b e : ByteArray) (s : List Int) : (addF out b e s).length ≤ out.length + 1 := by
  unfold addF
  split
  · omega
  · split
    · split
      · simp
      · simp
    · simp
theorem frag_l2 (r1 : List Tomb) (b e : ByteArray) (h : r1.length < 28147497670912) : ∀ s p acc, r1 = p ++ s → acc.length ≤ p.length → EvC (fun J k => tomb_Fragments.l2 r1 b e J k acc (p.length : Int)) (acc ++ (s.filter (onSeg b e)).map (·.Seq)) := by
  intro s
  induction s with
  | nil =>
    intro p acc hl ha
    subst hl
    refine EvC.succ ?_
    simp only [tomb_Fragments.l2, lt_end, Bool.false_eq_true, if_false]
    simpa using EvC.ret
  | cons x s ih =>
    intro p acc hl ha
    have hm : (p ++ x :: s).length ≤ maxLen := by rw [maxLen_val, ← hl]; omega
    have hp : p.length < 28147497670912 := by rw [hl] at h; simp at h; omega
    subst hl
    by_cases hx : onSeg b e x = true
    · have hx' := hx
      simp only [onSeg, Bool.and_eq_true, ← sLe_dec] at hx'
      refine EvC.succ ?_
      simp only [tomb_Fragments.l2, lt_at, if_true, Jn, idx_at, Option.bind_some, step_at p s x hm, hx'.1, hx'.2, Bool.and_self, push_ok (xs := acc) (x := x.Seq) (Nat.lt_of_le_of_lt ha hp)]
      exact (ih (p ++ [x]) (acc ++ [x.Seq]) (by simp) (by simp; omega)).to (by simp [hx])
    · have hx' : ((sLt x.Begin b || sEq x.Begin b) && (sLt e x.End || sEq e x.End)) = false := by
        rw [sLe_dec, sLe_dec]; simpa [onSeg] using hx
      refine EvC.succ ?_
      simp only [tomb_Fragments.l2, lt_at, if_true, Jn, idx_at, Option.bind_some, step_at p s x hm, hx', Bool.false_eq_true, if_false]
      exact (ih (p ++ [x]) acc (by simp) (by simp; omega)).to (by simp [hx])
theorem frag_l1 (r1 : List Tomb) (us : List ByteArray) (h : r1.length < 1099511627776) (hu : us.length < 2199023255552) : ∀ s p b acc, us = p ++ b :: s → acc.length ≤ p.length →
    EvC (fun J k => tomb_Fragments.l1 r1 us J k acc ((p.length + 1 : Nat) : Int)) (build r1 b s acc) := by
  intro s
  induction s with
  | nil =>
    intro p b acc hl ha
    refine EvC.succ ?_
    have hd : decide (((p.length + 1 : Nat) : Int) < (us.length : Int)) = false := decide_eq_false (by rw [hl]; simp)
    simp only [tomb_Fragments.l1, hd, Bool.false_eq_true, if_false]
    exact EvC.ret
  | cons e s ih =>
    intro p b acc hl ha
    have hlen : us.length = p.length + 2 + s.length := by rw [hl]; simp; omega
    have hd : decide (((p.length + 1 : Nat) : Int) < (us.length : Int)) = true := decide_eq_true (by omega)
    have i1 : idx us ((p.length : Nat) : Int) = some b := by rw [hl]; exact idx_at _ _ _
    have i2 : idx us ((p.length + 1 : Nat) : Int) = some e := idx_as (p := p ++ [b]) (s := s) (by simp [hl]) (by simp)
    have w1 : w64 (((p.length + 1 : Nat) : Int) - 1) = (p.length : Int) := by rw [wP (by omega) (by omega)]; rfl
    have w2 : w64 (((p.length + 1 : Nat) : Int) + 1) = ((p.length + 1 + 1 : Nat) : Int) := wS (by omega)
    obtain ⟨n2, h2⟩ := frag_l2 r1 b e (by omega) r1 [] [] rfl (Nat.le_refl _)
    dsimp only at h2
    simp only [List.nil_append, List.length_nil, Int.natCast_zero] at h2
    obtain ⟨vals, hv⟩ : ∃ vals, vals = (r1.filter (onSeg b e)).map (·.Seq) := ⟨_, rfl⟩
    have hvl : vals.length ≤ r1.length := by rw [hv, List.length_map]; exact List.length_filter_le _ _
    rw [← hv] at h2
    have hsq : seqsOf r1 b e = (uq (fun x y : Int => x < y) vals).reverse := by unfold seqsOf; rw [hv]
    have hih := ih (p ++ [b]) e (addF acc b e (seqsOf r1 b e)) (by simp [hl]) (by have := addF_len acc b e (seqsOf r1 b e); simp; omega)
    simp only [List.length_append, List.length_singleton] at hih
    obtain ⟨n3, h3⟩ := hih
    dsimp only at h3
    by_cases hnil : vals = []
    · have ha2 : addF acc b e (seqsOf r1 b e) = acc := by unfold addF; rw [if_pos (by rw [hsq, hnil]; rfl)]
      rw [ha2] at h3
      refine ⟨max n2 n3 + 1, fun k hk J => ?_⟩
      obtain ⟨k, rfl⟩ : ∃ j, k = j + 1 := ⟨k - 1, by omega⟩
      simp only [tomb_Fragments.l1, hd, if_true, Jn, i1, i2, w1, w2, Option.bind_some, h2 k (by omega), hnil, List.length_nil, Int.natCast_zero, beq_self_eq_true, build, ha2]
      exact h3 k (by omega) J
    · have hne : ((vals.length : Int) == 0) = false := by simp; exact hnil
      obtain ⟨n4, h4⟩ := unlikeU_ev vals (by omega)
      obtain ⟨n5, h5⟩ := reverse_ev (uq (fun x y : Int => x < y) vals) (Nat.le_trans (uq_len _) (by omega))
      dsimp only at h4 h5
      rw [← hsq] at h5
      have hs0 : seqsOf r1 b e ≠ [] := by
        rw [hsq]
        intro h0
        obtain ⟨x, hx⟩ := List.exists_mem_of_ne_nil _ hnil
        have := (mem_uq so_int).2 hx
        rw [List.reverse_eq_nil_iff.1 h0] at this
        simp at this
      obtain ⟨sq, hsq'⟩ : ∃ sq, sq = seqsOf r1 b e := ⟨_, rfl⟩
      rw [← hsq'] at h5 hs0 h3
      rcases nil_or_snoc acc with rfl | ⟨acc, f, rfl⟩
      · have ha2 : addF [] b e sq = [⟨b, e, sq⟩] := by unfold addF; rw [if_neg hs0]; rfl
        rw [ha2] at h3
        refine ⟨max n2 (max n3 (max n4 n5)) + 1, fun k hk J => ?_⟩
        obtain ⟨k, rfl⟩ : ∃ j, k = j + 1 := ⟨k - 1, by omega⟩
        have hz : decide ((0 : Int) < ((([] : List Fragment).length : Nat) : Int)) = false := by decide
        simp only [tomb_Fragments.l1, hd, if_true, Jn, i1, i2, w1, w2, Option.bind_some, h2 k (by omega), hne, Bool.false_eq_true, if_false, h4 k (by omega), h5 k (by omega), hz, push_ok (xs := ([] : List Fragment)) (x := (⟨b, e, sq⟩ : Fragment)) (N := 4021071095713) (by simp), List.nil_append, build, ← hsq', ha2]
        exact h3 k (by omega) J
      · simp only [List.length_append, List.length_singleton] at ha
        have hz : decide ((0 : Int) < (((acc ++ [f]).length : Nat) : Int)) = true := decide_eq_true (by simp)
        have wl : w64 (((acc ++ [f]).length : Int) - 1) = (acc.length : Int) := by
          simp only [List.length_append, List.length_singleton]; rw [wP (by omega) (by omega)]; rfl
        have il : idx (acc ++ [f]) (acc.length : Int) = some f := idx_at acc f []
        obtain ⟨n7, h7⟩ := equal_ev f.Seqs sq (by rw [hsq', hsq, List.length_reverse]; exact Nat.le_trans (uq_len _) (by omega))
        dsimp only at h7
        by_cases he : f.End = b
        · by_cases hq : f.Seqs = sq
          · have ha2 : addF (acc ++ [f]) b e sq = acc ++ [⟨f.Begin, e, f.Seqs⟩] := by unfold addF; rw [if_neg hs0]; simp [he, hq]
            rw [ha2] at h3
            refine ⟨max n2 (max n3 (max n4 (max n5 n7))) + 1, fun k hk J => ?_⟩
            obtain ⟨k, rfl⟩ : ∃ j, k = j + 1 := ⟨k - 1, by omega⟩
            simp only [tomb_Fragments.l1, hd, if_true, Jn, i1, i2, w1, w2, Option.bind_some, h2 k (by omega), hne, Bool.false_eq_true, if_false, h4 k (by omega), h5 k (by omega), hz, wl, il, sEq_iff.2 he, h7 k (by omega), decide_eq_true hq, upd_at, build, ← hsq', ha2]
            exact h3 k (by omega) J
          · have ha2 : addF (acc ++ [f]) b e sq = acc ++ [f] ++ [⟨b, e, sq⟩] := by unfold addF; rw [if_neg hs0]; simp [hq]
            rw [ha2] at h3
            refine ⟨max n2 (max n3 (max n4 (max n5 n7))) + 1, fun k hk J => ?_⟩
            obtain ⟨k, rfl⟩ : ∃ j, k = j + 1 := ⟨k - 1, by omega⟩
            simp only [tomb_Fragments.l1, hd, if_true, Jn, i1, i2, w1, w2, Option.bind_some, h2 k (by omega), hne, Bool.false_eq_true, if_false, h4 k (by omega), h5 k (by omega), hz, wl, il, sEq_iff.2 he, h7 k (by omega), decide_eq_false hq, push_ok (xs := acc ++ [f]) (x := (⟨b, e, sq⟩ : Fragment)) (N := 4021071095713) (by simp; omega), build, ← hsq', ha2]
            exact h3 k (by omega) J
        · have ha2 : addF (acc ++ [f]) b e sq = acc ++ [f] ++ [⟨b, e, sq⟩] := by unfold addF; rw [if_neg hs0]; simp [he]
          rw [ha2] at h3
          refine ⟨max n2 (max n3 (max n4 n5)) + 1, fun k hk J => ?_⟩
          obtain ⟨k, rfl⟩ : ∃ j, k = j + 1 := ⟨k - 1, by omega⟩
          simp only [tomb_Fragments.l1, hd, if_true, Jn, i1, i2, w1, w2, Option.bind_some, h2 k (by omega), hne, Bool.false_eq_true, if_false, h4 k (by omega), h5 k (by omega), hz, wl, il, sEq_false.2 he, push_ok (xs := acc ++ [f]) (x := (⟨b, e, sq⟩ : Fragment)) (N := 4021071095713) (by simp; omega), build, ← hsq', ha2]
          exact h3 k (by omega) J
theorem frag_l0 (r1 : List Tomb) (h : r1.length < 1099511627776) : ∀ s p acc, r1 = p ++ s → acc.length = 2 * p.length → Ev (fun k => tomb_Fragments.l0 r1 k acc (p.length : Int)) (fragsU r1 (uq slt (acc ++ endsOf s))) := by
  intro s
  induction s with
  | nil =>
    intro p acc hl ha
    have hpl : r1.length = p.length := by rw [hl]; simp
    refine Ev.succ ?_
    have hd : decide ((p.length : Int) < (r1.length : Int)) = false := decide_eq_false (by omega)
    simp only [tomb_Fragments.l0, hd, Bool.false_eq_true, if_false]
    have hz : endsOf [] = [] := rfl
    rw [hz, List.append_nil]
    refine Ev.bind (unlikeS_ev acc (by omega)) ?_
    have hul : (uq slt acc).length < 2199023255552 := Nat.lt_of_le_of_lt (uq_len _) (by omega)
    obtain ⟨us, hus⟩ : ∃ us, us = uq slt acc := ⟨_, rfl⟩
    rw [← hus] at hul ⊢
    simp only [Jn]
    cases us with
    | nil =>
      refine Ev.succ ?_
      have hd : decide ((1 : Int) < ((([] : List ByteArray).length : Nat) : Int)) = false := by decide
      simp only [tomb_Fragments.l1, hd, Bool.false_eq_true, if_false]
      exact Ev.ret
    | cons b r =>
      have := frag_l1 r1 (b :: r) h hul r [] b [] rfl (Nat.le_refl _)
      exact this.ev (J := fun _ l => some l) Ev.ret
  | cons x s ih =>
    intro p acc hl ha
    have hpl : r1.length = p.length + 1 + s.length := by rw [hl]; simp; omega
    have hm : (p ++ x :: s).length ≤ maxLen := by rw [maxLen_val, ← hl]; omega
    refine Ev.succ ?_
    have e1 : idx r1 (p.length : Int) = some x := by rw [hl]; exact idx_at _ _ _
    have hd : decide ((p.length : Int) < (r1.length : Int)) = true := decide_eq_true (by omega)
    simp only [tomb_Fragments.l0, hd, if_true, e1, Option.bind_some, pushN_ok (xs := acc) (zs := [x.Begin, x.End]) (N := 14073748835379) (by simp; omega), step_at p s x hm]
    exact (ih (p ++ [x]) (acc ++ [x.Begin, x.End]) (by simp [hl]) (by simp; omega)).to (by simp [endsOf])
theorem frags_ev (l : List Tomb) (h : l.length < 1099511627776) : Ev (fun k => tomb_Fragments k l) (frags (l.filter okT)) := by
  simp only [tomb_Fragments]
  refine Ev.bind (valid_ev l (by omega)) ?_
  have := frag_l0 (l.filter okT) (Nat.lt_of_le_of_lt (List.length_filter_le _ _) h) (l.filter okT) [] [] rfl rfl
  simpa [frags] using this
end Go.Proofs.YtmbhgfigffahbaaDoor.Mo

set_option maxRecDepth 100000
namespace Go.Proofs.YtmbhgfigffahbaaDoor.Mo
open Go Go.Proofs.YtmbhgfigffahbaaDoor.Sy
def onKey (key : ByteArray) (t : Tomb) : Bool := decide (sle t.Begin key) && decide (slt key t.End)
/-- The numbers of the tombs that cover a key, falling, each once. -/
def covS (l : List Tomb) (key : ByteArray) : List Int := (uq (fun x y : Int => x < y) ((l.filter (onKey key)).map (·.Seq))).reverse
theorem mem_covS {l : List Tomb} {key : ByteArray} {n : Int} : n ∈ covS l key ↔ ∃ t ∈ l, onKey key t = true ∧ t.Seq = n := by
  unfold covS
  rw [List.mem_reverse, mem_uq so_int]
  simp [and_assoc]
theorem covS_pw (l : List Tomb) (key : ByteArray) : (covS l key).Pairwise (fun x y => y < x) := by
  unfold covS
  rw [List.pairwise_reverse]
  exact uq_pw so_int _
theorem covS_seg {l : List Tomb} {b e key : ByteArray} (h1 : sle b key) (h2 : slt key e) (hc : ∀ t ∈ l, (sle t.Begin b ∨ sle e t.Begin) ∧ (sle t.End b ∨ sle e t.End)) : covS l key = seqsOf l b e := by
  unfold covS seqsOf
  congr 3
  refine List.filter_congr fun t ht => ?_
  obtain ⟨c1, c2⟩ := hc t ht
  unfold onKey onSeg
  congr 1
  · refine decide_eq_decide.2 ⟨fun h => ?_, fun h => sle_trans h h1⟩
    rcases c1 with c | c
    · exact c
    · exact absurd (slt_of_le_lt h h2) c
  · refine decide_eq_decide.2 ⟨fun h => ?_, fun h => slt_of_lt_le h2 h⟩
    rcases c2 with c | c
    · exact absurd (slt_of_le_lt h1 h) c
    · exact c
structure FI (l : List Tomb) (b : ByteArray) (out : List Fragment) : Prop where
  ok : ∀ f ∈ out, slt f.Begin f.End ∧ f.Seqs ≠ [] ∧ sle f.End b ∧ ∀ key, sle f.Begin key → slt key f.End → f.Seqs = covS l key
  pw : out.Pairwise fun f g => sle f.End g.Begin
  all : ∀ key, slt key b → covS l key ≠ [] → ∃ f ∈ out, sle f.Begin key ∧ slt key f.End
theorem FI.step {l : List Tomb} {b e : ByteArray} {out : List Fragment} (h : FI l b out) (hbe : slt b e) (hc : ∀ t ∈ l, (sle t.Begin b ∨ sle e t.Begin) ∧ (sle t.End b ∨ sle e t.End)) : FI l e (addF out b e (seqsOf l b e)) := by
  have hseg : ∀ key, sle b key → slt key e → covS l key = seqsOf l b e := fun key h1 h2 => covS_seg h1 h2 hc
  have hbs : sle b e := sle_of_lt hbe
  have two : ∀ key, slt key e → slt key b ∨ sle b key := fun key _ => by
    rcases slt_tri key b with k | k | k
    · exact .inl k
    · subst k; exact .inr (sle_refl _)
    · exact .inr (sle_of_lt k)
  unfold addF
  split
  · rename_i hs
    refine ⟨fun f hf => ?_, h.pw, fun key hk hne => ?_⟩
    · obtain ⟨h1, h2, h3, h4⟩ := h.ok f hf
      exact ⟨h1, h2, sle_trans h3 hbs, h4⟩
    · rcases two key hk with k | k
      · exact h.all key k hne
      · exact absurd ((hseg key k hk).trans hs) hne
  · rename_i hs
    have pushed : FI l e (out ++ [⟨b, e, seqsOf l b e⟩]) := by
      refine ⟨fun f hf => ?_, ?_, fun key hk hne => ?_⟩
      · rcases List.mem_append.1 hf with hf | hf
        · obtain ⟨h1, h2, h3, h4⟩ := h.ok f hf
          exact ⟨h1, h2, sle_trans h3 hbs, h4⟩
        · simp at hf; subst hf
          exact ⟨hbe, hs, sle_refl _, fun key h1 h2 => (hseg key h1 h2).symm⟩
      · refine List.pairwise_append.2 ⟨h.pw, List.pairwise_singleton _ _, fun f hf g hg => ?_⟩
        simp at hg; subst hg
        exact (h.ok f hf).2.2.1
      · rcases two key hk with k | k
        · obtain ⟨f, hf, q⟩ := h.all key k hne
          exact ⟨f, by simp [hf], q⟩
        · exact ⟨⟨b, e, seqsOf l b e⟩, by simp, k, hk⟩
    split
    · rename_i f hf
      obtain ⟨out', rfl⟩ : ∃ out', out = out' ++ [f] := by
        rcases nil_or_snoc out with rfl | ⟨o, x, rfl⟩
        · simp at hf
        · simp at hf; subst hf; exact ⟨o, rfl⟩
      split
      · rename_i hfe
        obtain ⟨hfe, hfs⟩ := hfe
        obtain ⟨k1, k2, k3, k4⟩ := h.ok f (by simp)
        simp only [List.dropLast_concat]
        obtain ⟨p1, p2, p3⟩ := List.pairwise_append.1 h.pw
        refine ⟨fun g hg => ?_, ?_, fun key hk hne => ?_⟩
        · rcases List.mem_append.1 hg with hg | hg
          · obtain ⟨h1, h2, h3, h4⟩ := h.ok g (by simp [hg])
            exact ⟨h1, h2, sle_trans h3 hbs, h4⟩
          · simp at hg; subst hg
            refine ⟨slt_trans (by rw [← hfe]; exact k1) hbe, k2, sle_refl _, fun key h1 h2 => ?_⟩
            rcases two key h2 with k | k
            · exact k4 key h1 (by rw [hfe]; exact k)
            · show f.Seqs = _
              rw [hfs]; exact (hseg key k h2).symm
        · refine List.pairwise_append.2 ⟨p1, List.pairwise_singleton _ _, fun g hg g' hg' => ?_⟩
          simp at hg'; subst hg'
          exact p3 g hg f (by simp)
        · rcases two key hk with k | k
          · obtain ⟨g, hg, q1, q2⟩ := h.all key k hne
            rcases List.mem_append.1 hg with hg | hg
            · exact ⟨g, by simp [hg], q1, q2⟩
            · simp at hg; subst hg
              exact ⟨⟨g.Begin, e, g.Seqs⟩, by simp, q1, hk⟩
          · exact ⟨⟨f.Begin, e, f.Seqs⟩, by simp, sle_trans (sle_of_lt (by rw [← hfe]; exact k1)) k, hk⟩
      · exact pushed
    · exact pushed
theorem build_FI {l : List Tomb} : ∀ (s : List ByteArray) (b : ByteArray) (out : List Fragment), (b :: s).Pairwise slt → (∀ t ∈ l, (sle t.Begin b ∨ t.Begin ∈ s) ∧ (sle t.End b ∨ t.End ∈ s)) → FI l b out → ∃ b', (∀ t ∈ l, sle t.End b') ∧ FI l b' (build l b s out)
  | [], b, out, _, hm, h => ⟨b, fun t ht => by rcases (hm t ht).2 with k | k; exact k; simp at k, h⟩
  | e :: s, b, out, hp, hm, h => by
    have hp' := List.pairwise_cons.1 hp
    have hp2 := List.pairwise_cons.1 hp'.2
    have split : ∀ x, (sle x b ∨ x ∈ e :: s) → (sle x b ∨ sle e x) ∧ (sle x e ∨ x ∈ s) := fun x hx => by
      rcases hx with k | k
      · exact ⟨.inl k, .inl (sle_trans k (sle_of_lt (hp'.1 e (by simp))))⟩
      · rcases List.mem_cons.1 k with k | k
        · subst k; exact ⟨.inr (sle_refl _), .inl (sle_refl _)⟩
        · exact ⟨.inr (sle_of_lt (hp2.1 x k)), .inr k⟩
    refine build_FI s e _ hp'.2 (fun t ht => ⟨(split _ (hm t ht).1).2, (split _ (hm t ht).2).2⟩) ?_
    exact h.step (hp'.1 e (by simp)) fun t ht => ⟨(split _ (hm t ht).1).1, (split _ (hm t ht).2).1⟩
theorem frags_spec (l : List Tomb) : (∀ f ∈ frags l, slt f.Begin f.End ∧ f.Seqs ≠ [] ∧ ∀ key, sle f.Begin key → slt key f.End → f.Seqs = covS l key) ∧ (frags l).Pairwise (fun f g => sle f.End g.Begin) ∧
    (∀ key, covS l key ≠ [] → ∃ f ∈ frags l, sle f.Begin key ∧ slt key f.End) := by
  have hmem : ∀ t ∈ l, t.Begin ∈ uq slt (endsOf l) ∧ t.End ∈ uq slt (endsOf l) := fun t ht => by
    rw [mem_uq so_str, mem_uq so_str]
    unfold endsOf
    rw [List.mem_flatMap, List.mem_flatMap]
    exact ⟨⟨t, ht, by simp⟩, ⟨t, ht, by simp⟩⟩
  have hpw := uq_pw so_str (endsOf l)
  unfold frags
  cases hu : uq slt (endsOf l) with
  | nil =>
    rw [hu] at hmem
    refine ⟨fun f hf => by simp [fragsU] at hf, List.Pairwise.nil, fun key hne => ?_⟩
    obtain ⟨n, hn⟩ := List.exists_mem_of_ne_nil _ hne
    obtain ⟨t, ht, _⟩ := mem_covS.1 hn
    have := (hmem t ht).1
    simp at this
  | cons b s =>
    rw [hu] at hmem hpw
    have hb := (List.pairwise_cons.1 hpw).1
    have hle : ∀ x, x ∈ b :: s → sle b x := fun x hx => by
      rcases List.mem_cons.1 hx with e | e
      · subst e; exact sle_refl _
      · exact sle_of_lt (hb x e)
    have start : FI l b [] := by
      refine ⟨fun f hf => by simp at hf, List.Pairwise.nil, fun key hk hne => ?_⟩
      obtain ⟨n, hn⟩ := List.exists_mem_of_ne_nil _ hne
      obtain ⟨t, ht, hk2, _⟩ := mem_covS.1 hn
      unfold onKey at hk2
      simp only [Bool.and_eq_true, decide_eq_true_eq] at hk2
      exact absurd (slt_of_le_lt (sle_trans (hle _ (hmem t ht).1) hk2.1) hk) (slt_irrefl _)
    obtain ⟨b', hend, hF⟩ := build_FI (l := l) s b [] hpw (fun t ht => by
      obtain ⟨h1, h2⟩ := hmem t ht
      refine ⟨?_, ?_⟩
      · rcases List.mem_cons.1 h1 with e | e
        · exact .inl (by rw [e]; exact sle_refl _)
        · exact .inr e
      · rcases List.mem_cons.1 h2 with e | e
        · exact .inl (by rw [e]; exact sle_refl _)
        · exact .inr e) start
    refine ⟨fun f hf => ?_, hF.pw, fun key hne => ?_⟩
    · obtain ⟨h1, h2, h3, h4⟩ := hF.ok f hf
      exact ⟨h1, h2, h4⟩
    · obtain ⟨n, hn⟩ := List.exists_mem_of_ne_nil _ hne
      obtain ⟨t, ht, hk2, _⟩ := mem_covS.1 hn
      unfold onKey at hk2
      simp only [Bool.and_eq_true, decide_eq_true_eq] at hk2
      exact hF.all key (slt_of_lt_le hk2.2 (hend t ht)) hne
end Go.Proofs.YtmbhgfigffahbaaDoor.Mo

set_option maxRecDepth 100000
namespace Go.Proofs.YtmbhgfigffahbaaDoor.Mo
open Go Go.Proofs.YtmbhgfigffahbaaDoor.Sy
theorem build_len (l : List Tomb) : ∀ (s : List ByteArray) (b : ByteArray) (out : List Fragment), (build l b s out).length ≤ out.length + s.length
  | [], _, out => by simp [build]
  | e :: s, b, out => by
    have h1 := build_len l s e (addF out b e (seqsOf l b e))
    have h2 := addF_len out b e (seqsOf l b e)
    rw [build, List.length_cons]
    omega
theorem ends_len (l : List Tomb) : (endsOf l).length = 2 * l.length := by
  unfold endsOf
  induction l with
  | nil => rfl
  | cons x l ih => rw [List.flatMap_cons, List.length_append, ih]; simp; omega
theorem frags_len (l : List Tomb) : (frags l).length ≤ 2 * l.length := by
  have h := uq_len (lt := slt) (endsOf l)
  rw [ends_len] at h
  unfold frags
  cases hu : uq slt (endsOf l) with
  | nil => simp [fragsU]
  | cons b r =>
    have := build_len l r b []
    rw [hu] at h
    simp only [List.length_cons, List.length_nil] at this h
    show (build l b r []).length ≤ _
    omega
theorem covS_len (l : List Tomb) (key : ByteArray) : (covS l key).length ≤ l.length := by
  unfold covS
  rw [List.length_reverse]
  exact Nat.le_trans (uq_len _) (by rw [List.length_map]; exact List.length_filter_le _ _)
theorem frags_seqs {l : List Tomb} {f : Fragment} (hf : f ∈ frags l) : f.Seqs.length ≤ l.length := by
  obtain ⟨h1, h2, h3⟩ := (frags_spec l).1 f hf
  rw [h3 f.Begin (sle_refl _) h1]
  exact covS_len _ _
def onF (key : ByteArray) (f : Fragment) : Bool := !(sLt key f.Begin || !sLt key f.End)
def setF (key : ByteArray) (n : Int) : List Fragment → Option Int
  | [] => none
  | f :: s => if onF key f = true then (match f.Seqs.find? (fun x => decide (x ≤ n)) with
    | some v => some v
    | none => setF key n s) else setF key n s
def setC (key : ByteArray) (n : Int) (fs : List Fragment) : Int × Bool := match setF key n fs with
  | some v => (v, true)
  | none => (0, false)
theorem onF_iff {key : ByteArray} {f : Fragment} : onF key f = true ↔ sle f.Begin key ∧ slt key f.End := by
  unfold onF
  rw [Bool.not_eq_true', Bool.or_eq_false_iff, sLt_false, Bool.not_eq_false', sLt_iff]
  rfl
theorem setF_all {key : ByteArray} {n : Int} {o : Option Int} : ∀ (fs : List Fragment), (∀ f ∈ fs, onF key f = true → f.Seqs.find? (fun x => decide (x ≤ n)) = o) → setF key n fs = none ∨ setF key n fs = o
  | [], _ => .inl rfl
  | f :: s, h => by
    have ih := setF_all s fun g hg => h g (List.mem_cons_of_mem _ hg)
    rw [setF]
    by_cases hc : onF key f = true
    · rw [if_pos hc, h f (by simp) hc]
      cases o with
      | none => exact ih.elim .inl .inl
      | some v => exact .inr rfl
    · rw [if_neg hc]; exact ih
theorem setF_some {key : ByteArray} {n v : Int} : ∀ (fs : List Fragment), (∀ f ∈ fs, onF key f = true → f.Seqs.find? (fun x => decide (x ≤ n)) = some v) → (∃ f ∈ fs, onF key f = true) → setF key n fs = some v
  | [], _, h => by obtain ⟨f, hf, _⟩ := h; simp at hf
  | f :: s, h, ⟨g, hg, hc⟩ => by
    rw [setF]
    by_cases hf : onF key f = true
    · rw [if_pos hf, h f (by simp) hf]
    · rw [if_neg hf]
      rcases List.mem_cons.1 hg with e | e
      · subst e; exact absurd hc hf
      · exact setF_some s (fun g hg => h g (List.mem_cons_of_mem _ hg)) ⟨g, e, hc⟩
theorem setF_eq (l : List Tomb) (key : ByteArray) (n : Int) : setF key n (frags l) = (covS l key).find? (fun x => decide (x ≤ n)) := by
  obtain ⟨h1, _, h3⟩ := frags_spec l
  have hs : ∀ f ∈ frags l, onF key f = true → f.Seqs.find? (fun x => decide (x ≤ n)) = (covS l key).find? (fun x => decide (x ≤ n)) := fun f hf hc => by
    rw [onF_iff] at hc
    rw [(h1 f hf).2.2 key hc.1 hc.2]
  cases hf : (covS l key).find? (fun x => decide (x ≤ n)) with
  | none =>
    rw [hf] at hs
    rcases setF_all (frags l) hs with e | e <;> exact e
  | some v =>
    rw [hf] at hs
    refine setF_some _ hs ?_
    have hne : covS l key ≠ [] := fun e => by rw [e] at hf; simp at hf
    obtain ⟨f, g1, g2, g3⟩ := h3 key hne
    exact ⟨f, g1, onF_iff.2 ⟨g2, g3⟩⟩
theorem pw_find {n : Int} : ∀ {l : List Int}, l.Pairwise (fun x y => y < x) → ∀ {v}, l.find? (fun x => decide (x ≤ n)) = some v → v ∈ l ∧ v ≤ n ∧ ∀ x ∈ l, x ≤ n → x ≤ v
  | [], _, v, h => by simp at h
  | a :: l, hp, v, h => by
    have hp' := List.pairwise_cons.1 hp
    rw [List.find?_cons] at h
    by_cases ha : a ≤ n
    · rw [decide_eq_true ha] at h
      simp at h
      subst h
      refine ⟨by simp, ha, fun x hx _ => ?_⟩
      rcases List.mem_cons.1 hx with e | e
      · omega
      · have := hp'.1 x e; omega
    · rw [decide_eq_false ha] at h
      obtain ⟨h1, h2, h3⟩ := pw_find hp'.2 h
      refine ⟨List.mem_cons_of_mem _ h1, h2, fun x hx hn => ?_⟩
      rcases List.mem_cons.1 hx with e | e
      · subst e; exact absurd hn ha
      · exact h3 x e hn
theorem cov_iff {key : ByteArray} {n : Int} {t : Tomb} : cov key n t = true ↔ okT t = true ∧ t.Seq ≤ n ∧ onKey key t = true := by
  unfold cov onKey
  rw [sLe_dec, sLt_dec]
  simp only [Bool.and_eq_true, decide_eq_true_eq, and_assoc]
/-- A set says of a key what its tombs say. -/
theorem setC_eq (l : List Tomb) (hs : ∀ t ∈ l, 0 ≤ t.Seq) (key : ByteArray) (n : Int) : setC key n (frags (l.filter okT)) = covers key n l (0, false) := by
  have hok := covers_ok key n l (0, false)
  obtain ⟨c2, c3, c4⟩ := covers_max key n l (0, false)
  unfold setC
  rw [setF_eq]
  cases hf : (covS (l.filter okT) key).find? (fun x => decide (x ≤ n)) with
  | none =>
    have hno : ∀ t ∈ l, ¬ cov key n t = true := fun t ht hc => by
      obtain ⟨h1, h2, h3⟩ := cov_iff.1 hc
      rw [List.find?_eq_none] at hf
      have := hf t.Seq (mem_covS.2 ⟨t, List.mem_filter.2 ⟨ht, h1⟩, h3, rfl⟩)
      simp at this
      omega
    refine Prod.ext ?_ ?_
    · rcases c4 with e | ⟨x, hx, hc, _⟩
      · exact e.symm
      · exact absurd hc (hno x hx)
    · simp only
      symm
      rw [Bool.eq_false_iff]
      intro h
      rcases hok.1 h with e | ⟨x, hx, hc⟩
      · cases e
      · exact hno x hx hc
  | some v =>
    obtain ⟨h1, h2, h3⟩ := pw_find (covS_pw (l.filter okT) key) hf
    obtain ⟨t, ht, hk, rfl⟩ := mem_covS.1 h1
    obtain ⟨ht1, ht2⟩ := List.mem_filter.1 ht
    have hc : cov key n t = true := cov_iff.2 ⟨ht2, h2, hk⟩
    refine Prod.ext ?_ ?_
    · have hge := c3 t ht1 hc
      simp only at c4 ⊢
      rcases c4 with e | ⟨x, hx, hcx, e⟩
      · have := hs t ht1; omega
      · obtain ⟨x1, x2, x3⟩ := cov_iff.1 hcx
        have := h3 x.Seq (mem_covS.2 ⟨x, List.mem_filter.2 ⟨hx, x1⟩, x3, rfl⟩) x2
        omega
    · exact (hok.2 (.inr ⟨t, ht1, hc⟩)).symm
theorem clone_eq (l : List Tomb) (h : l.length ≤ 3518437208883) : slices_Clone_Tomb l = some l := by
  simp only [slices_Clone_Tomb, pushN_ok (show ([] : List Tomb).length + l.length ≤ 5629499534059 by rw [List.length_nil]; omega), Option.bind_some, List.nil_append]
theorem piece_l0 (f : Fragment) (hl : f.Seqs.length < 1099511627776) : ∀ (s p : List Int), f.Seqs = p ++ s → Ev (fun k => l09_piece.l0 f f k (p.length : Int)) true
  | [], p, hp => by
    have e1 : decide ((p.length : Int) < (f.Seqs.length : Int)) = false := by rw [hp]; exact lt_end p
    refine Ev.succ ?_
    simp only [l09_piece.l0, e1, Bool.false_eq_true, if_false]
    exact Ev.ret
  | x :: s, p, hp => by
    have e1 : decide ((p.length : Int) < (f.Seqs.length : Int)) = true := by rw [hp]; exact lt_at p s x
    have e2 : idx f.Seqs (p.length : Int) = some x := by rw [hp]; exact idx_at p x s
    have hw := step_at p s x (by rw [← hp, maxLen_val]; omega)
    refine Ev.succ ?_
    simp only [l09_piece.l0, e1, e2, if_true, Option.bind_some, bne_self_eq_false, Bool.false_eq_true, if_false, hw]
    exact piece_l0 f hl s (p ++ [x]) (by simp [hp])
theorem piece_ev (f : Fragment) (hl : f.Seqs.length < 1099511627776) : Ev (fun k => l09_piece k f f) true := by
  simp only [l09_piece, sEq_refl, bne_self_eq_false, Bool.not_true, Bool.or_self, Bool.false_eq_true, if_false]
  exact piece_l0 f hl f.Seqs [] rfl
end Go.Proofs.YtmbhgfigffahbaaDoor.Mo

set_option maxRecDepth 100000
namespace Go.Proofs.YtmbhgfigffahbaaDoor.Mo
open Go Go.Proofs.YtmbhgfigffahbaaDoor.Sy
section
variable {α : Type} (ok : α → Bool) (lt : α → α → Prop) [DecidableRel lt]
def selF (b : Option α) (x : α) : Option α := if ok x = true then (match b with
  | none => some x
  | some y => if lt x y then some x else some y) else b
def atO (l : List α) (b : Option α) (i : Int) : Prop := match b with
  | none => i = -1
  | some x => ∃ j : Nat, i = (j : Int) ∧ l[j]? = some x
def selS (s : List α) (b : Option α) : Option α → Prop
  | none => b = none ∧ ∀ x ∈ s, ok x = false
  | some v => (b = some v ∨ (v ∈ s ∧ ok v = true)) ∧ (∀ x ∈ s, ok x = true → ¬ lt x v) ∧ ∀ w, b = some w → ¬ lt w v
theorem selF_spec (hw : Wo lt) : ∀ (s : List α) (b : Option α), selS ok lt s b (s.foldl (selF ok lt) b)
  | [], none => ⟨rfl, by simp⟩
  | [], some v => ⟨.inl rfl, by simp, fun w h => by cases h; exact hw.irr v⟩
  | x :: s, b => by
    rw [List.foldl_cons]
    have ih := selF_spec hw s (selF ok lt b x)
    by_cases hx : ok x = true
    · cases b with
      | none =>
        have hb : selF ok lt none x = some x := by simp [selF, hx]
        rw [hb] at ih ⊢
        cases hr : s.foldl (selF ok lt) (some x) with
        | none => rw [hr] at ih; cases ih.1
        | some v =>
          rw [hr] at ih
          obtain ⟨h1, h2, h3⟩ := ih
          refine ⟨.inr ?_, fun y hy hyo => ?_, fun w h => by cases h⟩
          · rcases h1 with h1 | h1
            · cases h1; exact ⟨by simp, hx⟩
            · exact ⟨List.mem_cons_of_mem _ h1.1, h1.2⟩
          · rcases List.mem_cons.1 hy with e | e
            · subst e; exact h3 y rfl
            · exact h2 y e hyo
      | some y =>
        by_cases hl : lt x y
        · have hb : selF ok lt (some y) x = some x := by simp [selF, hx, hl]
          rw [hb] at ih ⊢
          cases hr : s.foldl (selF ok lt) (some x) with
          | none => rw [hr] at ih; cases ih.1
          | some v =>
            rw [hr] at ih
            obtain ⟨h1, h2, h3⟩ := ih
            refine ⟨.inr ?_, fun z hz hzo => ?_, fun w h => ?_⟩
            · rcases h1 with h1 | h1
              · cases h1; exact ⟨by simp, hx⟩
              · exact ⟨List.mem_cons_of_mem _ h1.1, h1.2⟩
            · rcases List.mem_cons.1 hz with e | e
              · subst e; exact h3 z rfl
              · exact h2 z e hzo
            · cases h
              intro hyv
              exact h3 x rfl (hw.lt_le hl (hw.asymm _ _ hyv))
        · have hb : selF ok lt (some y) x = some y := by simp [selF, hx, hl]
          rw [hb] at ih ⊢
          cases hr : s.foldl (selF ok lt) (some y) with
          | none => rw [hr] at ih; cases ih.1
          | some v =>
            rw [hr] at ih
            obtain ⟨h1, h2, h3⟩ := ih
            refine ⟨?_, fun z hz hzo => ?_, h3⟩
            · rcases h1 with h1 | h1
              · exact .inl h1
              · exact .inr ⟨List.mem_cons_of_mem _ h1.1, h1.2⟩
            · rcases List.mem_cons.1 hz with e | e
              · subst e; exact hw.neg z y v hl (h3 y rfl)
              · exact h2 z e hzo
    · have hb : selF ok lt b x = b := by simp [selF, hx]
      rw [hb] at ih ⊢
      cases hr : s.foldl (selF ok lt) b with
      | none =>
        rw [hr] at ih
        refine ⟨ih.1, fun z hz => ?_⟩
        rcases List.mem_cons.1 hz with e | e
        · subst e; exact Bool.eq_false_iff.2 hx
        · exact ih.2 z e
      | some v =>
        rw [hr] at ih
        obtain ⟨h1, h2, h3⟩ := ih
        refine ⟨?_, fun z hz hzo => ?_, h3⟩
        · rcases h1 with h1 | h1
          · exact .inl h1
          · exact .inr ⟨List.mem_cons_of_mem _ h1.1, h1.2⟩
        · rcases List.mem_cons.1 hz with e | e
          · subst e; exact absurd hzo hx
          · exact h2 z e hzo
end
def okS (out : List ByteArray) (last x : ByteArray) : Bool := decide (out.length = 0) || decide (slt last x)
theorem texts_l1 (a : List ByteArray) (ha : a.length ≤ 4398046511104) (out : List ByteArray) (last : ByteArray) (R : List ByteArray) : ∀ (s p : List ByteArray) (b : Option ByteArray) (i : Int) (J : Nat → Int → Option (List ByteArray)), a = p ++ s → atO a b i →
    (∀ i', atO a (s.foldl (selF (okS out last) slt) b) i' → Ev (fun k => J k i') R) → Ev (fun k => r09_texts.l1 a out last (J k) k i (p.length : Int)) R
  | [], p, b, i, J, hp, hb, hJ => by
    have e1 : decide ((p.length : Int) < (a.length : Int)) = false := by rw [hp]; exact lt_end p
    refine Ev.succ ?_
    simp only [r09_texts.l1, e1, Bool.false_eq_true, if_false]
    exact (hJ i hb).shift
  | x :: s, p, b, i, J, hp, hb, hJ => by
    have e1 : decide ((p.length : Int) < (a.length : Int)) = true := by rw [hp]; exact lt_at p s x
    have e2 : idx a (p.length : Int) = some x := by rw [hp]; exact idx_at p x s
    have hpx : a[p.length]? = some x := by rw [hp]; simp
    have hw := step_at p s x (by rw [← hp, maxLen_val]; omega)
    have next : ∀ b' i', atO a b' i' → b' = selF (okS out last) slt b x → Ev (fun k => r09_texts.l1 a out last (J (k + 1)) k i' ((p ++ [x]).length : Int)) R := fun b' i' h1 h2 => by
      refine texts_l1 a ha out last R s (p ++ [x]) b' i' (fun k => J (k + 1)) (by simp [hp]) h1 fun i2 h3 => ?_
      subst h2
      exact (hJ i2 h3).shift
    have hok : (if ((out.length : Int) == 0) = true then true else !(sLt x last || sEq x last)) = okS out last x := by
      unfold okS
      by_cases h : out.length = 0
      · simp [h]
      · have h' : ((out.length : Int) == 0) = false := by simp; intro h9; exact h (by rw [h9]; rfl)
        rw [h', decide_eq_false h, sLe_dec]
        by_cases hs : slt last x <;> simp [sle, hs]
    refine Ev.succ ?_
    simp only [r09_texts.l1, e1, if_true, Jn, e2, Option.bind_some, hw]
    have main : Ev (fun k => if okS out last x = true then (if decide (i < 0) = true then (r09_texts.l1 a out last (J (k + 1)) k (p.length : Int) ((p ++ [x]).length : Int)) else ((idx a i).bind fun x636 => if sLt x x636 = true then r09_texts.l1 a out last (J (k + 1)) k (p.length : Int) ((p ++ [x]).length : Int) else r09_texts.l1 a out last (J (k + 1)) k i ((p ++ [x]).length : Int))) else r09_texts.l1 a out last (J (k + 1)) k i ((p ++ [x]).length : Int)) R := by
      by_cases hx : okS out last x = true
      · simp only [hx, if_true]
        cases b with
        | none =>
          have hi : i = -1 := hb
          subst hi
          have c : decide ((-1 : Int) < 0) = true := by decide
          simp only [c, if_true]
          exact next (some x) p.length ⟨p.length, rfl, hpx⟩ (by simp [selF, hx])
        | some y =>
          obtain ⟨j, rfl, hj⟩ := hb
          have c : decide ((j : Int) < 0) = false := by simp
          have e3 : idx a (j : Int) = some y := by rw [idx_nat, hj]
          simp only [c, Bool.false_eq_true, if_false, e3, Option.bind_some]
          by_cases hl : slt x y
          · simp only [sLt_iff.2 hl, if_true]
            exact next (some x) p.length ⟨p.length, rfl, hpx⟩ (by simp [selF, hx, hl])
          · simp only [sLt_false.2 hl, Bool.false_eq_true, if_false]
            exact next (some y) j ⟨j, rfl, hj⟩ (by simp [selF, hx, hl])
      · simp only [hx, if_false, Bool.false_eq_true]
        exact next b i hb (by simp [selF, hx])
    rw [← hok] at main
    refine Ev.congr (fun k => ?_) main
    by_cases h : ((out.length : Int) == 0) = true
    · simp only [h, if_true]
    · simp only [h, if_false, Bool.false_eq_true]
theorem texts_l0 (a : List ByteArray) (ha : a.length ≤ 4398046511104) : ∀ (rest out : List ByteArray) (last : ByteArray), uq slt a = out ++ rest → (out ≠ [] → out.getLast? = some last) → Ev (fun k => r09_texts.l0 a k out last) (uq slt a) := by
  intro rest
  induction rest with
  | nil =>
    intro out last hu hl
    refine Ev.succ ?_
    simp only [r09_texts.l0, Jn]
    refine texts_l1 a ha out last _ a [] none (-1) (fun k i_574 => if (decide (i_574 < 0)) = true then (some out) else ((idx a i_574).bind fun x530 => (push 14073748835379 out x530).bind fun l533 => r09_texts.l0 a k l533 x530)) rfl rfl fun i hi => ?_
    have hsp := selF_spec (okS out last) slt so_str.wo a none
    have hno : a.foldl (selF (okS out last) slt) none = none := by
      cases hr : a.foldl (selF (okS out last) slt) none with
      | none => rfl
      | some v =>
        rw [hr] at hsp
        rcases hsp.1 with h | ⟨hv, hok⟩
        · cases h
        · have hm : v ∈ uq slt a := (mem_uq so_str).2 hv
          rw [hu, List.append_nil] at hm
          unfold okS at hok
          rcases nil_or_snoc out with e | ⟨q, w, e⟩
          · rw [e] at hm; simp at hm
          · subst e
            have hlast : w = last := by have := hl (by simp); simpa using this
            subst hlast
            have hpw := uq_pw so_str a
            rw [hu, List.append_nil] at hpw
            simp only [List.length_append, List.length_singleton, Nat.add_eq_zero_iff, Nat.one_ne_zero, and_false, decide_false, Bool.false_or, decide_eq_true_eq] at hok
            rcases List.mem_append.1 hm with h | h
            · have := (List.pairwise_append.1 hpw).2.2 v h w (by simp)
              exact absurd hok (slt_asymm this)
            · simp at h; subst h; exact absurd hok (slt_irrefl _)
    rw [hno] at hi
    have hi' : i = -1 := hi
    subst hi'
    have c : decide ((-1 : Int) < 0) = true := by decide
    simp only [c, if_true]
    refine Ev.ret.to ?_
    rw [hu, List.append_nil]
  | cons y rest ih =>
    intro out last hu hl
    have hpw := uq_pw so_str a
    rw [hu] at hpw
    obtain ⟨p1, p2, p3⟩ := List.pairwise_append.1 hpw
    have hya : y ∈ a := (mem_uq so_str).1 (by rw [hu]; simp)
    have hul : (uq slt a).length ≤ a.length := uq_len a
    have hol : out.length + 1 ≤ a.length := by rw [hu, List.length_append, List.length_cons] at hul; omega
    have oky : okS out last y = true := by
      unfold okS
      rcases nil_or_snoc out with e | ⟨q, w, e⟩
      · simp [e]
      · subst e
        have hlast : w = last := by have := hl (by simp); simpa using this
        subst hlast
        rw [decide_eq_true (p3 w (by simp) y (by simp)), Bool.or_true]
    have hge : ∀ v ∈ a, okS out last v = true → v = y ∨ slt y v := by
      intro v hv hok
      have hm : v ∈ uq slt a := (mem_uq so_str).2 hv
      rw [hu] at hm
      rcases List.mem_append.1 hm with h | h
      · exfalso
        unfold okS at hok
        rcases nil_or_snoc out with e | ⟨q, w, e⟩
        · rw [e] at h; simp at h
        · subst e
          have hlast : w = last := by have := hl (by simp); simpa using this
          subst hlast
          simp only [List.length_append, List.length_singleton, Nat.add_eq_zero_iff, Nat.one_ne_zero, and_false, decide_false, Bool.false_or, decide_eq_true_eq] at hok
          rcases List.mem_append.1 h with h | h
          · exact slt_asymm ((List.pairwise_append.1 p1).2.2 v h w (by simp)) hok
          · simp at h; subst h; exact slt_irrefl _ hok
      · rcases List.mem_cons.1 h with e | e
        · exact .inl e
        · exact .inr ((List.pairwise_cons.1 p2).1 v e)
    refine Ev.succ ?_
    simp only [r09_texts.l0, Jn]
    refine texts_l1 a ha out last _ a [] none (-1) (fun k i_574 => if (decide (i_574 < 0)) = true then (some out) else ((idx a i_574).bind fun x530 => (push 14073748835379 out x530).bind fun l533 => r09_texts.l0 a k l533 x530)) rfl rfl fun i hi => ?_
    have hsp := selF_spec (okS out last) slt so_str.wo a none
    cases hr : a.foldl (selF (okS out last) slt) none with
    | none =>
      rw [hr] at hsp
      rw [hsp.2 y hya] at oky
      cases oky
    | some v =>
      rw [hr] at hsp hi
      obtain ⟨h1, h2, _⟩ := hsp
      rcases h1 with h1 | ⟨hv, hok⟩
      · cases h1
      have hvy : v = y := by
        rcases hge v hv hok with e | e
        · exact e
        · exact absurd e (h2 y hya oky)
      subst hvy
      obtain ⟨j, rfl, hj⟩ := hi
      have c : decide ((j : Int) < 0) = false := by simp
      have e3 : idx a (j : Int) = some v := by rw [idx_nat, hj]
      simp only [c, Bool.false_eq_true, if_false, e3, Option.bind_some, push_ok (show out.length < 14073748835379 by omega)]
      exact ih (out ++ [v]) v (by rw [hu]; simp) (fun _ => by simp)
theorem texts_ev (a : List ByteArray) (ha : a.length ≤ 4398046511104) : Ev (fun k => r09_texts k a) (uq slt a) := texts_l0 a ha _ [] _ rfl (fun h => absurd rfl h)
def okQ (key : ByteArray) (out : List Int) (t : Tomb) : Bool := onKey key t && (decide (out.length = 0) || decide (t.Seq < out.getLastD 0))
theorem rcov_eq (t : Tomb) (key : ByteArray) : r09_covers t key = some (onKey key t) := by
  simp only [r09_covers, onKey]
  rw [sLe_dec, sLt_dec]
abbrev ltQ : Tomb → Tomb → Prop := fun x y => y.Seq < x.Seq
theorem wo_Q : Wo ltQ := ⟨fun x y (h : y.Seq < x.Seq) (k : x.Seq < y.Seq) => by omega, fun x y z (h : ¬ y.Seq < x.Seq) (k : ¬ z.Seq < y.Seq) (g : z.Seq < x.Seq) => by omega⟩
theorem seqs_l1 (a : List Tomb) (ha : a.length ≤ 4398046511104) (key : ByteArray) (out : List Int) (hol : out.length ≤ 4398046511104) (R : List Int) : ∀ (s p : List Tomb) (b : Option Tomb) (i : Int) (J : Nat → Int → Option (List Int)), a = p ++ s → atO a b i →
    (∀ i', atO a (s.foldl (selF (okQ key out) ltQ) b) i' → Ev (fun k => J k i') R) → Ev (fun k => r09_seqs.l1 a key out (J k) k i (p.length : Int)) R
  | [], p, b, i, J, hp, hb, hJ => by
    have e1 : decide ((p.length : Int) < (a.length : Int)) = false := by rw [hp]; exact lt_end p
    refine Ev.succ ?_
    simp only [r09_seqs.l1, e1, Bool.false_eq_true, if_false]
    exact (hJ i hb).shift
  | x :: s, p, b, i, J, hp, hb, hJ => by
    have e1 : decide ((p.length : Int) < (a.length : Int)) = true := by rw [hp]; exact lt_at p s x
    have e2 : idx a (p.length : Int) = some x := by rw [hp]; exact idx_at p x s
    have hpx : a[p.length]? = some x := by rw [hp]; simp
    have hw := step_at p s x (by rw [← hp, maxLen_val]; omega)
    have next : ∀ b' i', atO a b' i' → b' = selF (okQ key out) ltQ b x → Ev (fun k => r09_seqs.l1 a key out (J (k + 1)) k i' ((p ++ [x]).length : Int)) R := fun b' i' h1 h2 => by
      refine seqs_l1 a ha key out hol R s (p ++ [x]) b' i' (fun k => J (k + 1)) (by simp [hp]) h1 fun i2 h3 => ?_
      subst h2
      exact (hJ i2 h3).shift
    refine Ev.succ ?_
    simp only [r09_seqs.l1, e1, if_true, Jn, e2, Option.bind_some, rcov_eq, hw]
    have main : okQ key out x = true → Ev (fun k => if decide (i < 0) = true then (r09_seqs.l1 a key out (J (k + 1)) k (p.length : Int) ((p ++ [x]).length : Int)) else ((idx a i).bind fun x1029 => if decide (x1029.Seq < x.Seq) = true then r09_seqs.l1 a key out (J (k + 1)) k (p.length : Int) ((p ++ [x]).length : Int) else r09_seqs.l1 a key out (J (k + 1)) k i ((p ++ [x]).length : Int))) R := fun hx => by
      cases b with
      | none =>
        have hi : i = -1 := hb
        subst hi
        have c : decide ((-1 : Int) < 0) = true := by decide
        simp only [c, if_true]
        exact next (some x) p.length ⟨p.length, rfl, hpx⟩ (by simp [selF, hx])
      | some y =>
        obtain ⟨j, rfl, hj⟩ := hb
        have c : decide ((j : Int) < 0) = false := by simp
        have e3 : idx a (j : Int) = some y := by rw [idx_nat, hj]
        simp only [c, Bool.false_eq_true, if_false, e3, Option.bind_some]
        by_cases hl : y.Seq < x.Seq
        · simp only [decide_eq_true hl, if_true]
          exact next (some x) p.length ⟨p.length, rfl, hpx⟩ (by simp [selF, hx, hl])
        · simp only [decide_eq_false hl, Bool.false_eq_true, if_false]
          exact next (some y) j ⟨j, rfl, hj⟩ (by simp [selF, hx, hl])
    have no : okQ key out x = false → Ev (fun k => r09_seqs.l1 a key out (J (k + 1)) k i ((p ++ [x]).length : Int)) R := fun hx => next b i hb (by simp [selF, hx])
    by_cases hc : onKey key x = true
    · simp only [hc, if_true]
      by_cases h0 : out.length = 0
      · have h0' : ((out.length : Int) == 0) = true := by simp [h0]
        simp only [h0', if_true]
        refine Ev.congr (fun k => ?_) (main (by unfold okQ; rw [hc, decide_eq_true h0]; rfl))
        by_cases hi : decide (i < 0) = true
        · simp only [hi, if_true]
        · simp only [hi, if_false, Bool.false_eq_true]
      · have h0' : ((out.length : Int) == 0) = false := by simp; intro h9; exact h0 (by rw [h9]; rfl)
        obtain ⟨q, w, rfl⟩ : ∃ q w, out = q ++ [w] := by
          rcases nil_or_snoc out with e | e
          · rw [e] at h0; exact absurd rfl h0
          · exact e
        have hl : idx (q ++ [w]) (w64 (((q ++ [w]).length : Int) - 1)) = some w := by
          have : w64 (((q ++ [w]).length : Int) - 1) = (q.length : Int) := by
            simp only [List.length_append, List.length_singleton] at hol ⊢
            rw [w64_of (by omega) (by omega)]; omega
          rw [this]; exact idx_at q w []
        have hgl : (q ++ [w]).getLastD 0 = w := by rw [List.getLastD_eq_getLast?]; simp
        simp only [h0', Bool.false_eq_true, if_false, hl, Option.bind_some]
        by_cases hlt : x.Seq < w
        · simp only [decide_eq_true hlt, if_true]
          refine Ev.congr (fun k => ?_) (main (by unfold okQ; rw [hc, hgl, decide_eq_true hlt]; simp))
          by_cases hi : decide (i < 0) = true
          · simp only [hi, if_true]
          · simp only [hi, if_false, Bool.false_eq_true]
        · simp only [decide_eq_false hlt, Bool.false_eq_true, if_false]
          exact no (by unfold okQ; rw [hc, hgl, decide_eq_false hlt, decide_eq_false h0]; rfl)
    · simp only [hc, if_false, Bool.false_eq_true]
      exact no (by unfold okQ; rw [Bool.eq_false_iff.2 hc]; rfl)
theorem seqs_l0 (a : List Tomb) (ha : a.length ≤ 4398046511104) (key : ByteArray) : ∀ (rest out : List Int), covS a key = out ++ rest → Ev (fun k => r09_seqs.l0 a key k out) (covS a key) := by
  intro rest
  induction rest with
  | nil =>
    intro out hu
    have hcl := covS_len a key
    have hol : out.length ≤ 4398046511104 := by rw [hu, List.length_append] at hcl; omega
    refine Ev.succ ?_
    simp only [r09_seqs.l0, Jn]
    refine seqs_l1 a ha key out hol _ a [] none (-1) (fun k i_841 => if (decide (i_841 < 0)) = true then (some out) else ((idx a i_841).bind fun x861 => (push 28147497670912 out x861.Seq).bind fun l864 => r09_seqs.l0 a key k l864)) rfl rfl fun i hi => ?_
    have hsp := selF_spec (okQ key out) ltQ wo_Q a none
    have hno : a.foldl (selF (okQ key out) ltQ) none = none := by
      cases hr : a.foldl (selF (okQ key out) ltQ) none with
      | none => rfl
      | some v =>
        rw [hr] at hsp
        rcases hsp.1 with h | ⟨hv, hok⟩
        · cases h
        · unfold okQ at hok
          rw [Bool.and_eq_true] at hok
          have hm : v.Seq ∈ covS a key := mem_covS.2 ⟨v, hv, hok.1, rfl⟩
          have hpw := covS_pw a key
          rw [hu, List.append_nil] at hm hpw
          rcases nil_or_snoc out with e | ⟨q, w, e⟩
          · rw [e] at hm; simp at hm
          · subst e
            have hgl : (q ++ [w]).getLastD 0 = w := by rw [List.getLastD_eq_getLast?]; simp
            have h2 := hok.2
            rw [hgl] at h2
            simp only [List.length_append, List.length_singleton, Nat.add_eq_zero_iff, Nat.one_ne_zero, and_false, decide_false, Bool.false_or, decide_eq_true_eq] at h2
            rcases List.mem_append.1 hm with h | h
            · have := (List.pairwise_append.1 hpw).2.2 v.Seq h w (by simp)
              omega
            · simp at h; omega
    rw [hno] at hi
    have hi' : i = -1 := hi
    subst hi'
    have c : decide ((-1 : Int) < 0) = true := by decide
    simp only [c, if_true]
    refine Ev.ret.to ?_
    rw [hu, List.append_nil]
  | cons y rest ih =>
    intro out hu
    have hcl := covS_len a key
    have hol : out.length + 1 ≤ 4398046511104 := by rw [hu, List.length_append, List.length_cons] at hcl; omega
    have hpw := covS_pw a key
    rw [hu] at hpw
    obtain ⟨p1, p2, p3⟩ := List.pairwise_append.1 hpw
    obtain ⟨ty, hty, hky, hyy⟩ := mem_covS.1 (show y ∈ covS a key by rw [hu]; simp)
    have oky : okQ key out ty = true := by
      unfold okQ
      rw [hky]
      rcases nil_or_snoc out with e | ⟨q, w, e⟩
      · simp [e]
      · subst e
        have hgl : (q ++ [w]).getLastD 0 = w := by rw [List.getLastD_eq_getLast?]; simp
        rw [hgl, hyy, decide_eq_true (p3 w (by simp) y (by simp))]; simp
    have hge : ∀ v ∈ a, okQ key out v = true → v.Seq = y ∨ v.Seq < y := by
      intro v hv hok
      unfold okQ at hok
      rw [Bool.and_eq_true] at hok
      have hm : v.Seq ∈ covS a key := mem_covS.2 ⟨v, hv, hok.1, rfl⟩
      rw [hu] at hm
      rcases List.mem_append.1 hm with h | h
      · exfalso
        rcases nil_or_snoc out with e | ⟨q, w, e⟩
        · rw [e] at h; simp at h
        · subst e
          have hgl : (q ++ [w]).getLastD 0 = w := by rw [List.getLastD_eq_getLast?]; simp
          have h2 := hok.2
          rw [hgl] at h2
          simp only [List.length_append, List.length_singleton, Nat.add_eq_zero_iff, Nat.one_ne_zero, and_false, decide_false, Bool.false_or, decide_eq_true_eq] at h2
          rcases List.mem_append.1 h with h | h
          · have := (List.pairwise_append.1 p1).2.2 v.Seq h w (by simp)
            omega
          · simp at h; omega
      · rcases List.mem_cons.1 h with e | e
        · exact .inl e
        · exact .inr ((List.pairwise_cons.1 p2).1 v.Seq e)
    refine Ev.succ ?_
    simp only [r09_seqs.l0, Jn]
    refine seqs_l1 a ha key out (by omega) _ a [] none (-1) (fun k i_841 => if (decide (i_841 < 0)) = true then (some out) else ((idx a i_841).bind fun x861 => (push 28147497670912 out x861.Seq).bind fun l864 => r09_seqs.l0 a key k l864)) rfl rfl fun i hi => ?_
    have hsp := selF_spec (okQ key out) ltQ wo_Q a none
    cases hr : a.foldl (selF (okQ key out) ltQ) none with
    | none =>
      rw [hr] at hsp
      rw [hsp.2 ty hty] at oky
      cases oky
    | some v =>
      rw [hr] at hsp hi
      obtain ⟨h1, h2, _⟩ := hsp
      rcases h1 with h1 | ⟨hv, hok⟩
      · cases h1
      have hvy : v.Seq = y := by
        rcases hge v hv hok with e | e
        · exact e
        · have := h2 ty hty oky
          have h9 : ¬ v.Seq < ty.Seq := this
          omega
      obtain ⟨j, rfl, hj⟩ := hi
      have c : decide ((j : Int) < 0) = false := by simp
      have e3 : idx a (j : Int) = some v := by rw [idx_nat, hj]
      simp only [c, Bool.false_eq_true, if_false, e3, Option.bind_some, push_ok (show out.length < 28147497670912 by omega), hvy]
      exact ih (out ++ [y]) (by rw [hu]; simp)
theorem seqs_ev (a : List Tomb) (ha : a.length ≤ 4398046511104) (key : ByteArray) : Ev (fun k => r09_seqs k a key) (covS a key) := seqs_l0 a ha key _ [] rfl
theorem alike_l0 (a b : List Int) (hab : a.length = b.length) (hl : a.length ≤ 1152921504606846976) : ∀ s p t, a = p ++ s → b = p ++ t → Ev (fun k => r09_alike.l0 a b k (p.length : Int)) (decide (s = t)) := by
  intro s
  induction s with
  | nil =>
    intro p t ha hb
    obtain rfl : t = [] := by rw [ha, hb] at hab; simpa using hab
    subst ha
    refine Ev.succ ?_
    simp only [r09_alike.l0, lt_end, Bool.false_eq_true, if_false]
    exact Ev.ret.to (by simp)
  | cons x s ih =>
    intro p t ha hb
    cases t with
    | nil => rw [ha, hb] at hab; simp at hab
    | cons y t =>
      have e1 : idx a (p.length : Int) = some x := by rw [ha]; exact idx_at _ _ _
      have e2 : idx b (p.length : Int) = some y := by rw [hb]; exact idx_at _ _ _
      have hd : decide ((p.length : Int) < (a.length : Int)) = true := by rw [ha]; exact lt_at _ _ _
      have hw : w64 ((p.length : Int) + 1) = ((p ++ [x]).length : Int) := by rw [ha] at hl; simp at hl; rw [wS (by omega)]; simp
      refine Ev.succ ?_
      simp only [r09_alike.l0, hd, if_true, e1, e2, Option.bind_some]
      by_cases hxy : x = y
      · subst hxy
        simp only [bne_self_eq_false, Bool.false_eq_true, if_false, hw]
        exact (ih (p ++ [x]) t (by simp [ha]) (by simp [hb])).to (by simp)
      · have hb : (x != y) = true := by simpa using hxy
        simp only [hb, if_true]
        exact Ev.ret.to (by simp [hxy])
theorem alike_ev (a b : List Int) (hl : b.length ≤ 1152921504606846976) : Ev (fun k => r09_alike k a b) (decide (a = b)) := by
  by_cases h : a.length = b.length
  · have hb : ((a.length : Int) != (b.length : Int)) = false := by simp [h]
    simp only [r09_alike, hb, Bool.false_eq_true, if_false]
    exact alike_l0 a b h (by omega) a [] b rfl rfl
  · have hb : ((a.length : Int) != (b.length : Int)) = true := by simp; omega
    simp only [r09_alike, hb, if_true]
    exact Ev.ret.to (by simp; intro e; subst e; exact h rfl)
theorem rfrag_l1 (r1 : List Tomb) (us : List ByteArray) (h : r1.length < 1099511627776) (hu : us.length < 2199023255552) (hpw : us.Pairwise slt) (hm : ∀ t ∈ r1, t.Begin ∈ us ∧ t.End ∈ us) : ∀ s p b acc, us = p ++ b :: s → acc.length ≤ p.length →
    EvC (fun J k => r09_Fragments.l1 r1 us J k acc (p.length : Int)) (build r1 b s acc) := by
  intro s
  induction s with
  | nil =>
    intro p b acc hl ha
    have hlen : us.length = p.length + 1 := by rw [hl]; simp
    have w1 : w64 ((p.length : Int) + 1) = ((p.length + 1 : Nat) : Int) := wS (by omega)
    refine EvC.succ ?_
    have hd : decide (((p.length + 1 : Nat) : Int) < (us.length : Int)) = false := decide_eq_false (by omega)
    simp only [r09_Fragments.l1, w1, hd, Bool.false_eq_true, if_false]
    exact EvC.ret
  | cons e s ih =>
    intro p b acc hl ha
    have hlen : us.length = p.length + 2 + s.length := by rw [hl]; simp; omega
    have w1 : w64 ((p.length : Int) + 1) = ((p.length + 1 : Nat) : Int) := wS (by omega)
    have hd : decide (((p.length + 1 : Nat) : Int) < (us.length : Int)) = true := decide_eq_true (by omega)
    have i1 : idx us ((p.length : Nat) : Int) = some b := by rw [hl]; exact idx_at _ _ _
    have i2 : idx us ((p.length + 1 : Nat) : Int) = some e := idx_as (p := p ++ [b]) (s := s) (by simp [hl]) (by simp)
    have hpw' := hpw
    rw [hl] at hpw'
    obtain ⟨q1, q2, q3⟩ := List.pairwise_append.1 hpw'
    have q2' := List.pairwise_cons.1 q2
    have q2'' := List.pairwise_cons.1 q2'.2
    have hbe : slt b e := q2'.1 e (by simp)
    have split : ∀ x ∈ us, sle x b ∨ sle e x := fun x hx => by
      rw [hl] at hx
      rcases List.mem_append.1 hx with k | k
      · exact .inl (sle_of_lt (q3 x k b (by simp)))
      · rcases List.mem_cons.1 k with k | k
        · subst k; exact .inl (sle_refl _)
        · rcases List.mem_cons.1 k with k | k
          · subst k; exact .inr (sle_refl _)
          · exact .inr (sle_of_lt (q2''.1 x k))
    have hseg : covS r1 b = seqsOf r1 b e := covS_seg (sle_refl b) hbe fun t ht => ⟨split _ (hm t ht).1, split _ (hm t ht).2⟩
    have hsl : (covS r1 b).length ≤ r1.length := covS_len r1 b
    obtain ⟨n1, h1⟩ := seqs_ev r1 (by omega) b
    dsimp only at h1
    have hih := ih (p ++ [b]) e (addF acc b e (seqsOf r1 b e)) (by simp [hl]) (by have := addF_len acc b e (seqsOf r1 b e); simp; omega)
    simp only [List.length_append, List.length_singleton] at hih
    obtain ⟨n3, h3⟩ := hih
    dsimp only at h3
    rw [← hseg] at h3
    obtain ⟨sq, hsq⟩ : ∃ sq, sq = covS r1 b := ⟨_, rfl⟩
    rw [← hsq] at h1 h3 hsl
    by_cases hnil : sq = []
    · have ha2 : addF acc b e sq = acc := by unfold addF; rw [if_pos hnil]
      rw [ha2] at h3
      have hz : ((sq.length : Int) == 0) = true := by rw [hnil]; rfl
      refine ⟨max n1 n3 + 1, fun k hk J => ?_⟩
      obtain ⟨k, rfl⟩ : ∃ j, k = j + 1 := ⟨k - 1, by omega⟩
      simp only [r09_Fragments.l1, w1, hd, if_true, Jn, i1, i2, Option.bind_some, h1 k (by omega), hz, build, ← hseg, ← hsq, ha2]
      exact h3 k (by omega) J
    · have hz : ((sq.length : Int) == 0) = false := by simp; exact hnil
      rcases nil_or_snoc acc with rfl | ⟨acc, f, rfl⟩
      · have ha2 : addF [] b e sq = [⟨b, e, sq⟩] := by unfold addF; rw [if_neg hnil]; rfl
        rw [ha2] at h3
        have wl : w64 (((([] : List Fragment).length : Nat) : Int) - 1) = -1 := by decide
        have hz2 : decide ((0 : Int) ≤ -1) = false := by decide
        refine ⟨max n1 n3 + 1, fun k hk J => ?_⟩
        obtain ⟨k, rfl⟩ : ∃ j, k = j + 1 := ⟨k - 1, by omega⟩
        simp only [r09_Fragments.l1, w1, hd, if_true, Jn, i1, i2, Option.bind_some, h1 k (by omega), hz, Bool.false_eq_true, if_false, wl, hz2, push_ok (xs := ([] : List Fragment)) (x := (⟨b, e, sq⟩ : Fragment)) (N := 4021071095713) (by simp), List.nil_append, build, ← hseg, ← hsq, ha2]
        exact h3 k (by omega) J
      · simp only [List.length_append, List.length_singleton] at ha
        have wl : w64 (((acc ++ [f]).length : Int) - 1) = (acc.length : Int) := by
          simp only [List.length_append, List.length_singleton]; rw [wP (by omega) (by omega)]; rfl
        have hz2 : decide ((0 : Int) ≤ (acc.length : Int)) = true := decide_eq_true (by omega)
        have il : idx (acc ++ [f]) (acc.length : Int) = some f := idx_at acc f []
        obtain ⟨n7, h7⟩ := alike_ev f.Seqs sq (by omega)
        dsimp only at h7
        by_cases he : f.End = b
        · by_cases hq : f.Seqs = sq
          · have ha2 : addF (acc ++ [f]) b e sq = acc ++ [⟨f.Begin, e, f.Seqs⟩] := by unfold addF; rw [if_neg hnil]; simp [he, hq]
            rw [ha2] at h3
            refine ⟨max n1 (max n3 n7) + 1, fun k hk J => ?_⟩
            obtain ⟨k, rfl⟩ : ∃ j, k = j + 1 := ⟨k - 1, by omega⟩
            simp only [r09_Fragments.l1, w1, hd, if_true, Jn, i1, i2, Option.bind_some, h1 k (by omega), hz, Bool.false_eq_true, if_false, wl, hz2, il, sEq_iff.2 he, h7 k (by omega), decide_eq_true hq, upd_at, build, ← hseg, ← hsq, ha2]
            exact h3 k (by omega) J
          · have ha2 : addF (acc ++ [f]) b e sq = acc ++ [f] ++ [⟨b, e, sq⟩] := by unfold addF; rw [if_neg hnil]; simp [hq]
            rw [ha2] at h3
            refine ⟨max n1 (max n3 n7) + 1, fun k hk J => ?_⟩
            obtain ⟨k, rfl⟩ : ∃ j, k = j + 1 := ⟨k - 1, by omega⟩
            simp only [r09_Fragments.l1, w1, hd, if_true, Jn, i1, i2, Option.bind_some, h1 k (by omega), hz, Bool.false_eq_true, if_false, wl, hz2, il, sEq_iff.2 he, h7 k (by omega), decide_eq_false hq, push_ok (xs := acc ++ [f]) (x := (⟨b, e, sq⟩ : Fragment)) (N := 4021071095713) (by simp; omega), build, ← hseg, ← hsq, ha2]
            exact h3 k (by omega) J
        · have ha2 : addF (acc ++ [f]) b e sq = acc ++ [f] ++ [⟨b, e, sq⟩] := by unfold addF; rw [if_neg hnil]; simp [he]
          rw [ha2] at h3
          refine ⟨max n1 n3 + 1, fun k hk J => ?_⟩
          obtain ⟨k, rfl⟩ : ∃ j, k = j + 1 := ⟨k - 1, by omega⟩
          simp only [r09_Fragments.l1, w1, hd, if_true, Jn, i1, i2, Option.bind_some, h1 k (by omega), hz, Bool.false_eq_true, if_false, wl, hz2, il, sEq_false.2 he, push_ok (xs := acc ++ [f]) (x := (⟨b, e, sq⟩ : Fragment)) (N := 4021071095713) (by simp; omega), build, ← hseg, ← hsq, ha2]
          exact h3 k (by omega) J
theorem rfrag_l0 (r1 : List Tomb) (h : r1.length < 1099511627776) : ∀ s p acc, r1 = p ++ s → acc = endsOf p → Ev (fun k => r09_Fragments.l0 r1 k acc (p.length : Int)) (frags r1) := by
  intro s
  induction s with
  | nil =>
    intro p acc hl ha
    have hpl : p = r1 := by rw [hl]; simp
    have hal : acc.length = 2 * r1.length := by rw [ha, hpl, ends_len]
    refine Ev.succ ?_
    have hd : decide ((p.length : Int) < (r1.length : Int)) = false := decide_eq_false (by rw [hpl]; omega)
    simp only [r09_Fragments.l0, hd, Bool.false_eq_true, if_false]
    refine Ev.bind (texts_ev acc (by omega)) ?_
    have hul : (uq slt acc).length < 2199023255552 := Nat.lt_of_le_of_lt (uq_len _) (by omega)
    have hpw := uq_pw so_str acc
    have hmem : ∀ t ∈ r1, t.Begin ∈ uq slt acc ∧ t.End ∈ uq slt acc := fun t ht => by
      rw [mem_uq so_str, mem_uq so_str, ha, hpl]
      unfold endsOf
      rw [List.mem_flatMap, List.mem_flatMap]
      exact ⟨⟨t, ht, by simp⟩, ⟨t, ht, by simp⟩⟩
    have hfr : frags r1 = fragsU r1 (uq slt acc) := by unfold frags; rw [ha, hpl]
    rw [hfr]
    obtain ⟨us, hus⟩ : ∃ us, us = uq slt acc := ⟨_, rfl⟩
    rw [← hus] at hul hpw hmem ⊢
    simp only [Jn]
    cases us with
    | nil =>
      refine Ev.succ ?_
      have w1 : w64 (0 + 1) = 1 := by decide
      have hd : decide ((1 : Int) < ((([] : List ByteArray).length : Nat) : Int)) = false := by decide
      simp only [r09_Fragments.l1, w1, hd, Bool.false_eq_true, if_false]
      exact Ev.ret
    | cons b r =>
      have := rfrag_l1 r1 (b :: r) h hul hpw hmem r [] b [] rfl (Nat.le_refl _)
      exact this.ev (J := fun _ l => some l) Ev.ret
  | cons x s ih =>
    intro p acc hl ha
    have hpl : r1.length = p.length + 1 + s.length := by rw [hl]; simp; omega
    have hal : acc.length = 2 * p.length := by rw [ha, ends_len]
    have hm : (p ++ x :: s).length ≤ maxLen := by rw [maxLen_val, ← hl]; omega
    refine Ev.succ ?_
    have e1 : idx r1 (p.length : Int) = some x := by rw [hl]; exact idx_at _ _ _
    have hd : decide ((p.length : Int) < (r1.length : Int)) = true := decide_eq_true (by omega)
    simp only [r09_Fragments.l0, hd, if_true, e1, Option.bind_some, pushN_ok (xs := acc) (zs := [x.Begin, x.End]) (N := 14073748835379) (by simp; omega), step_at p s x hm]
    exact ih (p ++ [x]) (acc ++ [x.Begin, x.End]) (by simp [hl]) (by rw [ha]; simp [endsOf])
theorem rfrags_ev (l : List Tomb) (h : l.length < 1099511627776) : Ev (fun k => r09_Fragments k l) (frags (l.filter okT)) := by
  simp only [r09_Fragments]
  refine Ev.bind (all_ev l (by omega)) ?_
  exact rfrag_l0 (l.filter okT) (Nat.lt_of_le_of_lt (List.length_filter_le _ _) h) (l.filter okT) [] [] rfl rfl
end Go.Proofs.YtmbhgfigffahbaaDoor.Mo

set_option maxRecDepth 100000
namespace Go.Proofs.YtmbhgfigffahbaaDoor.Mo
open Go Go.Proofs.YtmbhgfigffahbaaDoor.Sy
theorem sets_l6 (q : L09_Ask) (J : Nat → Int → Bool → Option Bool) (f : Fragment) (hf : f.Seqs.length < 1099511627776) (K : Nat → Option Bool) (R : Bool) : ∀ (s p : List Int), f.Seqs = p ++ s →
    (Ev (fun k => match s.find? (fun x => decide (x ≤ q.Seq)) with | some v => J k v true | none => K k) R) → Ev (fun k => l09_TombSets.l6 q (J k) f (K k) k (p.length : Int)) R
  | [], p, hp, h => by
    have e1 : decide ((p.length : Int) < (f.Seqs.length : Int)) = false := by rw [hp]; exact lt_end p
    refine Ev.succ ?_
    simp only [l09_TombSets.l6, e1, Bool.false_eq_true, if_false]
    exact (show Ev K R from h).shift
  | x :: s, p, hp, h => by
    have e1 : decide ((p.length : Int) < (f.Seqs.length : Int)) = true := by rw [hp]; exact lt_at p s x
    have e2 : idx f.Seqs (p.length : Int) = some x := by rw [hp]; exact idx_at p x s
    have hw := step_at p s x (by rw [← hp, maxLen_val]; omega)
    refine Ev.succ ?_
    simp only [l09_TombSets.l6, e1, e2, if_true, Option.bind_some, hw]
    rw [List.find?_cons] at h
    by_cases hx : x ≤ q.Seq
    · simp only [decide_eq_true hx, if_true] at h ⊢
      exact h.shift
    · simp only [decide_eq_false hx, Bool.false_eq_true, if_false] at h ⊢
      exact sets_l6 q (fun k => J (k + 1)) f hf (fun k => K (k + 1)) R s (p ++ [x]) (by simp [hp]) h.shift
theorem sets_l5 (q : L09_Ask) (R : Bool) (F : List Fragment) (hF : F.length < 1099511627776) (hs : ∀ f ∈ F, f.Seqs.length < 1099511627776) : ∀ (s p : List Fragment) (J : Nat → Int → Bool → Option Bool), F = p ++ s →
    (Ev (fun k => J k (setC q.Key q.Seq s).1 (setC q.Key q.Seq s).2) R) → Ev (fun k => l09_TombSets.l5 q (J k) (J k 0 false) F k (p.length : Int)) R
  | [], p, J, hp, h => by
    have e1 : decide ((p.length : Int) < (F.length : Int)) = false := by rw [hp]; exact lt_end p
    refine Ev.succ ?_
    simp only [l09_TombSets.l5, e1, Bool.false_eq_true, if_false]
    exact (show Ev (fun k => J k 0 false) R from h).shift
  | f :: s, p, J, hp, h => by
    have e1 : decide ((p.length : Int) < (F.length : Int)) = true := by rw [hp]; exact lt_at p s f
    have e2 : idx F (p.length : Int) = some f := by rw [hp]; exact idx_at p f s
    have hw := step_at p s f (by rw [← hp, maxLen_val]; omega)
    refine Ev.succ ?_
    simp only [l09_TombSets.l5, e1, e2, if_true, Option.bind_some, hw, Jn]
    have next : setF q.Key q.Seq (f :: s) = setF q.Key q.Seq s → Ev (fun k => l09_TombSets.l5 q (J (k + 1)) (J (k + 1) 0 false) F k ((p ++ [f]).length : Int)) R := fun e => by
      refine sets_l5 q R F hF hs s (p ++ [f]) (fun k => J (k + 1)) (by simp [hp]) ?_
      have he : setC q.Key q.Seq (f :: s) = setC q.Key q.Seq s := by unfold setC; rw [e]
      rw [he] at h
      exact h.shift
    by_cases hc : onF q.Key f = true
    · have hc' : (sLt q.Key f.Begin || !sLt q.Key f.End) = false := by simpa [onF] using hc
      simp only [hc', Bool.false_eq_true, if_false]
      refine sets_l6 q (fun k => J (k + 1)) f (hs f (by rw [hp]; simp)) (fun k => l09_TombSets.l5 q (J (k + 1)) (J (k + 1) 0 false) F k ((p ++ [f]).length : Int)) R f.Seqs [] rfl ?_
      cases hfd : f.Seqs.find? (fun x => decide (x ≤ q.Seq)) with
      | some v =>
        have he : setC q.Key q.Seq (f :: s) = (v, true) := by unfold setC; rw [setF, if_pos hc, hfd]
        rw [he] at h
        exact h.shift
      | none => exact next (by rw [setF, if_pos hc, hfd])
    · have hc' : (sLt q.Key f.Begin || !sLt q.Key f.End) = true := by
        have := Bool.eq_false_iff.2 hc
        rw [onF, Bool.not_eq_false'] at this
        exact this
      simp only [hc', if_true]
      exact next (by rw [setF, if_neg hc])
theorem sets_l4 (R : Bool) : ∀ (s p : List Tomb) (J : Nat → Option Bool), (p ++ s).length < 1099511627776 → Ev J R → Ev (fun k => l09_TombSets.l4 (J k) k (p ++ s) (p.length : Int)) R
  | [], p, J, hl, hJ => by
    refine Ev.succ ?_
    simp only [l09_TombSets.l4, lt_end, Bool.false_eq_true, if_false]
    exact hJ.shift
  | x :: s, p, J, hl, hJ => by
    refine Ev.succ ?_
    simp only [l09_TombSets.l4, lt_at, idx_at, upd_at, if_true, Option.bind_some, step_at p s x (by rw [maxLen_val]; omega)]
    have := sets_l4 R s (p ++ [(⟨(ByteArray.mk #[109, 97, 114, 107]), (ByteArray.mk #[110, 97, 114, 107]), 77⟩ : Tomb)]) (fun k => J (k + 1)) (by simp at hl ⊢; omega) hJ.shift
    simpa using this
theorem sets_l3 (L : List Fragment) (i : Int) (x : Fragment) (R : Bool) : ∀ (s p : List Int) (J : Nat → List Fragment → Option Bool), (p ++ s).length < 1099511627776 → (∀ ys : List Int, Ev (fun k => J k (List.set L (Int.toNat i) (⟨x.Begin, x.End, ys⟩ : Fragment))) R) →
    Ev (fun k => l09_TombSets.l3 L i x (J k) k (p ++ s) (p.length : Int)) R
  | [], p, J, hl, hJ => by
    refine Ev.succ ?_
    simp only [l09_TombSets.l3, lt_end, Bool.false_eq_true, if_false]
    exact (hJ (p ++ [])).shift
  | y :: s, p, J, hl, hJ => by
    refine Ev.succ ?_
    simp only [l09_TombSets.l3, lt_at, idx_at, upd_at, if_true, Option.bind_some, step_at p s y (by rw [maxLen_val]; omega)]
    have := sets_l3 L i x R s (p ++ [1152921504606846976]) (fun k => J (k + 1)) (by simp at hl ⊢; omega) (fun ys => (hJ ys).shift)
    simpa using this
theorem sets_l2 (q : L09_Ask) (F : List Fragment) (hF : F.length < 1099511627776) (hs : ∀ f ∈ F, f.Seqs.length < 1099511627776) (R : Bool) : ∀ (s p p' : List Fragment) (J : Nat → Int → Option Bool), F = p ++ s → p'.length = p.length →
    (∀ n : Nat, n ≤ F.length → (n = F.length ∨ (n : Int) = q.Stop) → Ev (fun k => J k (n : Int)) R) → Ev (fun k => l09_TombSets.l2 q F (J k) F k (p' ++ s) (p.length : Int) (p.length : Int)) R
  | [], p, p', J, hp, hp', hJ => by
    have e1 : decide ((p.length : Int) < (F.length : Int)) = false := by rw [hp]; exact lt_end p
    have hpl : p.length = F.length := by rw [hp]; simp
    refine Ev.succ ?_
    simp only [l09_TombSets.l2, e1, Bool.false_eq_true, if_false]
    exact (hJ p.length (by omega) (.inl hpl)).shift
  | f :: s, p, p', J, hp, hp', hJ => by
    have e1 : decide ((p.length : Int) < (F.length : Int)) = true := by rw [hp]; exact lt_at p s f
    have e0 : decide ((F.length : Int) ≤ (p.length : Int)) = false := decide_eq_false (by rw [hp]; simp; omega)
    have e2 : idx F (p.length : Int) = some f := by rw [hp]; exact idx_at p f s
    have e3 : idx (p' ++ f :: s) (p.length : Int) = some f := by rw [← hp']; exact idx_at p' f s
    have hw := step_at p s f (by rw [← hp, maxLen_val]; omega)
    have hpl : p.length + 1 ≤ F.length := by rw [hp]; simp
    refine Ev.succ ?_
    simp only [l09_TombSets.l2, e1, if_true, Jn, e3, Option.bind_some, e0, Bool.false_eq_true, if_false, e2, hw]
    refine Ev.bind (piece_ev f (hs f (by rw [hp]; simp))) ?_
    simp only [Bool.not_true, Bool.false_eq_true, if_false]
    refine sets_l3 (p' ++ f :: s) (p.length : Int) f R f.Seqs [] (fun k l_8296 => if (((p ++ [f]).length : Int) == q.Stop) = true then (J (k + 1) ((p ++ [f]).length : Int)) else (l09_TombSets.l2 q F (J (k + 1)) F k l_8296 ((p ++ [f]).length : Int) ((p ++ [f]).length : Int))) (by simpa using hs f (by rw [hp]; simp)) fun ys => ?_
    have hset : List.set (p' ++ f :: s) (Int.toNat (p.length : Int)) (⟨f.Begin, f.End, ys⟩ : Fragment) = (p' ++ [(⟨f.Begin, f.End, ys⟩ : Fragment)]) ++ s := by
      rw [Int.toNat_natCast, List.set_append_right _ _ (by omega), hp', Nat.sub_self]
      simp
    rw [hset]
    by_cases hst : (((p ++ [f]).length : Int) == q.Stop) = true
    · simp only [hst, if_true]
      exact (hJ (p ++ [f]).length (by simp; omega) (.inr (by simpa using hst))).shift
    · simp only [hst, if_false, Bool.false_eq_true]
      exact sets_l2 q F hF hs R s (p ++ [f]) (p' ++ [(⟨f.Begin, f.End, ys⟩ : Fragment)]) (fun k => J (k + 1)) (by simp [hp]) (by simp [hp']) (fun n hn h => (hJ n hn h).shift)
theorem sets_l1 (more : List Tomb) (hm : more.length ≤ 1048576) (hms : ∀ t ∈ more, 0 ≤ t.Seq) (q : L09_Ask) : ∀ (s p : List Tomb) (T : List Tomb), more = p ++ s → T.length + s.length ≤ 2097152 → (∀ t ∈ T, okT t = true ∧ 0 ≤ t.Seq) → Ev (fun k => l09_TombSets.l1 more q k T T (p.length : Int)) true
  | s, p, T, hp, hl, hT => by
    have hTf : T.filter okT = T := List.filter_eq_self.2 fun t ht => (hT t ht).1
    have hfl := frags_len T
    have hfs : ∀ f ∈ frags T, f.Seqs.length < 1099511627776 := fun f hf => by have := frags_seqs hf; omega
    have hfr : Ev (fun k => tomb_Fragments k T) (frags T) := by
      have := frags_ev T (by omega)
      rwa [hTf] at this
    have hrf : Ev (fun k => r09_Fragments k T) (frags T) := by
      have := rfrags_ev T (by omega)
      rwa [hTf] at this
    have hcl := clone_eq T (by omega)
    have hcov : setC q.Key q.Seq (frags T) = covers q.Key q.Seq T (0, false) := by
      have := setC_eq T (fun t ht => (hT t ht).2) q.Key q.Seq
      rwa [hTf] at this
    refine Ev.succ ?_
    simp only [l09_TombSets.l1, Jn, hcl, Option.bind_some, l09_names]
    refine Ev.bind hfr ?_
    refine sets_l5 q true (frags T) (by omega) hfs (frags T) [] _ rfl ?_
    simp only [hcov]
    refine Ev.bind (rcover_ev q.Key q.Seq T (by omega) (fun t ht => (hT t ht).2)) ?_
    simp only [bne_self_eq_false, beq_self_eq_true, Bool.not_true, Bool.or_self, Bool.false_eq_true, if_false]
    refine Ev.bind (same_ev T (by omega)) ?_
    simp only [Bool.not_true, Bool.false_eq_true, if_false]
    refine sets_l4 true T [] _ (by simp; omega) ?_
    refine Ev.bind hrf ?_
    refine Ev.bind hfr ?_
    refine sets_l2 q (frags T) (by omega) hfs true (frags T) [] [] _ rfl rfl fun n hn hor => ?_
    have hc : (((n : Int) != ((frags T).length : Int)) && ((n : Int) != q.Stop)) = false := by
      rcases hor with h | h
      · rw [h]; simp
      · rw [h]; simp
    simp only [hc, Bool.false_eq_true, if_false]
    cases s with
    | nil =>
      have : ((p.length : Int) == (more.length : Int)) = true := by rw [hp]; simp
      simp only [this, if_true]
      exact Ev.ret
    | cons x s =>
      have hne : ((p.length : Int) == (more.length : Int)) = false := by rw [hp]; simp; omega
      have e2 : idx more (p.length : Int) = some x := by rw [hp]; exact idx_at p x s
      have hw := step_at p s x (by rw [← hp, maxLen_val]; omega)
      have hxs : 0 ≤ x.Seq := hms x (by rw [hp]; simp)
      simp only [List.length_cons] at hl
      simp only [hne, Bool.false_eq_true, if_false, e2, Option.bind_some, valid_eq, valid_eq', hw]
      by_cases hx : okT x = true
      · simp only [hx, Bool.not_true, Bool.false_eq_true, if_false, if_true, push_ok (show T.length < 5629499534059 by omega), Option.bind_some, bne_self_eq_false]
        exact sets_l1 more hm hms q s (p ++ [x]) (T ++ [x]) (by simp [hp]) (by simp; omega) fun t ht => by
          rcases List.mem_append.1 ht with h | h
          · exact hT t h
          · simp at h; subst h; exact ⟨hx, hxs⟩
      · simp only [hx, Bool.not_false, if_true, Bool.false_eq_true, if_false, bne_self_eq_false]
        exact sets_l1 more hm hms q s (p ++ [x]) T (by simp [hp]) (by omega) hT
theorem sets_l0 (a0 : List Tomb) (h : a0.length ≤ 1048576) (hs0 : ∀ t ∈ a0, 0 ≤ t.Seq) (more : List Tomb) (hm : more.length ≤ 1048576) (hms : ∀ t ∈ more, 0 ≤ t.Seq) (q : L09_Ask) : ∀ (s p : List Tomb), (p ++ s).length ≤ 1048576 → Ev (fun k => l09_TombSets.l0 a0 more q (a0.filter okT) k (p ++ s) (p.length : Int)) true
  | [], p, hp => by
    have hfl : (a0.filter okT).length ≤ a0.length := List.length_filter_le _ _
    refine Ev.succ ?_
    simp only [l09_TombSets.l0, lt_end, Bool.false_eq_true, if_false]
    refine Ev.bind (all_ev a0 (by omega)) ?_
    refine sets_l1 more hm hms q more [] (a0.filter okT) rfl (by omega) fun t ht => ?_
    have := List.mem_filter.1 ht
    exact ⟨this.2, hs0 t this.1⟩
  | x :: s, p, hp => by
    refine Ev.succ ?_
    simp only [l09_TombSets.l0, lt_at, idx_at, upd_at, if_true, Option.bind_some, step_at p s x (by rw [maxLen_val]; omega)]
    have := sets_l0 a0 h hs0 more hm hms q s (p ++ [(⟨(ByteArray.mk #[109, 97, 114, 107]), (ByteArray.mk #[110, 97, 114, 107]), 77⟩ : Tomb)]) (by simp at hp ⊢; omega)
    simpa using this
theorem sets_law (a0 : List Tomb) (h : a0.length ≤ 1048576) (hs0 : ∀ t ∈ a0, 0 ≤ t.Seq) (more : List Tomb) (hm : more.length ≤ 1048576) (hms : ∀ t ∈ more, 0 ≤ t.Seq) (q : L09_Ask) : Ev (fun k => l09_TombSets k a0 more q) true := by
  unfold l09_TombSets
  rw [lent_eq a0 (by omega)]
  simp only [Option.bind_some]
  refine Ev.bind (valid_ev a0 (by omega)) ?_
  refine Ev.bind (kept_ev a0 (by omega)) ?_
  simp only [Bool.not_true, Bool.false_eq_true, if_false]
  exact sets_l0 a0 h hs0 more hm hms q a0 [] (by simpa using h)
end Go.Proofs.YtmbhgfigffahbaaDoor.Mo
