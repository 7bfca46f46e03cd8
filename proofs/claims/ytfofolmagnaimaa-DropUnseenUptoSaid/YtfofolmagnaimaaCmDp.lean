import Derived.Test.YtfofolmagnaimaaPqDpD
import Derived.Test.YtfofolmagnaimaaSyUq
set_option linter.unusedVariables false
set_option linter.unusedSectionVars false
set_option linter.unusedSimpArgs false
set_option maxRecDepth 100000
namespace Go.Proofs.Ytfofolmagnaimaa.Mo
open Go Go.Proofs.Ytfofolmagnaimaa.Sy
theorem cmp_l1_uint64 (a0 : List Int) {i0 : Nat} (hi0 : 1 ≤ i0) (hl : a0.length ≤ 1152921504606846976) : ∀ (n : Nat) (l : List Int) (k q : Nat), a0.length - (i0 + q) ≤ n → 1 ≤ q → i0 + q ≤ a0.length → l.length = a0.length → k + 1 ≤ i0 + q → l.take k = dd (a0.take (i0 + q)) →
    (∀ j, i0 + q ≤ j + 1 → l[j]? = a0[j]?) →
    ∃ l' k', l'.length = a0.length ∧ k' ≤ a0.length ∧ l'.take k' = dd a0 ∧ EvC2 (fun J f => slices_Compact_uint64.l1 a0 (i0 : Int) J f l (k : Int) (q : Int)) l' (k' : Int) := by
  intro n
  induction n with
  | zero =>
    intro l k q hn hq hiq hlen hk ht hr
    have hd : ¬ q < (l.drop i0).length := by simp; omega
    refine ⟨l, k, hlen, by omega, ?_, EvC2.succ ?_⟩
    · rw [ht, List.take_of_length_le (by omega)]
    · simp only [slices_Compact_uint64.l1, cut_drop (l := l) (i := i0) (n := a0.length) hlen.symm (by omega), Option.bind_some, dLtF hd, Bool.false_eq_true, if_false]
      exact EvC2.ret
  | succ n ih =>
    intro l k q hn hq hiq hlen hk ht hr
    by_cases hlt : i0 + q < a0.length
    · have hd : q < (l.drop i0).length := by simp; omega
      have gx : ∀ j, i0 + q ≤ j + 1 → j < a0.length → A 0 l j = A 0 a0 j := fun j h1 h2 => A_congr (hr j h1)
      have i1 : idx (l.drop i0) (q : Int) = some (A 0 a0 (i0 + q)) := by
        rw [idx_nat, List.getElem?_drop, hr _ (by omega), A_get? (d := 0) hlt]
      have i2 : idx (l.drop i0) ((q - 1 : Nat) : Int) = some (A 0 a0 (i0 + q - 1)) := by
        rw [idx_nat, List.getElem?_drop, hr _ (by omega), show i0 + (q - 1) = i0 + q - 1 by omega, A_get? (d := 0) (by omega)]
      have hpre : a0.take (i0 + (q + 1)) = a0.take (i0 + q - 1) ++ [A 0 a0 (i0 + q - 1), A 0 a0 (i0 + q)] := by
        obtain ⟨m, hm⟩ : ∃ m, i0 + q = m + 1 := ⟨i0 + q - 1, by omega⟩
        rw [show i0 + (q + 1) = m + 2 by omega, show i0 + q - 1 = m by omega, hm, List.take_add_one, List.take_add_one, A_get? (d := 0) (show m < a0.length by omega), A_get? (d := 0) (show m + 1 < a0.length by omega)]
        simp
      have hpre0 : a0.take (i0 + q) = a0.take (i0 + q - 1) ++ [A 0 a0 (i0 + q - 1)] := by
        obtain ⟨m, hm⟩ : ∃ m, i0 + q = m + 1 := ⟨i0 + q - 1, by omega⟩
        rw [show i0 + q - 1 = m by omega, hm, List.take_add_one, A_get? (d := 0) (show m < a0.length by omega)]
        simp
      have hdd := dd_snoc (A 0 a0 (i0 + q - 1)) (A 0 a0 (i0 + q)) (a0.take (i0 + q - 1))
      rw [← hpre, ← hpre0] at hdd
      by_cases he : A 0 a0 (i0 + q) = A 0 a0 (i0 + q - 1)
      · rw [if_pos he.symm] at hdd
        obtain ⟨l', k', g1, g2, g3, n1, g4⟩ := ih l k (q + 1) (by omega) (by omega) (by omega) hlen (by omega) (by rw [ht, hdd]) (fun j hj => hr j (by omega))
        dsimp only at g4
        refine ⟨l', k', g1, g2, g3, n1 + 1, fun f hf J => ?_⟩
        obtain ⟨f, rfl⟩ : ∃ j, f = j + 1 := ⟨f - 1, by omega⟩
        simp only [slices_Compact_uint64.l1, Jn, cut_drop (l := l) (i := i0) (n := a0.length) hlen.symm (by omega), Option.bind_some, dLt hd, if_true, i1, wP (n := q) (by omega) (by omega), i2, he, bne_self_eq_false, sEq_refl, Bool.not_true, Bool.false_eq_true, if_false, wS (n := q) (by omega)]
        exact g4 f (by omega) J
      · rw [if_neg (fun e => he e.symm)] at hdd
        have hu : upd l (k : Int) (A 0 a0 (i0 + q)) = some (l.set k (A 0 a0 (i0 + q))) := by unfold upd; rw [if_pos ⟨by omega, by omega⟩]; simp
        obtain ⟨l', k', g1, g2, g3, n1, g4⟩ := ih (l.set k (A 0 a0 (i0 + q))) (k + 1) (q + 1) (by omega) (by omega) (by omega) (by simpa using hlen) (by omega)
          (by
            rw [show i0 + (q + 1) = i0 + (q + 1) from rfl, hdd, ← ht, List.take_add_one, List.take_set, List.getElem?_set_self (by omega)]
            rw [List.set_eq_of_length_le (by simp; omega)]
            rfl)
          (fun j hj => by rw [List.getElem?_set_ne (by omega)]; exact hr j (by omega))
        dsimp only at g4
        refine ⟨l', k', g1, g2, g3, n1 + 1, fun f hf J => ?_⟩
        obtain ⟨f, rfl⟩ : ∃ j, f = j + 1 := ⟨f - 1, by omega⟩
        have hb : (A 0 a0 (i0 + q) != A 0 a0 (i0 + q - 1)) = true := by simpa using he
        simp only [slices_Compact_uint64.l1, Jn, cut_drop (l := l) (i := i0) (n := a0.length) hlen.symm (by omega), Option.bind_some, dLt hd, if_true, i1, wP (n := q) (by omega) (by omega), i2, hb, wS (n := q) (by omega), idx_A (d := 0) (show k < l.length by omega), hu, wS (n := k) (by omega)]
        exact g4 f (by omega) J
    · have hd : ¬ q < (l.drop i0).length := by simp; omega
      refine ⟨l, k, hlen, by omega, ?_, EvC2.succ ?_⟩
      · rw [ht, List.take_of_length_le (by omega)]
      · simp only [slices_Compact_uint64.l1, cut_drop (l := l) (i := i0) (n := a0.length) hlen.symm (by omega), Option.bind_some, dLtF hd, Bool.false_eq_true, if_false]
        exact EvC2.ret
theorem cmp_l0_uint64 (a0 : List Int) (hl : a0.length ≤ 1152921504606846976) : ∀ (n i : Nat), a0.length - i ≤ n → 1 ≤ i → i ≤ a0.length → (∀ k, 0 < k → k < i → A 0 a0 k ≠ A 0 a0 (k - 1)) → Ev (fun k => slices_Compact_uint64.l0 a0 k (i : Int)) (dd a0) := by
  intro n
  induction n with
  | zero =>
    intro i hn hi hle hne
    refine Ev.succ ?_
    simp only [slices_Compact_uint64.l0, dLtF (show ¬ i < a0.length by omega), Bool.false_eq_true, if_false]
    rw [dd_id 0 a0 fun k h0 hk => hne k h0 (by omega)]
    exact Ev.ret
  | succ n ih =>
    intro i hn hi hle hne
    by_cases hlt : i < a0.length
    · by_cases he : A 0 a0 i = A 0 a0 (i - 1)
      · have hid : dd (a0.take i) = a0.take i := dd_id 0 _ fun k h0 hk => by
          simp only [List.length_take] at hk
          have e : ∀ j, j < i → A 0 (a0.take i) j = A 0 a0 j := fun j hj => A_congr (by rw [List.getElem?_take, if_pos hj])
          rw [e k (by omega), e (k - 1) (by omega)]
          exact hne k h0 (by omega)
        have ht : a0.take i = dd (a0.take (i + 1)) := by
          obtain ⟨m, rfl⟩ : ∃ m, i = m + 1 := ⟨i - 1, by omega⟩
          have h1 : a0.take (m + 1 + 1) = a0.take m ++ [A 0 a0 m, A 0 a0 (m + 1)] := by
            rw [List.take_add_one, List.take_add_one, A_get? (d := 0) (show m < a0.length by omega), A_get? (d := 0) hlt]; simp
          have h2 : a0.take (m + 1) = a0.take m ++ [A 0 a0 m] := by
            rw [List.take_add_one, A_get? (d := 0) (show m < a0.length by omega)]; simp
          rw [h1, dd_snoc, if_pos (by simpa using he.symm), ← h2, hid]
        obtain ⟨l', k', g1, g2, g3, g4⟩ := cmp_l1_uint64 a0 hi hl _ a0 i 1 (Nat.le_refl _) (Nat.le_refl _) (by omega) rfl (by omega) ht (fun j _ => rfl)
        have hc1 : cut l' (k' : Int) (l'.length : Int) = some (l'.drop k') := cut_drop rfl (by omega)
        have hc2 : cut (clr l' k' l'.length 0) 0 (k' : Int) = some (dd a0) := by
          rw [cut_take (by simp [clr]; omega)]
          congr 1
          rw [← g3]
          simp only [clr, List.append_assoc]
          rw [List.take_append_of_le_length (by simp; omega), List.take_take, Nat.min_self]
        refine Ev.succ ?_
        simp only [slices_Compact_uint64.l0, Jn, dLt hlt, if_true, wP (n := i) (by omega) (by omega), idx_A (d := 0) hlt, idx_A (d := 0) (show i - 1 < a0.length by omega), Option.bind_some, he, beq_self_eq_true, sEq_refl, cut_drop (l := a0) (i := i) (n := a0.length) rfl (by omega)]
        refine g4.ev (J := fun k (l_671 : List Int) (i_672 : Int) => (cut l_671 i_672 (l_671.length : Int)).bind fun l1488 => (cut (clr l_671 (Int.toNat i_672) (Int.toNat (l_671.length : Int)) 0) 0 i_672).bind fun l1490 => some l1490) ?_
        simp only [hc1, Int.toNat_natCast, hc2, Option.bind_some]
        exact Ev.ret
      · have hb : (A 0 a0 i == A 0 a0 (i - 1)) = false := by simpa using he
        have := ih (i + 1) (by omega) (by omega) (by omega) (fun k h0 hk => by
          by_cases c : k = i
          · subst c; exact he
          · exact hne k h0 (by omega))
        refine Ev.succ ?_
        simp only [slices_Compact_uint64.l0, Jn, dLt hlt, if_true, wP (n := i) (by omega) (by omega), idx_A (d := 0) hlt, idx_A (d := 0) (show i - 1 < a0.length by omega), Option.bind_some, hb, Bool.false_eq_true, if_false, wS (n := i) (by omega)]
        exact this
    · refine Ev.succ ?_
      simp only [slices_Compact_uint64.l0, dLtF hlt, Bool.false_eq_true, if_false]
      rw [dd_id 0 a0 fun k h0 hk => hne k h0 (by omega)]
      exact Ev.ret
theorem compact_uint64 (a0 : List Int) (hl : a0.length ≤ 1152921504606846976) : Ev (fun k => slices_Compact_uint64 k a0) (dd a0) := by
  by_cases h : a0.length < 2
  · have hd : decide ((a0.length : Int) < 2) = true := decide_eq_true (by omega)
    simp only [slices_Compact_uint64, hd, if_true]
    have : dd a0 = a0 := by
      match a0, h with
      | [], _ => rfl
      | [x], _ => rfl
    rw [this]
    exact Ev.ret
  · have hd : decide ((a0.length : Int) < 2) = false := decide_eq_false (by omega)
    simp only [slices_Compact_uint64, hd, Bool.false_eq_true, if_false]
    exact cmp_l0_uint64 a0 hl _ 1 (Nat.le_refl _) (Nat.le_refl _) (by omega) (fun k h0 hk => by omega)
theorem less_uint64 (x y : Int) : cmp_Less_uint64 x y = some (decide ((fun x y : Int => x < y) x y)) := by
  simp only [cmp_Less_uint64, cmp_isNaN_uint64, Jn, Option.bind_some, bne_self_eq_false, Bool.false_eq_true, if_false, Bool.false_or]
/-- Sorted, each once. -/
theorem unlike_uint64 (a0 : List Int) (hl : a0.length ≤ 1152921504606846976) : Ev (fun k => (slices_Sort_uint64 k a0).bind fun r1 => slices_Compact_uint64 k r1) (uq (fun x y : Int => x < y) a0) := by
  obtain ⟨l', g1, g2, g3⟩ := sort_uint64 0 (lt := (fun x y : Int => x < y)) less_uint64 so_int.wo a0 hl
  refine Ev.bind g3 ((compact_uint64 l' (by rw [← g2.length_eq]; exact hl)).to ?_)
  exact pw_uniq so_int (dd_pw so_int g1) (uq_pw so_int a0) fun x => by rw [mem_dd, mem_uq so_int]; exact g2.mem_iff.symm
end Go.Proofs.Ytfofolmagnaimaa.Mo
