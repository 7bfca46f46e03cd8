import Derived.Test.YtbaemhkfmddakaaGreatPMUB
set_option linter.unusedVariables false
set_option linter.unusedSectionVars false
set_option linter.unusedSimpArgs false
set_option maxRecDepth 100000
namespace Go.Proofs.YtbaemhkfmddakaaGreat.Mo
open Go Go.Proofs.YtbaemhkfmddakaaGreat.Sy
section
variable {lt : Int → Int → Prop} [DecidableRel lt] {d : Int}
theorem pe_l2_uint64 (hc : ∀ x y, cmp_Less_uint64 x y = some (decide (lt x y))) {l : List Int} {a j : Nat} (hj : j < l.length) (ha : a < l.length) (hl : l.length ≤ 1152921504606846976) (i : Nat) (hi : i ≤ j + 1) :
    ∃ t, i ≤ t ∧ t ≤ j + 1 ∧ (∀ k, i ≤ k → k < t → ¬ lt (A d l a) (A d l k)) ∧ (t ≤ j → lt (A d l a) (A d l t)) ∧ EvC (fun J k => slices_partitionEqualOrdered_uint64.l2 (a : Int) l (j : Int) J k (i : Int)) (t : Int) := by
  obtain ⟨t, g1, g2, g3, g4, g5⟩ := scan_up (fun k => k ≤ j ∧ ¬ lt (A d l a) (A d l k)) (fun J k i => slices_partitionEqualOrdered_uint64.l2 (a : Int) l (j : Int) J k i) i (j + 1) (fun h => by omega) (by
    intro J k q h1 h2
    by_cases hq : q ≤ j
    · by_cases hlt : lt (A d l a) (A d l q)
      · simp only [slices_partitionEqualOrdered_uint64.l2, Jn, dLe hq, if_true, idx_A (d := d) (show q < l.length by omega), idx_A (d := d) ha, Option.bind_some, hc, decide_eq_true hlt, hq, hlt, decide_true, decide_false, Bool.not_true, Bool.not_false, Bool.false_eq_true, if_true, if_false, Bool.not_true, not_true, and_false, if_false, Bool.false_eq_true]
      · simp only [slices_partitionEqualOrdered_uint64.l2, Jn, dLe hq, if_true, idx_A (d := d) (show q < l.length by omega), idx_A (d := d) ha, Option.bind_some, hc, decide_eq_false hlt, hq, hlt, decide_true, decide_false, Bool.not_true, Bool.not_false, Bool.false_eq_true, if_true, if_false, Bool.not_false, not_false_iff, and_self, wS (n := q) (by omega)]
    · simp only [slices_partitionEqualOrdered_uint64.l2, Jn, dLeF hq, if_false, Bool.false_eq_true, hq, false_and]) _ i (Nat.le_refl _) (Nat.le_refl _) hi
  exact ⟨t, g1, g2, fun k h1 h2 => (g3 k h1 h2).2, fun h => Classical.byContradiction fun k => g4 ⟨h, k⟩, g5⟩
theorem pe_l1_uint64 (hc : ∀ x y, cmp_Less_uint64 x y = some (decide (lt x y))) {l : List Int} {a i j : Nat} (hj : j < l.length) (ha : a < l.length) (hl : l.length ≤ 1152921504606846976) (h0 : 0 < i) (hi : i ≤ j + 1) :
    ∃ t, i ≤ t + 1 ∧ t ≤ j ∧ (∀ k, t < k → k ≤ j → lt (A d l a) (A d l k)) ∧ (i ≤ t → ¬ lt (A d l a) (A d l t)) ∧ EvC (fun J k => slices_partitionEqualOrdered_uint64.l1 (a : Int) l (i : Int) J k (j : Int)) (t : Int) := by
  obtain ⟨t, g1, g2, g3, g4, g5⟩ := scan_down (fun k => i ≤ k ∧ lt (A d l a) (A d l k)) (fun J k j => slices_partitionEqualOrdered_uint64.l1 (a : Int) l (i : Int) J k j) (i - 1) j (fun h => by omega) (by
    intro J k q h1 h2
    by_cases hq : i ≤ q
    · by_cases hlt : lt (A d l a) (A d l q)
      · simp only [slices_partitionEqualOrdered_uint64.l1, Jn, dLe hq, if_true, idx_A (d := d) (show q < l.length by omega), idx_A (d := d) ha, Option.bind_some, hc, decide_eq_true hlt, hq, hlt, decide_true, decide_false, Bool.not_true, Bool.not_false, Bool.false_eq_true, if_true, if_false, and_self, wP (n := q) (by omega) (by omega)]
      · simp only [slices_partitionEqualOrdered_uint64.l1, Jn, dLe hq, if_true, idx_A (d := d) (show q < l.length by omega), idx_A (d := d) ha, Option.bind_some, hc, decide_eq_false hlt, hq, hlt, decide_true, decide_false, Bool.not_true, Bool.not_false, Bool.false_eq_true, if_true, if_false, and_false, if_false, Bool.false_eq_true]
    · simp only [slices_partitionEqualOrdered_uint64.l1, Jn, dLeF hq, if_false, Bool.false_eq_true, hq, false_and]) _ j (Nat.le_refl _) (by omega) (Nat.le_refl _)
  exact ⟨t, by omega, g2, fun k h1 h2 => (g3 k h1 h2).2, fun h k => g4 ⟨h, k⟩, g5⟩
theorem pe_l0_uint64 (hc : ∀ x y, cmp_Less_uint64 x y = some (decide (lt x y))) {a b : Nat} : ∀ (n : Nat) (l : List Int) (i j : Nat), j + 1 - i ≤ n → a < i → i ≤ j + 1 → j < b → b ≤ l.length → l.length ≤ 1152921504606846976 →
    (∀ k, a < k → k < i → ¬ lt (A d l a) (A d l k)) → (∀ k, j < k → k < b → lt (A d l a) (A d l k)) →
    ∃ l' m, Rng (a + 1) b l l' ∧ a < m ∧ m ≤ b ∧ (∀ k, a < k → k < m → ¬ lt (A d l' a) (A d l' k)) ∧ (∀ k, m ≤ k → k < b → lt (A d l' a) (A d l' k)) ∧
      Ev (fun k => slices_partitionEqualOrdered_uint64.l0 (a : Int) k l (i : Int) (j : Int)) ((m : Int), l') := by
  intro n
  induction n with
  | zero =>
    intro l i j hn hi hij hj hb hl h1 h2
    obtain ⟨t1, a1, a2, a3, a4, n1, a5⟩ := pe_l2_uint64 (d := d) hc (l := l) (a := a) (j := j) (by omega) (by omega) hl i hij
    obtain ⟨t2, b1, b2, b3, b4, n2, b5⟩ := pe_l1_uint64 (d := d) hc (l := l) (a := a) (i := t1) (j := j) (by omega) (by omega) hl (by omega) a2
    dsimp only at a5 b5
    refine ⟨l, t1, Rng.refl _ _ _, by omega, by omega, fun k k1 k2 => h1 k k1 (by omega), fun k k1 k2 => h2 k (by omega) k2, max n1 n2 + 1, fun k hk => ?_⟩
    obtain ⟨k, rfl⟩ : ∃ j, k = j + 1 := ⟨k - 1, by omega⟩
    simp only [slices_partitionEqualOrdered_uint64.l0, Jn, a5 k (by omega), b5 k (by omega), dLt (show t2 < t1 by omega), if_true]
  | succ n ih =>
    intro l i j hn hi hij hj hb hl h1 h2
    obtain ⟨t1, a1, a2, a3, a4, n1, a5⟩ := pe_l2_uint64 (d := d) hc (l := l) (a := a) (j := j) (by omega) (by omega) hl i hij
    obtain ⟨t2, b1, b2, b3, b4, n2, b5⟩ := pe_l1_uint64 (d := d) hc (l := l) (a := a) (i := t1) (j := j) (by omega) (by omega) hl (by omega) a2
    dsimp only at a5 b5
    have h1' : ∀ k, a < k → k < t1 → ¬ lt (A d l a) (A d l k) := fun k k1 k2 => by
      by_cases c : k < i
      · exact h1 k k1 c
      · exact a3 k (by omega) k2
    have h2' : ∀ k, t2 < k → k < b → lt (A d l a) (A d l k) := fun k k1 k2 => by
      by_cases c : j < k
      · exact h2 k c k2
      · exact b3 k k1 (by omega)
    by_cases hd : t2 < t1
    · refine ⟨l, t1, Rng.refl _ _ _, by omega, by omega, h1', fun k k1 k2 => h2' k (by omega) k2, max n1 n2 + 1, fun k hk => ?_⟩
      obtain ⟨k, rfl⟩ : ∃ j, k = j + 1 := ⟨k - 1, by omega⟩
      simp only [slices_partitionEqualOrdered_uint64.l0, Jn, a5 k (by omega), b5 k (by omega), dLt hd, if_true]
    · have hne : t1 ≠ t2 := fun e => by subst e; exact (b4 (Nat.le_refl _)) (a4 b2)
      have eA : ∀ k, A d (swp d l t2 t1) k = if k = t2 then A d l t1 else if k = t1 then A d l t2 else A d l k := A_swp (by omega) (by omega)
      have ea : A d (swp d l t2 t1) a = A d l a := by rw [eA, if_neg (by omega), if_neg (by omega)]
      obtain ⟨l', m, g1, g2, g3, g4, g5, n3, g6⟩ := ih (swp d l t2 t1) (t1 + 1) (t2 - 1) (by omega) (by omega) (by omega) (by omega) (by rw [swp_len]; omega) (by rw [swp_len]; omega)
        (fun k k1 k2 => by
          rw [ea, eA, if_neg (by omega)]
          by_cases c : k = t1
          · rw [if_pos c]; exact b4 (by omega)
          · rw [if_neg c]; exact h1' k k1 (by omega))
        (fun k k1 k2 => by
          rw [ea, eA]
          by_cases c : k = t2
          · rw [if_pos c]; exact a4 (by omega)
          · rw [if_neg c, if_neg (by omega)]; exact h2' k (by omega) k2)
      dsimp only at g6
      refine ⟨l', m, (Rng.swp (by omega) (by omega) (by omega) (by omega) hb).trans g1, g2, g3, g4, g5, max n1 (max n2 n3) + 1, fun k hk => ?_⟩
      obtain ⟨k, rfl⟩ : ∃ j, k = j + 1 := ⟨k - 1, by omega⟩
      simp only [slices_partitionEqualOrdered_uint64.l0, Jn, a5 k (by omega), b5 k (by omega), dLtF hd, if_false, Bool.false_eq_true]
      rw [swp_eq d _ (by omega) (by omega) (by omega) (by omega)]
      simp only [Int.toNat_natCast, wS (n := t1) (by omega), wP (n := t2) (by omega) (by omega)]
      exact g6 k (by omega)
theorem pe_uint64 (hc : ∀ x y, cmp_Less_uint64 x y = some (decide (lt x y))) {l : List Int} {a b p : Nat} (hp : a ≤ p) (hp' : p < b) (hb : b ≤ l.length) (hl : l.length ≤ 1152921504606846976) :
    ∃ (l' : List Int) (m : Nat), Rng a b l l' ∧ A d l' a = A d l p ∧ a < m ∧ m ≤ b ∧ (∀ k, a < k → k < m → ¬ lt (A d l' a) (A d l' k)) ∧ (∀ k, m ≤ k → k < b → lt (A d l' a) (A d l' k)) ∧
      Ev (fun k => slices_partitionEqualOrdered_uint64 k l (a : Int) (b : Int) (p : Int)) ((m : Int), l') := by
  obtain ⟨l', m, g1, g2, g3, g4, g5, n, g6⟩ := pe_l0_uint64 (d := d) hc (a := a) (b := b) _ (swp d l p a) (a + 1) (b - 1) (Nat.le_refl _) (by omega) (by omega) (by omega) (by rw [swp_len]; omega) (by rw [swp_len]; omega) (fun k k1 k2 => by omega) (fun k k1 k2 => by omega)
  dsimp only at g6
  refine ⟨l', m, (Rng.swp (by omega) (by omega) (by omega) (by omega) hb).trans (g1.mono (by omega) (Nat.le_refl _)), ?_, g2, g3, g4, g5, n, fun k hk => ?_⟩
  · rw [g1.A (.inl (by omega)), A_swp (by omega) (by omega)]
    by_cases c : a = p
    · rw [if_pos c, c]
    · rw [if_neg c, if_pos rfl]
  · show slices_partitionEqualOrdered_uint64 k l (a : Int) (b : Int) (p : Int) = _
    simp only [slices_partitionEqualOrdered_uint64]
    rw [swp_eq d _ (by omega) (by omega) (by omega) (by omega)]
    simp only [Int.toNat_natCast, wS (n := a) (by omega), wP (n := b) (by omega) (by omega)]
    exact g6 k hk
theorem pi_l3_uint64 (hc : ∀ x y, cmp_Less_uint64 x y = some (decide (lt x y))) {l : List Int} {b : Nat} (hb : b ≤ l.length) (hl : l.length ≤ 1152921504606846976) (i : Nat) (h0 : 0 < i) (hi : i ≤ b) :
    ∃ t, i ≤ t ∧ t ≤ b ∧ (∀ k, i ≤ k → k < t → ¬ lt (A d l k) (A d l (k - 1))) ∧ EvC (fun J k => slices_partialInsertionSortOrdered_uint64.l3 (b : Int) l J k (i : Int)) (t : Int) := by
  obtain ⟨t, g1, g2, g3, g4, g5⟩ := scan_up (fun k => k < b ∧ ¬ lt (A d l k) (A d l (k - 1))) (fun J k i => slices_partialInsertionSortOrdered_uint64.l3 (b : Int) l J k i) i b (fun h => by omega) (by
    intro J k q h1 h2
    by_cases hq : q < b
    · by_cases hlt : lt (A d l q) (A d l (q - 1))
      · simp only [slices_partialInsertionSortOrdered_uint64.l3, Jn, dLt hq, if_true, wP (n := q) (by omega) (by omega), idx_A (d := d) (show q < l.length by omega), idx_A (d := d) (show q - 1 < l.length by omega), Option.bind_some, hc, decide_eq_true hlt, hq, hlt, decide_true, decide_false, Bool.not_true, Bool.not_false, Bool.false_eq_true, if_true, if_false, Bool.not_true, not_true, and_false, if_false, Bool.false_eq_true]
      · simp only [slices_partialInsertionSortOrdered_uint64.l3, Jn, dLt hq, if_true, wP (n := q) (by omega) (by omega), idx_A (d := d) (show q < l.length by omega), idx_A (d := d) (show q - 1 < l.length by omega), Option.bind_some, hc, decide_eq_false hlt, hq, hlt, decide_true, decide_false, Bool.not_true, Bool.not_false, Bool.false_eq_true, if_true, if_false, Bool.not_false, not_false_iff, and_self, wS (n := q) (by omega)]
    · simp only [slices_partialInsertionSortOrdered_uint64.l3, Jn, dLtF hq, if_false, Bool.false_eq_true, hq, false_and]) _ i (Nat.le_refl _) (Nat.le_refl _) hi
  exact ⟨t, g1, g2, fun k h1 h2 => (g3 k h1 h2).2, g5⟩
theorem pi_l2_uint64 (hc : ∀ x y, cmp_Less_uint64 x y = some (decide (lt x y))) (hw : Wo lt) {a b : Nat} : ∀ (j : Nat) (l : List Int), a ≤ j → j < b → b ≤ l.length → l.length ≤ 1152921504606846976 →
    (a = 0 ∨ ∀ k, a ≤ k → k < b → ¬ lt (A d l k) (A d l (a - 1))) →
    (∀ p q, a ≤ p → p < q → q < b → p ≠ j → q ≠ j → ¬ lt (A d l q) (A d l p)) → (∀ q, j < q → q < b → ¬ lt (A d l q) (A d l j)) →
    ∃ l', Rng a b l l' ∧ SrtR d lt a b l' ∧ EvC (fun J k => slices_partialInsertionSortOrdered_uint64.l2 J k l (j : Int)) l' := by
  intro j
  induction j with
  | zero =>
    intro l ha hj hb hl hg h1 h2
    refine ⟨l, Rng.refl _ _ _, fun p q k1 k2 k3 => ?_, EvC.succ ?_⟩
    · by_cases c : p = 0
      · subst c; exact h2 q k2 k3
      · exact h1 p q k1 k2 k3 c (by omega)
    · have : decide ((1 : Int) ≤ ((0 : Nat) : Int)) = false := by decide
      simp only [slices_partialInsertionSortOrdered_uint64.l2, this, if_false, Bool.false_eq_true]
      exact EvC.ret
  | succ j ih =>
    intro l ha hj hb hl hg h1 h2
    have hd : decide ((1 : Int) ≤ ((j + 1 : Nat) : Int)) = true := decide_eq_true (by omega)
    by_cases hlt : lt (A d l (j + 1)) (A d l j)
    · have haj : a ≤ j := by
        rcases Nat.lt_or_ge j a with h | h
        · rcases hg with hg | hg
          · omega
          · obtain rfl : a = j + 1 := by omega
            exact absurd hlt (hg (j + 1) (Nat.le_refl _) hj)
        · exact h
      have eA : ∀ k, A d (swp d l j (j + 1)) k = if k = j then A d l (j + 1) else if k = j + 1 then A d l j else A d l k := A_swp (by omega) (by omega)
      have hr : Rng a b l (swp d l j (j + 1)) := Rng.swp (by omega) (by omega) (by omega) (by omega) hb
      obtain ⟨l', g1, g2, n, g3⟩ := ih (swp d l j (j + 1)) haj (by omega) (by rw [swp_len]; omega) (by rw [swp_len]; omega)
        (by
          rcases hg with hg | hg
          · exact .inl hg
          · by_cases ha0 : a = 0
            · exact .inl ha0
            · refine .inr ?_
              rw [hr.A (.inl (by omega))]
              exact hr.all (d := d) (P := fun x => ¬ lt x (A d l (a - 1))) hb hg)
        (fun p q k1 k2 k3 k4 k5 => by
          rw [eA, eA, if_neg k4, if_neg k5]
          by_cases c1 : p = j + 1
          · rw [if_pos c1, if_neg (by omega)]; exact h1 j q haj (by omega) k3 (by omega) (by omega)
          · rw [if_neg c1]
            by_cases c2 : q = j + 1
            · rw [if_pos c2]; exact h1 p j k1 (by omega) (by omega) c1 (by omega)
            · rw [if_neg c2]; exact h1 p q k1 k2 k3 c1 c2)
        (fun q k1 k2 => by
          rw [eA, eA, if_neg (by omega), if_pos rfl]
          by_cases c : q = j + 1
          · rw [if_pos c]; exact hw.asymm _ _ hlt
          · rw [if_neg c]; exact h2 q (by omega) k2)
      dsimp only at g3
      refine ⟨l', hr.trans g1, g2, n + 1, fun k hk J => ?_⟩
      obtain ⟨k, rfl⟩ : ∃ j, k = j + 1 := ⟨k - 1, by omega⟩
      have e1 : w64 (((j + 1 : Nat) : Int) - 1) = (j : Int) := by rw [wP (by omega) (by omega)]; rfl
      simp only [slices_partialInsertionSortOrdered_uint64.l2, hd, if_true, e1]
      rw [idx_A (d := d) (show j + 1 < l.length by omega)]
      simp only [Option.bind_some]
      have e2 : ∀ (K : Int → Option (Bool × List Int)), (idx l (j : Int)).bind K = K (A d l j) := fun K => by rw [idx_A (d := d) (show j < l.length by omega)]; rfl
      rw [e2]
      simp only [hc, Option.bind_some, decide_eq_true hlt, Bool.not_true, Bool.false_eq_true, if_false]
      have e3 := swp_eq (R := Bool × List Int) (l := l) (i := (j : Int)) (j := ((j + 1 : Nat) : Int)) d (fun l6928 => slices_partialInsertionSortOrdered_uint64.l2 J k l6928 (j : Int)) (by omega) (by omega) (by omega) (by omega)
      rw [idx_A (d := d) (show j + 1 < l.length by omega)] at e3
      simp only [Option.bind_some] at e3
      refine Eq.trans e3 ?_
      simp only [Int.toNat_natCast]
      exact g3 k (by omega) J
    · refine ⟨l, Rng.refl _ _ _, fun p q k1 k2 k3 => ?_, EvC.succ ?_⟩
      · by_cases c : p = j + 1
        · subst c; exact h2 q k2 k3
        · by_cases c2 : q = j + 1
          · subst c2
            by_cases c3 : p = j
            · subst c3; exact hlt
            · exact hw.neg _ _ _ hlt (h1 p j k1 (by omega) (by omega) c (by omega))
          · exact h1 p q k1 k2 k3 c c2
      · have e1 : w64 (((j + 1 : Nat) : Int) - 1) = (j : Int) := by rw [wP (by omega) (by omega)]; rfl
        simp only [slices_partialInsertionSortOrdered_uint64.l2, hd, if_true, e1, idx_A (d := d) (show j + 1 < l.length by omega), idx_A (d := d) (show j < l.length by omega), Option.bind_some, hc, decide_eq_false hlt, Bool.not_false]
        exact EvC.ret
theorem pi_l1_uint64 (d : Int) (hc : ∀ x y, cmp_Less_uint64 x y = some (decide (lt x y))) {i b : Nat} : ∀ (n : Nat) (l : List Int) (j : Nat), b - j ≤ n → i < j → j ≤ b → b ≤ l.length → l.length ≤ 1152921504606846976 →
    ∃ l', Rng i b l l' ∧ EvC2 (fun J k => slices_partialInsertionSortOrdered_uint64.l1 (b : Int) J (i : Int) k l (j : Int)) l' (i : Int) := by
  intro n
  induction n with
  | zero =>
    intro l j hn hi hj hb hl
    refine ⟨l, Rng.refl _ _ _, EvC2.succ ?_⟩
    simp only [slices_partialInsertionSortOrdered_uint64.l1, dLtF (show ¬ j < b by omega), if_false, Bool.false_eq_true]
    exact EvC2.ret
  | succ n ih =>
    intro l j hn hi hj hb hl
    by_cases hjb : j < b
    · by_cases hlt : lt (A d l j) (A d l (j - 1))
      · obtain ⟨l', g1, n1, g2⟩ := ih (swp d l (j - 1) j) (j + 1) (by omega) (by omega) (by omega) (by rw [swp_len]; omega) (by rw [swp_len]; omega)
        dsimp only at g2
        refine ⟨l', (Rng.swp (by omega) (by omega) (by omega) (by omega) hb).trans g1, n1 + 1, fun k hk J => ?_⟩
        obtain ⟨k, rfl⟩ : ∃ j, k = j + 1 := ⟨k - 1, by omega⟩
        simp only [slices_partialInsertionSortOrdered_uint64.l1, dLt hjb, if_true, wP (n := j) (by omega) (by omega), wS (n := j) (by omega)]
        rw [idx_A (d := d) (show j < l.length by omega)]
        simp only [Option.bind_some]
        have e2 : ∀ (K : Int → Option (Bool × List Int)), (idx l ((j - 1 : Nat) : Int)).bind K = K (A d l (j - 1)) := fun K => by rw [idx_A (d := d) (show j - 1 < l.length by omega)]; rfl
        rw [e2]
        simp only [hc, Option.bind_some, decide_eq_true hlt, Bool.not_true, Bool.false_eq_true, if_false]
        have e3 := swp_eq (R := Bool × List Int) (l := l) (i := ((j - 1 : Nat) : Int)) (j := (j : Int)) d (fun l6928 => slices_partialInsertionSortOrdered_uint64.l1 (b : Int) J (i : Int) k l6928 ((j + 1 : Nat) : Int)) (by omega) (by omega) (by omega) (by omega)
        rw [idx_A (d := d) (show j < l.length by omega)] at e3
        simp only [Option.bind_some] at e3
        refine Eq.trans e3 ?_
        simp only [Int.toNat_natCast]
        exact g2 k (by omega) J
      · refine ⟨l, Rng.refl _ _ _, EvC2.succ ?_⟩
        simp only [slices_partialInsertionSortOrdered_uint64.l1, dLt hjb, if_true, wP (n := j) (by omega) (by omega), idx_A (d := d) (show j < l.length by omega), idx_A (d := d) (show j - 1 < l.length by omega), Option.bind_some, hc, decide_eq_false hlt, Bool.not_false]
        exact EvC2.ret
    · refine ⟨l, Rng.refl _ _ _, EvC2.succ ?_⟩
      simp only [slices_partialInsertionSortOrdered_uint64.l1, dLtF hjb, if_false, Bool.false_eq_true]
      exact EvC2.ret
theorem srt_ext_uint64 (hw : Wo lt) {a i : Nat} {l : List Int} (hs : SrtR d lt a i l) (ha : a < i) : ∀ (t : Nat), i ≤ t → (∀ k, i ≤ k → k < t → ¬ lt (A d l k) (A d l (k - 1))) → SrtR d lt a t l := by
  intro t
  induction t with
  | zero => intro h _; omega
  | succ t ih =>
    intro h1 h2
    by_cases c : i = t + 1
    · subst c; exact hs
    · have := ih (by omega) (fun k k1 k2 => h2 k k1 (by omega))
      intro p q k1 k2 k3
      by_cases c2 : q = t
      · subst c2
        have h3 := h2 q (by omega) (by omega)
        by_cases c3 : p = q - 1
        · rw [c3]; exact h3
        · exact hw.neg _ _ _ h3 (this p (q - 1) k1 (by omega) (by omega))
      · exact this p q k1 k2 (by omega)
theorem pi_l0_uint64 (hc : ∀ x y, cmp_Less_uint64 x y = some (decide (lt x y))) (hw : Wo lt) {a b : Nat} : ∀ (n : Nat) (l : List Int) (i c : Nat), 5 - c ≤ n → a < i → i ≤ b → b ≤ l.length → l.length ≤ 1152921504606846976 →
    (a = 0 ∨ ∀ k, a ≤ k → k < b → ¬ lt (A d l k) (A d l (a - 1))) → SrtR d lt a i l →
    ∃ (f : Bool) (l' : List Int), Rng a b l l' ∧ (f = true → SrtR d lt a b l') ∧ Ev (fun k => slices_partialInsertionSortOrdered_uint64.l0 (a : Int) (b : Int) k l (i : Int) (c : Int)) (f, l') := by
  intro n
  induction n with
  | zero =>
    intro l i c hn hi hib hb hl hg hs
    have hd : decide ((c : Int) < 5) = false := decide_eq_false (by omega)
    refine ⟨false, l, Rng.refl _ _ _, fun h => by simp at h, Ev.succ ?_⟩
    simp only [slices_partialInsertionSortOrdered_uint64.l0, hd, if_false, Bool.false_eq_true]
    exact Ev.ret
  | succ n ih =>
    intro l i c hn hi hib hb hl hg hs
    by_cases hc5 : c < 5
    · have hd : decide ((c : Int) < 5) = true := decide_eq_true (by omega)
      obtain ⟨t, g1, g2, g3, n1, g4⟩ := pi_l3_uint64 (d := d) hc (l := l) (b := b) hb hl i (by omega) hib
      dsimp only at g4
      have hst := srt_ext_uint64 hw hs hi t g1 g3
      by_cases htb : t = b
      · subst htb
        refine ⟨true, l, Rng.refl _ _ _, fun _ => hst, n1 + 1, fun k hk => ?_⟩
        obtain ⟨k, rfl⟩ : ∃ j, k = j + 1 := ⟨k - 1, by omega⟩
        simp only [slices_partialInsertionSortOrdered_uint64.l0, Jn, hd, if_true, g4 k (by omega), beq_self_eq_true]
      · have hne : ((t : Int) == (b : Int)) = false := by simp; omega
        by_cases h50 : b - a < 50
        · have hd50 : decide (((b - a : Nat) : Int) < 50) = true := decide_eq_true (by omega)
          refine ⟨false, l, Rng.refl _ _ _, fun h => by simp at h, n1 + 1, fun k hk => ?_⟩
          obtain ⟨k, rfl⟩ : ∃ j, k = j + 1 := ⟨k - 1, by omega⟩
          simp only [slices_partialInsertionSortOrdered_uint64.l0, Jn, hd, if_true, g4 k (by omega), hne, wD (show a ≤ b by omega) (by omega), hd50, Bool.false_eq_true, if_false]
        · have hd50 : decide (((b - a : Nat) : Int) < 50) = false := decide_eq_false (by omega)
          have eA : ∀ k, A d (swp d l (t - 1) t) k = if k = t - 1 then A d l t else if k = t then A d l (t - 1) else A d l k := A_swp (by omega) (by omega)
          have hr1 : Rng a b l (swp d l (t - 1) t) := Rng.swp (by omega) (by omega) (by omega) (by omega) hb
          have gd : ∀ l', Rng a b l l' → (a = 0 ∨ ∀ k, a ≤ k → k < b → ¬ lt (A d l' k) (A d l' (a - 1))) := fun l' hr => by
            rcases hg with hg | hg
            · exact .inl hg
            · by_cases ha0 : a = 0
              · exact .inl ha0
              · refine .inr ?_
                rw [hr.A (.inl (by omega))]
                exact hr.all (d := d) (P := fun x => ¬ lt x (A d l (a - 1))) hb hg
          -- the smaller one goes down
          obtain ⟨l2, k1, k2, n2, k3⟩ : ∃ l2, Rng a b l l2 ∧ SrtR d lt a t l2 ∧ ∃ n2, ∀ k, n2 ≤ k → ∀ (J : List Int → Option (Bool × List Int)),
              (if (decide (2 ≤ ((t - a : Nat) : Int))) = true then (slices_partialInsertionSortOrdered_uint64.l2 J k (swp d l (t - 1) t) ((t - 1 : Nat) : Int)) else (J (swp d l (t - 1) t))) = J l2 := by
            by_cases h2 : 2 ≤ t - a
            · have hd2 : decide (2 ≤ ((t - a : Nat) : Int)) = true := decide_eq_true (by omega)
              obtain ⟨l2, k1, k2, n2, k3⟩ := pi_l2_uint64 (d := d) hc hw (a := a) (b := t) (t - 1) (swp d l (t - 1) t) (by omega) (by omega) (by rw [swp_len]; omega) (by rw [swp_len]; omega)
                (by
                  rcases gd _ hr1 with h | h
                  · exact .inl h
                  · exact .inr fun k q1 q2 => h k q1 (by omega))
                (fun p q q1 q2 q3 q4 q5 => by
                  rw [eA, eA, if_neg q4, if_neg q5, if_neg (by omega), if_neg (by omega)]
                  exact hst p q q1 q2 q3)
                (fun q q1 q2 => by omega)
              dsimp only at k3
              exact ⟨l2, hr1.trans (k1.mono (Nat.le_refl _) (by omega)), k2, n2, fun k hk J => by rw [if_pos hd2]; exact k3 k hk J⟩
            · have hd2 : ¬ decide (2 ≤ ((t - a : Nat) : Int)) = true := by rw [decide_eq_true_eq]; omega
              exact ⟨_, hr1, SrtR.one (by omega), 0, fun k hk J => by rw [if_neg hd2]⟩
          -- the greater one goes up
          have hl2 := k1.len
          obtain ⟨l3, m1, n3, m2⟩ : ∃ l3, Rng t b l2 l3 ∧ ∃ n3, ∀ k, n3 ≤ k → ∀ (J : List Int → Int → Option (Bool × List Int)),
              (if (decide (2 ≤ ((b - t : Nat) : Int))) = true then (slices_partialInsertionSortOrdered_uint64.l1 (b : Int) J (t : Int) k l2 ((t + 1 : Nat) : Int)) else (J l2 (t : Int))) = J l3 (t : Int) := by
            by_cases h2 : 2 ≤ b - t
            · have hd2 : decide (2 ≤ ((b - t : Nat) : Int)) = true := decide_eq_true (by omega)
              obtain ⟨l3, m1, n3, m2⟩ := pi_l1_uint64 d hc (i := t) (b := b) _ l2 (t + 1) (Nat.le_refl _) (by omega) (by omega) (by omega) (by omega)
              dsimp only at m2
              exact ⟨l3, m1, n3, fun k hk J => by rw [if_pos hd2]; exact m2 k hk J⟩
            · have hd2 : ¬ decide (2 ≤ ((b - t : Nat) : Int)) = true := by rw [decide_eq_true_eq]; omega
              exact ⟨l2, Rng.refl _ _ _, 0, fun k hk J => by rw [if_neg hd2]⟩
          have hr3 : Rng a b l l3 := k1.trans (m1.mono (by omega) (Nat.le_refl _))
          have hl3 := hr3.len
          obtain ⟨f, l', q1, q2, n4, q3⟩ := ih l3 t (c + 1) (by omega) (by omega) g2 (by omega) (by omega) (gd _ hr3) (k2.congr fun k e1 e2 => m1.A (.inl e2))
          dsimp only at q3
          refine ⟨f, l', hr3.trans q1, q2, max n1 (max n2 (max n3 n4)) + 1, fun k hk => ?_⟩
          obtain ⟨k, rfl⟩ : ∃ j, k = j + 1 := ⟨k - 1, by omega⟩
          simp only [slices_partialInsertionSortOrdered_uint64.l0, Jn, hd, if_true, g4 k (by omega), hne, wD (show a ≤ b by omega) (by omega), hd50, Bool.false_eq_true, if_false, wP (n := t) (by omega) (by omega), wD (show a ≤ t by omega) (by omega), wD (show t ≤ b by omega) (by omega), wS (n := t) (by omega), wS (n := c) (by omega)]
          rw [swp_eq d _ (by omega) (by omega) (by omega) (by omega)]
          simp only [Int.toNat_natCast]
          rw [k3 k (by omega), m2 k (by omega)]
          exact q3 k (by omega)
    · have hd : decide ((c : Int) < 5) = false := decide_eq_false (by omega)
      refine ⟨false, l, Rng.refl _ _ _, fun h => by simp at h, Ev.succ ?_⟩
      simp only [slices_partialInsertionSortOrdered_uint64.l0, hd, if_false, Bool.false_eq_true]
      exact Ev.ret
theorem pi_uint64 (hc : ∀ x y, cmp_Less_uint64 x y = some (decide (lt x y))) (hw : Wo lt) {a b : Nat} (l : List Int) (hab : a < b) (hb : b ≤ l.length) (hl : l.length ≤ 1152921504606846976)
    (hg : a = 0 ∨ ∀ k, a ≤ k → k < b → ¬ lt (A d l k) (A d l (a - 1))) :
    ∃ (f : Bool) (l' : List Int), Rng a b l l' ∧ (f = true → SrtR d lt a b l') ∧ Ev (fun k => slices_partialInsertionSortOrdered_uint64 k l (a : Int) (b : Int)) (f, l') := by
  obtain ⟨f, l', g1, g2, g3⟩ := pi_l0_uint64 (d := d) hc hw (a := a) (b := b) 5 l (a + 1) 0 (by omega) (by omega) (by omega) hb hl hg (SrtR.one (Nat.le_refl _))
  refine ⟨f, l', g1, g2, ?_⟩
  simp only [slices_partialInsertionSortOrdered_uint64, wS (n := a) (by omega)]
  exact g3
theorem len8_uint64 : ∀ b : Nat, b < 256 → ∃ L : Nat, sidx (ByteArray.mk #[0, 1, 2, 2, 3, 3, 3, 3, 4, 4, 4, 4, 4, 4, 4, 4, 5, 5, 5, 5, 5, 5, 5, 5, 5, 5, 5, 5, 5, 5, 5, 5, 6, 6, 6, 6, 6, 6, 6, 6, 6, 6, 6, 6, 6, 6, 6, 6, 6, 6, 6, 6, 6, 6, 6, 6, 6, 6, 6, 6, 6, 6, 6, 6, 7, 7, 7, 7, 7, 7, 7, 7, 7, 7, 7, 7, 7, 7, 7, 7, 7, 7, 7, 7, 7, 7, 7, 7, 7, 7, 7, 7, 7, 7, 7, 7, 7, 7, 7, 7, 7, 7, 7, 7, 7, 7, 7, 7, 7, 7, 7, 7, 7, 7, 7, 7, 7, 7, 7, 7, 7, 7, 7, 7, 7, 7, 7, 7, 8, 8, 8, 8, 8, 8, 8, 8, 8, 8, 8, 8, 8, 8, 8, 8, 8, 8, 8, 8, 8, 8, 8, 8, 8, 8, 8, 8, 8, 8, 8, 8, 8, 8, 8, 8, 8, 8, 8, 8, 8, 8, 8, 8, 8, 8, 8, 8, 8, 8, 8, 8, 8, 8, 8, 8, 8, 8, 8, 8, 8, 8, 8, 8, 8, 8, 8, 8, 8, 8, 8, 8, 8, 8, 8, 8, 8, 8, 8, 8, 8, 8, 8, 8, 8, 8, 8, 8, 8, 8, 8, 8, 8, 8, 8, 8, 8, 8, 8, 8, 8, 8, 8, 8, 8, 8, 8, 8, 8, 8, 8, 8, 8, 8, 8, 8, 8, 8, 8, 8, 8, 8, 8, 8, 8, 8, 8, 8]) (b : Int) = some (L : Int) ∧ L ≤ 8 ∧ b < 2 ^ L ∧ (0 < b → 2 ^ L ≤ 2 * b) := by
  have h : ∀ b : Fin 256, (match sidx (ByteArray.mk #[0, 1, 2, 2, 3, 3, 3, 3, 4, 4, 4, 4, 4, 4, 4, 4, 5, 5, 5, 5, 5, 5, 5, 5, 5, 5, 5, 5, 5, 5, 5, 5, 6, 6, 6, 6, 6, 6, 6, 6, 6, 6, 6, 6, 6, 6, 6, 6, 6, 6, 6, 6, 6, 6, 6, 6, 6, 6, 6, 6, 6, 6, 6, 6, 7, 7, 7, 7, 7, 7, 7, 7, 7, 7, 7, 7, 7, 7, 7, 7, 7, 7, 7, 7, 7, 7, 7, 7, 7, 7, 7, 7, 7, 7, 7, 7, 7, 7, 7, 7, 7, 7, 7, 7, 7, 7, 7, 7, 7, 7, 7, 7, 7, 7, 7, 7, 7, 7, 7, 7, 7, 7, 7, 7, 7, 7, 7, 7, 8, 8, 8, 8, 8, 8, 8, 8, 8, 8, 8, 8, 8, 8, 8, 8, 8, 8, 8, 8, 8, 8, 8, 8, 8, 8, 8, 8, 8, 8, 8, 8, 8, 8, 8, 8, 8, 8, 8, 8, 8, 8, 8, 8, 8, 8, 8, 8, 8, 8, 8, 8, 8, 8, 8, 8, 8, 8, 8, 8, 8, 8, 8, 8, 8, 8, 8, 8, 8, 8, 8, 8, 8, 8, 8, 8, 8, 8, 8, 8, 8, 8, 8, 8, 8, 8, 8, 8, 8, 8, 8, 8, 8, 8, 8, 8, 8, 8, 8, 8, 8, 8, 8, 8, 8, 8, 8, 8, 8, 8, 8, 8, 8, 8, 8, 8, 8, 8, 8, 8, 8, 8, 8, 8, 8, 8, 8, 8]) ((b.val : Nat) : Int) with | some r => decide (0 ≤ r ∧ r ≤ 8 ∧ b.val < 2 ^ r.toNat ∧ (0 < b.val → 2 ^ r.toNat ≤ 2 * b.val)) | none => false) = true := by decide +kernel
  intro b hb
  have := h ⟨b, hb⟩
  dsimp only at this
  split at this
  · rename_i r hr
    rw [decide_eq_true_eq] at this
    refine ⟨r.toNat, ?_, by omega, this.2.2.1, this.2.2.2⟩
    rw [hr]
    congr 1
    omega
  · cases this
theorem len64_uint64 {n : Nat} (h0 : 0 < n) (hn : n < 18446744073709551616) : ∃ L : Nat, math_bits_Len (n : Int) = some (L : Int) ∧ L ≤ 64 ∧ n < 2 ^ L ∧ 2 ^ L ≤ 2 * n := by
  -- the last step
  have fin : ∀ (x c : Nat), c ≤ 56 → x < 256 → 0 < x → x * 2 ^ c ≤ n → n < (x + 1) * 2 ^ c → ∃ L : Nat, ((sidx (ByteArray.mk #[0, 1, 2, 2, 3, 3, 3, 3, 4, 4, 4, 4, 4, 4, 4, 4, 5, 5, 5, 5, 5, 5, 5, 5, 5, 5, 5, 5, 5, 5, 5, 5, 6, 6, 6, 6, 6, 6, 6, 6, 6, 6, 6, 6, 6, 6, 6, 6, 6, 6, 6, 6, 6, 6, 6, 6, 6, 6, 6, 6, 6, 6, 6, 6, 7, 7, 7, 7, 7, 7, 7, 7, 7, 7, 7, 7, 7, 7, 7, 7, 7, 7, 7, 7, 7, 7, 7, 7, 7, 7, 7, 7, 7, 7, 7, 7, 7, 7, 7, 7, 7, 7, 7, 7, 7, 7, 7, 7, 7, 7, 7, 7, 7, 7, 7, 7, 7, 7, 7, 7, 7, 7, 7, 7, 7, 7, 7, 7, 8, 8, 8, 8, 8, 8, 8, 8, 8, 8, 8, 8, 8, 8, 8, 8, 8, 8, 8, 8, 8, 8, 8, 8, 8, 8, 8, 8, 8, 8, 8, 8, 8, 8, 8, 8, 8, 8, 8, 8, 8, 8, 8, 8, 8, 8, 8, 8, 8, 8, 8, 8, 8, 8, 8, 8, 8, 8, 8, 8, 8, 8, 8, 8, 8, 8, 8, 8, 8, 8, 8, 8, 8, 8, 8, 8, 8, 8, 8, 8, 8, 8, 8, 8, 8, 8, 8, 8, 8, 8, 8, 8, 8, 8, 8, 8, 8, 8, 8, 8, 8, 8, 8, 8, 8, 8, 8, 8, 8, 8, 8, 8, 8, 8, 8, 8, 8, 8, 8, 8, 8, 8, 8, 8, 8, 8, 8, 8]) (wu8 (x : Int))).bind fun n4 => some (w64 ((c : Int) + (w64 n4)))) = some (L : Int) ∧ L ≤ 64 ∧ n < 2 ^ L ∧ 2 ^ L ≤ 2 * n := by
    intro x c hc hx h0 h1 h2
    obtain ⟨L, e, g1, g2, g3⟩ := len8_uint64 x hx
    have e8 : wu8 (x : Int) = (x : Int) := by
      unfold wu8 IntKind.wrap
      simp [IntKind.bits, IntKind.signed]
      omega
    refine ⟨c + L, ?_, by omega, ?_, ?_⟩
    · rw [e8, e, Option.bind_some, w64_nat (n := L) (by omega) rfl, w64_nat (n := c + L) (by omega) (by omega)]
    · rw [Nat.pow_add, Nat.mul_comm]
      exact Nat.lt_of_lt_of_le h2 (Nat.mul_le_mul_right _ (by omega))
    · rw [Nat.pow_add, Nat.mul_comm]
      refine Nat.le_trans (Nat.mul_le_mul_right _ (g3 h0)) ?_
      rw [Nat.mul_assoc]
      omega
  have dv : ∀ (x s : Nat), ((x : Int) / 2 ^ (Int.toNat (s : Int))) = ((x / 2 ^ s : Nat) : Int) := fun x s => by simp
  have lo : ∀ (x c s : Nat), x * 2 ^ c ≤ n → n < (x + 1) * 2 ^ c → (x / 2 ^ s) * 2 ^ (c + s) ≤ n ∧ n < (x / 2 ^ s + 1) * 2 ^ (c + s) := by
    intro x c s h1 h2
    rw [Nat.pow_add, Nat.mul_comm (2 ^ c), ← Nat.mul_assoc, ← Nat.mul_assoc]
    have hp : 0 < 2 ^ s := Nat.pow_pos (by decide)
    have a1 : x / 2 ^ s * 2 ^ s ≤ x := Nat.div_mul_le_self _ _
    have a2 : x < (x / 2 ^ s + 1) * 2 ^ s := by rw [Nat.mul_comm]; exact Nat.lt_mul_div_succ x hp
    exact ⟨Nat.le_trans (Nat.mul_le_mul_right _ a1) h1, Nat.lt_of_lt_of_le h2 (Nat.mul_le_mul_right _ a2)⟩
  have s8 : ∀ (x c : Nat), c ≤ 48 → x < 65536 → 0 < x → x * 2 ^ c ≤ n → n < (x + 1) * 2 ^ c → ∃ L : Nat, (if (decide ((256 : Int) ≤ (x : Int))) = true then ((sidx (ByteArray.mk #[0, 1, 2, 2, 3, 3, 3, 3, 4, 4, 4, 4, 4, 4, 4, 4, 5, 5, 5, 5, 5, 5, 5, 5, 5, 5, 5, 5, 5, 5, 5, 5, 6, 6, 6, 6, 6, 6, 6, 6, 6, 6, 6, 6, 6, 6, 6, 6, 6, 6, 6, 6, 6, 6, 6, 6, 6, 6, 6, 6, 6, 6, 6, 6, 7, 7, 7, 7, 7, 7, 7, 7, 7, 7, 7, 7, 7, 7, 7, 7, 7, 7, 7, 7, 7, 7, 7, 7, 7, 7, 7, 7, 7, 7, 7, 7, 7, 7, 7, 7, 7, 7, 7, 7, 7, 7, 7, 7, 7, 7, 7, 7, 7, 7, 7, 7, 7, 7, 7, 7, 7, 7, 7, 7, 7, 7, 7, 7, 8, 8, 8, 8, 8, 8, 8, 8, 8, 8, 8, 8, 8, 8, 8, 8, 8, 8, 8, 8, 8, 8, 8, 8, 8, 8, 8, 8, 8, 8, 8, 8, 8, 8, 8, 8, 8, 8, 8, 8, 8, 8, 8, 8, 8, 8, 8, 8, 8, 8, 8, 8, 8, 8, 8, 8, 8, 8, 8, 8, 8, 8, 8, 8, 8, 8, 8, 8, 8, 8, 8, 8, 8, 8, 8, 8, 8, 8, 8, 8, 8, 8, 8, 8, 8, 8, 8, 8, 8, 8, 8, 8, 8, 8, 8, 8, 8, 8, 8, 8, 8, 8, 8, 8, 8, 8, 8, 8, 8, 8, 8, 8, 8, 8, 8, 8, 8, 8, 8, 8, 8, 8, 8, 8, 8, 8, 8, 8]) (wu8 ((x : Int) / 2 ^ (Int.toNat 8)))).bind fun n4 => some (w64 ((w64 ((c : Int) + 8)) + (w64 n4)))) else ((sidx (ByteArray.mk #[0, 1, 2, 2, 3, 3, 3, 3, 4, 4, 4, 4, 4, 4, 4, 4, 5, 5, 5, 5, 5, 5, 5, 5, 5, 5, 5, 5, 5, 5, 5, 5, 6, 6, 6, 6, 6, 6, 6, 6, 6, 6, 6, 6, 6, 6, 6, 6, 6, 6, 6, 6, 6, 6, 6, 6, 6, 6, 6, 6, 6, 6, 6, 6, 7, 7, 7, 7, 7, 7, 7, 7, 7, 7, 7, 7, 7, 7, 7, 7, 7, 7, 7, 7, 7, 7, 7, 7, 7, 7, 7, 7, 7, 7, 7, 7, 7, 7, 7, 7, 7, 7, 7, 7, 7, 7, 7, 7, 7, 7, 7, 7, 7, 7, 7, 7, 7, 7, 7, 7, 7, 7, 7, 7, 7, 7, 7, 7, 8, 8, 8, 8, 8, 8, 8, 8, 8, 8, 8, 8, 8, 8, 8, 8, 8, 8, 8, 8, 8, 8, 8, 8, 8, 8, 8, 8, 8, 8, 8, 8, 8, 8, 8, 8, 8, 8, 8, 8, 8, 8, 8, 8, 8, 8, 8, 8, 8, 8, 8, 8, 8, 8, 8, 8, 8, 8, 8, 8, 8, 8, 8, 8, 8, 8, 8, 8, 8, 8, 8, 8, 8, 8, 8, 8, 8, 8, 8, 8, 8, 8, 8, 8, 8, 8, 8, 8, 8, 8, 8, 8, 8, 8, 8, 8, 8, 8, 8, 8, 8, 8, 8, 8, 8, 8, 8, 8, 8, 8, 8, 8, 8, 8, 8, 8, 8, 8, 8, 8, 8, 8, 8, 8, 8, 8, 8, 8]) (wu8 (x : Int))).bind fun n4 => some (w64 ((c : Int) + (w64 n4))))) = some (L : Int) ∧ L ≤ 64 ∧ n < 2 ^ L ∧ 2 ^ L ≤ 2 * n := by
    intro x c hc hx h0 h1 h2
    by_cases h : 256 ≤ x
    · obtain ⟨g1, g2⟩ := lo x c 8 h1 h2
      obtain ⟨L, e, g3⟩ := fin (x / 2 ^ 8) (c + 8) (by omega) (by omega) (by omega) g1 g2
      refine ⟨L, ?_, g3⟩
      rw [if_pos (by rw [decide_eq_true_eq]; omega), ← e, show w64 ((c : Int) + 8) = ((c + 8 : Nat) : Int) from w64_nat (by omega) (by omega)]
      rfl
    · obtain ⟨L, e, g3⟩ := fin x c (by omega) (by omega) h0 h1 h2
      exact ⟨L, by rw [if_neg (by rw [decide_eq_true_eq]; omega), ← e], g3⟩
  have s16 : ∀ (x c : Nat), c ≤ 32 → x < 4294967296 → 0 < x → x * 2 ^ c ≤ n → n < (x + 1) * 2 ^ c → ∃ L : Nat, (if (decide ((65536 : Int) ≤ (x : Int))) = true then (if (decide ((256 : Int) ≤ ((x : Int) / 2 ^ (Int.toNat 16)))) = true then ((sidx (ByteArray.mk #[0, 1, 2, 2, 3, 3, 3, 3, 4, 4, 4, 4, 4, 4, 4, 4, 5, 5, 5, 5, 5, 5, 5, 5, 5, 5, 5, 5, 5, 5, 5, 5, 6, 6, 6, 6, 6, 6, 6, 6, 6, 6, 6, 6, 6, 6, 6, 6, 6, 6, 6, 6, 6, 6, 6, 6, 6, 6, 6, 6, 6, 6, 6, 6, 7, 7, 7, 7, 7, 7, 7, 7, 7, 7, 7, 7, 7, 7, 7, 7, 7, 7, 7, 7, 7, 7, 7, 7, 7, 7, 7, 7, 7, 7, 7, 7, 7, 7, 7, 7, 7, 7, 7, 7, 7, 7, 7, 7, 7, 7, 7, 7, 7, 7, 7, 7, 7, 7, 7, 7, 7, 7, 7, 7, 7, 7, 7, 7, 8, 8, 8, 8, 8, 8, 8, 8, 8, 8, 8, 8, 8, 8, 8, 8, 8, 8, 8, 8, 8, 8, 8, 8, 8, 8, 8, 8, 8, 8, 8, 8, 8, 8, 8, 8, 8, 8, 8, 8, 8, 8, 8, 8, 8, 8, 8, 8, 8, 8, 8, 8, 8, 8, 8, 8, 8, 8, 8, 8, 8, 8, 8, 8, 8, 8, 8, 8, 8, 8, 8, 8, 8, 8, 8, 8, 8, 8, 8, 8, 8, 8, 8, 8, 8, 8, 8, 8, 8, 8, 8, 8, 8, 8, 8, 8, 8, 8, 8, 8, 8, 8, 8, 8, 8, 8, 8, 8, 8, 8, 8, 8, 8, 8, 8, 8, 8, 8, 8, 8, 8, 8, 8, 8, 8, 8, 8, 8]) (wu8 (((x : Int) / 2 ^ (Int.toNat 16)) / 2 ^ (Int.toNat 8)))).bind fun n4 => some (w64 ((w64 ((w64 ((c : Int) + 16)) + 8)) + (w64 n4)))) else ((sidx (ByteArray.mk #[0, 1, 2, 2, 3, 3, 3, 3, 4, 4, 4, 4, 4, 4, 4, 4, 5, 5, 5, 5, 5, 5, 5, 5, 5, 5, 5, 5, 5, 5, 5, 5, 6, 6, 6, 6, 6, 6, 6, 6, 6, 6, 6, 6, 6, 6, 6, 6, 6, 6, 6, 6, 6, 6, 6, 6, 6, 6, 6, 6, 6, 6, 6, 6, 7, 7, 7, 7, 7, 7, 7, 7, 7, 7, 7, 7, 7, 7, 7, 7, 7, 7, 7, 7, 7, 7, 7, 7, 7, 7, 7, 7, 7, 7, 7, 7, 7, 7, 7, 7, 7, 7, 7, 7, 7, 7, 7, 7, 7, 7, 7, 7, 7, 7, 7, 7, 7, 7, 7, 7, 7, 7, 7, 7, 7, 7, 7, 7, 8, 8, 8, 8, 8, 8, 8, 8, 8, 8, 8, 8, 8, 8, 8, 8, 8, 8, 8, 8, 8, 8, 8, 8, 8, 8, 8, 8, 8, 8, 8, 8, 8, 8, 8, 8, 8, 8, 8, 8, 8, 8, 8, 8, 8, 8, 8, 8, 8, 8, 8, 8, 8, 8, 8, 8, 8, 8, 8, 8, 8, 8, 8, 8, 8, 8, 8, 8, 8, 8, 8, 8, 8, 8, 8, 8, 8, 8, 8, 8, 8, 8, 8, 8, 8, 8, 8, 8, 8, 8, 8, 8, 8, 8, 8, 8, 8, 8, 8, 8, 8, 8, 8, 8, 8, 8, 8, 8, 8, 8, 8, 8, 8, 8, 8, 8, 8, 8, 8, 8, 8, 8, 8, 8, 8, 8, 8, 8]) (wu8 ((x : Int) / 2 ^ (Int.toNat 16)))).bind fun n4 => some (w64 ((w64 ((c : Int) + 16)) + (w64 n4))))) else (if (decide ((256 : Int) ≤ (x : Int))) = true then ((sidx (ByteArray.mk #[0, 1, 2, 2, 3, 3, 3, 3, 4, 4, 4, 4, 4, 4, 4, 4, 5, 5, 5, 5, 5, 5, 5, 5, 5, 5, 5, 5, 5, 5, 5, 5, 6, 6, 6, 6, 6, 6, 6, 6, 6, 6, 6, 6, 6, 6, 6, 6, 6, 6, 6, 6, 6, 6, 6, 6, 6, 6, 6, 6, 6, 6, 6, 6, 7, 7, 7, 7, 7, 7, 7, 7, 7, 7, 7, 7, 7, 7, 7, 7, 7, 7, 7, 7, 7, 7, 7, 7, 7, 7, 7, 7, 7, 7, 7, 7, 7, 7, 7, 7, 7, 7, 7, 7, 7, 7, 7, 7, 7, 7, 7, 7, 7, 7, 7, 7, 7, 7, 7, 7, 7, 7, 7, 7, 7, 7, 7, 7, 8, 8, 8, 8, 8, 8, 8, 8, 8, 8, 8, 8, 8, 8, 8, 8, 8, 8, 8, 8, 8, 8, 8, 8, 8, 8, 8, 8, 8, 8, 8, 8, 8, 8, 8, 8, 8, 8, 8, 8, 8, 8, 8, 8, 8, 8, 8, 8, 8, 8, 8, 8, 8, 8, 8, 8, 8, 8, 8, 8, 8, 8, 8, 8, 8, 8, 8, 8, 8, 8, 8, 8, 8, 8, 8, 8, 8, 8, 8, 8, 8, 8, 8, 8, 8, 8, 8, 8, 8, 8, 8, 8, 8, 8, 8, 8, 8, 8, 8, 8, 8, 8, 8, 8, 8, 8, 8, 8, 8, 8, 8, 8, 8, 8, 8, 8, 8, 8, 8, 8, 8, 8, 8, 8, 8, 8, 8, 8]) (wu8 ((x : Int) / 2 ^ (Int.toNat 8)))).bind fun n4 => some (w64 ((w64 ((c : Int) + 8)) + (w64 n4)))) else ((sidx (ByteArray.mk #[0, 1, 2, 2, 3, 3, 3, 3, 4, 4, 4, 4, 4, 4, 4, 4, 5, 5, 5, 5, 5, 5, 5, 5, 5, 5, 5, 5, 5, 5, 5, 5, 6, 6, 6, 6, 6, 6, 6, 6, 6, 6, 6, 6, 6, 6, 6, 6, 6, 6, 6, 6, 6, 6, 6, 6, 6, 6, 6, 6, 6, 6, 6, 6, 7, 7, 7, 7, 7, 7, 7, 7, 7, 7, 7, 7, 7, 7, 7, 7, 7, 7, 7, 7, 7, 7, 7, 7, 7, 7, 7, 7, 7, 7, 7, 7, 7, 7, 7, 7, 7, 7, 7, 7, 7, 7, 7, 7, 7, 7, 7, 7, 7, 7, 7, 7, 7, 7, 7, 7, 7, 7, 7, 7, 7, 7, 7, 7, 8, 8, 8, 8, 8, 8, 8, 8, 8, 8, 8, 8, 8, 8, 8, 8, 8, 8, 8, 8, 8, 8, 8, 8, 8, 8, 8, 8, 8, 8, 8, 8, 8, 8, 8, 8, 8, 8, 8, 8, 8, 8, 8, 8, 8, 8, 8, 8, 8, 8, 8, 8, 8, 8, 8, 8, 8, 8, 8, 8, 8, 8, 8, 8, 8, 8, 8, 8, 8, 8, 8, 8, 8, 8, 8, 8, 8, 8, 8, 8, 8, 8, 8, 8, 8, 8, 8, 8, 8, 8, 8, 8, 8, 8, 8, 8, 8, 8, 8, 8, 8, 8, 8, 8, 8, 8, 8, 8, 8, 8, 8, 8, 8, 8, 8, 8, 8, 8, 8, 8, 8, 8, 8, 8, 8, 8, 8, 8]) (wu8 (x : Int))).bind fun n4 => some (w64 ((c : Int) + (w64 n4)))))) = some (L : Int) ∧ L ≤ 64 ∧ n < 2 ^ L ∧ 2 ^ L ≤ 2 * n := by
    intro x c hc hx h0 h1 h2
    by_cases h : 65536 ≤ x
    · obtain ⟨g1, g2⟩ := lo x c 16 h1 h2
      obtain ⟨L, e, g3⟩ := s8 (x / 2 ^ 16) (c + 16) (by omega) (by omega) (by omega) g1 g2
      refine ⟨L, ?_, g3⟩
      rw [if_pos (by rw [decide_eq_true_eq]; omega), ← e, show w64 ((c : Int) + 16) = ((c + 16 : Nat) : Int) from w64_nat (by omega) (by omega), show ((x : Int) / 2 ^ (Int.toNat 16)) = ((x / 2 ^ 16 : Nat) : Int) from dv x 16]
    · obtain ⟨L, e, g3⟩ := s8 x c (by omega) (by omega) h0 h1 h2
      exact ⟨L, by rw [if_neg (by rw [decide_eq_true_eq]; omega), ← e], g3⟩
  by_cases h : 4294967296 ≤ n
  · obtain ⟨g1, g2⟩ := lo n 0 32 (by simp) (by simp)
    obtain ⟨L, e, g3⟩ := s16 (n / 2 ^ 32) (0 + 32) (by omega) (by omega) (by omega) g1 g2
    refine ⟨L, ?_, g3⟩
    have hd : decide ((4294967296 : Int) ≤ (n : Int)) = true := decide_eq_true (by omega)
    have e1 : ((n : Int) / 2 ^ (Int.toNat 32)) = ((n / 2 ^ 32 : Nat) : Int) := dv n 32
    simp only [math_bits_Len, math_bits_Len64, Jn, hd, if_true, e1]
    simp only [Nat.zero_add, Int.ofNat_eq_natCast] at e
    have e2 := congrArg (fun o : Option Int => o.bind fun r1 => some r1) e
    simpa using e2
  · obtain ⟨L, e, g3⟩ := s16 n 0 (by omega) (by omega) h0 (by simp) (by simp)
    refine ⟨L, ?_, g3⟩
    have hd : decide ((4294967296 : Int) ≤ (n : Int)) = false := decide_eq_false (by omega)
    simp only [math_bits_Len, math_bits_Len64, Jn, hd, if_false, Bool.false_eq_true]
    have e2 := congrArg (fun o : Option Int => o.bind fun r1 => some r1) e
    simpa using e2
theorem wu64_nat_uint64 {n : Nat} (h : n < 18446744073709551616) {x : Int} (e : x = (n : Int)) : wu64 x = (n : Int) := by
  subst e
  unfold wu64 IntKind.wrap
  simp [IntKind.bits, IntKind.signed]
  omega
theorem brk_l0_uint64 (d : Int) {a b L idx0 : Nat} (h8 : 8 ≤ b - a) (hL : 2 ^ L ≤ 2 * (b - a)) (hi0 : idx0 = a + (b - a) / 4 * 2) : ∀ (n : Nat) (l : List Int) (i : Nat) (r : Int), idx0 + 2 - i ≤ n → idx0 ≤ i + 1 → i ≤ idx0 + 2 → b ≤ l.length → l.length ≤ 1152921504606846976 →
    ∃ l', Rng a b l l' ∧ Ev (fun k => slices_breakPatternsOrdered_uint64.l0 (a : Int) ((2 ^ L : Nat) : Int) k l ((b - a : Nat) : Int) r (i : Int)) l' := by
  have hpow : 0 < 2 ^ L := Nat.pow_pos (by decide)
  intro n
  induction n with
  | zero =>
    intro l i r hn h1 h2 hb hl
    refine ⟨l, Rng.refl _ _ _, Ev.succ ?_⟩
    have d4 : Int.tdiv ((b - a : Nat) : Int) 4 = (((b - a) / 4 : Nat) : Int) := by rw [Int.tdiv_eq_ediv_of_nonneg (by omega)]; omega
    have e1 : w64 ((((b - a) / 4 : Nat) : Int)) = (((b - a) / 4 : Nat) : Int) := w64_nat (by omega) rfl
    have e2 : w64 ((((b - a) / 4 : Nat) : Int) * 2) = (((b - a) / 4 * 2 : Nat) : Int) := w64_nat (by omega) (by omega)
    have e3 : w64 ((a : Int) + (((b - a) / 4 * 2 : Nat) : Int)) = (idx0 : Int) := w64_nat (by omega) (by omega)
    have hd : decide ((i : Int) ≤ ((idx0 + 1 : Nat) : Int)) = false := decide_eq_false (by omega)
    simp only [slices_breakPatternsOrdered_uint64.l0, d4, e1, e2, e3, wS (n := idx0) (by omega), hd, if_false, Bool.false_eq_true]
    exact Ev.ret
  | succ n ih =>
    intro l i r hn h1 h2 hb hl
    have d4 : Int.tdiv ((b - a : Nat) : Int) 4 = (((b - a) / 4 : Nat) : Int) := by rw [Int.tdiv_eq_ediv_of_nonneg (by omega)]; omega
    have e1 : w64 ((((b - a) / 4 : Nat) : Int)) = (((b - a) / 4 : Nat) : Int) := w64_nat (by omega) rfl
    have e2 : w64 ((((b - a) / 4 : Nat) : Int) * 2) = (((b - a) / 4 * 2 : Nat) : Int) := w64_nat (by omega) (by omega)
    have e3 : w64 ((a : Int) + (((b - a) / 4 * 2 : Nat) : Int)) = (idx0 : Int) := w64_nat (by omega) (by omega)
    by_cases hi : i ≤ idx0 + 1
    · have hd : decide ((i : Int) ≤ ((idx0 + 1 : Nat) : Int)) = true := decide_eq_true (by omega)
      obtain ⟨r1, r2, hr⟩ : ∃ r1 r2, slices_xorshift_Next r = some (r1, r2) := ⟨_, _, rfl⟩
      have em : wu64 (((2 ^ L : Nat) : Int) - 1) = ((2 ^ L - 1 : Nat) : Int) := wu64_nat_uint64 (by omega) (by omega)
      obtain ⟨q1, q2⟩ := bits_and_le (x := r1) (y := ((2 ^ L - 1 : Nat) : Int)) (by omega) (by omega)
      obtain ⟨o, ho⟩ := Int.eq_ofNat_of_zero_le q1
      rw [ho] at q2
      have eo : w64 (o : Int) = (o : Int) := w64_nat (by omega) rfl
      -- the other place
      obtain ⟨o', ho1, ho2⟩ : ∃ o' : Nat, o' < b - a ∧ ∀ (K : Int → Option (List Int)), (if (decide (((b - a : Nat) : Int) ≤ (o : Int))) = true then K (w64 ((o : Int) - ((b - a : Nat) : Int))) else K (o : Int)) = K (o' : Int) := by
        by_cases c : b - a ≤ o
        · exact ⟨o - (b - a), by omega, fun K => by rw [if_pos (by rw [decide_eq_true_eq]; omega), wD c (by omega)]⟩
        · exact ⟨o, by omega, fun K => by rw [if_neg (by rw [decide_eq_true_eq]; omega)]⟩
      obtain ⟨l', g1, n1, g2⟩ := ih (swp d l (a + o') i) (i + 1) r2 (by omega) (by omega) (by omega) (by rw [swp_len]; omega) (by rw [swp_len]; omega)
      dsimp only at g2
      refine ⟨l', (Rng.swp (d := d) (by omega) (by omega) (by omega) (by omega) hb).trans g1, n1 + 1, fun k hk => ?_⟩
      obtain ⟨k, rfl⟩ : ∃ j, k = j + 1 := ⟨k - 1, by omega⟩
      simp only [slices_breakPatternsOrdered_uint64.l0, Jn, d4, e1, e2, e3, wS (n := idx0) (by omega), hd, if_true, hr, Option.bind_some, em]
      try rw [Int.ofNat_eq_natCast] at ho
      simp only [ho, eo]
      rw [ho2 (fun i_36 => (idx l (w64 ((a : Int) + i_36))).bind fun x97 => (idx l i).bind fun x98 => (idx l i).bind fun x99 => (upd l i x97).bind fun l101 => (idx l101 (w64 ((a : Int) + i_36))).bind fun x103 => (upd l101 (w64 ((a : Int) + i_36)) x98).bind fun l105 => slices_breakPatternsOrdered_uint64.l0 (a : Int) ((2 ^ L : Nat) : Int) k l105 ((b - a : Nat) : Int) r2 (w64 ((i : Int) + 1)))]
      simp only [wA (m := a) (n := o') (by omega), wS (n := i) (by omega)]
      rw [swp_eq d _ (by omega) (by omega) (by omega) (by omega)]
      simp only [Int.toNat_natCast]
      exact g2 k (by omega)
    · refine ⟨l, Rng.refl _ _ _, Ev.succ ?_⟩
      have hd : decide ((i : Int) ≤ ((idx0 + 1 : Nat) : Int)) = false := decide_eq_false (by omega)
      simp only [slices_breakPatternsOrdered_uint64.l0, d4, e1, e2, e3, wS (n := idx0) (by omega), hd, if_false, Bool.false_eq_true]
      exact Ev.ret
theorem brk_uint64 (d : Int) {a b : Nat} (l : List Int) (h8 : 8 ≤ b - a) (hb : b ≤ l.length) (hl : l.length ≤ 1152921504606846976) :
    ∃ l', Rng a b l l' ∧ Ev (fun k => slices_breakPatternsOrdered_uint64 k l (a : Int) (b : Int)) l' := by
  obtain ⟨L, e, g1, g2, g3⟩ := len64_uint64 (n := b - a) (by omega) (by omega)
  have hL : L ≤ 62 := by
    rcases Nat.lt_or_ge L 63 with h | h
    · omega
    · have := Nat.pow_le_pow_right (n := 2) (by decide) h
      omega
  have hpl : 2 ^ L ≤ 2305843009213693952 := by omega
  have ds : decide ((8 : Int) ≤ ((b - a : Nat) : Int)) = true := decide_eq_true (by omega)
  have e0 : wu64 ((b - a : Nat) : Int) = ((b - a : Nat) : Int) := wu64_nat_uint64 (by omega) rfl
  have esh : shlO .u64 1 (L : Int) = some ((2 ^ L : Nat) : Int) := by
    unfold shlO
    rw [if_pos ⟨by omega, by simp [IntKind.bits]; omega⟩]
    congr 1
    show wu64 _ = _
    exact wu64_nat_uint64 (by omega) (by simp)
  obtain ⟨idx0, hi0⟩ : ∃ i, i = a + (b - a) / 4 * 2 := ⟨_, rfl⟩
  obtain ⟨l', k1, k2⟩ := brk_l0_uint64 (d := d) (a := a) (b := b) (L := L) h8 g3 hi0 _ l (idx0 - 1) ((b - a : Nat) : Int) (Nat.le_refl _) (by omega) (by omega) hb hl
  refine ⟨l', k1, ?_⟩
  have d4 : Int.tdiv ((b - a : Nat) : Int) 4 = (((b - a) / 4 : Nat) : Int) := by rw [Int.tdiv_eq_ediv_of_nonneg (by omega)]; omega
  have e1 : w64 ((((b - a) / 4 : Nat) : Int)) = (((b - a) / 4 : Nat) : Int) := w64_nat (by omega) rfl
  have e2 : w64 ((((b - a) / 4 : Nat) : Int) * 2) = (((b - a) / 4 * 2 : Nat) : Int) := w64_nat (by omega) (by omega)
  have e3 : w64 ((a : Int) + (((b - a) / 4 * 2 : Nat) : Int)) = (idx0 : Int) := w64_nat (by omega) (by omega)
  simp only [slices_breakPatternsOrdered_uint64, slices_nextPowerOfTwo, wD (show a ≤ b by omega) (by omega), ds, if_true, e0, e, Option.bind_some, esh, d4, e1, e2, e3, wP (n := idx0) (by omega) (by omega)]
  exact k2
end
end Go.Proofs.YtbaemhkfmddakaaGreat.Mo
